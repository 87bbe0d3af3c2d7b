/- The walks of IsPlain. -/
import Derived.Test.YtmbochhmeojmfaaDoorKeys
import Derived.Test.YtmbochhmeojmfaaDoorL1In
import Derived.Test.YtmbochhmeojmfaaDoorTreeMath
import Derived.Test.YtmbochhmeojmfaaDoorStill
namespace Go.Proofs.YtmbochhmeojmfaaDoor
set_option maxRecDepth 20000
open Go.RowKit
set_option linter.unusedVariables false

def valPlain (k : Int) (f : Forest) : Bool := if k = 4 then f.plain else decide (0 ≤ k ∧ k ≤ 3)
theorem valPlain_no {k : Int} (h : k ≠ 4) (f : Forest) : valPlain k f = decide (0 ≤ k ∧ k ≤ 3) := by unfold valPlain; rw [if_neg h]
theorem Forest.plain_cons (t : Bool) (n : Int) (s : ByteArray) (k m : Int) (u : ByteArray) (x : Int) (b r : Forest) : (Forest.cons t n s k m u x b r).plain = (valPlain k b && r.plain) := rfl
/-- What a function that weighs does over a forest. -/
def PlainOk (F : Nat) (f : Forest) : Prop := ∀ (w : World) (k m : Int) (u : ByteArray) (x : Int) (A : Option Addr) (c : Nat) (L : List Nat), RowF w f A 0 f.len L → f.size ≤ 1048576 →
  Calls Tryd.prog F #[.agg #[.int .i64 k, .int .i64 m, .string u, .int .i64 x, .slice A f.len c]] w fun e w' => e = .returned (.bool (valPlain k f)) ∧ w.grownBy w' none
theorem inRange_03t (x : Int) (w : World) (h : 0 ≤ x ∧ x ≤ 3) : Calls Tryd.prog 37 #[.int .i64 x, .int .i64 0, .int .i64 3] w fun e w' => e = .returned (.bool true) ∧ w = w' := by
  obtain ⟨h1, h2⟩ := h
  have hd1 : decide (0 ≤ x) = true := by simpa using h1
  have hd2 : decide (x ≤ 3) = true := by simpa using h2
  go_enter Tryd.func37, Tryd.ntmps37
  go_wp2
  go_ret
  exact ⟨rfl, rfl⟩
theorem inRange_03f (x : Int) (w : World) (h : x < 0 ∨ 3 < x) : Calls Tryd.prog 37 #[.int .i64 x, .int .i64 0, .int .i64 3] w fun e w' => e = .returned (.bool false) ∧ w = w' := by
  by_cases h1 : 0 ≤ x
  · have hd1 : decide (0 ≤ x) = true := by simpa using h1
    have hd2 : decide (x ≤ 3) = false := by simp; omega
    go_enter Tryd.func37, Tryd.ntmps37
    go_wp2
    go_ret
    exact ⟨rfl, rfl⟩
  · have hd1 : decide (0 ≤ x) = false := by simp; omega
    go_enter Tryd.func37, Tryd.ntmps37
    go_wp2
    go_ret
    exact ⟨rfl, rfl⟩
set_option maxHeartbeats 1000000 in
theorem implIsPlain_step (f : Forest) (ih : ∀ g : Forest, g.size < f.size → PlainOk 15 g) : PlainOk 15 f := by
  intro w k m u x A c L hr hfs
  have IH := hid ih
  obtain ⟨N, hN⟩ : ∃ N, f.len = N := ⟨_, rfl⟩
  have hNs : N ≤ 1048576 := by have := f.len_le; omega
  rw [hN] at hr ⊢
  have HR := hid (hr.grow (gb_alloc (gb_refl w none) (.cells #[.int .i64 k, .int .i64 m, .string u, .int .i64 x, .slice A N c] 26)))
  have HN := hid hN
  clear ih hr hN
  by_cases hk : k = 4
  · subst hk
    obtain ⟨W, hW⟩ : ∃ W, valPlain 4 f = W := ⟨_, rfl⟩
    rw [hW]
    have HW : Hid (f.plain = W) := by show _ = _; rw [← hW]; rfl
    clear hW
    go_enter Tryd.func15, Tryd.ntmps15
    go_wp2_with fail
    go_loopw [11] (fun iv wr => ∃ (i : Nat) (r : Forest) (M : List Nat), Hid (r.plain = W) ∧ i + r.len = N ∧ iv = .int .i64 i ∧ Hid (RowF wr r A i N M) ∧ r.size ≤ f.size ∧
      Hid (w.grownBy wr none)) (fun i _ => N - (intOf i).toNat)
    case atStart => exact ⟨0, f, L, HW, by have := HN.out; omega, rfl, HR, Nat.le_refl _, hid (gb_alloc (gb_refl _ _) _)⟩
    case round =>
      obtain ⟨i, r, M, HE, hir, rfl, HRr, hsz, HG⟩ := hrel
      cases r with
      | nil =>
        have hi : i = N := by simpa [Forest.len] using hir
        subst hi
        go_wp2_with fail
        go_ret
        exact ⟨ret_bool (by rw [← HE.out]; rfl), HG.out⟩
      | cons t n s kd nm v y sub r =>
        have hiN : i < N := by simp only [Forest.len] at hir; omega
        have hiN' : i + 1 + r.len = N := by simp only [Forest.len] at hir; omega
        obtain ⟨b, o, SA, sc, Ls, Lr, rfl, hb, R1, _, hs1, hs2, _⟩ := HRr.out.range
        have HS1 := hid hs1
        have HS2 := hid hs2
        have hsz1 : sub.size < f.size := by simp only [Forest.size] at hsz; omega
        have hsz2 : r.size ≤ f.size := by simp only [Forest.size] at hsz; omega
        have hsub : sub.size ≤ 1048576 := by omega
        obtain ⟨q, hq⟩ : ∃ q, valPlain kd sub = q := ⟨_, rfl⟩
        have HE2 : Hid ((q && r.plain) = W) := by have := HE.out; rw [Forest.plain_cons, hq] at this; exact this
        obtain ⟨c0, c1, c2, c3, c4, c5, c6, c7⟩ := range8 R1
        clear hs1 hs2 hir hsz R1
        go_wp2_with fail
        refine (IH.out sub hsz1 _ kd nm v y SA sc Ls (HS1.out.grow (gb_alloc (gb_refl _ _) _)) hsub).mono ?_
        rintro e w2 ⟨rfl, hg⟩
        rw [hq]
        clear hq c0 c1 c2 c3 c4 c5 c6 c7 hb
        have HG2 := hid (gb_trans (gb_alloc HG.out _) hg)
        have HS3 := hid ((HS2.out.grow (gb_alloc (gb_refl _ _) _)).grow hg)
        clear hg
        cases q with
        | false =>
          go_wp2_with fail
          go_ret
          exact ⟨ret_bool (by rw [← HE2.out]; rfl), HG2.out⟩
        | true =>
         go_wp2_with fail
         go_roundw
         case rel => exact ⟨i + 1, r, _, HE2, hiN', by go_num, HS3, hsz2, HG2⟩
         case measure => simp [intOf]; omega
  · have hkb : ((k : Int) == 4) = false := by simpa using hk
    rw [valPlain_no hk]
    clear hk
    by_cases hr : 0 ≤ k ∧ k ≤ 3
    · rw [decide_eq_true hr]
      go_enter Tryd.func15, Tryd.ntmps15
      go_wp2_with fail
      refine (inRange_03t _ _ hr).mono ?_
      rintro e w3 ⟨rfl, rfl⟩
      go_wp2_with fail
      go_ret
      exact ⟨rfl, gb_alloc (gb_refl _ _) _⟩
    · rw [decide_eq_false hr]
      go_enter Tryd.func15, Tryd.ntmps15
      go_wp2_with fail
      refine (inRange_03f _ _ (by omega)).mono ?_
      rintro e w3 ⟨rfl, rfl⟩
      go_wp2_with fail
      go_ret
      exact ⟨rfl, gb_alloc (gb_refl _ _) _⟩
theorem implIsPlain_any (f : Forest) : PlainOk 15 f := by
  obtain ⟨n, hn⟩ : ∃ n, f.size = n := ⟨_, rfl⟩
  induction n using Nat.strongRecOn generalizing f with
  | ind n ih => exact implIsPlain_step f fun g hg => ih g.size (by omega) g rfl
end Go.Proofs.YtmbochhmeojmfaaDoor
