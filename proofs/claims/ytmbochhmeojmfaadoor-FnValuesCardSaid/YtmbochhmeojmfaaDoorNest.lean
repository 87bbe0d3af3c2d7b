/- The walks of Nest, Max. -/
import Derived.Test.YtmbochhmeojmfaaDoorKeys
import Derived.Test.YtmbochhmeojmfaaDoorTreeMath
import Derived.Test.YtmbochhmeojmfaaDoorStill
namespace Go.Proofs.YtmbochhmeojmfaaDoor
set_option maxRecDepth 20000
open Go.RowKit
set_option linter.unusedVariables false

def valNest (k : Int) (f : Forest) : Nat := if k = 4 then f.nest + 1 else 0
theorem valNest_no {k : Int} (h : k ≠ 4) (f : Forest) : valNest k f = 0 := by unfold valNest; rw [if_neg h]
theorem Forest.nest_cons (t : Bool) (n : Int) (s : ByteArray) (k m : Int) (u : ByteArray) (x : Int) (b r : Forest) : (Forest.cons t n s k m u x b r).nest = max (valNest k b) r.nest := rfl
/-- What a function that weighs does over a forest. -/
def NestOk (F : Nat) (f : Forest) : Prop := ∀ (w : World) (k m : Int) (u : ByteArray) (x : Int) (A : Option Addr) (c : Nat) (L : List Nat), RowF w f A 0 f.len L → f.size ≤ 1048576 →
  Calls Tryd.prog F #[.agg #[.int .i64 k, .int .i64 m, .string u, .int .i64 x, .slice A f.len c]] w fun e w' => e = .returned (.int .i64 (valNest k f)) ∧ w.grownBy w' none
theorem specMax_any (a b : Nat) (w : World) : Calls Tryd.prog 66 #[.int .i64 a, .int .i64 b] w fun e w' => e = .returned (.int .i64 ((max a b : Nat) : Int)) ∧ w = w' := by
  by_cases h : a < b
  · rw [show max a b = b by omega]
    go_enter Tryd.func66, Tryd.ntmps66
    go_wp2
    go_ret
    exact ⟨rfl, rfl⟩
  · rw [show max a b = a by omega]
    go_enter Tryd.func66, Tryd.ntmps66
    go_wp2
    go_ret
    exact ⟨rfl, rfl⟩
theorem implMax_any (a b : Nat) (w : World) : Calls Tryd.prog 36 #[.int .i64 a, .int .i64 b] w fun e w' => e = .returned (.int .i64 ((max a b : Nat) : Int)) ∧ w = w' := by
  by_cases h : a < b
  · rw [show max a b = b by omega]
    go_enter Tryd.func36, Tryd.ntmps36
    go_wp2
    go_ret
    exact ⟨rfl, rfl⟩
  · rw [show max a b = a by omega]
    go_enter Tryd.func36, Tryd.ntmps36
    go_wp2
    go_ret
    exact ⟨rfl, rfl⟩
set_option maxHeartbeats 1000000 in
theorem implNest_step (f : Forest) (ih : ∀ g : Forest, g.size < f.size → NestOk 11 g) : NestOk 11 f := by
  intro w k m u x A c L hr hfs
  have IH := hid ih
  obtain ⟨N, hN⟩ : ∃ N, f.len = N := ⟨_, rfl⟩
  have hNs : N ≤ 1048576 := by have := f.len_le; omega
  rw [hN] at hr ⊢
  have HR := hid (hr.grow (gb_alloc (gb_refl w none) (.cells #[.int .i64 k, .int .i64 m, .string u, .int .i64 x, .slice A N c] 26)))
  have HN := hid hN
  clear ih hr hN
  by_cases hk : k = 4
  · subst hk
    obtain ⟨W, hW⟩ : ∃ W, f.nest = W := ⟨_, rfl⟩
    have hWb : W ≤ 1048576 := by have := f.wt_le; have := f.nest_le; omega
    have e4 : valNest 4 f = W + 1 := by rw [← hW]; rfl
    rw [e4]
    have HW : Hid (max 0 f.nest = W) := by show _ = _; omega
    clear e4
    clear hW
    go_enter Tryd.func11, Tryd.ntmps11
    go_wp2_with fail
    go_loopw [3, 12] (fun nv iv wr => ∃ (i acc : Nat) (r : Forest) (M : List Nat), Hid (max acc r.nest = W) ∧ acc ≤ W ∧ i + r.len = N ∧ nv = .int .i64 acc ∧ iv = .int .i64 i ∧ Hid (RowF wr r A i N M) ∧ r.size ≤ f.size ∧
      Hid (w.grownBy wr none)) (fun _ i _ => N - (intOf i).toNat)
    case atStart => exact ⟨0, 0, f, L, HW, by have := HW.out; omega, by have := HN.out; omega, rfl, rfl, HR, Nat.le_refl _, hid (gb_alloc (gb_refl _ _) _)⟩
    case round =>
      obtain ⟨i, acc, r, M, HE, hacc, hir, rfl, rfl, HRr, hsz, HG⟩ := hrel
      cases r with
      | nil =>
        have hi : i = N := by simpa [Forest.len] using hir
        subst hi
        go_wp2_with fail
        go_ret
        exact ⟨ret_int (by have := HE.out; simp only [Forest.nest] at this; omega), HG.out⟩
      | cons t n s kd nm v y sub r =>
        have hiN : i < N := by simp only [Forest.len] at hir; omega
        have hiN' : i + 1 + r.len = N := by simp only [Forest.len] at hir; omega
        obtain ⟨b, o, SA, sc, Ls, Lr, rfl, hb, R1, _, hs1, hs2, _⟩ := HRr.out.range
        have HS1 := hid hs1
        have HS2 := hid hs2
        have hsz1 : sub.size < f.size := by simp only [Forest.size] at hsz; omega
        have hsz2 : r.size ≤ f.size := by simp only [Forest.size] at hsz; omega
        have hsub : sub.size ≤ 1048576 := by omega
        obtain ⟨q, hq⟩ : ∃ q, valNest kd sub = q := ⟨_, rfl⟩
        have hqW : max acc q ≤ W := by have := HE.out; rw [Forest.nest_cons, hq] at this; omega
        have HE2 : Hid (max (max acc q) r.nest = W) := by have := HE.out; rw [Forest.nest_cons, hq] at this; show _ = _; omega
        obtain ⟨c0, c1, c2, c3, c4, c5, c6, c7⟩ := range8 R1
        clear hs1 hs2 hir hsz R1
        go_wp2_with fail
        refine (IH.out sub hsz1 _ kd nm v y SA sc Ls (HS1.out.grow (gb_alloc (gb_refl _ _) _)) hsub).mono ?_
        rintro e w2 ⟨rfl, hg⟩
        rw [hq]
        clear hq c0 c1 c2 c3 c4 c5 c6 c7 hb
        have HG2 := hid (gb_trans (gb_alloc HG.out _) hg)
        have HS3 := hid ((HS2.out.grow (gb_alloc (gb_refl _ _) _)).grow hg)
        clear hg
        go_wp2_with fail
        refine (implMax_any acc q _).mono ?_
        rintro e w3 ⟨rfl, rfl⟩
        obtain ⟨v2, hv2⟩ : ∃ v2, max acc q = v2 := ⟨_, rfl⟩
        rw [hv2] at hqW HE2 ⊢
        clear hv2
        go_wp2_with fail
        go_roundw
        case rel => exact ⟨i + 1, v2, r, _, HE2, hqW, hiN', by go_num, by go_num, HS3, hsz2, HG2⟩
        case measure => simp [intOf]; omega
  · have hkb : ((k : Int) != 4) = true := by simpa using hk
    rw [valNest_no hk]
    clear hk
    go_enter Tryd.func11, Tryd.ntmps11
    go_wp2_with fail
    go_ret
    exact ⟨rfl, gb_alloc (gb_refl _ _) _⟩
theorem implNest_any (f : Forest) : NestOk 11 f := by
  obtain ⟨n, hn⟩ : ∃ n, f.size = n := ⟨_, rfl⟩
  induction n using Nat.strongRecOn generalizing f with
  | ind n ih => exact implNest_step f fun g hg => ih g.size (by omega) g rfl
end Go.Proofs.YtmbochhmeojmfaaDoor
