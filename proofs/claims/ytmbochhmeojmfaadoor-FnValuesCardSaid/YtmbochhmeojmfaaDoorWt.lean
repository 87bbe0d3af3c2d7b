/- The walks of Weight. -/
import Derived.Test.YtmbochhmeojmfaaDoorKeys
import Derived.Test.YtmbochhmeojmfaaDoorTreeMath
import Derived.Test.YtmbochhmeojmfaaDoorStill
namespace Go.Proofs.YtmbochhmeojmfaaDoor
set_option maxRecDepth 20000
open Go.RowKit
set_option linter.unusedVariables false

def valWt (k : Int) (f : Forest) : Nat := 1 + if k = 4 then f.wt else 0
theorem valWt_no {k : Int} (h : k ≠ 4) (f : Forest) : valWt k f = 1 := by unfold valWt; rw [if_neg h]
theorem Forest.wt_cons (t : Bool) (n : Int) (s : ByteArray) (k m : Int) (u : ByteArray) (x : Int) (b r : Forest) : (Forest.cons t n s k m u x b r).wt = valWt k b + r.wt := rfl
/-- What a function that weighs does over a forest. -/
def WtOk (F : Nat) (f : Forest) : Prop := ∀ (w : World) (k m : Int) (u : ByteArray) (x : Int) (A : Option Addr) (c : Nat) (L : List Nat), RowF w f A 0 f.len L → f.size ≤ 1048576 →
  Calls Tryd.prog F #[.agg #[.int .i64 k, .int .i64 m, .string u, .int .i64 x, .slice A f.len c]] w fun e w' => e = .returned (.int .i64 (valWt k f)) ∧ w.grownBy w' none
set_option maxHeartbeats 1000000 in
set_option maxHeartbeats 1000000 in
theorem implWeight_step (f : Forest) (ih : ∀ g : Forest, g.size < f.size → WtOk 10 g) : WtOk 10 f := by
  intro w k m u x A c L hr hfs
  have IH := hid ih
  obtain ⟨N, hN⟩ : ∃ N, f.len = N := ⟨_, rfl⟩
  have hNs : N ≤ 1048576 := by have := f.len_le; omega
  rw [hN] at hr ⊢
  have HR := hid (hr.grow (gb_alloc (gb_refl w none) (.cells #[.int .i64 k, .int .i64 m, .string u, .int .i64 x, .slice A N c] 26)))
  have HN := hid hN
  clear ih hr hN
  by_cases hk : k = 4
  · subst hk
    obtain ⟨W, hW⟩ : ∃ W, valWt 4 f = W := ⟨_, rfl⟩
    have hWb : W ≤ 1048577 := by have := f.wt_le; have e : valWt 4 f = 1 + f.wt := rfl; omega
    rw [hW]
    have HW : Hid (1 + f.wt = W) := by show _ = _; rw [← hW]; rfl
    clear hW
    go_enter Tryd.func10, Tryd.ntmps10
    go_wp2_with fail
    go_loopw [3, 12] (fun nv iv wr => ∃ (i acc : Nat) (r : Forest) (M : List Nat), Hid (acc + r.wt = W) ∧ acc ≤ W ∧ i + r.len = N ∧ nv = .int .i64 acc ∧ iv = .int .i64 i ∧ Hid (RowF wr r A i N M) ∧ r.size ≤ f.size ∧
      Hid (w.grownBy wr none)) (fun _ i _ => N - (intOf i).toNat)
    case atStart => exact ⟨0, 1, f, L, HW, by have := HW.out; omega, by have := HN.out; omega, rfl, rfl, HR, Nat.le_refl _, hid (gb_alloc (gb_refl _ _) _)⟩
    case round =>
      obtain ⟨i, acc, r, M, HE, hacc, hir, rfl, rfl, HRr, hsz, HG⟩ := hrel
      cases r with
      | nil =>
        have hi : i = N := by simpa [Forest.len] using hir
        subst hi
        go_wp2_with fail
        go_ret
        exact ⟨ret_int (by have := HE.out; simp only [Forest.wt] at this; omega), HG.out⟩
      | cons t n s kd nm v y sub r =>
        have hiN : i < N := by simp only [Forest.len] at hir; omega
        have hiN' : i + 1 + r.len = N := by simp only [Forest.len] at hir; omega
        obtain ⟨b, o, SA, sc, Ls, Lr, rfl, hb, R1, _, hs1, hs2, _⟩ := HRr.out.range
        have HS1 := hid hs1
        have HS2 := hid hs2
        have hsz1 : sub.size < f.size := by simp only [Forest.size] at hsz; omega
        have hsz2 : r.size ≤ f.size := by simp only [Forest.size] at hsz; omega
        have hsub : sub.size ≤ 1048576 := by omega
        obtain ⟨q, hq⟩ : ∃ q, valWt kd sub = q := ⟨_, rfl⟩
        have hqW : acc + q ≤ W := by have := HE.out; rw [Forest.wt_cons, hq] at this; omega
        have HE2 : Hid (acc + q + r.wt = W) := by have := HE.out; rw [Forest.wt_cons, hq] at this; show _ = _; omega
        obtain ⟨c0, c1, c2, c3, c4, c5, c6, c7⟩ := range8 R1
        clear hs1 hs2 hir hsz R1
        go_wp2_with fail
        refine (IH.out sub hsz1 _ kd nm v y SA sc Ls (HS1.out.grow (gb_alloc (gb_refl _ _) _)) hsub).mono ?_
        rintro e w2 ⟨rfl, hg⟩
        rw [hq]
        clear hq c0 c1 c2 c3 c4 c5 c6 c7 hb
        have HG2 := hid (gb_trans (gb_alloc HG.out _) hg)
        have HS3 := hid ((HS2.out.grow (gb_alloc (gb_refl _ _) _)).grow hg)
        clear hg
        go_wp2_with fail
        go_roundw
        case rel => exact ⟨i + 1, acc + q, r, _, HE2, hqW, hiN', by go_num, by go_num, HS3, hsz2, HG2⟩
        case measure => simp [intOf]; omega
  · have hkb : ((k : Int) == 4) = false := by simpa using hk
    rw [valWt_no hk]
    clear hk
    go_enter Tryd.func10, Tryd.ntmps10
    go_wp2_with fail
    go_ret
    exact ⟨rfl, gb_alloc (gb_refl _ _) _⟩
theorem implWeight_any (f : Forest) : WtOk 10 f := by
  obtain ⟨n, hn⟩ : ∃ n, f.size = n := ⟨_, rfl⟩
  induction n using Nat.strongRecOn generalizing f with
  | ind n ih => exact implWeight_step f fun g hg => ih g.size (by omega) g rfl
end Go.Proofs.YtmbochhmeojmfaaDoor
