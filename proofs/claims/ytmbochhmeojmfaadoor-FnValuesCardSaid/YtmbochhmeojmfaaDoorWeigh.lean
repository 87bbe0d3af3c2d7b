/- The walk of l5Weigh: the weight, or more than a bound. -/
import Derived.Test.YtmbochhmeojmfaaDoorWt
namespace Go.Proofs.YtmbochhmeojmfaaDoor
set_option maxRecDepth 20000
open Go.RowKit
set_option linter.unusedVariables false

def WeighOk (f : Forest) : Prop := ∀ (w : World) (k m : Int) (u : ByteArray) (x : Int) (A : Option Addr) (c : Nat) (L : List Nat) (q : Nat), RowF w f A 0 f.len L → f.size ≤ 1048576 → q ≤ 1048576 →
  Calls Tryd.prog 39 #[.agg #[.int .i64 k, .int .i64 m, .string u, .int .i64 x, .slice A f.len c], .int .i64 q] w fun e w' => ∃ r : Nat, e = .returned (.int .i64 r) ∧ (valWt k f ≤ q → r = valWt k f) ∧ (q < valWt k f → q < r) ∧ r ≤ valWt k f ∧ w.grownBy w' none
set_option maxHeartbeats 2000000 in
theorem weigh_step (f : Forest) (ih : ∀ g : Forest, g.size < f.size → WeighOk g) : WeighOk f := by
  intro w k m u x A c L q hr hfs hqs
  have IH := hid ih
  obtain ⟨N, hN⟩ : ∃ N, f.len = N := ⟨_, rfl⟩
  have hNs : N ≤ 1048576 := by have := f.len_le; omega
  rw [hN] at hr ⊢
  have H0 := hid (HoldsT.new w #[.int .i64 k, .int .i64 m, .string u, .int .i64 x, .slice A N c] 26)
  have HR := hid (hr.grow (gb_alloc (gb_refl w none) (.cells #[.int .i64 k, .int .i64 m, .string u, .int .i64 x, .slice A N c] 26)))
  have HN := hid hN
  clear ih hr hN
  by_cases hk : k = 4
  · subst hk
    obtain ⟨W, hW⟩ : ∃ W, valWt 4 f = W := ⟨_, rfl⟩
    have hWb : W ≤ 1048577 := by have := f.wt_le; have e : valWt 4 f = 1 + f.wt := rfl; omega
    rw [hW]
    have HW : Hid (1 + f.wt = W) := by show _ = _; rw [← hW]; rfl
    clear hW
    go_enter Tryd.func39, Tryd.ntmps39
    go_wp2_with fail
    go_loopw [5, 6] (fun nv iv wr => ∃ (i acc : Nat) (r : Forest) (M : List Nat), Hid ((acc ≤ q ∨ acc = 1) ∧ acc + r.wt = W ∨ (q < acc ∧ q < W)) ∧ acc ≤ W ∧ i + r.len = N ∧ nv = .int .i64 acc ∧ iv = .int .i64 i ∧ Hid (RowF wr r A i N M) ∧ r.size ≤ f.size ∧
      Hid (HoldsT wr w.heap.size #[.int .i64 4, .int .i64 m, .string u, .int .i64 x, .slice A N c] 26) ∧ Hid (w.grownBy wr none)) (fun _ i _ => N - (intOf i).toNat)
    case atStart => exact ⟨0, 1, f, L, hid (.inl ⟨.inr rfl, HW.out⟩), by have := HW.out; omega, by have := HN.out; omega, rfl, rfl, HR, Nat.le_refl _, H0, hid (gb_alloc (gb_refl _ _) _)⟩
    case round =>
      obtain ⟨i, acc, r, M, HE, hacc, hir, rfl, rfl, HRr, hsz, HB, HG⟩ := hrel
      obtain ⟨a0, a1, a2, a3, a4⟩ := HB.out.cells5
      have lt := HB.out.lt
      rcases Nat.lt_or_ge q acc with hq | hq
      · cases r with
        | nil =>
          have hi : i = N := by simpa [Forest.len] using hir
          subst hi
          go_wp2_with fail
          go_ret
          exact ⟨acc, rfl, fun h => by have := HE.out; simp only [Forest.wt] at this; omega, fun h => hq, hacc, HG.out⟩
        | cons t n s kd nm v y sub r =>
          have hiN : i < N := by simp only [Forest.len] at hir; omega
          go_wp2_with fail
          go_ret
          exact ⟨acc, rfl, fun h => by have := HE.out; rw [Forest.wt_cons] at this; have : 1 ≤ valWt kd sub := Nat.le_add_right _ _; omega, fun h => hq, hacc, HG.out⟩
      · cases r with
        | nil =>
          have hi : i = N := by simpa [Forest.len] using hir
          subst hi
          go_wp2_with fail
          go_ret
          exact ⟨acc, rfl, fun h => by have := HE.out; simp only [Forest.wt] at this; omega, fun h => by have := HE.out; simp only [Forest.wt] at this; omega, hacc, HG.out⟩
        | cons t n s kd nm v y sub r =>
          have hiN : i < N := by simp only [Forest.len] at hir; omega
          have hiN' : i + 1 + r.len = N := by simp only [Forest.len] at hir; omega
          obtain ⟨b, o, SA, sc, Ls, Lr, rfl, hb, R1, _, hs1, hs2, _⟩ := HRr.out.range
          have HS1 := hid hs1
          have HS2 := hid hs2
          have hsz1 : sub.size < f.size := by simp only [Forest.size] at hsz; omega
          have hsz2 : r.size ≤ f.size := by simp only [Forest.size] at hsz; omega
          have hsub : sub.size ≤ 1048576 := by omega
          obtain ⟨z, hz⟩ : ∃ z, valWt kd sub = z := ⟨_, rfl⟩
          have hzW : acc + z + r.wt = W := by have := HE.out; rw [Forest.wt_cons, hz] at this; omega
          obtain ⟨d, hd0⟩ : ∃ d : Nat, d = q - acc := ⟨_, rfl⟩
          have hdI : (q : Int) - (acc : Int) = (d : Int) := by omega
          have HZ := hid (And.intro hzW hd0)
          have c3 := R1 3 _ rfl; have c4 := R1 4 _ rfl; have c5 := R1 5 _ rfl; have c6 := R1 6 _ rfl; have c7 := R1 7 _ rfl
          clear hs1 hs2 hir hsz R1 hzW hd0
          go_wp2_with fail
          refine (IH.out sub hsz1 wr kd nm v y SA sc Ls d HS1.out hsub (by have := HZ.out; omega)).mono ?_
          rintro e w2 ⟨r1, rfl, e1, e2, e3, hg⟩
          rw [hz] at e1 e2 e3
          have hr1 : acc + r1 ≤ W := by have := HZ.out; omega
          have HE2 : Hid ((acc + r1 ≤ q ∨ acc + r1 = 1) ∧ acc + r1 + r.wt = W ∨ (q < acc + r1 ∧ q < W)) := hid (by
            have := HZ.out
            rcases Nat.lt_or_ge d z with h | h
            · have := e2 h; omega
            · have := e1 h; omega)
          clear hz a0 a1 a2 a3 a4 c3 c4 c5 c6 c7 hb hdI e1 e2 e3
          have HG2 := hid (gb_trans HG.out hg)
          have HB2 := hid (HB.out.grow hg)
          have HS3 := hid (HS2.out.grow hg)
          clear hg
          go_wp2_with fail
          go_roundw
          case rel => exact ⟨i + 1, acc + r1, r, _, HE2, hr1, hiN', by go_num, by go_num, HS3, hsz2, HB2, HG2⟩
          case measure => simp [intOf]; omega
  · have hkb : ((k : Int) == 4) = false := by simpa using hk
    rw [valWt_no hk]
    clear hk
    go_enter Tryd.func39, Tryd.ntmps39
    go_wp2_with fail
    go_loopw [5, 6] (fun nv iv wr => nv = .int .i64 1 ∧ iv = .int .i64 0 ∧ Hid (HoldsT wr w.heap.size #[.int .i64 k, .int .i64 m, .string u, .int .i64 x, .slice A N c] 26) ∧ Hid (w.grownBy wr none)) (fun _ _ _ => 0)
    case atStart => exact ⟨rfl, rfl, H0, hid (gb_alloc (gb_refl _ _) _)⟩
    case round =>
      obtain ⟨rfl, rfl, HB, HG⟩ := hrel
      obtain ⟨a0, a1, a2, a3, a4⟩ := HB.out.cells5
      have lt := HB.out.lt
      go_wp2_with fail
      go_ret
      exact ⟨1, rfl, fun _ => rfl, fun h => h, Nat.le_refl _, HG.out⟩
theorem weigh_any (f : Forest) : WeighOk f := by
  obtain ⟨n, hn⟩ : ∃ n, f.size = n := ⟨_, rfl⟩
  induction n using Nat.strongRecOn generalizing f with
  | ind n ih => exact weigh_step f fun g hg => ih g.size (by omega) g rfl
end Go.Proofs.YtmbochhmeojmfaaDoor
