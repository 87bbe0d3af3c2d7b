/- The walks of heldEntryS, heldValue at a tree that bears its marks. -/
import Derived.Test.YtlfigoboeogegaaMarkS
import Derived.Test.YtlfigoboeogegaaHeld
import Derived.Deep.RegionHeld3
namespace Go.Proofs.Ytlfigoboeogegaa
open Go.RowKit
set_option linter.unusedVariables false

def HeldPost (w : World) (z : Nat) (e : Ending) (w' : World) : Prop := e = .returned (.int .i64 (z : Int)) ∧ w.grownBy w' none
/-- What heldEntryS says of a tree that bears its marks. -/
def HeldOk (f : Forest) : Prop := ∀ (w : World) (A : Option Addr) (c : Nat) (L : List Nat) (q : Nat), RowF w (f.mark q) A 0 f.len L → 1 ≤ q → q + 7 * f.size ≤ 67108864 →
  Calls Try.prog 38 #[.slice A f.len c, .int .i64 q] w (HeldPost w (q + 7 * f.size))
set_option maxRecDepth 100000 in
set_option maxHeartbeats 4000000 in
theorem heldEntryS_step (f : Forest) (ih : ∀ g : Forest, g.size < f.size → HeldOk g) : HeldOk f := by
  intro w A c L q hT h1 hb
  obtain ⟨N, hN⟩ : ∃ N, f.len = N := ⟨_, rfl⟩
  have hNs : N ≤ 67108864 := by have := f.len_le; omega
  obtain ⟨QE, hQE⟩ : ∃ QE, q + 7 * f.size = QE := ⟨_, rfl⟩
  have IH := hid ih
  rw [hN] at hT ⊢
  rw [hQE] at hb ⊢
  have HR := hid hT
  have HN := hid hN
  have HQ := hid hQE
  clear ih hT hN
  go_enter Try.func38, Try.ntmps38
  go_wp2_with fail
  go_loopw [1, 5] (fun qv iv wr => ∃ (i p : Nat) (r : Forest) (K : List Nat), p + 7 * r.size = QE ∧ 1 ≤ p ∧ i + r.len = N ∧ qv = .int .i64 p ∧ iv = .int .i64 i ∧ Hid (RowF wr (r.mark p) A i N K) ∧ r.size ≤ f.size ∧ Hid (w.grownBy wr none)) (fun _ i _ => N - (intOf i).toNat)
  case atStart => exact ⟨0, q, f, L, HQ.out, h1, by have := HN.out; omega, rfl, rfl, HR, Nat.le_refl _, hid (gb_refl _ _)⟩
  case round =>
    obtain ⟨i, p, r, K, hpq, hp1, hir, rfl, rfl, HRr, hsz, HG⟩ := hrel
    cases r with
    | nil =>
      have hi : i = N := by simpa [Forest.len] using hir
      subst hi
      have hp : p = QE := by simpa [Forest.size] using hpq
      subst hp
      go_wp2_with fail
      go_ret
      exact ⟨rfl, HG.out⟩
    | cons t n s kd nm v y sub r =>
      have hiN : i < N := by simp only [Forest.len] at hir; omega
      have hiN' : i + 1 + r.len = N := by simp only [Forest.len] at hir; omega
      have hsz1 : sub.size < f.size := by simp only [Forest.size] at hsz; omega
      have hsz2 : r.size ≤ f.size := by simp only [Forest.size] at hsz; omega
      have hpq' : p + 7 + 7 * sub.size + 7 * r.size = QE := by simp only [Forest.size] at hpq; omega
      obtain ⟨q1, e1, g1⟩ : ∃ z : Nat, (p : Int) + 1 = (z : Int) ∧ z = p + 1 := ⟨p + 1, rfl, rfl⟩
      obtain ⟨q2, e2, g2⟩ : ∃ z : Nat, (q1 : Int) + 1 = (z : Int) ∧ z = q1 + 1 := ⟨q1 + 1, rfl, rfl⟩
      obtain ⟨q3, e3, g3⟩ : ∃ z : Nat, (q2 : Int) + 1 = (z : Int) ∧ z = q2 + 1 := ⟨q2 + 1, rfl, rfl⟩
      obtain ⟨q4, e4, g4⟩ : ∃ z : Nat, (q3 : Int) + 1 = (z : Int) ∧ z = q3 + 1 := ⟨q3 + 1, rfl, rfl⟩
      obtain ⟨q5, e5, g5⟩ : ∃ z : Nat, (q4 : Int) + 1 = (z : Int) ∧ z = q4 + 1 := ⟨q4 + 1, rfl, rfl⟩
      obtain ⟨q6, e6, g6⟩ : ∃ z : Nat, (q5 : Int) + 1 = (z : Int) ∧ z = q5 + 1 := ⟨q5 + 1, rfl, rfl⟩
      obtain ⟨q7, e7, g7⟩ : ∃ z : Nat, (q6 : Int) + 1 = (z : Int) ∧ z = q6 + 1 := ⟨q6 + 1, rfl, rfl⟩
      obtain ⟨q8, g8⟩ : ∃ z : Nat, q7 + 7 * sub.size = z := ⟨_, rfl⟩
      have HQ8 := hid g8
      have b8 : q8 + 7 * r.size = QE := by omega
      have b7 : q7 + 7 * sub.size ≤ 67108864 := by omega
      have b2 : 1 ≤ q2 := by omega
      have b5 : 1 ≤ q5 := by omega
      have b6 : 1 ≤ q7 := by omega
      have b9 : 1 ≤ q8 := by omega
      have HRc : Hid (RowF wr (.cons ((p : Int) % 3 == 0) q1 (markT q2) q3 q4 (markT q5) q6 (sub.mark q7) (r.mark q8)) A i N K) := by
        have h := HRr.out
        rw [Forest.mark] at h
        refine hid ?_
        subst g8 g7 g6 g5 g4 g3 g2 g1
        exact h
      obtain ⟨b, o, SA, sc, Ls, Lr, rfl, hb0, R1, hz, hs1, hs2, hL⟩ := HRc.out.range
      rw [Forest.len_mark] at R1 hs1
      obtain ⟨S7, hS7⟩ : ∃ z, markT q2 = z := ⟨_, rfl⟩
      obtain ⟨S8, hS8⟩ : ∃ z, markT q5 = z := ⟨_, rfl⟩
      rw [hS7, hS8] at R1
      have M2 := fun (w : World) => markText_any q2 w b2 (by omega)
      have M5 := fun (w : World) => markText_any q5 w b5 (by omega)
      rw [hS7] at M2
      rw [hS8] at M5
      have HM2 := hid M2
      have HM5 := hid M5
      have HR1 := hid R1
      have HB := hid hb0
      have HS1 := hid hs1
      have HS2 := hid hs2
      obtain ⟨c0, c1, c2, c3, c4, c5, c6, c7⟩ := range8 R1
      clear g1 g2 g3 g4 g5 g6 g7 g8 hL hz hs1 hs2 R1 hb0 hir hsz hpq hpq' M2 M5 hS7 hS8 HRr HRc
      go_wp2_with fail
      refine wp_region_grown 9 rfl (by kernel_rfl) fun wd gd => ?_
      refine held_load1 0 rfl (some 34) rfl (by kernel_rfl) (by kernel_rfl) (by kernel_rfl) (fun _ _ _ _ h => h) (.slice (some ⟨b, o, none⟩) N c) rfl (fun w' hw => run_mov (.tmp 0) rfl rfl) gd ?_
      refine held_load1 1 rfl (some 35) rfl (by kernel_rfl) (by kernel_rfl) (by kernel_rfl) (fun _ _ _ _ h => h) (.int .i64 i) rfl (fun w' hw => run_mov (.tmp 5) rfl rfl) gd ?_
      simp only [Act.put, List.setIfInBounds_toArray, List.set_cons_succ, List.set_cons_zero]
      refine held_load1 2 rfl (some 36) rfl (by kernel_rfl) (by kernel_rfl) (by kernel_rfl) (fun _ _ _ _ h => h) (.pointer (some ⟨b, o + i * 8, none⟩)) rfl (fun w' hw => by go_simp) gd ?_
      simp only [Act.put, List.setIfInBounds_toArray, List.set_cons_succ, List.set_cons_zero]
      refine held_load1 3 rfl (some 37) rfl (by kernel_rfl) (by kernel_rfl) (by kernel_rfl) (fun _ _ _ _ h => h) (.pointer (some ⟨b, o + i * 8, none⟩)) rfl (fun w' hw => by go_simp) gd ?_
      simp only [Act.put, List.setIfInBounds_toArray, List.set_cons_succ, List.set_cons_zero]
      refine held_load1 4 rfl (some 38) rfl (by kernel_rfl) (by kernel_rfl) (by kernel_rfl) (fun _ _ _ _ h => h) (.pointer (some ⟨b, o + i * 8 + 2, none⟩)) rfl (fun w' hw => by go_simp) gd ?_
      simp only [Act.put, List.setIfInBounds_toArray, List.set_cons_succ, List.set_cons_zero]
      refine held_load1 5 rfl (some 39) rfl (by kernel_rfl) (by kernel_rfl) (by kernel_rfl) (fun _ _ _ _ h => h) (.string S7) rfl (fun w' hw => by have fc := hw.cell c2 (by simp); clear c0 c1 c2 c3 c4 c5 c6 c7; go_simp) gd ?_
      refine held_load1 6 rfl (some 40) rfl (by kernel_rfl) (by kernel_rfl) (by kernel_rfl) (fun _ _ _ _ h => h) (.int .i64 q2) rfl (fun w' hw => run_mov (.tmp 1) rfl rfl) gd ?_
      refine held_call1 7 rfl (some 41) rfl (by kernel_rfl) rfl 41 (by kernel_rfl) (.tmp 40) _ (.int .i64 q2) rfl rfl (HM2.out wd) ?_
      rintro e wa ⟨rfl, hga⟩
      refine ⟨_, rfl, gb_trans gd hga, ?_⟩
      simp only [Act.put, List.setIfInBounds_toArray, List.set_cons_succ, List.set_cons_zero]
      refine held_val 8 rfl (some 42) rfl (by kernel_rfl) rfl (.bool false) (by go_simp) (gb_trans gd hga) ?_
      refine wpAnyH_done (by kernel_rfl) ?_ _
      simp only [Act.put, List.setIfInBounds_toArray, List.set_cons_succ, List.set_cons_zero]
      have GA := hid (gb_trans (gb_refl wr none) (gb_trans gd hga))
      have RA := hid (rangeAt_grow HR1.out GA.out HB.out)
      clear c0 c1 c2 c3 c4 c5 c6 c7 gd hga
      obtain ⟨c0, c1, c2, c3, c4, c5, c6, c7⟩ := range8 RA.out
      go_wp2_with fail
      refine wp_region_grown 9 rfl (by kernel_rfl) fun wd gd => ?_
      refine held_load1 0 rfl (some 65) rfl (by kernel_rfl) (by kernel_rfl) (by kernel_rfl) (fun _ _ _ _ h => h) (.slice (some ⟨b, o, none⟩) N c) rfl (fun w' hw => run_mov (.tmp 0) rfl rfl) gd ?_
      refine held_load1 1 rfl (some 66) rfl (by kernel_rfl) (by kernel_rfl) (by kernel_rfl) (fun _ _ _ _ h => h) (.int .i64 i) rfl (fun w' hw => run_mov (.tmp 5) rfl rfl) gd ?_
      simp only [Act.put, List.setIfInBounds_toArray, List.set_cons_succ, List.set_cons_zero]
      refine held_load1 2 rfl (some 67) rfl (by kernel_rfl) (by kernel_rfl) (by kernel_rfl) (fun _ _ _ _ h => h) (.pointer (some ⟨b, o + i * 8, none⟩)) rfl (fun w' hw => by go_simp) gd ?_
      simp only [Act.put, List.setIfInBounds_toArray, List.set_cons_succ, List.set_cons_zero]
      refine held_load1 3 rfl (some 68) rfl (by kernel_rfl) (by kernel_rfl) (by kernel_rfl) (fun _ _ _ _ h => h) (.pointer (some ⟨b, o + i * 8 + 3, none⟩)) rfl (fun w' hw => by go_simp) gd ?_
      simp only [Act.put, List.setIfInBounds_toArray, List.set_cons_succ, List.set_cons_zero]
      refine held_load1 4 rfl (some 69) rfl (by kernel_rfl) (by kernel_rfl) (by kernel_rfl) (fun _ _ _ _ h => h) (.pointer (some ⟨b, o + i * 8 + 5, none⟩)) rfl (fun w' hw => by go_simp) gd ?_
      simp only [Act.put, List.setIfInBounds_toArray, List.set_cons_succ, List.set_cons_zero]
      refine held_load1 5 rfl (some 70) rfl (by kernel_rfl) (by kernel_rfl) (by kernel_rfl) (fun _ _ _ _ h => h) (.string S8) rfl (fun w' hw => by have fc := hw.cell c5 (by simp); clear c0 c1 c2 c3 c4 c5 c6 c7; go_simp) gd ?_
      refine held_load1 6 rfl (some 71) rfl (by kernel_rfl) (by kernel_rfl) (by kernel_rfl) (fun _ _ _ _ h => h) (.int .i64 q5) rfl (fun w' hw => run_mov (.tmp 1) rfl rfl) gd ?_
      refine held_call1 7 rfl (some 72) rfl (by kernel_rfl) rfl 41 (by kernel_rfl) (.tmp 71) _ (.int .i64 q5) rfl rfl (HM5.out wd) ?_
      rintro e wa ⟨rfl, hga⟩
      refine ⟨_, rfl, gb_trans gd hga, ?_⟩
      simp only [Act.put, List.setIfInBounds_toArray, List.set_cons_succ, List.set_cons_zero]
      refine held_val 8 rfl (some 73) rfl (by kernel_rfl) rfl (.bool false) (by go_simp) (gb_trans gd hga) ?_
      refine wpAnyH_done (by kernel_rfl) ?_ _
      simp only [Act.put, List.setIfInBounds_toArray, List.set_cons_succ, List.set_cons_zero]
      have GB := hid (gb_trans GA.out (gb_trans gd hga))
      have RB := hid (rangeAt_grow HR1.out GB.out HB.out)
      clear c0 c1 c2 c3 c4 c5 c6 c7 gd hga
      obtain ⟨c0, c1, c2, c3, c4, c5, c6, c7⟩ := range8 RB.out
      go_wp2_with fail
      refine (IH.out sub hsz1 _ SA sc Ls q7 (HS1.out.grow GB.out) b6 b7).mono ?_
      rintro e w4 ⟨rfl, hg⟩
      rw [HQ8.out]
      have HG4 := hid (gb_trans (gb_trans HG.out GB.out) hg)
      have HS4 := hid ((HS2.out.grow GB.out).grow hg)
      clear c0 c1 c2 c3 c4 c5 c6 c7 hg
      go_wp2_with fail
      go_roundw
      case rel => exact ⟨i + 1, q8, r, Lr, b8, b9, hiN', rfl, by go_num, HS4, hsz2, HG4⟩
      case measure => simp [intOf]; omega
theorem heldEntryS_any (f : Forest) : HeldOk f := by
  obtain ⟨n, hn⟩ : ∃ n, f.size = n := ⟨_, rfl⟩
  induction n using Nat.strongRecOn generalizing f with
  | ind n ih => exact heldEntryS_step f fun g hg => ih g.size (by omega) g rfl
theorem heldValue_any (f : Forest) (w : World) (k m : Int) (u : ByteArray) (x : Int) (A : Option Addr) (c : Nat) (L : List Nat) (q : Nat) (hT : RowF w (f.mark q) A 0 f.len L) (h1 : 1 ≤ q) (hb : q + 7 * f.size ≤ 67108864) :
    Calls Try.prog 16 #[.agg #[.int .i64 k, .int .i64 m, .string u, .int .i64 x, .slice A f.len c], .int .i64 q] w (HeldPost w (q + 7 * f.size)) := by
  have HT := hid (hT.grow (gb_alloc (gb_refl w none) (.cells #[.int .i64 k, .int .i64 m, .string u, .int .i64 x, .slice A f.len c] 31)))
  clear hT
  go_enter Try.func16, Try.ntmps16
  go_wp2_with fail
  refine (heldEntryS_any f _ A c L q HT.out h1 hb).mono ?_
  rintro e w1 ⟨rfl, hg⟩
  obtain ⟨QE, hQ⟩ : ∃ z, q + 7 * f.size = z := ⟨_, rfl⟩
  have HQ := hid hQ
  rw [hQ]
  clear hQ
  go_wp2_with fail
  go_ret
  exact ⟨ret_int (by rw [HQ.out]), gb_trans (gb_alloc (gb_refl _ _) _) hg⟩
end Go.Proofs.Ytlfigoboeogegaa
