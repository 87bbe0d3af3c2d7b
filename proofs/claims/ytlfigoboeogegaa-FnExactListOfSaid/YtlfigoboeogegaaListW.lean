/- The walks of both ListOf, of l6List (printed by genlist.py). -/
import Derived.Test.YtlfigoboeogegaaVSz
import Derived.Test.YtlfigoboeogegaaDelMath
namespace Go.Proofs.Ytlfigoboeogegaa
open Go.RowKit
set_option linter.unusedVariables false

theorem implArrayA_any (w : World) : Calls Try.prog 43 #[] w fun e w' => e = .returned (.agg #[.int .i64 4, .int .i64 0, .string { data := #[] }, .int .i64 0, .slice none 0 0]) ∧ w.grownBy w' none := by
  go_enter Try.func43, Try.ntmps43
  go_wp2_with fail
  refine bodyPost_ret (results_cell_row rfl _ _ _ _ _ (0, 0) _ rfl (HoldsT.new _ _ _) Try.underlying31 rfl Try.infoV) rfl ?_
  exact ⟨rfl, gb_alloc (gb_refl _ _) _⟩
theorem specArrayA_any (w : World) : Calls Try.prog 53 #[] w fun e w' => e = .returned (.agg #[.int .i64 4, .int .i64 0, .string { data := #[] }, .int .i64 0, .slice none 0 0]) ∧ w.grownBy w' none := by
  go_enter Try.func53, Try.ntmps53
  go_wp2_with fail
  refine bodyPost_ret (results_cell_row rfl _ _ _ _ _ (0, 0) _ rfl (HoldsT.new _ _ _) Try.underlying31 rfl Try.infoV) rfl ?_
  exact ⟨rfl, gb_alloc (gb_refl _ _) _⟩
theorem intKeyL_any (n : Int) (w : World) : Calls Try.prog 44 #[.int .i64 n] w fun e w' => e = .returned (.agg #[.bool false, .int .i64 n, .string { data := #[] }]) ∧ w.grownBy w' none := by
  go_enter Try.func44, Try.ntmps44
  go_wp2_with fail
  refine bodyPost_ret (results_cell_row rfl _ _ _ _ _ (0, 0) _ rfl (HoldsT.new _ _ _) Try.underlying34 rfl Try.infoK) rfl ?_
  exact ⟨rfl, gb_alloc (gb_refl _ _) _⟩
set_option maxHeartbeats 4000000 in
theorem implList_any (f : Forest) (w : World) (A : Option Addr) (c : Nat) (L : List Nat) (hr : RowV w f A 0 f.len L) (hfs : f.size ≤ 1048576) :
    Calls Try.prog 27 #[.slice A f.len c] w (CopyPost w 4 0 { data := #[] } f.len (f.listF 0)) := by
  obtain ⟨i0, hi, hz0, hz1, hz2⟩ := info_parts Try.infoE3
  obtain ⟨N, hN⟩ : ∃ N, f.len = N := ⟨_, rfl⟩
  have hNs : N ≤ 1048576 := by have := f.len_le; omega
  rw [hN] at hr
  have HR := hid hr
  have HN := hid hN
  rw [hN]
  have HI := hid (And.intro hi (And.intro hz0 (And.intro hz1 hz2)))
  clear hr hN hi hz0 hz1 hz2
  go_enter Try.func27, Try.ntmps27
  go_wp2_with fail
  refine (implArrayA_any _).mono ?_
  rintro e w1 ⟨rfl, hg⟩
  have HZ1 := hid ((HoldsT.new w #[.int .i64 0, .int .i64 0, .string { data := #[] }, .int .i64 0, .slice none 0 0] 31).grow hg)
  have G1 := hid (gb_trans (gb_alloc (gb_refl w none) (.cells #[.int .i64 0, .int .i64 0, .string { data := #[] }, .int .i64 0, .slice none 0 0] 31)) hg)
  have hlt : w.heap.size < w1.heap.size := HZ1.out.lt
  have HLT := hid hlt
  clear hg hlt
  go_wp2_with fail
  go_loopw [9] (fun iv wr => ∃ (i : Nat) (dn r : Forest) (M K : List Nat) (cs : List Value) (OA : Option Addr) (oc : Nat), Hid (f.listF 0 = dn.app (r.listF i)) ∧ i + r.len = N ∧ iv = .int .i64 i ∧ Hid (RowV w r A i N M) ∧ r.size ≤ f.size ∧ Hid (dn.len = i) ∧ Hid (SubF wr dn cs K) ∧ Hid (OwnL wr 61 (w1.heap.size + 1) K) ∧ Hid (∀ g, (Value.slice OA i oc).ownBlock = some g → g ∉ K) ∧
      Hid (wr.ownsRow (w1.heap.size + 1) 61 8 (.slice OA i oc) i cs) ∧ Hid (OA = none → oc = 0) ∧ Hid (HoldsT wr w1.heap.size #[.int .i64 4, .int .i64 0, .string { data := #[] }, .int .i64 0, .slice OA i oc] 31) ∧ Hid (HoldsT wr w.heap.size #[.int .i64 0, .int .i64 0, .string { data := #[] }, .int .i64 0, .slice none 0 0] 31) ∧ Hid (w.grownBy wr none)) (fun i _ => N - (intOf i).toNat)
  case atStart =>
    exact ⟨0, .nil, f, L, [], [], none, 0, hid rfl, by have := HN.out; omega, rfl, HR, Nat.le_refl _, hid rfl, hid ⟨rfl, rfl⟩, hid (OwnL.nil _ _ _), hid (by intro g h; cases h), hid (World.ownsRow_nil _ _ _ _), hid (fun _ => rfl), hid (HoldsT.new w1 _ _), hid (HZ1.out.alloc _), hid (gb_alloc G1.out _)⟩
  case round =>
    obtain ⟨i, dn, r, M, K, cs, OA, oc, HE, hir, rfl, HRr, hsz, HD, HS, HL, HOb, HOw, HOc, HX, HZ, HG⟩ := hrel
    cases r with
    | nil =>
      have hi : i = N := by simpa [Forest.len] using hir
      subst hi
      obtain ⟨b0, b1, b2, b3, b4⟩ := HX.out.cells5
      have x3 := HX.out.frozen 3
      obtain ⟨r0, r1, r2, r3, r4⟩ := HZ.out.cells5
      have y0 := HZ.out.frozen 0; have y1 := HZ.out.frozen 1; have y2 := HZ.out.frozen 2; have y3 := HZ.out.frozen 3; have y4 := HZ.out.frozen 4
      have lz := HZ.out.lt
      have lx := HX.out.lt
      have hne : w1.heap.size ≠ w.heap.size := by have := HLT.out; omega
      have HNE := hid hne
      have h9 := HLT.out
      go_wp2_with fail
      refine bodyPost_ret (results_cell_row rfl _ _ _ _ _ (0, 0) _ rfl ((HZ.out.setOther HNE.out _).set5 _ _ _ _ _) Try.underlying31 rfl Try.infoV) rfl ?_
      have hf : f.listF 0 = dn := by rw [HE.out, Forest.listF, Forest.app_nil]
      have hl : (f.listF 0).len = i := by rw [Forest.listF_len, HN.out]
      have s8 : wr.grownBy (wr.setCell ⟨w1.heap.size, 3, none⟩ (.int .i64 i)) (some w1.heap.size) := gb_set (gb_refl _ _) (.inr rfl) _
      have s9 := gb_set5 (gb_refl (wr.setCell ⟨w1.heap.size, 3, none⟩ (.int .i64 i)) (some w.heap.size)) (g := w.heap.size) (.inr rfl) (.int .i64 4) (.int .i64 0) (.string { data := #[] }) (.int .i64 i) (.slice OA i oc)
      have G9 := gb_fresh (gb_fresh HG.out s8 (fun q hq => by have h : w1.heap.size = q := Option.some.inj hq; omega)) s9 (fun q hq => by have h : w.heap.size = q := Option.some.inj hq; omega)
      have ht : Rw wr 61 (w1.heap.size + 1) (f.listF 0) OA oc K := ⟨cs, by rw [hl]; exact HOw.out, by rw [hf]; exact HS.out, HL.out, fun b hb => HOb.out b (blk_own.2 hb)⟩
      refine ⟨OA, oc, K, by rw [hl], HOc.out, ?_, G9⟩
      exact ((ht.low (g := w1.heap.size) s8 (by omega)).low (g := w.heap.size) s9 (by omega)).mono (by omega)
    | cons t n s kd nm v y sub r =>
      have hiN : i < N := by simp only [Forest.len] at hir; omega
      have hiN' : i + 1 + r.len = N := by simp only [Forest.len] at hir; omega
      obtain ⟨b, o, SA, sc, Ls, Lr, rfl, hb, R1, hz, hs1, hs2, _⟩ := HRr.out
      have hsz2 : r.size ≤ f.size := by simp only [Forest.size] at hsz; omega
      have hsub : sub.size ≤ 1048576 := by simp only [Forest.size] at hsz; omega
      have HZ0 := hid hz
      have HS0 := hid hs1
      have HS1 := hid (hs1.grow HG.out)
      have HS2 := hid hs2
      have HR1 := hid (And.intro (rangeAt_grow R1 HG.out hb) (Nat.lt_of_lt_of_le hb HG.out.size))
      obtain ⟨RB, hRB⟩ : ∃ z, (Value.slice OA i oc).ownBlock = z := ⟨_, rfl⟩
      have hbase : ∀ g, RB = some g → w1.heap.size + 1 ≤ g ∧ g < wr.heap.size := fun g hg => HOw.out.lt g (hRB.trans hg)
      have HRB := hid (And.intro hRB hbase)
      have h9 := HLT.out
      have nrb : some b ≠ RB := fun e => by have := (hbase _ e.symm).1; omega
      have NRB := hid nrb
      have ne2 : some w1.heap.size ≠ RB := fun e => by have := hbase _ e.symm; omega
      have HNE := hid ne2
      have nz : RB ≠ some w.heap.size := fun e => by have := hbase _ e; omega
      have HNZ := hid nz
      obtain ⟨c0, c1, c2, c3, c4⟩ := range5 HR1.out.1
      have GE := hid (gb_alloc (gb_refl wr none) (.cells #[.int .i64 kd, .int .i64 nm, .string v, .int .i64 y, .slice SA sub.len sc] 31))
      have HEn := hid (HoldsT.new wr #[.int .i64 kd, .int .i64 nm, .string v, .int .i64 y, .slice SA sub.len sc] 31)
      have ne1 : RB ≠ some wr.heap.size := fun e => by have := hbase _ e; omega
      have HNE1 := hid ne1
      clear hs1 hs2 hir hsz hRB hbase ne2 nrb nz ne1 R1 hb hz
      go_wp2_with fail
      clear c0 c1 c2 c3 c4
      refine wp_region_E 10 11 rfl (by kernel_rfl) (fun wd w' => wd.grownBy w' RB) fun wd gd => ?_
      have GD := hid (gb_trans GE.out gd)
      have ED := hid (HEn.out.grow gd)
      have XD := hid (HX.out.grow GD.out)
      have g0 : wd.grownBy wd RB := gb_refl _ _
      clear gd
      refine E_take 0 rfl (some 14) rfl (by kernel_rfl) (by kernel_rfl) (by kernel_rfl) (by kernel_rfl) (by decide) (fun _ _ _ _ h => h) rfl (.pointer (some ⟨w1.heap.size, 4, none⟩)) (fun w' hw => by go_simp) g0 ?_
      simp only [Act.put, List.setIfInBounds_toArray, List.set_cons_succ, List.set_cons_zero]
      refine E_take 1 rfl (some 15) rfl (by kernel_rfl) (by kernel_rfl) (by kernel_rfl) (by kernel_rfl) (by decide) (fun _ _ _ _ h => h) rfl (.slice OA i oc) (fun w' hw => by have fc := hw.cell XD.out.cells5.2.2.2.2 HNE.out; go_simp) g0 ?_
      simp only [Act.put, List.setIfInBounds_toArray, List.set_cons_succ, List.set_cons_zero]
      refine E_take 2 rfl (some 16) rfl (by kernel_rfl) (by kernel_rfl) (by kernel_rfl) (by kernel_rfl) (by decide) (fun _ _ _ _ h => h) rfl (.int .i64 i) (fun w' hw => run_mov (.tmp 4) rfl rfl) g0 ?_
      simp only [Act.put, List.setIfInBounds_toArray, List.set_cons_succ, List.set_cons_zero]
      refine E_load 4 rfl (some 18) rfl (by kernel_rfl) (by kernel_rfl) (by kernel_rfl) (by kernel_rfl) (by decide) (fun _ _ _ _ h => h) rfl 31 (.tmp 5) rfl (wr.heap.size) (0) rfl [.int .i64 kd, .int .i64 nm, .string v, .int .i64 y, .slice SA sub.len sc] (fun w' hw => (ED.out.kept hw HNE1.out).rangeV) Try.underlying31 rfl Try.infoV g0 ?_
      simp only [Act.put, List.setIfInBounds_toArray, List.set_cons_succ, List.set_cons_zero]
      refine E_only 3 (by kernel_rfl) (E_call 3 rfl (some 17) rfl rfl 44 _ (run_call1 _ (by kernel_rfl) (.tmp 16) _ (.int .i64 i) rfl rfl) (intKeyL_any i wd) ?_)
      rintro e wk ⟨rfl, hgk⟩
      refine ⟨_, rfl, fun _ => gb_any hgk, ?_⟩
      simp only [Act.put, List.setIfInBounds_toArray, List.set_cons_succ, List.set_cons_zero]
      have GK := hid (gb_trans GD.out hgk)
      refine E_only 5 (by kernel_rfl) (E_call 5 rfl (some 19) rfl rfl 34 _ (run_call1 _ (by kernel_rfl) (.tmp 18) _ (.agg #[.int .i64 kd, .int .i64 nm, .string v, .int .i64 y, .slice SA sub.len sc]) rfl rfl) (implCopy_any sub wk kd nm v y SA sc Ls (HS1.out.grow GK.out) (by omega)) ?_)
      rintro e w2 ⟨A2, c2', L2, rfl, hc2, hT2, hg2⟩
      have HGK2 := hid (gb_trans hgk hg2)
      refine ⟨_, rfl, fun _ => gb_any HGK2.out, ?_⟩
      simp only [Act.put, List.setIfInBounds_toArray, List.set_cons_succ, List.set_cons_zero]
      have HC2 := hid hc2
      have hT2 := hT2.own
      have HT2 := hid (hT2.grow (gb_alloc (gb_refl w2 none) (.cells #[.bool false, .int .i64 i, .string { data := #[] }, .int .i64 kd, .int .i64 nm, .string v, .int .i64 y, .slice A2 sub.len c2'] 61)))
      have HKS := hid (show wr.heap.size ≤ wk.heap.size from GK.out.size)
      have G2 := hid (gb_alloc (gb_trans GK.out hg2) (.cells #[.bool false, .int .i64 i, .string { data := #[] }, .int .i64 kd, .int .i64 nm, .string v, .int .i64 y, .slice A2 sub.len c2'] 61))
      have GDD := hid (gb_alloc HGK2.out (.cells #[.bool false, .int .i64 i, .string { data := #[] }, .int .i64 kd, .int .i64 nm, .string v, .int .i64 y, .slice A2 sub.len c2'] 61))
      refine E_only 6 (by kernel_rfl) (E_val 6 rfl (some 20) rfl rfl (.agg #[.bool false, .int .i64 i, .string { data := #[] }, .int .i64 kd, .int .i64 nm, .string v, .int .i64 y, .slice A2 sub.len c2']) (w2) (by go_simp) ⟨fun _ => gb_any HGK2.out, ?_⟩)
      simp only [Act.put, List.setIfInBounds_toArray, List.set_cons_succ, List.set_cons_zero]
      refine E_only 7 (by kernel_rfl) (E_val 7 rfl (some 21) rfl rfl (.slice (some ⟨w2.heap.size, 0, none⟩) 1 1) (w2.alloc (.cells #[.bool false, .int .i64 i, .string { data := #[] }, .int .i64 kd, .int .i64 nm, .string v, .int .i64 y, .slice A2 sub.len c2'] 61)) (by go_simp) ⟨fun _ => gb_any GDD.out, ?_⟩)
      simp only [Act.put, List.setIfInBounds_toArray, List.set_cons_succ, List.set_cons_zero]
      have hws : w1.heap.size + 1 ≤ wr.heap.size := HX.out.lt
      have hO3 := own_grow HOw.out G2.out
      refine E_only 8 (by kernel_rfl) (E_append 8 rfl (some 22) rfl rfl (.tmp 15) (.tmp 21) 29 rfl (w1.heap.size + 1) 61 i0 entry0 8 96 Try.underlying29 HI.out.1 HI.out.2.1 HI.out.2.2.1 HI.out.2.2.2 rfl (by omega) (.slice OA i oc) i cs rfl hO3
        ⟨w2.heap.size, 0, none⟩ 1 1 [.bool false, .int .i64 i, .string { data := #[] }, .int .i64 kd, .int .i64 nm, .string v, .int .i64 y, .slice A2 sub.len c2'] rfl rfl (news_lit w2 [.bool false, .int .i64 i, .string { data := #[] }, .int .i64 kd, .int .i64 nm, .string v, .int .i64 y, .slice A2 sub.len c2'] 61) (by simp [Value.oneCell']) (by unfold maxLen; omega) (by omega) (by have := G2.out.size; omega) ?_)
      intro A3 c3' w3 hown3 hA3 hg3 hat3
      rw [HRB.out.1] at hg3 hat3
      have GS := hid (gb_trans (gb_any GDD.out) hg3)
      refine ⟨fun _ => GS.out, ?_⟩
      have HOW3 := hid hown3
      have HA3 := hid hA3
      have HAT := hid hat3
      have HG3 := hid hg3
      clear hO3 hown3 hA3 hat3 hg3
      simp only [Act.put, List.setIfInBounds_toArray, List.set_cons_succ, List.set_cons_zero]
      refine E_only 9 (by kernel_rfl) (E_val 9 rfl (some 23) rfl rfl (.pointer (some ⟨w1.heap.size, 4, none⟩)) (w3) (by go_simp) ⟨fun _ => GS.out, ?_⟩)
      simp only [Act.put, List.setIfInBounds_toArray, List.set_cons_succ, List.set_cons_zero]
      have hX3 := XD.out.kept GS.out (fun e => HNE.out e.symm)
      have HX3 := hid hX3
      have fc := hX3.cells5.2.2.2.2
      have fz := hX3.frozen 4
      have fl := hX3.lt
      refine E_only 10 (by kernel_rfl) (E_skip 10 rfl none rfl rfl (w3.setCell ⟨w1.heap.size, 4, none⟩ (.slice A3 (i + 1) c3')) (by go_simp) ⟨fun h => absurd rfl h, ?_⟩)
      refine E_done (by kernel_rfl) ?_ _
      simp only [Act.put]
      clear hX3 fc fz fl
      go_wp2_with fail
      go_roundw
      case rel =>
        have s4 : w3.grownBy (w3.setCell ⟨w1.heap.size, 4, none⟩ (.slice A3 (i + 1) c3')) (some w1.heap.size) := gb_set (gb_refl _ _) (.inr rfl) _
        have hown4 := own_kept HOW3.out s4 (fun g hg h => by have h1 : w1.heap.size = g := Option.some.inj hg; have := (HOW3.out.lt g h).1; omega)
        have hE : f.listF 0 = (dn.app (.cons false i { data := #[] } kd nm v y sub .nil)).app (r.listF (i + 1)) := by rw [Forest.app_assoc, HE.out]; rfl
        have hD : (dn.app (.cons false i { data := #[] } kd nm v y sub .nil)).len = i + 1 := by rw [Forest.len_app, HD.out]; rfl
        have G3 := gb_fresh (gb_trans HG.out G2.out) HG3.out (fun g hg => by have := (HRB.out.2 g hg).1; omega)
        have G4 : w.grownBy (w3.setCell ⟨w1.heap.size, 4, none⟩ (.slice A3 (i + 1) c3')) none := gb_fresh G3 s4 (fun q hq => by have h : w1.heap.size = q := Option.some.inj hq; omega)
        have hK2 : ∀ x ∈ blk A2 ++ L2, wr.heap.size ≤ x := fun x hx => by have := (HT2.out.2.2 x hx).1; have := HKS.out; omega
        have hRK : ∀ g, RB = some g → g ∉ K ++ (blk A2 ++ L2) := fun g hg hm => by
          rcases List.mem_append.1 hm with h | h
          · exact HOb.out g (HRB.out.1.trans hg) h
          · have := hK2 g h
            have := (HRB.out.2 g hg).2
            omega
        have hO2 : OwnL (w2.alloc (.cells #[.bool false, .int .i64 i, .string { data := #[] }, .int .i64 kd, .int .i64 nm, .string v, .int .i64 y, .slice A2 sub.len c2'] 61)) 61 (w1.heap.size + 1) (K ++ (blk A2 ++ L2)) :=
          OwnL.app HX.out.lt HL.out G2.out (HT2.out.2.mono HKS.out)
        have hbK : ∀ g, some w1.heap.size = some g → g ∉ K ++ (blk A2 ++ L2) := fun g hg hm => by
          injection hg with hg
          have := (hO2.2 g hm).1
          omega
        have hO3 := hO2.kept HG3.out hRK
        have hS3 := (((HS.out.grow G2.out).app (SubF.one false i { data := #[] } kd nm v y HC2.out HT2.out.1)).kept HG3.out hRK)
        refine ⟨i + 1, _, r, _, K ++ (blk A2 ++ L2), cs ++ [.bool false, .int .i64 i, .string { data := #[] }, .int .i64 kd, .int .i64 nm, .string v, .int .i64 y, .slice A2 sub.len c2'], A3, c3', hid hE, hiN', by go_num, hid HS2.out, hsz2, hid hD, hid (hS3.kept s4 hbK), hid (hO3.kept s4 hbK), hid (fun g hg => ?_), hid hown4, HA3, hid (HX3.out.set 4 (.slice A3 (i + 1) c3')), hid (((HZ.out.grow G2.out).kept HG3.out HNZ.out).kept s4 (by intro e; injection e with e; omega)), hid G4⟩
        rcases HAT.out with h | h
        · exact hRK g (h.symm.trans hg)
        · intro hm
          have h2 := hO2.lt g hm
          have h3 := h.symm.trans hg
          injection h3 with h3
          omega
      case measure => simp [intOf]; omega
set_option maxHeartbeats 4000000 in
theorem specList6_any (f : Forest) (w : World) (A : Option Addr) (c : Nat) (L : List Nat) (hr : RowV w f A 0 f.len L) (hfs : f.size ≤ 1048576) :
    Calls Try.prog 42 #[.slice A f.len c] w (ShownPost w 4 0 { data := #[] } f.len (f.listF 0)) := by
  obtain ⟨i0, hi, hz0, hz1, hz2⟩ := info_parts Try.infoE3
  obtain ⟨N, hN⟩ : ∃ N, f.len = N := ⟨_, rfl⟩
  have hNs : N ≤ 1048576 := by have := f.len_le; omega
  rw [hN] at hr
  have HR := hid hr
  have HN := hid hN
  rw [hN]
  have HI := hid (And.intro hi (And.intro hz0 (And.intro hz1 hz2)))
  clear hr hN hi hz0 hz1 hz2
  go_enter Try.func42, Try.ntmps42
  go_wp2_with fail
  refine (specArrayA_any _).mono ?_
  rintro e w1 ⟨rfl, hg⟩
  have HZ1 := hid ((HoldsT.new w #[.int .i64 0, .int .i64 0, .string { data := #[] }, .int .i64 0, .slice none 0 0] 31).grow hg)
  have G1 := hid (gb_trans (gb_alloc (gb_refl w none) (.cells #[.int .i64 0, .int .i64 0, .string { data := #[] }, .int .i64 0, .slice none 0 0] 31)) hg)
  have hlt : w.heap.size < w1.heap.size := HZ1.out.lt
  have HLT := hid hlt
  clear hg hlt
  go_wp2_with fail
  go_loopw [4] (fun iv wr => ∃ (i : Nat) (dn r : Forest) (M K : List Nat) (cs : List Value) (OA : Option Addr) (oc : Nat), Hid (f.listF 0 = dn.app (r.listF i)) ∧ i + r.len = N ∧ iv = .int .i64 i ∧ Hid (RowV w r A i N M) ∧ r.size ≤ f.size ∧ Hid (dn.len = i) ∧ Hid (∀ w9 : World, w.grownBy w9 none → SubF w9 dn cs K) ∧
      Hid (wr.ownsRow (w1.heap.size + 1) 61 8 (.slice OA i oc) i cs) ∧ Hid (OA = none → oc = 0) ∧ Hid (HoldsT wr w1.heap.size #[.int .i64 4, .int .i64 0, .string { data := #[] }, .int .i64 0, .slice OA i oc] 31) ∧ Hid (HoldsT wr w.heap.size #[.int .i64 0, .int .i64 0, .string { data := #[] }, .int .i64 0, .slice none 0 0] 31) ∧ Hid (w.grownBy wr none)) (fun i _ => N - (intOf i).toNat)
  case atStart =>
    exact ⟨0, .nil, f, L, [], [], none, 0, hid rfl, by have := HN.out; omega, rfl, HR, Nat.le_refl _, hid rfl, hid (fun _ _ => ⟨rfl, rfl⟩), hid (World.ownsRow_nil _ _ _ _), hid (fun _ => rfl), hid (HoldsT.new w1 _ _), hid (HZ1.out.alloc _), hid (gb_alloc G1.out _)⟩
  case round =>
    obtain ⟨i, dn, r, M, K, cs, OA, oc, HE, hir, rfl, HRr, hsz, HD, HS, HOw, HOc, HX, HZ, HG⟩ := hrel
    cases r with
    | nil =>
      have hi : i = N := by simpa [Forest.len] using hir
      subst hi
      obtain ⟨b0, b1, b2, b3, b4⟩ := HX.out.cells5
      have x3 := HX.out.frozen 3
      obtain ⟨r0, r1, r2, r3, r4⟩ := HZ.out.cells5
      have y0 := HZ.out.frozen 0; have y1 := HZ.out.frozen 1; have y2 := HZ.out.frozen 2; have y3 := HZ.out.frozen 3; have y4 := HZ.out.frozen 4
      have lz := HZ.out.lt
      have lx := HX.out.lt
      have hne : w1.heap.size ≠ w.heap.size := by have := HLT.out; omega
      have HNE := hid hne
      have h9 := HLT.out
      go_wp2_with fail
      refine bodyPost_ret (results_cell_row rfl _ _ _ _ _ (0, 0) _ rfl ((HZ.out.setOther HNE.out _).set5 _ _ _ _ _) Try.underlying31 rfl Try.infoV) rfl ?_
      have hf : f.listF 0 = dn := by rw [HE.out, Forest.listF, Forest.app_nil]
      have hl : (f.listF 0).len = i := by rw [Forest.listF_len, HN.out]
      have s8 : wr.grownBy (wr.setCell ⟨w1.heap.size, 3, none⟩ (.int .i64 i)) (some w1.heap.size) := gb_set (gb_refl _ _) (.inr rfl) _
      have s9 := gb_set5 (gb_refl (wr.setCell ⟨w1.heap.size, 3, none⟩ (.int .i64 i)) (some w.heap.size)) (g := w.heap.size) (.inr rfl) (.int .i64 4) (.int .i64 0) (.string { data := #[] }) (.int .i64 i) (.slice OA i oc)
      have G9 := gb_fresh (gb_fresh HG.out s8 (fun q hq => by have h : w1.heap.size = q := Option.some.inj hq; omega)) s9 (fun q hq => by have h : w.heap.size = q := Option.some.inj hq; omega)
      have O9 := own_kept (own_kept HOw.out s8 (fun q hq h => by have h1 : w1.heap.size = q := Option.some.inj hq; have := (HOw.out.lt q h).1; omega)) s9 (fun q hq h => by have h1 : w.heap.size = q := Option.some.inj hq; have := (HOw.out.lt q h).1; omega)
      refine ⟨OA, oc, K, by rw [hl], ?_, G9⟩
      exact own_rowF (by rw [hl]; exact O9) (by rw [hf]; exact HS.out _ G9)
    | cons t n s kd nm v y sub r =>
      have hiN : i < N := by simp only [Forest.len] at hir; omega
      have hiN' : i + 1 + r.len = N := by simp only [Forest.len] at hir; omega
      obtain ⟨b, o, SA, sc, Ls, Lr, rfl, hb, R1, hz, hs1, hs2, _⟩ := HRr.out
      have hsz2 : r.size ≤ f.size := by simp only [Forest.size] at hsz; omega
      have hsub : sub.size ≤ 1048576 := by simp only [Forest.size] at hsz; omega
      have HZ0 := hid hz
      have HS0 := hid hs1
      have HS1 := hid (hs1.grow HG.out)
      have HS2 := hid hs2
      have HR1 := hid (And.intro (rangeAt_grow R1 HG.out hb) (Nat.lt_of_lt_of_le hb HG.out.size))
      obtain ⟨RB, hRB⟩ : ∃ z, (Value.slice OA i oc).ownBlock = z := ⟨_, rfl⟩
      have hbase : ∀ g, RB = some g → w1.heap.size + 1 ≤ g ∧ g < wr.heap.size := fun g hg => HOw.out.lt g (hRB.trans hg)
      have HRB := hid (And.intro hRB hbase)
      have h9 := HLT.out
      have nrb : some b ≠ RB := fun e => by have := (hbase _ e.symm).1; omega
      have NRB := hid nrb
      have ne2 : some w1.heap.size ≠ RB := fun e => by have := hbase _ e.symm; omega
      have HNE := hid ne2
      have nz : RB ≠ some w.heap.size := fun e => by have := hbase _ e; omega
      have HNZ := hid nz
      clear hs1 hs2 hir hsz hRB hbase ne2 nrb nz R1 hb hz
      go_wp2_with fail
      refine wp_region_E 12 13 rfl (by kernel_rfl) (fun wd w' => wd.grownBy w' RB) fun wd gd => ?_
      have GD := hid gd
      have RD := hid (And.intro (rangeAt_grow HR1.out.1 GD.out HR1.out.2) (Nat.lt_of_lt_of_le HR1.out.2 GD.out.size))
      have XD := hid (HX.out.grow GD.out)
      have g0 : wd.grownBy wd RB := gb_refl _ _
      clear gd
      refine E_take 0 rfl (some 12) rfl (by kernel_rfl) (by kernel_rfl) (by kernel_rfl) (by kernel_rfl) (by decide) (fun _ _ _ _ h => h) rfl (.pointer (some ⟨w1.heap.size, 4, none⟩)) (fun w' hw => by go_simp) g0 ?_
      simp only [Act.put, List.setIfInBounds_toArray, List.set_cons_succ, List.set_cons_zero]
      refine E_take 1 rfl (some 13) rfl (by kernel_rfl) (by kernel_rfl) (by kernel_rfl) (by kernel_rfl) (by decide) (fun _ _ _ _ h => h) rfl (.slice OA i oc) (fun w' hw => by have fc := hw.cell XD.out.cells5.2.2.2.2 HNE.out; go_simp) g0 ?_
      simp only [Act.put, List.setIfInBounds_toArray, List.set_cons_succ, List.set_cons_zero]
      refine E_take 2 rfl (some 14) rfl (by kernel_rfl) (by kernel_rfl) (by kernel_rfl) (by kernel_rfl) (by decide) (fun _ _ _ _ h => h) rfl (.int .i64 i) (fun w' hw => run_mov (.tmp 4) rfl rfl) g0 ?_
      simp only [Act.put, List.setIfInBounds_toArray, List.set_cons_succ, List.set_cons_zero]
      refine E_take 3 rfl (some 15) rfl (by kernel_rfl) (by kernel_rfl) (by kernel_rfl) (by kernel_rfl) (by decide) (fun _ _ _ _ h => h) rfl (.agg #[.bool false, .int .i64 i, .string { data := #[] }]) (fun w' hw => by go_simp) g0 ?_
      simp only [Act.put, List.setIfInBounds_toArray, List.set_cons_succ, List.set_cons_zero]
      refine E_take 4 rfl (some 16) rfl (by kernel_rfl) (by kernel_rfl) (by kernel_rfl) (by kernel_rfl) (by decide) (fun _ _ _ _ h => h) rfl (.slice (some ⟨b, o, none⟩) N c) (fun w' hw => run_mov (.tmp 0) rfl rfl) g0 ?_
      simp only [Act.put, List.setIfInBounds_toArray, List.set_cons_succ, List.set_cons_zero]
      refine E_take 5 rfl (some 17) rfl (by kernel_rfl) (by kernel_rfl) (by kernel_rfl) (by kernel_rfl) (by decide) (fun _ _ _ _ h => h) rfl (.int .i64 i) (fun w' hw => run_mov (.tmp 4) rfl rfl) g0 ?_
      simp only [Act.put, List.setIfInBounds_toArray, List.set_cons_succ, List.set_cons_zero]
      refine E_take 6 rfl (some 18) rfl (by kernel_rfl) (by kernel_rfl) (by kernel_rfl) (by kernel_rfl) (by decide) (fun _ _ _ _ h => h) rfl (.pointer (some ⟨b, o + i * 5, none⟩)) (fun w' hw => by go_simp) g0 ?_
      simp only [Act.put, List.setIfInBounds_toArray, List.set_cons_succ, List.set_cons_zero]
      refine E_load 7 rfl (some 19) rfl (by kernel_rfl) (by kernel_rfl) (by kernel_rfl) (by kernel_rfl) (by decide) (fun _ _ _ _ h => h) rfl 31 (.tmp 18) rfl (b) (o + i * 5) rfl [.int .i64 kd, .int .i64 nm, .string v, .int .i64 y, .slice SA sub.len sc] (fun w' hw => rangeAt_kept RD.out.1 hw RD.out.2 NRB.out) Try.underlying31 rfl Try.infoV g0 ?_
      simp only [Act.put, List.setIfInBounds_toArray, List.set_cons_succ, List.set_cons_zero]
      have HC2 := HZ0
      have GDD := hid (gb_alloc (gb_refl wd none) (.cells #[.bool false, .int .i64 i, .string { data := #[] }, .int .i64 kd, .int .i64 nm, .string v, .int .i64 y, .slice SA sub.len sc] 61))
      have G2 := hid (gb_alloc GD.out (.cells #[.bool false, .int .i64 i, .string { data := #[] }, .int .i64 kd, .int .i64 nm, .string v, .int .i64 y, .slice SA sub.len sc] 61))
      refine E_only 8 (by kernel_rfl) (E_val 8 rfl (some 20) rfl rfl (.agg #[.bool false, .int .i64 i, .string { data := #[] }, .int .i64 kd, .int .i64 nm, .string v, .int .i64 y, .slice SA sub.len sc]) (wd) (by go_simp) ⟨fun _ => gb_refl _ _, ?_⟩)
      simp only [Act.put, List.setIfInBounds_toArray, List.set_cons_succ, List.set_cons_zero]
      refine E_only 9 (by kernel_rfl) (E_val 9 rfl (some 21) rfl rfl (.slice (some ⟨wd.heap.size, 0, none⟩) 1 1) (wd.alloc (.cells #[.bool false, .int .i64 i, .string { data := #[] }, .int .i64 kd, .int .i64 nm, .string v, .int .i64 y, .slice SA sub.len sc] 61)) (by go_simp) ⟨fun _ => gb_any GDD.out, ?_⟩)
      simp only [Act.put, List.setIfInBounds_toArray, List.set_cons_succ, List.set_cons_zero]
      have hws : w1.heap.size + 1 ≤ wr.heap.size := HX.out.lt
      have hO3 := own_grow HOw.out G2.out
      refine E_only 10 (by kernel_rfl) (E_append 10 rfl (some 22) rfl rfl (.tmp 13) (.tmp 21) 29 rfl (w1.heap.size + 1) 61 i0 entry0 8 96 Try.underlying29 HI.out.1 HI.out.2.1 HI.out.2.2.1 HI.out.2.2.2 rfl (by omega) (.slice OA i oc) i cs rfl hO3
        ⟨wd.heap.size, 0, none⟩ 1 1 [.bool false, .int .i64 i, .string { data := #[] }, .int .i64 kd, .int .i64 nm, .string v, .int .i64 y, .slice SA sub.len sc] rfl rfl (news_lit wd [.bool false, .int .i64 i, .string { data := #[] }, .int .i64 kd, .int .i64 nm, .string v, .int .i64 y, .slice SA sub.len sc] 61) (by simp [Value.oneCell']) (by unfold maxLen; omega) (by omega) (by have := G2.out.size; omega) ?_)
      intro A3 c3' w3 hown3 hA3 hg3 hat3
      rw [HRB.out.1] at hg3 hat3
      have GS := hid (gb_trans (gb_any GDD.out) hg3)
      refine ⟨fun _ => GS.out, ?_⟩
      have HOW3 := hid hown3
      have HA3 := hid hA3
      have HAT := hid hat3
      have HG3 := hid hg3
      clear hO3 hown3 hA3 hat3 hg3
      simp only [Act.put, List.setIfInBounds_toArray, List.set_cons_succ, List.set_cons_zero]
      refine E_only 11 (by kernel_rfl) (E_val 11 rfl (some 23) rfl rfl (.pointer (some ⟨w1.heap.size, 4, none⟩)) (w3) (by go_simp) ⟨fun _ => GS.out, ?_⟩)
      simp only [Act.put, List.setIfInBounds_toArray, List.set_cons_succ, List.set_cons_zero]
      have hX3 := XD.out.kept GS.out (fun e => HNE.out e.symm)
      have HX3 := hid hX3
      have fc := hX3.cells5.2.2.2.2
      have fz := hX3.frozen 4
      have fl := hX3.lt
      refine E_only 12 (by kernel_rfl) (E_skip 12 rfl none rfl rfl (w3.setCell ⟨w1.heap.size, 4, none⟩ (.slice A3 (i + 1) c3')) (by go_simp) ⟨fun h => absurd rfl h, ?_⟩)
      refine E_done (by kernel_rfl) ?_ _
      simp only [Act.put]
      clear hX3 fc fz fl
      go_wp2_with fail
      go_roundw
      case rel =>
        have s4 : w3.grownBy (w3.setCell ⟨w1.heap.size, 4, none⟩ (.slice A3 (i + 1) c3')) (some w1.heap.size) := gb_set (gb_refl _ _) (.inr rfl) _
        have hown4 := own_kept HOW3.out s4 (fun g hg h => by have h1 : w1.heap.size = g := Option.some.inj hg; have := (HOW3.out.lt g h).1; omega)
        have hE : f.listF 0 = (dn.app (.cons false i { data := #[] } kd nm v y sub .nil)).app (r.listF (i + 1)) := by rw [Forest.app_assoc, HE.out]; rfl
        have hD : (dn.app (.cons false i { data := #[] } kd nm v y sub .nil)).len = i + 1 := by rw [Forest.len_app, HD.out]; rfl
        have G3 := gb_fresh (gb_trans HG.out G2.out) HG3.out (fun g hg => by have := (HRB.out.2 g hg).1; omega)
        have G4 : w.grownBy (w3.setCell ⟨w1.heap.size, 4, none⟩ (.slice A3 (i + 1) c3')) none := gb_fresh G3 s4 (fun q hq => by have h : w1.heap.size = q := Option.some.inj hq; omega)
        refine ⟨i + 1, _, r, _, _, cs ++ [.bool false, .int .i64 i, .string { data := #[] }, .int .i64 kd, .int .i64 nm, .string v, .int .i64 y, .slice SA sub.len sc], A3, c3', hid hE, hiN', by go_num, hid HS2.out, hsz2, hid hD, hid (fun w9 h9 => (HS.out w9 h9).app (SubF.one false i { data := #[] } kd nm v y HZ0.out (HS0.out.grow h9))), hid hown4, HA3, hid (HX3.out.set 4 (.slice A3 (i + 1) c3')), hid (((HZ.out.grow G2.out).kept HG3.out HNZ.out).kept s4 (by intro e; injection e with e; omega)), hid G4⟩
      case measure => simp [intOf]; omega
set_option maxHeartbeats 1000000 in
theorem specList_any (f : Forest) (w : World) (A : Option Addr) (c : Nat) (L : List Nat) (hr : RowV w f A 0 f.len L) (hfs : f.size ≤ 1048576) :
    Calls Try.prog 25 #[.slice A f.len c] w (CopyPost w 4 0 { data := #[] } f.len (f.listF 0)) := by
  have HR := hid hr
  have hls : (f.listF 0).size ≤ 4194304 := by rw [Forest.listF_size]; omega
  clear hr
  go_enter Try.func25, Try.ntmps25
  go_wp2_with fail
  refine (specList6_any f _ A c L (HR.out.grow (gb_alloc (gb_refl w none) _)) hfs).mono ?_
  rintro e w1 ⟨A1, c1, L1, rfl, hr1, hg⟩
  have HZ1 := hid ((HoldsT.new w #[.int .i64 0, .int .i64 0, .string { data := #[] }, .int .i64 0, .slice none 0 0] 31).grow hg)
  have G1 := hid (gb_trans (gb_alloc (gb_refl w none) (.cells #[.int .i64 0, .int .i64 0, .string { data := #[] }, .int .i64 0, .slice none 0 0] 31)) hg)
  have HR1 := hid hr1
  clear hg hr1
  go_wp2_with fail
  refine (specCopy_any _ _ 4 0 _ _ A1 c1 L1 HR1.out hls).mono ?_
  rintro e w2 ⟨A2, c2, L2, rfl, h20, hT, hg⟩
  have H20 := hid h20
  have HZ2 := hid (HZ1.out.grow hg)
  have HT2 := hid hT
  have G2 := hid (gb_trans G1.out hg)
  have hlt : w.heap.size < w1.heap.size := HZ1.out.lt
  have HLT := hid hlt
  clear hT hg h20 hlt
  obtain ⟨r0, r1, r2, r3, r4⟩ := HZ2.out.cells5
  have y0 := HZ2.out.frozen 0; have y1 := HZ2.out.frozen 1; have y2 := HZ2.out.frozen 2; have y3 := HZ2.out.frozen 3; have y4 := HZ2.out.frozen 4
  have lz := HZ2.out.lt
  go_wp2_with fail
  refine bodyPost_ret (results_cell_row rfl _ _ _ _ _ (0, 0) _ rfl (HZ2.out.set5 _ _ _ _ _) Try.underlying31 rfl Try.infoV) rfl ?_
  have h9 := HLT.out
  exact ⟨A2, c2, L2, rfl, H20.out, (HT2.out.low (g := w.heap.size) (gb_set5 (gb_refl _ _) (.inr rfl) _ _ _ _ _) (by omega)).mono (by omega), gb_set5 G2.out (.inl (Nat.le_refl _)) _ _ _ _ _⟩
end Go.Proofs.Ytlfigoboeogegaa
