/- The law FnExactSetKey, walked (printed by lawgen2.py). -/
import Derived.Test.YtmbochhmeojmfaaDoorSetK
import Derived.Test.YtmbochhmeojmfaaDoorSz
import Derived.Test.YtmbochhmeojmfaaDoorTo
import Derived.Test.YtmbochhmeojmfaaDoorEq
import Derived.Test.YtmbochhmeojmfaaDoorMark
import Derived.Test.YtmbochhmeojmfaaDoorHeldE
import Derived.Test.YtmbochhmeojmfaaDoorLaw
import Derived.Test.YtmbochhmeojmfaaDoorHeldX
namespace Go.Proofs.YtmbochhmeojmfaaDoor
set_option maxRecDepth 20000
open Go.RowKit
set_option linter.unusedVariables false
set_option linter.unusedSimpArgs false

theorem Tryd.infoKL : (Tryd.prog.info? 45).map (·.size) = some 3 := by kernel_rfl
set_option maxRecDepth 100000 in
set_option maxHeartbeats 8000000 in
theorem setKey_walk (k0 m0 : Int) (u0 : ByteArray) (x0 : Int) (A0 : Option Addr) (n0 c0 : Nat) (f0 : Forest) (L0 : List Nat) (t1 : Bool) (p1 : Int) (s1 : ByteArray) (k2 m2 : Int) (u2 : ByteArray) (x2 : Int) (A2 : Option Addr) (n2 c2 : Nat) (f2 : Forest) (L2 : List Nat) (w : World) (_ha0 : A0 = none → c0 = 0) (hb0 : n0 ≤ maxLen) (hc0 : RowF w f0 A0 0 n0 L0) (hd0 : f0.ok) (he0 : u0.size ≤ maxLen) (_hf0 : (Lit.int .i64 k0).wf = true) (_hg0 : (Lit.int .i64 m0).wf = true) (_hh0 : (Lit.int .i64 x0).wf = true) (ha1 : s1.size ≤ maxLen) (hb1 : (Lit.int .i64 p1).wf = true) (_ha2 : A2 = none → c2 = 0) (hb2 : n2 ≤ maxLen) (hc2 : RowF w f2 A2 0 n2 L2) (hd2 : f2.ok) (he2 : u2.size ≤ maxLen) (_hf2 : (Lit.int .i64 k2).wf = true) (_hg2 : (Lit.int .i64 m2).wf = true) (_hh2 : (Lit.int .i64 x2).wf = true) (hL : LaidW w) :
    Calls Tryd.prog 5 #[.agg #[.int .i64 k0, .int .i64 m0, .string u0, .int .i64 x0, .slice A0 n0 c0], .agg #[.bool t1, .int .i64 p1, .string s1], .agg #[.int .i64 k2, .int .i64 m2, .string u2, .int .i64 x2, .slice A2 n2 c2]] w fun e w' => e = .returned (.bool true) ∧ Below w.heap.size w w' := by
  have HL := hid hL
  clear hL
  have hn0 : f0.len = n0 := by have := hc0.len; omega
  subst hn0
  have hn2 : f2.len = n2 := by have := hc2.len; omega
  subst hn2
  have GP := hid (show w.grownBy (((w.alloc (.cells #[.int .i64 k0, .int .i64 m0, .string u0, .int .i64 x0, .slice A0 f0.len c0] 40)).alloc (.cells #[.bool t1, .int .i64 p1, .string s1] 45)).alloc (.cells #[.int .i64 k2, .int .i64 m2, .string u2, .int .i64 x2, .slice A2 f2.len c2] 40)) none from gb_alloc (gb_alloc (gb_alloc (gb_refl w none) (.cells #[.int .i64 k0, .int .i64 m0, .string u0, .int .i64 x0, .slice A0 f0.len c0] 40)) (.cells #[.bool t1, .int .i64 p1, .string s1] 45)) (.cells #[.int .i64 k2, .int .i64 m2, .string u2, .int .i64 x2, .slice A2 f2.len c2] 40))
  have HB0 := hid (((HoldsT.new w #[.int .i64 k0, .int .i64 m0, .string u0, .int .i64 x0, .slice A0 f0.len c0] 40).alloc (.cells #[.bool t1, .int .i64 p1, .string s1] 45)).alloc (.cells #[.int .i64 k2, .int .i64 m2, .string u2, .int .i64 x2, .slice A2 f2.len c2] 40))
  have RP0 := hid (hc0.grow GP.out)
  have HO0 := hid (And.intro hd0 (And.intro hb0 he0))
  clear _ha0 hb0 hc0 hd0 he0 _hf0 _hg0 _hh0
  have HB1 := hid (show HoldsT (((w.alloc (.cells #[.int .i64 k0, .int .i64 m0, .string u0, .int .i64 x0, .slice A0 f0.len c0] 40)).alloc (.cells #[.bool t1, .int .i64 p1, .string s1] 45)).alloc (.cells #[.int .i64 k2, .int .i64 m2, .string u2, .int .i64 x2, .slice A2 f2.len c2] 40)) (w.heap.size + 1) #[.bool t1, .int .i64 p1, .string s1] 45 by simpa using ((HoldsT.new (w.alloc (.cells #[.int .i64 k0, .int .i64 m0, .string u0, .int .i64 x0, .slice A0 f0.len c0] 40)) #[.bool t1, .int .i64 p1, .string s1] 45).alloc (.cells #[.int .i64 k2, .int .i64 m2, .string u2, .int .i64 x2, .slice A2 f2.len c2] 40)))
  have HO1 := hid (And.intro ha1 hb1)
  clear ha1 hb1
  have HB2 := hid (show HoldsT (((w.alloc (.cells #[.int .i64 k0, .int .i64 m0, .string u0, .int .i64 x0, .slice A0 f0.len c0] 40)).alloc (.cells #[.bool t1, .int .i64 p1, .string s1] 45)).alloc (.cells #[.int .i64 k2, .int .i64 m2, .string u2, .int .i64 x2, .slice A2 f2.len c2] 40)) (w.heap.size + 1 + 1) #[.int .i64 k2, .int .i64 m2, .string u2, .int .i64 x2, .slice A2 f2.len c2] 40 by simpa using (HoldsT.new ((w.alloc (.cells #[.int .i64 k0, .int .i64 m0, .string u0, .int .i64 x0, .slice A0 f0.len c0] 40)).alloc (.cells #[.bool t1, .int .i64 p1, .string s1] 45)) #[.int .i64 k2, .int .i64 m2, .string u2, .int .i64 x2, .slice A2 f2.len c2] 40))
  have RP2 := hid (hc2.grow GP.out)
  have HO2 := hid (And.intro hd2 (And.intro hb2 he2))
  clear _ha2 hb2 hc2 hd2 he2 _hf2 _hg2 _hh2
  have GW := hid (gb_refl (((w.alloc (.cells #[.int .i64 k0, .int .i64 m0, .string u0, .int .i64 x0, .slice A0 f0.len c0] 40)).alloc (.cells #[.bool t1, .int .i64 p1, .string s1] 45)).alloc (.cells #[.int .i64 k2, .int .i64 m2, .string u2, .int .i64 x2, .slice A2 f2.len c2] 40)) none)
  obtain ⟨tp0, htp0⟩ : ∃ z, z = ((((w.alloc (.cells #[.int .i64 k0, .int .i64 m0, .string u0, .int .i64 x0, .slice A0 f0.len c0] 40)).alloc (.cells #[.bool t1, .int .i64 p1, .string s1] 45)).alloc (.cells #[.int .i64 k2, .int .i64 m2, .string u2, .int .i64 x2, .slice A2 f2.len c2] 40))).heap.size := ⟨_, rfl⟩
  have HT : Hid (tp0 ≤ ((((w.alloc (.cells #[.int .i64 k0, .int .i64 m0, .string u0, .int .i64 x0, .slice A0 f0.len c0] 40)).alloc (.cells #[.bool t1, .int .i64 p1, .string s1] 45)).alloc (.cells #[.int .i64 k2, .int .i64 m2, .string u2, .int .i64 x2, .slice A2 f2.len c2] 40))).heap.size) := hid (Nat.le_of_eq htp0)
  have HW0 : Hid (((((w.alloc (.cells #[.int .i64 k0, .int .i64 m0, .string u0, .int .i64 x0, .slice A0 f0.len c0] 40)).alloc (.cells #[.bool t1, .int .i64 p1, .string s1] 45)).alloc (.cells #[.int .i64 k2, .int .i64 m2, .string u2, .int .i64 x2, .slice A2 f2.len c2] 40))).heap.size ≤ tp0) := hid (Nat.le_of_eq htp0.symm)
  clear htp0
  obtain ⟨ab, hab⟩ := setB_some k0 t1 p1 s1
  obtain ⟨rx, D, hD⟩ := PutIs.some ab k0 x0 f0 t1 p1 s1 k2 m2 u2 x2 f2 (fun h => hab.elim (fun q => q.2.1) (fun q => absurd (h.symm.trans q.1) (by simp)))
  have hDs : D.size ≤ f0.size + f2.size + 1 := hD.size
  have HAB := hid hab
  have HD := hid hD
  clear hab hD
  go_enter Tryd.func5, Tryd.ntmps5
  obtain ⟨a1_0, a1_1, a1_2, a1_3, a1_4⟩ := (HB0.out.grow GW.out).cells5
  have la1 := (HB0.out.grow GW.out).lt
  go_wp2_with fail
  refine (szValue_any f0 (szEntryS_any f0) k0 m0 u0 x0 A0 c0 1048576 _ _ (RP0.out.grow GW.out) HO0.out.1 HO0.out.2.1 (by omega) HO0.out.2.2).mono ?_
  rintro e wz3 ⟨rfl, hg⟩
  clear a1_0 a1_1 a1_2 a1_3 a1_4 la1
  replace GW := hid (gb_trans GW.out hg)
  replace HT := hid (Nat.le_trans HT.out (hg).size)
  clear hg
  rcases leftI_cases 1048576 (u0.size + (f0.len + f0.sz)) with ⟨e1, _⟩ | ⟨q2, e1, hq2⟩
  · rw [e1]
    clear e1
    go_wp2_with fail
    go_ret
    exact ⟨rfl, gb_below (gb_trans GP.out GW.out)⟩
  rw [e1]
  have hfs0 : f0.size + q2 ≤ 1048576 := by have := f0.size_sz; omega
  have hqb2 : q2 ≤ 1048576 := by omega
  clear e1 hq2
  obtain ⟨a4_0, a4_1, a4_2⟩ := (HB1.out.grow GW.out).cells3
  have la4 := (HB1.out.grow GW.out).lt
  go_wp2_with fail
  refine (szKey_any t1 p1 s1 q2 _ HO1.out.1 (by omega)).mono ?_
  rintro e wz6 ⟨rfl, hg⟩
  clear a4_0 a4_1 a4_2 la4
  replace GW := hid (gb_trans GW.out hg)
  replace HT := hid (Nat.le_trans HT.out (hg).size)
  clear hg
  rcases Nat.lt_or_ge q2 s1.size with hk5 | hk5
  · rw [if_neg (by omega)]
    go_wp2_with fail
    go_ret
    exact ⟨rfl, gb_below (gb_trans GP.out GW.out)⟩
  rw [if_pos hk5]
  obtain ⟨q5, hq5⟩ : ∃ z, q2 - s1.size = z := ⟨_, rfl⟩
  rw [hq5]
  have hqb5 : q5 ≤ q2 := by omega
  clear hq5
  obtain ⟨a7_0, a7_1, a7_2, a7_3, a7_4⟩ := (HB2.out.grow GW.out).cells5
  have la7 := (HB2.out.grow GW.out).lt
  go_wp2_with fail
  refine (szValue_any f2 (szEntryS_any f2) k2 m2 u2 x2 A2 c2 q5 _ _ (RP2.out.grow GW.out) HO2.out.1 HO2.out.2.1 (by omega) HO2.out.2.2).mono ?_
  rintro e wz9 ⟨rfl, hg⟩
  clear a7_0 a7_1 a7_2 a7_3 a7_4 la7
  replace GW := hid (gb_trans GW.out hg)
  replace HT := hid (Nat.le_trans HT.out (hg).size)
  clear hg
  rcases leftI_cases q5 (u2.size + (f2.len + f2.sz)) with ⟨e1, _⟩ | ⟨q8, e1, hq8⟩
  · rw [e1]
    clear e1
    go_wp2_with fail
    go_ret
    exact ⟨rfl, gb_below (gb_trans GP.out GW.out)⟩
  rw [e1]
  have hfs2 : f2.size + q8 ≤ q5 := by have := f2.size_sz; omega
  have hqb8 : q8 ≤ q5 := by omega
  clear e1 hq8
  go_wp2_with fail
  refine wp_region_puts (X := Nat × Value × Value × Value × Value) (fun x w' => ∃ A' c' L' lo hi, x.2.2.2.2 = .agg #[.int .i64 k0, .int .i64 m0, .string u0, .int .i64 rx, .slice A' D.len c'] ∧ Tr w' 35 lo hi D A' L' ∧ HoldsT w' x.1 #[.int .i64 k0, .int .i64 m0, .string u0, .int .i64 rx, .slice A' D.len c'] 26 ∧ (tp0 ≤ lo ∧ lo ≤ hi ∧ hi ≤ w'.heap.size) ∧ (tp0 ≤ x.1 ∧ x.1 + 1 ≤ w'.heap.size ∧ (x.1 + 1 ≤ lo ∨ hi ≤ x.1)) ∧ wz9.grownBy w' none) (fun x => [(some 35, .agg #[.int .i64 k0, .int .i64 m0, .string u0, .int .i64 x0, .slice A0 f0.len c0]), (some 36, x.2.1), (some 37, .agg #[.bool t1, .int .i64 p1, .string s1]), (some 38, x.2.2.1), (some 39, .agg #[.int .i64 k2, .int .i64 m2, .string u2, .int .i64 x2, .slice A2 f2.len c2]), (some 40, x.2.2.2.1), (some 41, .tuple #[x.2.2.2.2, .bool ab]), (some 34, .tuple #[x.2.2.2.2, .bool ab]), (some 42, x.2.2.2.2), (some 43, .bool ab), (some 8, .pointer (some ⟨x.1, 0, none⟩)), (some 9, .bool ab)]) ?_ ?_
  · skip
    refine wp_region_E 999 13 rfl (by kernel_rfl) (fun wd w' => wd.grownBy w' none) fun wd gd => ?_
    have g0 : wd.grownBy wd none := gb_refl _ _
    have GI := hid gd
    replace GW := hid (gb_trans GW.out gd)
    replace HT := hid (Nat.le_trans HT.out (gd).size)
    clear gd
    have GD := hid g0
    refine E_load 0 rfl (some 35) rfl (by kernel_rfl) (by kernel_rfl) (by kernel_rfl) (by kernel_rfl) (by decide) (fun _ _ _ _ h => by cases h.1) rfl 40 (.tmp 3) rfl (w.heap.size) 0 rfl _ (fun w' hw => ((HB0.out.grow GW.out).grow hw).rangeV) Tryd.underlying40 rfl Tryd.infoVL g0 ?_
    simp only [Act.put, List.setIfInBounds_toArray, List.set_cons_succ, List.set_cons_zero]
    refine E_load 2 rfl (some 37) rfl (by kernel_rfl) (by kernel_rfl) (by kernel_rfl) (by kernel_rfl) (by decide) (fun _ _ _ _ h => by cases h.1) rfl 45 (.tmp 4) rfl (w.heap.size + 1) 0 rfl _ (fun w' hw => ((HB1.out.grow GW.out).grow hw).rangeV) Tryd.underlying45 rfl Tryd.infoKL g0 ?_
    simp only [Act.put, List.setIfInBounds_toArray, List.set_cons_succ, List.set_cons_zero]
    refine E_load 4 rfl (some 39) rfl (by kernel_rfl) (by kernel_rfl) (by kernel_rfl) (by kernel_rfl) (by decide) (fun _ _ _ _ h => by cases h.1) rfl 40 (.tmp 5) rfl (w.heap.size + 1 + 1) 0 rfl _ (fun w' hw => ((HB2.out.grow GW.out).grow hw).rangeV) Tryd.underlying40 rfl Tryd.infoVL g0 ?_
    simp only [Act.put, List.setIfInBounds_toArray, List.set_cons_succ, List.set_cons_zero]
    refine E_two 1 10 (by kernel_rfl) ?_ ?_
    · skip
      refine E_call 1 rfl (some 36) rfl rfl 20 _ (run_call1 _ (by kernel_rfl) (.tmp 35) _ (.agg #[.int .i64 k0, .int .i64 m0, .string u0, .int .i64 x0, .slice A0 f0.len c0]) rfl rfl) (toValue_any f0 (toEntryS_any f0) k0 m0 u0 x0 A0 c0 _ _ (RP0.out.grow GW.out) HO0.out.1 (by omega)) ?_
      rintro e wz11 ⟨B10, d10, M10, rfl, ha10, ho10, hg⟩
      obtain ⟨lo10, hi10, hT10, hlo10, hlh10, hhi10⟩ := own_tr ho10 hg HT.out
      have OR10 := hid (And.intro hlo10 hlh10); have HA10 := hid ha10.2
      replace GW := hid (gb_trans GW.out hg)
      replace HT := hid (Nat.le_trans HT.out (hg).size)
      replace GD := hid (gb_trans GD.out hg)
      clear hg
      have T10 := hid hT10; replace HT := hid hhi10
      clear ho10 ha10 hT10 hlo10 hlh10 hhi10
      refine ⟨_, rfl, fun _ => GD.out, ?_⟩
      simp only [Act.put, List.setIfInBounds_toArray, List.set_cons_succ, List.set_cons_zero]
      refine E_two 3 10 (by kernel_rfl) ?_ ?_
      · skip
        refine E_call 3 rfl (some 38) rfl rfl 24 _ (run_call1 _ (by kernel_rfl) (.tmp 37) _ (.agg #[.bool t1, .int .i64 p1, .string s1]) rfl rfl) (toKey_any t1 p1 s1 _) ?_
        rintro e wz12 ⟨rfl, hg⟩
        replace GW := hid (gb_trans GW.out hg)
        replace T10 := hid (T10.out.grow hg)
        replace HT := hid (Nat.le_trans HT.out (hg).size)
        replace GD := hid (gb_trans GD.out hg)
        clear hg
        refine ⟨_, rfl, fun _ => GD.out, ?_⟩
        simp only [Act.put, List.setIfInBounds_toArray, List.set_cons_succ, List.set_cons_zero]
        refine E_two 5 10 (by kernel_rfl) ?_ ?_
        · skip
          refine E_call 5 rfl (some 40) rfl rfl 20 _ (run_call1 _ (by kernel_rfl) (.tmp 39) _ (.agg #[.int .i64 k2, .int .i64 m2, .string u2, .int .i64 x2, .slice A2 f2.len c2]) rfl rfl) (toValue_any f2 (toEntryS_any f2) k2 m2 u2 x2 A2 c2 _ _ (RP2.out.grow GW.out) HO2.out.1 (by omega)) ?_
          rintro e wz14 ⟨B13, d13, M13, rfl, ha13, ho13, hg⟩
          obtain ⟨lo13, hi13, hT13, hlo13, hlh13, hhi13⟩ := own_tr ho13 hg HT.out
          have OR13 := hid (And.intro hlo13 hlh13); have HA13 := hid ha13.2
          replace GW := hid (gb_trans GW.out hg)
          replace T10 := hid (T10.out.grow hg)
          replace HT := hid (Nat.le_trans HT.out (hg).size)
          replace GD := hid (gb_trans GD.out hg)
          clear hg
          have T13 := hid hT13; replace HT := hid hhi13
          clear ho13 ha13 hT13 hlo13 hlh13 hhi13
          refine ⟨_, rfl, fun _ => GD.out, ?_⟩
          simp only [Act.put, List.setIfInBounds_toArray, List.set_cons_succ, List.set_cons_zero]
          refine E_two 6 10 (by kernel_rfl) ?_ ?_
          · skip
            refine E_call 6 rfl (some 41) rfl rfl 23 _ (run_call3 _ (by kernel_rfl) (.tmp 36) (.tmp 38) (.tmp 40) _ (.agg #[.int .i64 k0, .int .i64 m0, .string u0, .int .i64 x0, .slice B10 f0.len d10]) (.agg #[.bool t1, .int .i64 p1, .string s1]) (.agg #[.int .i64 k2, .int .i64 m2, .string u2, .int .i64 x2, .slice B13 f2.len d13]) rfl rfl rfl rfl) (specSetKey_any f0 f2 t1 p1 s1 _ k0 m0 u0 x0 B10 d10 _ k2 m2 u2 x2 B13 d13 _ ab rx D HAB.out HD.out (by omega) T10.out.1.1 (RowF.nil0 T10.out.1.1 HA10.out) (by omega) T13.out.1.1 (RowF.nil0 T13.out.1.1 HA13.out) (by omega)) ?_
            rintro e wz16 ⟨B15, d15, M15, rfl, _, hR, hg⟩
            obtain ⟨lo15, hi15, hT15, hlo15, hlh15, hhi15⟩ := own_tr hR.own hg HT.out
            have OR15 := hid (And.intro hlo15 hlh15)
            replace GW := hid (gb_trans GW.out hg)
            replace T10 := hid (T10.out.grow hg)
            replace T13 := hid (T13.out.grow hg)
            replace HT := hid (Nat.le_trans HT.out (hg).size)
            replace GD := hid (gb_trans GD.out hg)
            clear hg
            have T15 := hid hT15; replace HT := hid hhi15
            clear hR hT15 hlo15 hlh15 hhi15
            refine ⟨_, rfl, fun _ => GD.out, ?_⟩
            simp only [Act.put, List.setIfInBounds_toArray, List.set_cons_succ, List.set_cons_zero]
            refine E_take 7 rfl (some 34) rfl (by kernel_rfl) (by kernel_rfl) (by kernel_rfl) (by kernel_rfl) (by decide) (fun _ _ _ _ h => by cases h.1) rfl (.tuple #[.agg #[.int .i64 k0, .int .i64 m0, .string u0, .int .i64 rx, .slice B15 D.len d15], .bool ab]) (fun w' hw => run_mov (.tmp 41) rfl rfl) GD.out ?_
            simp only [Act.put, List.setIfInBounds_toArray, List.set_cons_succ, List.set_cons_zero]
            refine E_take 8 rfl (some 42) rfl (by kernel_rfl) (by kernel_rfl) (by kernel_rfl) (by kernel_rfl) (by decide) (fun _ _ _ _ h => by cases h.1) rfl (.agg #[.int .i64 k0, .int .i64 m0, .string u0, .int .i64 rx, .slice B15 D.len d15]) (fun w' hw => run_ext (.tmp 34) 0 rfl rfl rfl) GD.out ?_
            simp only [Act.put, List.setIfInBounds_toArray, List.set_cons_succ, List.set_cons_zero]
            refine E_take 9 rfl (some 43) rfl (by kernel_rfl) (by kernel_rfl) (by kernel_rfl) (by kernel_rfl) (by decide) (fun _ _ _ _ h => by cases h.1) rfl (.bool ab) (fun w' hw => run_ext (.tmp 34) 1 rfl rfl rfl) GD.out ?_
            simp only [Act.put, List.setIfInBounds_toArray, List.set_cons_succ, List.set_cons_zero]
            refine E_only 10 (by kernel_rfl) ?_
            have hge17 : wd.heap.size ≤ wz16.heap.size := GD.out.size
            have HGE17 := hid hge17
            clear hge17
            have X17 := hid (HoldsT.new wz16 #[.int .i64 0, .int .i64 0, .string { data := #[] }, .int .i64 0, .slice none 0 0] 26)
            have OR17 : Hid (hi15 ≤ wz16.heap.size) := HT
            replace GW := hid (gb_alloc GW.out (.cells #[.int .i64 0, .int .i64 0, .string { data := #[] }, .int .i64 0, .slice none 0 0] 26))
            replace T10 := hid (T10.out.grow (gb_alloc (gb_refl _ none) (.cells #[.int .i64 0, .int .i64 0, .string { data := #[] }, .int .i64 0, .slice none 0 0] 26)))
            replace T13 := hid (T13.out.grow (gb_alloc (gb_refl _ none) (.cells #[.int .i64 0, .int .i64 0, .string { data := #[] }, .int .i64 0, .slice none 0 0] 26)))
            replace T15 := hid (T15.out.grow (gb_alloc (gb_refl _ none) (.cells #[.int .i64 0, .int .i64 0, .string { data := #[] }, .int .i64 0, .slice none 0 0] 26)))
            replace GD := hid (gb_alloc GD.out (.cells #[.int .i64 0, .int .i64 0, .string { data := #[] }, .int .i64 0, .slice none 0 0] 26))
            refine E_val 10 rfl (some 8) rfl rfl (.pointer (some ⟨wz16.heap.size, 0, none⟩)) (wz16.alloc (.cells #[.int .i64 0, .int .i64 0, .string { data := #[] }, .int .i64 0, .slice none 0 0] 26)) (by go_simp) ⟨fun _ => GD.out, ?_⟩
            simp only [Act.put, List.setIfInBounds_toArray, List.set_cons_succ, List.set_cons_zero]
            replace HT := hid (show (wz16.heap.size + 1) ≤ (wz16.alloc (.cells #[.int .i64 0, .int .i64 0, .string { data := #[] }, .int .i64 0, .slice none 0 0] 26)).heap.size by simp)
            have s9 := gb_setCells (r := some (wz16.heap.size)) (.inr rfl) [.int .i64 k0, .int .i64 m0, .string u0, .int .i64 rx, .slice B15 D.len d15] 0 (gb_refl (wz16.alloc (.cells #[.int .i64 0, .int .i64 0, .string { data := #[] }, .int .i64 0, .slice none 0 0] 26)) (some (wz16.heap.size)))
            have x9 := hid (show HoldsT ((wz16.alloc (.cells #[.int .i64 0, .int .i64 0, .string { data := #[] }, .int .i64 0, .slice none 0 0] 26)).setCells (wz16.heap.size) 0 [.int .i64 k0, .int .i64 m0, .string u0, .int .i64 rx, .slice B15 D.len d15]) (wz16.heap.size) #[.int .i64 k0, .int .i64 m0, .string u0, .int .i64 rx, .slice B15 D.len d15] 26 by have h := X17.out.setCells [.int .i64 k0, .int .i64 m0, .string u0, .int .i64 rx, .slice B15 D.len d15] 0; simpa [setArr] using h)
            have gd9 := hid (gb_setCells (r := none) (.inl HGE17.out) [.int .i64 k0, .int .i64 m0, .string u0, .int .i64 rx, .slice B15 D.len d15] 0 GD.out)
            have m9 : MkI (wz16.alloc (.cells #[.int .i64 0, .int .i64 0, .string { data := #[] }, .int .i64 0, .slice none 0 0] 26)) ((wz16.alloc (.cells #[.int .i64 0, .int .i64 0, .string { data := #[] }, .int .i64 0, .slice none 0 0] 26)).setCells (wz16.heap.size) 0 [.int .i64 k0, .int .i64 m0, .string u0, .int .i64 rx, .slice B15 D.len d15]) (wz16.heap.size) (wz16.heap.size + 1) := ⟨s9.os, s9.tape, s9.output, s9.size, fun k hk hb => s9.block k hk (by intro e; injection e; omega)⟩
            have t9 := hid (T15.out.mk' m9 (by have := OR10.out; have := OR13.out; have := OR15.out; have := OR17.out; have := HW0.out; omega))
            have HF := hid (Nat.le_trans HT.out m9.size)
            refine E_only 11 (by kernel_rfl) (E_store 11 rfl none rfl rfl 26 (.tmp 8) (.tmp 42) rfl (wz16.heap.size) 0 [.int .i64 k0, .int .i64 m0, .string u0, .int .i64 rx, .slice B15 D.len d15] rfl rfl X17.out (by simp) Tryd.infoV rfl ⟨fun _ => gd9.out, ?_⟩)
            simp only [Act.put]
            clear GD s9 m9
            have GD := gd9
            refine E_only 12 (by kernel_rfl) (E_val 12 rfl (some 9) rfl rfl (.bool ab) _ (run_asg (.tmp 43) rfl rfl) ⟨fun _ => GD.out, ?_⟩)
            simp only [Act.put, List.setIfInBounds_toArray, List.set_cons_succ, List.set_cons_zero]
            refine E_done (by kernel_rfl) ?_ _
            exact ⟨rfl, ⟨wz16.heap.size, .agg #[.int .i64 k0, .int .i64 m0, .string u0, .int .i64 x0, .slice B10 f0.len d10], .agg #[.bool t1, .int .i64 p1, .string s1], .agg #[.int .i64 k2, .int .i64 m2, .string u2, .int .i64 x2, .slice B13 f2.len d13], .agg #[.int .i64 k0, .int .i64 m0, .string u0, .int .i64 rx, .slice B15 D.len d15]⟩, ⟨B15, d15, _, lo15, hi15, rfl, t9.out, x9.out, ⟨(by have := OR10.out; have := OR13.out; have := OR15.out; have := OR17.out; have := HW0.out; omega), (by have := OR10.out; have := OR13.out; have := OR15.out; have := OR17.out; have := HW0.out; omega), (by have := OR10.out; have := OR13.out; have := OR15.out; have := OR17.out; have := HW0.out; have := HF.out; omega)⟩, ⟨(by have := OR10.out; have := OR13.out; have := OR15.out; have := OR17.out; have := HW0.out; omega), x9.out.lt, (by have := OR10.out; have := OR13.out; have := OR15.out; have := OR17.out; have := HW0.out; omega)⟩, gb_trans GI.out GD.out⟩, by simp only [List.foldl, Act.put, List.setIfInBounds_toArray, List.set_cons_succ, List.set_cons_zero]⟩
          · skip
            have hge18 : wd.heap.size ≤ wz14.heap.size := GD.out.size
            have HGE18 := hid hge18
            clear hge18
            have X18 := hid (HoldsT.new wz14 #[.int .i64 0, .int .i64 0, .string { data := #[] }, .int .i64 0, .slice none 0 0] 26)
            have OR18 : Hid (hi13 ≤ wz14.heap.size) := HT
            replace GW := hid (gb_alloc GW.out (.cells #[.int .i64 0, .int .i64 0, .string { data := #[] }, .int .i64 0, .slice none 0 0] 26))
            replace T10 := hid (T10.out.grow (gb_alloc (gb_refl _ none) (.cells #[.int .i64 0, .int .i64 0, .string { data := #[] }, .int .i64 0, .slice none 0 0] 26)))
            replace T13 := hid (T13.out.grow (gb_alloc (gb_refl _ none) (.cells #[.int .i64 0, .int .i64 0, .string { data := #[] }, .int .i64 0, .slice none 0 0] 26)))
            replace GD := hid (gb_alloc GD.out (.cells #[.int .i64 0, .int .i64 0, .string { data := #[] }, .int .i64 0, .slice none 0 0] 26))
            refine E_val 10 rfl (some 8) rfl rfl (.pointer (some ⟨wz14.heap.size, 0, none⟩)) (wz14.alloc (.cells #[.int .i64 0, .int .i64 0, .string { data := #[] }, .int .i64 0, .slice none 0 0] 26)) (by go_simp) ⟨fun _ => GD.out, ?_⟩
            simp only [Act.put, List.setIfInBounds_toArray, List.set_cons_succ, List.set_cons_zero]
            replace HT := hid (show (wz14.heap.size + 1) ≤ (wz14.alloc (.cells #[.int .i64 0, .int .i64 0, .string { data := #[] }, .int .i64 0, .slice none 0 0] 26)).heap.size by simp)
            refine E_only 6 (by kernel_rfl) ?_
            refine E_call 6 rfl (some 41) rfl rfl 23 _ (run_call3 _ (by kernel_rfl) (.tmp 36) (.tmp 38) (.tmp 40) _ (.agg #[.int .i64 k0, .int .i64 m0, .string u0, .int .i64 x0, .slice B10 f0.len d10]) (.agg #[.bool t1, .int .i64 p1, .string s1]) (.agg #[.int .i64 k2, .int .i64 m2, .string u2, .int .i64 x2, .slice B13 f2.len d13]) rfl rfl rfl rfl) (specSetKey_any f0 f2 t1 p1 s1 _ k0 m0 u0 x0 B10 d10 _ k2 m2 u2 x2 B13 d13 _ ab rx D HAB.out HD.out (by omega) T10.out.1.1 (RowF.nil0 T10.out.1.1 HA10.out) (by omega) T13.out.1.1 (RowF.nil0 T13.out.1.1 HA13.out) (by omega)) ?_
            rintro e wz20 ⟨B19, d19, M19, rfl, _, hR, hg⟩
            obtain ⟨lo19, hi19, hT19, hlo19, hlh19, hhi19⟩ := own_tr hR.own hg X18.out.lt
            have OR19 := hid (And.intro hlo19 hlh19)
            replace GW := hid (gb_trans GW.out hg)
            replace T10 := hid (T10.out.grow hg)
            replace T13 := hid (T13.out.grow hg)
            replace X18 := hid (X18.out.grow hg)
            replace HT := hid (Nat.le_trans HT.out (hg).size)
            replace GD := hid (gb_trans GD.out hg)
            clear hg
            have T19 := hid hT19; replace HT := hid hhi19
            clear hR hT19 hlo19 hlh19 hhi19
            refine ⟨_, rfl, fun _ => GD.out, ?_⟩
            simp only [Act.put, List.setIfInBounds_toArray, List.set_cons_succ, List.set_cons_zero]
            refine E_take 7 rfl (some 34) rfl (by kernel_rfl) (by kernel_rfl) (by kernel_rfl) (by kernel_rfl) (by decide) (fun _ _ _ _ h => by cases h.1) rfl (.tuple #[.agg #[.int .i64 k0, .int .i64 m0, .string u0, .int .i64 rx, .slice B19 D.len d19], .bool ab]) (fun w' hw => run_mov (.tmp 41) rfl rfl) GD.out ?_
            simp only [Act.put, List.setIfInBounds_toArray, List.set_cons_succ, List.set_cons_zero]
            refine E_take 8 rfl (some 42) rfl (by kernel_rfl) (by kernel_rfl) (by kernel_rfl) (by kernel_rfl) (by decide) (fun _ _ _ _ h => by cases h.1) rfl (.agg #[.int .i64 k0, .int .i64 m0, .string u0, .int .i64 rx, .slice B19 D.len d19]) (fun w' hw => run_ext (.tmp 34) 0 rfl rfl rfl) GD.out ?_
            simp only [Act.put, List.setIfInBounds_toArray, List.set_cons_succ, List.set_cons_zero]
            refine E_take 9 rfl (some 43) rfl (by kernel_rfl) (by kernel_rfl) (by kernel_rfl) (by kernel_rfl) (by decide) (fun _ _ _ _ h => by cases h.1) rfl (.bool ab) (fun w' hw => run_ext (.tmp 34) 1 rfl rfl rfl) GD.out ?_
            simp only [Act.put, List.setIfInBounds_toArray, List.set_cons_succ, List.set_cons_zero]
            have s9 := gb_setCells (r := some (wz14.heap.size)) (.inr rfl) [.int .i64 k0, .int .i64 m0, .string u0, .int .i64 rx, .slice B19 D.len d19] 0 (gb_refl wz20 (some (wz14.heap.size)))
            have x9 := hid (show HoldsT (wz20.setCells (wz14.heap.size) 0 [.int .i64 k0, .int .i64 m0, .string u0, .int .i64 rx, .slice B19 D.len d19]) (wz14.heap.size) #[.int .i64 k0, .int .i64 m0, .string u0, .int .i64 rx, .slice B19 D.len d19] 26 by have h := X18.out.setCells [.int .i64 k0, .int .i64 m0, .string u0, .int .i64 rx, .slice B19 D.len d19] 0; simpa [setArr] using h)
            have gd9 := hid (gb_setCells (r := none) (.inl HGE18.out) [.int .i64 k0, .int .i64 m0, .string u0, .int .i64 rx, .slice B19 D.len d19] 0 GD.out)
            have m9 : MkI wz20 (wz20.setCells (wz14.heap.size) 0 [.int .i64 k0, .int .i64 m0, .string u0, .int .i64 rx, .slice B19 D.len d19]) (wz14.heap.size) (wz14.heap.size + 1) := ⟨s9.os, s9.tape, s9.output, s9.size, fun k hk hb => s9.block k hk (by intro e; injection e; omega)⟩
            have t9 := hid (T19.out.mk' m9 (by have := OR10.out; have := OR13.out; have := OR18.out; have := OR19.out; have := HW0.out; omega))
            have HF := hid (Nat.le_trans HT.out m9.size)
            refine E_only 11 (by kernel_rfl) (E_store 11 rfl none rfl rfl 26 (.tmp 8) (.tmp 42) rfl (wz14.heap.size) 0 [.int .i64 k0, .int .i64 m0, .string u0, .int .i64 rx, .slice B19 D.len d19] rfl rfl X18.out (by simp) Tryd.infoV rfl ⟨fun _ => gd9.out, ?_⟩)
            simp only [Act.put]
            clear GD s9 m9
            have GD := gd9
            refine E_only 12 (by kernel_rfl) (E_val 12 rfl (some 9) rfl rfl (.bool ab) _ (run_asg (.tmp 43) rfl rfl) ⟨fun _ => GD.out, ?_⟩)
            simp only [Act.put, List.setIfInBounds_toArray, List.set_cons_succ, List.set_cons_zero]
            refine E_done (by kernel_rfl) ?_ _
            exact ⟨rfl, ⟨wz14.heap.size, .agg #[.int .i64 k0, .int .i64 m0, .string u0, .int .i64 x0, .slice B10 f0.len d10], .agg #[.bool t1, .int .i64 p1, .string s1], .agg #[.int .i64 k2, .int .i64 m2, .string u2, .int .i64 x2, .slice B13 f2.len d13], .agg #[.int .i64 k0, .int .i64 m0, .string u0, .int .i64 rx, .slice B19 D.len d19]⟩, ⟨B19, d19, _, lo19, hi19, rfl, t9.out, x9.out, ⟨(by have := OR10.out; have := OR13.out; have := OR18.out; have := OR19.out; have := HW0.out; omega), (by have := OR10.out; have := OR13.out; have := OR18.out; have := OR19.out; have := HW0.out; omega), (by have := OR10.out; have := OR13.out; have := OR18.out; have := OR19.out; have := HW0.out; have := HF.out; omega)⟩, ⟨(by have := OR10.out; have := OR13.out; have := OR18.out; have := OR19.out; have := HW0.out; omega), x9.out.lt, (by have := OR10.out; have := OR13.out; have := OR18.out; have := OR19.out; have := HW0.out; omega)⟩, gb_trans GI.out GD.out⟩, by simp only [List.foldl, Act.put, List.setIfInBounds_toArray, List.set_cons_succ, List.set_cons_zero]⟩
        · skip
          have hge21 : wd.heap.size ≤ wz12.heap.size := GD.out.size
          have HGE21 := hid hge21
          clear hge21
          have X21 := hid (HoldsT.new wz12 #[.int .i64 0, .int .i64 0, .string { data := #[] }, .int .i64 0, .slice none 0 0] 26)
          have OR21 : Hid (hi10 ≤ wz12.heap.size) := HT
          replace GW := hid (gb_alloc GW.out (.cells #[.int .i64 0, .int .i64 0, .string { data := #[] }, .int .i64 0, .slice none 0 0] 26))
          replace T10 := hid (T10.out.grow (gb_alloc (gb_refl _ none) (.cells #[.int .i64 0, .int .i64 0, .string { data := #[] }, .int .i64 0, .slice none 0 0] 26)))
          replace GD := hid (gb_alloc GD.out (.cells #[.int .i64 0, .int .i64 0, .string { data := #[] }, .int .i64 0, .slice none 0 0] 26))
          refine E_val 10 rfl (some 8) rfl rfl (.pointer (some ⟨wz12.heap.size, 0, none⟩)) (wz12.alloc (.cells #[.int .i64 0, .int .i64 0, .string { data := #[] }, .int .i64 0, .slice none 0 0] 26)) (by go_simp) ⟨fun _ => GD.out, ?_⟩
          simp only [Act.put, List.setIfInBounds_toArray, List.set_cons_succ, List.set_cons_zero]
          replace HT := hid (show (wz12.heap.size + 1) ≤ (wz12.alloc (.cells #[.int .i64 0, .int .i64 0, .string { data := #[] }, .int .i64 0, .slice none 0 0] 26)).heap.size by simp)
          refine E_only 5 (by kernel_rfl) ?_
          refine E_call 5 rfl (some 40) rfl rfl 20 _ (run_call1 _ (by kernel_rfl) (.tmp 39) _ (.agg #[.int .i64 k2, .int .i64 m2, .string u2, .int .i64 x2, .slice A2 f2.len c2]) rfl rfl) (toValue_any f2 (toEntryS_any f2) k2 m2 u2 x2 A2 c2 _ _ (RP2.out.grow GW.out) HO2.out.1 (by omega)) ?_
          rintro e wz23 ⟨B22, d22, M22, rfl, ha22, ho22, hg⟩
          obtain ⟨lo22, hi22, hT22, hlo22, hlh22, hhi22⟩ := own_tr ho22 hg HT.out
          have OR22 := hid (And.intro hlo22 hlh22); have HA22 := hid ha22.2
          replace GW := hid (gb_trans GW.out hg)
          replace T10 := hid (T10.out.grow hg)
          replace X21 := hid (X21.out.grow hg)
          replace HT := hid (Nat.le_trans HT.out (hg).size)
          replace GD := hid (gb_trans GD.out hg)
          clear hg
          have T22 := hid hT22; replace HT := hid hhi22
          clear ho22 ha22 hT22 hlo22 hlh22 hhi22
          refine ⟨_, rfl, fun _ => GD.out, ?_⟩
          simp only [Act.put, List.setIfInBounds_toArray, List.set_cons_succ, List.set_cons_zero]
          refine E_only 6 (by kernel_rfl) ?_
          refine E_call 6 rfl (some 41) rfl rfl 23 _ (run_call3 _ (by kernel_rfl) (.tmp 36) (.tmp 38) (.tmp 40) _ (.agg #[.int .i64 k0, .int .i64 m0, .string u0, .int .i64 x0, .slice B10 f0.len d10]) (.agg #[.bool t1, .int .i64 p1, .string s1]) (.agg #[.int .i64 k2, .int .i64 m2, .string u2, .int .i64 x2, .slice B22 f2.len d22]) rfl rfl rfl rfl) (specSetKey_any f0 f2 t1 p1 s1 _ k0 m0 u0 x0 B10 d10 _ k2 m2 u2 x2 B22 d22 _ ab rx D HAB.out HD.out (by omega) T10.out.1.1 (RowF.nil0 T10.out.1.1 HA10.out) (by omega) T22.out.1.1 (RowF.nil0 T22.out.1.1 HA22.out) (by omega)) ?_
          rintro e wz25 ⟨B24, d24, M24, rfl, _, hR, hg⟩
          obtain ⟨lo24, hi24, hT24, hlo24, hlh24, hhi24⟩ := own_tr hR.own hg X21.out.lt
          have OR24 := hid (And.intro hlo24 hlh24)
          replace GW := hid (gb_trans GW.out hg)
          replace T10 := hid (T10.out.grow hg)
          replace X21 := hid (X21.out.grow hg)
          replace T22 := hid (T22.out.grow hg)
          replace HT := hid (Nat.le_trans HT.out (hg).size)
          replace GD := hid (gb_trans GD.out hg)
          clear hg
          have T24 := hid hT24; replace HT := hid hhi24
          clear hR hT24 hlo24 hlh24 hhi24
          refine ⟨_, rfl, fun _ => GD.out, ?_⟩
          simp only [Act.put, List.setIfInBounds_toArray, List.set_cons_succ, List.set_cons_zero]
          refine E_take 7 rfl (some 34) rfl (by kernel_rfl) (by kernel_rfl) (by kernel_rfl) (by kernel_rfl) (by decide) (fun _ _ _ _ h => by cases h.1) rfl (.tuple #[.agg #[.int .i64 k0, .int .i64 m0, .string u0, .int .i64 rx, .slice B24 D.len d24], .bool ab]) (fun w' hw => run_mov (.tmp 41) rfl rfl) GD.out ?_
          simp only [Act.put, List.setIfInBounds_toArray, List.set_cons_succ, List.set_cons_zero]
          refine E_take 8 rfl (some 42) rfl (by kernel_rfl) (by kernel_rfl) (by kernel_rfl) (by kernel_rfl) (by decide) (fun _ _ _ _ h => by cases h.1) rfl (.agg #[.int .i64 k0, .int .i64 m0, .string u0, .int .i64 rx, .slice B24 D.len d24]) (fun w' hw => run_ext (.tmp 34) 0 rfl rfl rfl) GD.out ?_
          simp only [Act.put, List.setIfInBounds_toArray, List.set_cons_succ, List.set_cons_zero]
          refine E_take 9 rfl (some 43) rfl (by kernel_rfl) (by kernel_rfl) (by kernel_rfl) (by kernel_rfl) (by decide) (fun _ _ _ _ h => by cases h.1) rfl (.bool ab) (fun w' hw => run_ext (.tmp 34) 1 rfl rfl rfl) GD.out ?_
          simp only [Act.put, List.setIfInBounds_toArray, List.set_cons_succ, List.set_cons_zero]
          have s9 := gb_setCells (r := some (wz12.heap.size)) (.inr rfl) [.int .i64 k0, .int .i64 m0, .string u0, .int .i64 rx, .slice B24 D.len d24] 0 (gb_refl wz25 (some (wz12.heap.size)))
          have x9 := hid (show HoldsT (wz25.setCells (wz12.heap.size) 0 [.int .i64 k0, .int .i64 m0, .string u0, .int .i64 rx, .slice B24 D.len d24]) (wz12.heap.size) #[.int .i64 k0, .int .i64 m0, .string u0, .int .i64 rx, .slice B24 D.len d24] 26 by have h := X21.out.setCells [.int .i64 k0, .int .i64 m0, .string u0, .int .i64 rx, .slice B24 D.len d24] 0; simpa [setArr] using h)
          have gd9 := hid (gb_setCells (r := none) (.inl HGE21.out) [.int .i64 k0, .int .i64 m0, .string u0, .int .i64 rx, .slice B24 D.len d24] 0 GD.out)
          have m9 : MkI wz25 (wz25.setCells (wz12.heap.size) 0 [.int .i64 k0, .int .i64 m0, .string u0, .int .i64 rx, .slice B24 D.len d24]) (wz12.heap.size) (wz12.heap.size + 1) := ⟨s9.os, s9.tape, s9.output, s9.size, fun k hk hb => s9.block k hk (by intro e; injection e; omega)⟩
          have t9 := hid (T24.out.mk' m9 (by have := OR10.out; have := OR21.out; have := OR22.out; have := OR24.out; have := HW0.out; omega))
          have HF := hid (Nat.le_trans HT.out m9.size)
          refine E_only 11 (by kernel_rfl) (E_store 11 rfl none rfl rfl 26 (.tmp 8) (.tmp 42) rfl (wz12.heap.size) 0 [.int .i64 k0, .int .i64 m0, .string u0, .int .i64 rx, .slice B24 D.len d24] rfl rfl X21.out (by simp) Tryd.infoV rfl ⟨fun _ => gd9.out, ?_⟩)
          simp only [Act.put]
          clear GD s9 m9
          have GD := gd9
          refine E_only 12 (by kernel_rfl) (E_val 12 rfl (some 9) rfl rfl (.bool ab) _ (run_asg (.tmp 43) rfl rfl) ⟨fun _ => GD.out, ?_⟩)
          simp only [Act.put, List.setIfInBounds_toArray, List.set_cons_succ, List.set_cons_zero]
          refine E_done (by kernel_rfl) ?_ _
          exact ⟨rfl, ⟨wz12.heap.size, .agg #[.int .i64 k0, .int .i64 m0, .string u0, .int .i64 x0, .slice B10 f0.len d10], .agg #[.bool t1, .int .i64 p1, .string s1], .agg #[.int .i64 k2, .int .i64 m2, .string u2, .int .i64 x2, .slice B22 f2.len d22], .agg #[.int .i64 k0, .int .i64 m0, .string u0, .int .i64 rx, .slice B24 D.len d24]⟩, ⟨B24, d24, _, lo24, hi24, rfl, t9.out, x9.out, ⟨(by have := OR10.out; have := OR21.out; have := OR22.out; have := OR24.out; have := HW0.out; omega), (by have := OR10.out; have := OR21.out; have := OR22.out; have := OR24.out; have := HW0.out; omega), (by have := OR10.out; have := OR21.out; have := OR22.out; have := OR24.out; have := HW0.out; have := HF.out; omega)⟩, ⟨(by have := OR10.out; have := OR21.out; have := OR22.out; have := OR24.out; have := HW0.out; omega), x9.out.lt, (by have := OR10.out; have := OR21.out; have := OR22.out; have := OR24.out; have := HW0.out; omega)⟩, gb_trans GI.out GD.out⟩, by simp only [List.foldl, Act.put, List.setIfInBounds_toArray, List.set_cons_succ, List.set_cons_zero]⟩
      · skip
        have hge26 : wd.heap.size ≤ wz11.heap.size := GD.out.size
        have HGE26 := hid hge26
        clear hge26
        have X26 := hid (HoldsT.new wz11 #[.int .i64 0, .int .i64 0, .string { data := #[] }, .int .i64 0, .slice none 0 0] 26)
        have OR26 : Hid (hi10 ≤ wz11.heap.size) := HT
        replace GW := hid (gb_alloc GW.out (.cells #[.int .i64 0, .int .i64 0, .string { data := #[] }, .int .i64 0, .slice none 0 0] 26))
        replace T10 := hid (T10.out.grow (gb_alloc (gb_refl _ none) (.cells #[.int .i64 0, .int .i64 0, .string { data := #[] }, .int .i64 0, .slice none 0 0] 26)))
        replace GD := hid (gb_alloc GD.out (.cells #[.int .i64 0, .int .i64 0, .string { data := #[] }, .int .i64 0, .slice none 0 0] 26))
        refine E_val 10 rfl (some 8) rfl rfl (.pointer (some ⟨wz11.heap.size, 0, none⟩)) (wz11.alloc (.cells #[.int .i64 0, .int .i64 0, .string { data := #[] }, .int .i64 0, .slice none 0 0] 26)) (by go_simp) ⟨fun _ => GD.out, ?_⟩
        simp only [Act.put, List.setIfInBounds_toArray, List.set_cons_succ, List.set_cons_zero]
        replace HT := hid (show (wz11.heap.size + 1) ≤ (wz11.alloc (.cells #[.int .i64 0, .int .i64 0, .string { data := #[] }, .int .i64 0, .slice none 0 0] 26)).heap.size by simp)
        refine E_only 3 (by kernel_rfl) ?_
        refine E_call 3 rfl (some 38) rfl rfl 24 _ (run_call1 _ (by kernel_rfl) (.tmp 37) _ (.agg #[.bool t1, .int .i64 p1, .string s1]) rfl rfl) (toKey_any t1 p1 s1 _) ?_
        rintro e wz27 ⟨rfl, hg⟩
        replace GW := hid (gb_trans GW.out hg)
        replace T10 := hid (T10.out.grow hg)
        replace X26 := hid (X26.out.grow hg)
        replace HT := hid (Nat.le_trans HT.out (hg).size)
        replace GD := hid (gb_trans GD.out hg)
        clear hg
        refine ⟨_, rfl, fun _ => GD.out, ?_⟩
        simp only [Act.put, List.setIfInBounds_toArray, List.set_cons_succ, List.set_cons_zero]
        refine E_only 5 (by kernel_rfl) ?_
        refine E_call 5 rfl (some 40) rfl rfl 20 _ (run_call1 _ (by kernel_rfl) (.tmp 39) _ (.agg #[.int .i64 k2, .int .i64 m2, .string u2, .int .i64 x2, .slice A2 f2.len c2]) rfl rfl) (toValue_any f2 (toEntryS_any f2) k2 m2 u2 x2 A2 c2 _ _ (RP2.out.grow GW.out) HO2.out.1 (by omega)) ?_
        rintro e wz29 ⟨B28, d28, M28, rfl, ha28, ho28, hg⟩
        obtain ⟨lo28, hi28, hT28, hlo28, hlh28, hhi28⟩ := own_tr ho28 hg HT.out
        have OR28 := hid (And.intro hlo28 hlh28); have HA28 := hid ha28.2
        replace GW := hid (gb_trans GW.out hg)
        replace T10 := hid (T10.out.grow hg)
        replace X26 := hid (X26.out.grow hg)
        replace HT := hid (Nat.le_trans HT.out (hg).size)
        replace GD := hid (gb_trans GD.out hg)
        clear hg
        have T28 := hid hT28; replace HT := hid hhi28
        clear ho28 ha28 hT28 hlo28 hlh28 hhi28
        refine ⟨_, rfl, fun _ => GD.out, ?_⟩
        simp only [Act.put, List.setIfInBounds_toArray, List.set_cons_succ, List.set_cons_zero]
        refine E_only 6 (by kernel_rfl) ?_
        refine E_call 6 rfl (some 41) rfl rfl 23 _ (run_call3 _ (by kernel_rfl) (.tmp 36) (.tmp 38) (.tmp 40) _ (.agg #[.int .i64 k0, .int .i64 m0, .string u0, .int .i64 x0, .slice B10 f0.len d10]) (.agg #[.bool t1, .int .i64 p1, .string s1]) (.agg #[.int .i64 k2, .int .i64 m2, .string u2, .int .i64 x2, .slice B28 f2.len d28]) rfl rfl rfl rfl) (specSetKey_any f0 f2 t1 p1 s1 _ k0 m0 u0 x0 B10 d10 _ k2 m2 u2 x2 B28 d28 _ ab rx D HAB.out HD.out (by omega) T10.out.1.1 (RowF.nil0 T10.out.1.1 HA10.out) (by omega) T28.out.1.1 (RowF.nil0 T28.out.1.1 HA28.out) (by omega)) ?_
        rintro e wz31 ⟨B30, d30, M30, rfl, _, hR, hg⟩
        obtain ⟨lo30, hi30, hT30, hlo30, hlh30, hhi30⟩ := own_tr hR.own hg X26.out.lt
        have OR30 := hid (And.intro hlo30 hlh30)
        replace GW := hid (gb_trans GW.out hg)
        replace T10 := hid (T10.out.grow hg)
        replace X26 := hid (X26.out.grow hg)
        replace T28 := hid (T28.out.grow hg)
        replace HT := hid (Nat.le_trans HT.out (hg).size)
        replace GD := hid (gb_trans GD.out hg)
        clear hg
        have T30 := hid hT30; replace HT := hid hhi30
        clear hR hT30 hlo30 hlh30 hhi30
        refine ⟨_, rfl, fun _ => GD.out, ?_⟩
        simp only [Act.put, List.setIfInBounds_toArray, List.set_cons_succ, List.set_cons_zero]
        refine E_take 7 rfl (some 34) rfl (by kernel_rfl) (by kernel_rfl) (by kernel_rfl) (by kernel_rfl) (by decide) (fun _ _ _ _ h => by cases h.1) rfl (.tuple #[.agg #[.int .i64 k0, .int .i64 m0, .string u0, .int .i64 rx, .slice B30 D.len d30], .bool ab]) (fun w' hw => run_mov (.tmp 41) rfl rfl) GD.out ?_
        simp only [Act.put, List.setIfInBounds_toArray, List.set_cons_succ, List.set_cons_zero]
        refine E_take 8 rfl (some 42) rfl (by kernel_rfl) (by kernel_rfl) (by kernel_rfl) (by kernel_rfl) (by decide) (fun _ _ _ _ h => by cases h.1) rfl (.agg #[.int .i64 k0, .int .i64 m0, .string u0, .int .i64 rx, .slice B30 D.len d30]) (fun w' hw => run_ext (.tmp 34) 0 rfl rfl rfl) GD.out ?_
        simp only [Act.put, List.setIfInBounds_toArray, List.set_cons_succ, List.set_cons_zero]
        refine E_take 9 rfl (some 43) rfl (by kernel_rfl) (by kernel_rfl) (by kernel_rfl) (by kernel_rfl) (by decide) (fun _ _ _ _ h => by cases h.1) rfl (.bool ab) (fun w' hw => run_ext (.tmp 34) 1 rfl rfl rfl) GD.out ?_
        simp only [Act.put, List.setIfInBounds_toArray, List.set_cons_succ, List.set_cons_zero]
        have s9 := gb_setCells (r := some (wz11.heap.size)) (.inr rfl) [.int .i64 k0, .int .i64 m0, .string u0, .int .i64 rx, .slice B30 D.len d30] 0 (gb_refl wz31 (some (wz11.heap.size)))
        have x9 := hid (show HoldsT (wz31.setCells (wz11.heap.size) 0 [.int .i64 k0, .int .i64 m0, .string u0, .int .i64 rx, .slice B30 D.len d30]) (wz11.heap.size) #[.int .i64 k0, .int .i64 m0, .string u0, .int .i64 rx, .slice B30 D.len d30] 26 by have h := X26.out.setCells [.int .i64 k0, .int .i64 m0, .string u0, .int .i64 rx, .slice B30 D.len d30] 0; simpa [setArr] using h)
        have gd9 := hid (gb_setCells (r := none) (.inl HGE26.out) [.int .i64 k0, .int .i64 m0, .string u0, .int .i64 rx, .slice B30 D.len d30] 0 GD.out)
        have m9 : MkI wz31 (wz31.setCells (wz11.heap.size) 0 [.int .i64 k0, .int .i64 m0, .string u0, .int .i64 rx, .slice B30 D.len d30]) (wz11.heap.size) (wz11.heap.size + 1) := ⟨s9.os, s9.tape, s9.output, s9.size, fun k hk hb => s9.block k hk (by intro e; injection e; omega)⟩
        have t9 := hid (T30.out.mk' m9 (by have := OR10.out; have := OR26.out; have := OR28.out; have := OR30.out; have := HW0.out; omega))
        have HF := hid (Nat.le_trans HT.out m9.size)
        refine E_only 11 (by kernel_rfl) (E_store 11 rfl none rfl rfl 26 (.tmp 8) (.tmp 42) rfl (wz11.heap.size) 0 [.int .i64 k0, .int .i64 m0, .string u0, .int .i64 rx, .slice B30 D.len d30] rfl rfl X26.out (by simp) Tryd.infoV rfl ⟨fun _ => gd9.out, ?_⟩)
        simp only [Act.put]
        clear GD s9 m9
        have GD := gd9
        refine E_only 12 (by kernel_rfl) (E_val 12 rfl (some 9) rfl rfl (.bool ab) _ (run_asg (.tmp 43) rfl rfl) ⟨fun _ => GD.out, ?_⟩)
        simp only [Act.put, List.setIfInBounds_toArray, List.set_cons_succ, List.set_cons_zero]
        refine E_done (by kernel_rfl) ?_ _
        exact ⟨rfl, ⟨wz11.heap.size, .agg #[.int .i64 k0, .int .i64 m0, .string u0, .int .i64 x0, .slice B10 f0.len d10], .agg #[.bool t1, .int .i64 p1, .string s1], .agg #[.int .i64 k2, .int .i64 m2, .string u2, .int .i64 x2, .slice B28 f2.len d28], .agg #[.int .i64 k0, .int .i64 m0, .string u0, .int .i64 rx, .slice B30 D.len d30]⟩, ⟨B30, d30, _, lo30, hi30, rfl, t9.out, x9.out, ⟨(by have := OR10.out; have := OR26.out; have := OR28.out; have := OR30.out; have := HW0.out; omega), (by have := OR10.out; have := OR26.out; have := OR28.out; have := OR30.out; have := HW0.out; omega), (by have := OR10.out; have := OR26.out; have := OR28.out; have := OR30.out; have := HW0.out; have := HF.out; omega)⟩, ⟨(by have := OR10.out; have := OR26.out; have := OR28.out; have := OR30.out; have := HW0.out; omega), x9.out.lt, (by have := OR10.out; have := OR26.out; have := OR28.out; have := OR30.out; have := HW0.out; omega)⟩, gb_trans GI.out GD.out⟩, by simp only [List.foldl, Act.put, List.setIfInBounds_toArray, List.set_cons_succ, List.set_cons_zero]⟩
    · skip
      have hge32 : wd.heap.size ≤ wd.heap.size := GD.out.size
      have HGE32 := hid hge32
      clear hge32
      have X32 := hid (HoldsT.new wd #[.int .i64 0, .int .i64 0, .string { data := #[] }, .int .i64 0, .slice none 0 0] 26)
      have OR32 : Hid (tp0 ≤ wd.heap.size) := HT
      replace GW := hid (gb_alloc GW.out (.cells #[.int .i64 0, .int .i64 0, .string { data := #[] }, .int .i64 0, .slice none 0 0] 26))
      replace GD := hid (gb_alloc GD.out (.cells #[.int .i64 0, .int .i64 0, .string { data := #[] }, .int .i64 0, .slice none 0 0] 26))
      refine E_val 10 rfl (some 8) rfl rfl (.pointer (some ⟨wd.heap.size, 0, none⟩)) (wd.alloc (.cells #[.int .i64 0, .int .i64 0, .string { data := #[] }, .int .i64 0, .slice none 0 0] 26)) (by go_simp) ⟨fun _ => GD.out, ?_⟩
      simp only [Act.put, List.setIfInBounds_toArray, List.set_cons_succ, List.set_cons_zero]
      replace HT := hid (show (wd.heap.size + 1) ≤ (wd.alloc (.cells #[.int .i64 0, .int .i64 0, .string { data := #[] }, .int .i64 0, .slice none 0 0] 26)).heap.size by simp)
      refine E_only 1 (by kernel_rfl) ?_
      refine E_call 1 rfl (some 36) rfl rfl 20 _ (run_call1 _ (by kernel_rfl) (.tmp 35) _ (.agg #[.int .i64 k0, .int .i64 m0, .string u0, .int .i64 x0, .slice A0 f0.len c0]) rfl rfl) (toValue_any f0 (toEntryS_any f0) k0 m0 u0 x0 A0 c0 _ _ (RP0.out.grow GW.out) HO0.out.1 (by omega)) ?_
      rintro e wz34 ⟨B33, d33, M33, rfl, ha33, ho33, hg⟩
      obtain ⟨lo33, hi33, hT33, hlo33, hlh33, hhi33⟩ := own_tr ho33 hg HT.out
      have OR33 := hid (And.intro hlo33 hlh33); have HA33 := hid ha33.2
      replace GW := hid (gb_trans GW.out hg)
      replace X32 := hid (X32.out.grow hg)
      replace HT := hid (Nat.le_trans HT.out (hg).size)
      replace GD := hid (gb_trans GD.out hg)
      clear hg
      have T33 := hid hT33; replace HT := hid hhi33
      clear ho33 ha33 hT33 hlo33 hlh33 hhi33
      refine ⟨_, rfl, fun _ => GD.out, ?_⟩
      simp only [Act.put, List.setIfInBounds_toArray, List.set_cons_succ, List.set_cons_zero]
      refine E_only 3 (by kernel_rfl) ?_
      refine E_call 3 rfl (some 38) rfl rfl 24 _ (run_call1 _ (by kernel_rfl) (.tmp 37) _ (.agg #[.bool t1, .int .i64 p1, .string s1]) rfl rfl) (toKey_any t1 p1 s1 _) ?_
      rintro e wz35 ⟨rfl, hg⟩
      replace GW := hid (gb_trans GW.out hg)
      replace X32 := hid (X32.out.grow hg)
      replace T33 := hid (T33.out.grow hg)
      replace HT := hid (Nat.le_trans HT.out (hg).size)
      replace GD := hid (gb_trans GD.out hg)
      clear hg
      refine ⟨_, rfl, fun _ => GD.out, ?_⟩
      simp only [Act.put, List.setIfInBounds_toArray, List.set_cons_succ, List.set_cons_zero]
      refine E_only 5 (by kernel_rfl) ?_
      refine E_call 5 rfl (some 40) rfl rfl 20 _ (run_call1 _ (by kernel_rfl) (.tmp 39) _ (.agg #[.int .i64 k2, .int .i64 m2, .string u2, .int .i64 x2, .slice A2 f2.len c2]) rfl rfl) (toValue_any f2 (toEntryS_any f2) k2 m2 u2 x2 A2 c2 _ _ (RP2.out.grow GW.out) HO2.out.1 (by omega)) ?_
      rintro e wz37 ⟨B36, d36, M36, rfl, ha36, ho36, hg⟩
      obtain ⟨lo36, hi36, hT36, hlo36, hlh36, hhi36⟩ := own_tr ho36 hg HT.out
      have OR36 := hid (And.intro hlo36 hlh36); have HA36 := hid ha36.2
      replace GW := hid (gb_trans GW.out hg)
      replace X32 := hid (X32.out.grow hg)
      replace T33 := hid (T33.out.grow hg)
      replace HT := hid (Nat.le_trans HT.out (hg).size)
      replace GD := hid (gb_trans GD.out hg)
      clear hg
      have T36 := hid hT36; replace HT := hid hhi36
      clear ho36 ha36 hT36 hlo36 hlh36 hhi36
      refine ⟨_, rfl, fun _ => GD.out, ?_⟩
      simp only [Act.put, List.setIfInBounds_toArray, List.set_cons_succ, List.set_cons_zero]
      refine E_only 6 (by kernel_rfl) ?_
      refine E_call 6 rfl (some 41) rfl rfl 23 _ (run_call3 _ (by kernel_rfl) (.tmp 36) (.tmp 38) (.tmp 40) _ (.agg #[.int .i64 k0, .int .i64 m0, .string u0, .int .i64 x0, .slice B33 f0.len d33]) (.agg #[.bool t1, .int .i64 p1, .string s1]) (.agg #[.int .i64 k2, .int .i64 m2, .string u2, .int .i64 x2, .slice B36 f2.len d36]) rfl rfl rfl rfl) (specSetKey_any f0 f2 t1 p1 s1 _ k0 m0 u0 x0 B33 d33 _ k2 m2 u2 x2 B36 d36 _ ab rx D HAB.out HD.out (by omega) T33.out.1.1 (RowF.nil0 T33.out.1.1 HA33.out) (by omega) T36.out.1.1 (RowF.nil0 T36.out.1.1 HA36.out) (by omega)) ?_
      rintro e wz39 ⟨B38, d38, M38, rfl, _, hR, hg⟩
      obtain ⟨lo38, hi38, hT38, hlo38, hlh38, hhi38⟩ := own_tr hR.own hg X32.out.lt
      have OR38 := hid (And.intro hlo38 hlh38)
      replace GW := hid (gb_trans GW.out hg)
      replace X32 := hid (X32.out.grow hg)
      replace T33 := hid (T33.out.grow hg)
      replace T36 := hid (T36.out.grow hg)
      replace HT := hid (Nat.le_trans HT.out (hg).size)
      replace GD := hid (gb_trans GD.out hg)
      clear hg
      have T38 := hid hT38; replace HT := hid hhi38
      clear hR hT38 hlo38 hlh38 hhi38
      refine ⟨_, rfl, fun _ => GD.out, ?_⟩
      simp only [Act.put, List.setIfInBounds_toArray, List.set_cons_succ, List.set_cons_zero]
      refine E_take 7 rfl (some 34) rfl (by kernel_rfl) (by kernel_rfl) (by kernel_rfl) (by kernel_rfl) (by decide) (fun _ _ _ _ h => by cases h.1) rfl (.tuple #[.agg #[.int .i64 k0, .int .i64 m0, .string u0, .int .i64 rx, .slice B38 D.len d38], .bool ab]) (fun w' hw => run_mov (.tmp 41) rfl rfl) GD.out ?_
      simp only [Act.put, List.setIfInBounds_toArray, List.set_cons_succ, List.set_cons_zero]
      refine E_take 8 rfl (some 42) rfl (by kernel_rfl) (by kernel_rfl) (by kernel_rfl) (by kernel_rfl) (by decide) (fun _ _ _ _ h => by cases h.1) rfl (.agg #[.int .i64 k0, .int .i64 m0, .string u0, .int .i64 rx, .slice B38 D.len d38]) (fun w' hw => run_ext (.tmp 34) 0 rfl rfl rfl) GD.out ?_
      simp only [Act.put, List.setIfInBounds_toArray, List.set_cons_succ, List.set_cons_zero]
      refine E_take 9 rfl (some 43) rfl (by kernel_rfl) (by kernel_rfl) (by kernel_rfl) (by kernel_rfl) (by decide) (fun _ _ _ _ h => by cases h.1) rfl (.bool ab) (fun w' hw => run_ext (.tmp 34) 1 rfl rfl rfl) GD.out ?_
      simp only [Act.put, List.setIfInBounds_toArray, List.set_cons_succ, List.set_cons_zero]
      have s9 := gb_setCells (r := some (wd.heap.size)) (.inr rfl) [.int .i64 k0, .int .i64 m0, .string u0, .int .i64 rx, .slice B38 D.len d38] 0 (gb_refl wz39 (some (wd.heap.size)))
      have x9 := hid (show HoldsT (wz39.setCells (wd.heap.size) 0 [.int .i64 k0, .int .i64 m0, .string u0, .int .i64 rx, .slice B38 D.len d38]) (wd.heap.size) #[.int .i64 k0, .int .i64 m0, .string u0, .int .i64 rx, .slice B38 D.len d38] 26 by have h := X32.out.setCells [.int .i64 k0, .int .i64 m0, .string u0, .int .i64 rx, .slice B38 D.len d38] 0; simpa [setArr] using h)
      have gd9 := hid (gb_setCells (r := none) (.inl HGE32.out) [.int .i64 k0, .int .i64 m0, .string u0, .int .i64 rx, .slice B38 D.len d38] 0 GD.out)
      have m9 : MkI wz39 (wz39.setCells (wd.heap.size) 0 [.int .i64 k0, .int .i64 m0, .string u0, .int .i64 rx, .slice B38 D.len d38]) (wd.heap.size) (wd.heap.size + 1) := ⟨s9.os, s9.tape, s9.output, s9.size, fun k hk hb => s9.block k hk (by intro e; injection e; omega)⟩
      have t9 := hid (T38.out.mk' m9 (by have := OR32.out; have := OR33.out; have := OR36.out; have := OR38.out; have := HW0.out; omega))
      have HF := hid (Nat.le_trans HT.out m9.size)
      refine E_only 11 (by kernel_rfl) (E_store 11 rfl none rfl rfl 26 (.tmp 8) (.tmp 42) rfl (wd.heap.size) 0 [.int .i64 k0, .int .i64 m0, .string u0, .int .i64 rx, .slice B38 D.len d38] rfl rfl X32.out (by simp) Tryd.infoV rfl ⟨fun _ => gd9.out, ?_⟩)
      simp only [Act.put]
      clear GD s9 m9
      have GD := gd9
      refine E_only 12 (by kernel_rfl) (E_val 12 rfl (some 9) rfl rfl (.bool ab) _ (run_asg (.tmp 43) rfl rfl) ⟨fun _ => GD.out, ?_⟩)
      simp only [Act.put, List.setIfInBounds_toArray, List.set_cons_succ, List.set_cons_zero]
      refine E_done (by kernel_rfl) ?_ _
      exact ⟨rfl, ⟨wd.heap.size, .agg #[.int .i64 k0, .int .i64 m0, .string u0, .int .i64 x0, .slice B33 f0.len d33], .agg #[.bool t1, .int .i64 p1, .string s1], .agg #[.int .i64 k2, .int .i64 m2, .string u2, .int .i64 x2, .slice B36 f2.len d36], .agg #[.int .i64 k0, .int .i64 m0, .string u0, .int .i64 rx, .slice B38 D.len d38]⟩, ⟨B38, d38, _, lo38, hi38, rfl, t9.out, x9.out, ⟨(by have := OR32.out; have := OR33.out; have := OR36.out; have := OR38.out; have := HW0.out; omega), (by have := OR32.out; have := OR33.out; have := OR36.out; have := OR38.out; have := HW0.out; omega), (by have := OR32.out; have := OR33.out; have := OR36.out; have := OR38.out; have := HW0.out; have := HF.out; omega)⟩, ⟨(by have := OR32.out; have := OR33.out; have := OR36.out; have := OR38.out; have := HW0.out; omega), x9.out.lt, (by have := OR32.out; have := OR33.out; have := OR36.out; have := OR38.out; have := HW0.out; omega)⟩, gb_trans GI.out GD.out⟩, by simp only [List.foldl, Act.put, List.setIfInBounds_toArray, List.set_cons_succ, List.set_cons_zero]⟩
  rintro ⟨bb40, vc40_0, vc40_1, vc40_2, vc40_3⟩ wz40 ⟨B40, d40, M40, lo40, hi40, hv40, hT40, hX40, ⟨ho40, hp40, hq40⟩, ⟨hr40, hs40, ht40⟩, hg⟩
  dsimp only at hv40 hX40 hr40 hs40 ht40
  subst hv40
  simp only [List.foldl, Act.put, List.setIfInBounds_toArray, List.set_cons_succ, List.set_cons_zero]
  obtain ⟨tp40, hu40, hv40⟩ : ∃ z, (hi40 ≤ z ∧ bb40 + 1 ≤ z) ∧ z ≤ wz40.heap.size := ⟨_, ⟨hq40, hs40⟩, Nat.le_refl _⟩
  have OR40 := hid (And.intro (And.intro ho40 hp40) (And.intro hr40 (And.intro ht40 hu40)))
  replace GW := hid (gb_trans GW.out hg)
  replace HT := hid (Nat.le_trans HT.out (hg).size)
  clear hg
  have T40 := hid hT40; have X40 := hid hX40; replace HT := hid hv40
  clear ho40 hp40 hq40 hr40 hs40 ht40 hu40 hv40 hT40 hX40
  obtain ⟨a41_0, a41_1, a41_2, a41_3, a41_4⟩ := (HB0.out.grow GW.out).cells5
  have la41 := (HB0.out.grow GW.out).lt
  go_wp2_with fail
  refine (toValue_any f0 (toEntryS_any f0) k0 m0 u0 x0 A0 c0 _ _ (RP0.out.grow GW.out) HO0.out.1 (by omega)).mono ?_
  rintro e wz43 ⟨B42, d42, M42, rfl, ha42, ho42, hg⟩
  clear a41_0 a41_1 a41_2 a41_3 a41_4 la41
  obtain ⟨lo42, hi42, hT42, hlo42, hlh42, hhi42⟩ := own_tr ho42 hg HT.out
  have OR42 := hid (And.intro hlo42 hlh42); have HA42 := hid ha42.2
  replace GW := hid (gb_trans GW.out hg)
  replace T40 := hid (T40.out.grow hg)
  replace X40 := hid (X40.out.grow hg)
  replace HT := hid (Nat.le_trans HT.out (hg).size)
  clear hg
  have T42 := hid hT42; replace HT := hid hhi42
  clear ho42 ha42 hT42 hlo42 hlh42 hhi42
  have X44 := hid (HoldsT.new wz43 #[.int .i64 k0, .int .i64 m0, .string u0, .int .i64 x0, .slice B42 f0.len d42] 26)
  replace GW := hid (gb_alloc GW.out (.cells #[.int .i64 k0, .int .i64 m0, .string u0, .int .i64 x0, .slice B42 f0.len d42] 26))
  replace T40 := hid (T40.out.grow (gb_alloc (gb_refl _ none) (.cells #[.int .i64 k0, .int .i64 m0, .string u0, .int .i64 x0, .slice B42 f0.len d42] 26)))
  replace X40 := hid (X40.out.grow (gb_alloc (gb_refl _ none) (.cells #[.int .i64 k0, .int .i64 m0, .string u0, .int .i64 x0, .slice B42 f0.len d42] 26)))
  replace T42 := hid (T42.out.grow (gb_alloc (gb_refl _ none) (.cells #[.int .i64 k0, .int .i64 m0, .string u0, .int .i64 x0, .slice B42 f0.len d42] 26)))
  have OR44 : Hid (hi42 ≤ wz43.heap.size) := HT; replace HT := hid (show wz43.heap.size + 1 ≤ (wz43.alloc (.cells #[.int .i64 k0, .int .i64 m0, .string u0, .int .i64 x0, .slice B42 f0.len d42] 26)).heap.size by simp)
  obtain ⟨a45_0, a45_1, a45_2, a45_3, a45_4⟩ := (HB2.out.grow GW.out).cells5
  have la45 := (HB2.out.grow GW.out).lt
  go_wp2_with fail
  refine (toValue_any f2 (toEntryS_any f2) k2 m2 u2 x2 A2 c2 _ _ (RP2.out.grow GW.out) HO2.out.1 (by omega)).mono ?_
  rintro e wz47 ⟨B46, d46, M46, rfl, ha46, ho46, hg⟩
  clear a45_0 a45_1 a45_2 a45_3 a45_4 la45
  obtain ⟨lo46, hi46, hT46, hlo46, hlh46, hhi46⟩ := own_tr ho46 hg HT.out
  have OR46 := hid (And.intro hlo46 hlh46); have HA46 := hid ha46.2
  replace GW := hid (gb_trans GW.out hg)
  replace T40 := hid (T40.out.grow hg)
  replace X40 := hid (X40.out.grow hg)
  replace T42 := hid (T42.out.grow hg)
  replace X44 := hid (X44.out.grow hg)
  replace HT := hid (Nat.le_trans HT.out (hg).size)
  clear hg
  have T46 := hid hT46; replace HT := hid hhi46
  clear ho46 ha46 hT46 hlo46 hlh46 hhi46
  have X48 := hid (HoldsT.new wz47 #[.int .i64 k2, .int .i64 m2, .string u2, .int .i64 x2, .slice B46 f2.len d46] 26)
  replace GW := hid (gb_alloc GW.out (.cells #[.int .i64 k2, .int .i64 m2, .string u2, .int .i64 x2, .slice B46 f2.len d46] 26))
  replace T40 := hid (T40.out.grow (gb_alloc (gb_refl _ none) (.cells #[.int .i64 k2, .int .i64 m2, .string u2, .int .i64 x2, .slice B46 f2.len d46] 26)))
  replace X40 := hid (X40.out.grow (gb_alloc (gb_refl _ none) (.cells #[.int .i64 k2, .int .i64 m2, .string u2, .int .i64 x2, .slice B46 f2.len d46] 26)))
  replace T42 := hid (T42.out.grow (gb_alloc (gb_refl _ none) (.cells #[.int .i64 k2, .int .i64 m2, .string u2, .int .i64 x2, .slice B46 f2.len d46] 26)))
  replace X44 := hid (X44.out.grow (gb_alloc (gb_refl _ none) (.cells #[.int .i64 k2, .int .i64 m2, .string u2, .int .i64 x2, .slice B46 f2.len d46] 26)))
  replace T46 := hid (T46.out.grow (gb_alloc (gb_refl _ none) (.cells #[.int .i64 k2, .int .i64 m2, .string u2, .int .i64 x2, .slice B46 f2.len d46] 26)))
  have OR48 : Hid (hi46 ≤ wz47.heap.size) := HT; replace HT := hid (show wz47.heap.size + 1 ≤ (wz47.alloc (.cells #[.int .i64 k2, .int .i64 m2, .string u2, .int .i64 x2, .slice B46 f2.len d46] 26)).heap.size by simp)
  go_wp2_with fail
  refine wp_region_puts (X := Nat × Value × Value) (fun x w' => ∃ A' c' L' lo hi, x.2.2 = .agg #[.int .i64 k0, .int .i64 m0, .string u0, .int .i64 rx, .slice A' D.len c'] ∧ Tr w' 35 lo hi D A' L' ∧ HoldsT w' x.1 #[.int .i64 k0, .int .i64 m0, .string u0, .int .i64 rx, .slice A' D.len c'] 26 ∧ ((wz47.heap.size + 1) ≤ lo ∧ lo ≤ hi ∧ hi ≤ w'.heap.size) ∧ ((wz47.heap.size + 1) ≤ x.1 ∧ x.1 + 1 ≤ w'.heap.size ∧ (x.1 + 1 ≤ lo ∨ hi ≤ x.1)) ∧ (wz47.alloc (.cells #[.int .i64 k2, .int .i64 m2, .string u2, .int .i64 x2, .slice B46 f2.len d46] 26)).grownBy w' none) (fun x => [(some 49, .agg #[.int .i64 k0, .int .i64 m0, .string u0, .int .i64 x0, .slice B42 f0.len d42]), (some 50, .agg #[.bool t1, .int .i64 p1, .string s1]), (some 51, x.2.1), (some 52, .agg #[.int .i64 k2, .int .i64 m2, .string u2, .int .i64 x2, .slice B46 f2.len d46]), (some 53, .tuple #[x.2.2, .bool ab]), (some 48, .tuple #[x.2.2, .bool ab]), (some 54, x.2.2), (some 55, .bool ab), (some 12, .pointer (some ⟨x.1, 0, none⟩)), (some 13, .bool ab)]) ?_ ?_
  · skip
    refine wp_region_E 999 11 rfl (by kernel_rfl) (fun wd w' => wd.grownBy w' none) fun wd gd => ?_
    have g0 : wd.grownBy wd none := gb_refl _ _
    have GI := hid gd
    replace GW := hid (gb_trans GW.out gd)
    replace T40 := hid (T40.out.grow gd)
    replace X40 := hid (X40.out.grow gd)
    replace T42 := hid (T42.out.grow gd)
    replace X44 := hid (X44.out.grow gd)
    replace T46 := hid (T46.out.grow gd)
    replace X48 := hid (X48.out.grow gd)
    replace HT := hid (Nat.le_trans HT.out (gd).size)
    clear gd
    have GD := hid g0
    refine E_load 0 rfl (some 49) rfl (by kernel_rfl) (by kernel_rfl) (by kernel_rfl) (by kernel_rfl) (by decide) (fun _ _ _ _ h => by cases h.1) rfl 26 (.tmp 10) rfl (wz43.heap.size) 0 rfl _ (fun w' hw => (X44.out.grow hw).rangeV) Tryd.underlying26 rfl Tryd.infoV g0 ?_
    simp only [Act.put, List.setIfInBounds_toArray, List.set_cons_succ, List.set_cons_zero]
    refine E_load 1 rfl (some 50) rfl (by kernel_rfl) (by kernel_rfl) (by kernel_rfl) (by kernel_rfl) (by decide) (fun _ _ _ _ h => by cases h.1) rfl 45 (.tmp 4) rfl (w.heap.size + 1) 0 rfl _ (fun w' hw => ((HB1.out.grow GW.out).grow hw).rangeV) Tryd.underlying45 rfl Tryd.infoKL g0 ?_
    simp only [Act.put, List.setIfInBounds_toArray, List.set_cons_succ, List.set_cons_zero]
    refine E_load 3 rfl (some 52) rfl (by kernel_rfl) (by kernel_rfl) (by kernel_rfl) (by kernel_rfl) (by decide) (fun _ _ _ _ h => by cases h.1) rfl 26 (.tmp 11) rfl (wz47.heap.size) 0 rfl _ (fun w' hw => (X48.out.grow hw).rangeV) Tryd.underlying26 rfl Tryd.infoV g0 ?_
    simp only [Act.put, List.setIfInBounds_toArray, List.set_cons_succ, List.set_cons_zero]
    refine E_two 2 8 (by kernel_rfl) ?_ ?_
    · skip
      refine E_call 2 rfl (some 51) rfl rfl 24 _ (run_call1 _ (by kernel_rfl) (.tmp 50) _ (.agg #[.bool t1, .int .i64 p1, .string s1]) rfl rfl) (toKey_any t1 p1 s1 _) ?_
      rintro e wz49 ⟨rfl, hg⟩
      replace GW := hid (gb_trans GW.out hg)
      replace T40 := hid (T40.out.grow hg)
      replace X40 := hid (X40.out.grow hg)
      replace T42 := hid (T42.out.grow hg)
      replace X44 := hid (X44.out.grow hg)
      replace T46 := hid (T46.out.grow hg)
      replace X48 := hid (X48.out.grow hg)
      replace HT := hid (Nat.le_trans HT.out (hg).size)
      replace GD := hid (gb_trans GD.out hg)
      clear hg
      refine ⟨_, rfl, fun _ => GD.out, ?_⟩
      simp only [Act.put, List.setIfInBounds_toArray, List.set_cons_succ, List.set_cons_zero]
      refine E_two 4 8 (by kernel_rfl) ?_ ?_
      · skip
        refine E_call 4 rfl (some 53) rfl rfl 25 _ (run_call3 _ (by kernel_rfl) (.tmp 49) (.tmp 51) (.tmp 52) _ (.agg #[.int .i64 k0, .int .i64 m0, .string u0, .int .i64 x0, .slice B42 f0.len d42]) (.agg #[.bool t1, .int .i64 p1, .string s1]) (.agg #[.int .i64 k2, .int .i64 m2, .string u2, .int .i64 x2, .slice B46 f2.len d46]) rfl rfl rfl rfl) (implSetKey_any f0 f2 t1 p1 s1 _ k0 m0 u0 x0 B42 d42 _ k2 m2 u2 x2 B46 d46 _ ab rx D HAB.out HD.out (by omega) T42.out.1.1 (by omega) T46.out.1.1 (by omega) (HL.out.grow (gb_trans GP.out GW.out))) ?_
        rintro e wz51 ⟨B50, d50, M50, rfl, _, hR, hg⟩
        obtain ⟨lo50, hi50, hT50, hlo50, hlh50, hhi50⟩ := own_tr hR.own hg HT.out
        have OR50 := hid (And.intro hlo50 hlh50)
        replace GW := hid (gb_trans GW.out hg)
        replace T40 := hid (T40.out.grow hg)
        replace X40 := hid (X40.out.grow hg)
        replace T42 := hid (T42.out.grow hg)
        replace X44 := hid (X44.out.grow hg)
        replace T46 := hid (T46.out.grow hg)
        replace X48 := hid (X48.out.grow hg)
        replace HT := hid (Nat.le_trans HT.out (hg).size)
        replace GD := hid (gb_trans GD.out hg)
        clear hg
        have T50 := hid hT50; replace HT := hid hhi50
        clear hR hT50 hlo50 hlh50 hhi50
        refine ⟨_, rfl, fun _ => GD.out, ?_⟩
        simp only [Act.put, List.setIfInBounds_toArray, List.set_cons_succ, List.set_cons_zero]
        refine E_take 5 rfl (some 48) rfl (by kernel_rfl) (by kernel_rfl) (by kernel_rfl) (by kernel_rfl) (by decide) (fun _ _ _ _ h => by cases h.1) rfl (.tuple #[.agg #[.int .i64 k0, .int .i64 m0, .string u0, .int .i64 rx, .slice B50 D.len d50], .bool ab]) (fun w' hw => run_mov (.tmp 53) rfl rfl) GD.out ?_
        simp only [Act.put, List.setIfInBounds_toArray, List.set_cons_succ, List.set_cons_zero]
        refine E_take 6 rfl (some 54) rfl (by kernel_rfl) (by kernel_rfl) (by kernel_rfl) (by kernel_rfl) (by decide) (fun _ _ _ _ h => by cases h.1) rfl (.agg #[.int .i64 k0, .int .i64 m0, .string u0, .int .i64 rx, .slice B50 D.len d50]) (fun w' hw => run_ext (.tmp 48) 0 rfl rfl rfl) GD.out ?_
        simp only [Act.put, List.setIfInBounds_toArray, List.set_cons_succ, List.set_cons_zero]
        refine E_take 7 rfl (some 55) rfl (by kernel_rfl) (by kernel_rfl) (by kernel_rfl) (by kernel_rfl) (by decide) (fun _ _ _ _ h => by cases h.1) rfl (.bool ab) (fun w' hw => run_ext (.tmp 48) 1 rfl rfl rfl) GD.out ?_
        simp only [Act.put, List.setIfInBounds_toArray, List.set_cons_succ, List.set_cons_zero]
        refine E_only 8 (by kernel_rfl) ?_
        have hge52 : wd.heap.size ≤ wz51.heap.size := GD.out.size
        have HGE52 := hid hge52
        clear hge52
        have X52 := hid (HoldsT.new wz51 #[.int .i64 0, .int .i64 0, .string { data := #[] }, .int .i64 0, .slice none 0 0] 26)
        have OR52 : Hid (hi50 ≤ wz51.heap.size) := HT
        replace GW := hid (gb_alloc GW.out (.cells #[.int .i64 0, .int .i64 0, .string { data := #[] }, .int .i64 0, .slice none 0 0] 26))
        replace T40 := hid (T40.out.grow (gb_alloc (gb_refl _ none) (.cells #[.int .i64 0, .int .i64 0, .string { data := #[] }, .int .i64 0, .slice none 0 0] 26)))
        replace X40 := hid (X40.out.grow (gb_alloc (gb_refl _ none) (.cells #[.int .i64 0, .int .i64 0, .string { data := #[] }, .int .i64 0, .slice none 0 0] 26)))
        replace T42 := hid (T42.out.grow (gb_alloc (gb_refl _ none) (.cells #[.int .i64 0, .int .i64 0, .string { data := #[] }, .int .i64 0, .slice none 0 0] 26)))
        replace X44 := hid (X44.out.grow (gb_alloc (gb_refl _ none) (.cells #[.int .i64 0, .int .i64 0, .string { data := #[] }, .int .i64 0, .slice none 0 0] 26)))
        replace T46 := hid (T46.out.grow (gb_alloc (gb_refl _ none) (.cells #[.int .i64 0, .int .i64 0, .string { data := #[] }, .int .i64 0, .slice none 0 0] 26)))
        replace X48 := hid (X48.out.grow (gb_alloc (gb_refl _ none) (.cells #[.int .i64 0, .int .i64 0, .string { data := #[] }, .int .i64 0, .slice none 0 0] 26)))
        replace T50 := hid (T50.out.grow (gb_alloc (gb_refl _ none) (.cells #[.int .i64 0, .int .i64 0, .string { data := #[] }, .int .i64 0, .slice none 0 0] 26)))
        replace GD := hid (gb_alloc GD.out (.cells #[.int .i64 0, .int .i64 0, .string { data := #[] }, .int .i64 0, .slice none 0 0] 26))
        refine E_val 8 rfl (some 12) rfl rfl (.pointer (some ⟨wz51.heap.size, 0, none⟩)) (wz51.alloc (.cells #[.int .i64 0, .int .i64 0, .string { data := #[] }, .int .i64 0, .slice none 0 0] 26)) (by go_simp) ⟨fun _ => GD.out, ?_⟩
        simp only [Act.put, List.setIfInBounds_toArray, List.set_cons_succ, List.set_cons_zero]
        replace HT := hid (show (wz51.heap.size + 1) ≤ (wz51.alloc (.cells #[.int .i64 0, .int .i64 0, .string { data := #[] }, .int .i64 0, .slice none 0 0] 26)).heap.size by simp)
        have s9 := gb_setCells (r := some (wz51.heap.size)) (.inr rfl) [.int .i64 k0, .int .i64 m0, .string u0, .int .i64 rx, .slice B50 D.len d50] 0 (gb_refl (wz51.alloc (.cells #[.int .i64 0, .int .i64 0, .string { data := #[] }, .int .i64 0, .slice none 0 0] 26)) (some (wz51.heap.size)))
        have x9 := hid (show HoldsT ((wz51.alloc (.cells #[.int .i64 0, .int .i64 0, .string { data := #[] }, .int .i64 0, .slice none 0 0] 26)).setCells (wz51.heap.size) 0 [.int .i64 k0, .int .i64 m0, .string u0, .int .i64 rx, .slice B50 D.len d50]) (wz51.heap.size) #[.int .i64 k0, .int .i64 m0, .string u0, .int .i64 rx, .slice B50 D.len d50] 26 by have h := X52.out.setCells [.int .i64 k0, .int .i64 m0, .string u0, .int .i64 rx, .slice B50 D.len d50] 0; simpa [setArr] using h)
        have gd9 := hid (gb_setCells (r := none) (.inl HGE52.out) [.int .i64 k0, .int .i64 m0, .string u0, .int .i64 rx, .slice B50 D.len d50] 0 GD.out)
        have m9 : MkI (wz51.alloc (.cells #[.int .i64 0, .int .i64 0, .string { data := #[] }, .int .i64 0, .slice none 0 0] 26)) ((wz51.alloc (.cells #[.int .i64 0, .int .i64 0, .string { data := #[] }, .int .i64 0, .slice none 0 0] 26)).setCells (wz51.heap.size) 0 [.int .i64 k0, .int .i64 m0, .string u0, .int .i64 rx, .slice B50 D.len d50]) (wz51.heap.size) (wz51.heap.size + 1) := ⟨s9.os, s9.tape, s9.output, s9.size, fun k hk hb => s9.block k hk (by intro e; injection e; omega)⟩
        have t9 := hid (T50.out.mk' m9 (by have := OR40.out; have := OR42.out; have := OR44.out; have := OR46.out; have := OR48.out; have := OR50.out; have := OR52.out; have := HW0.out; omega))
        have HF := hid (Nat.le_trans HT.out m9.size)
        refine E_only 9 (by kernel_rfl) (E_store 9 rfl none rfl rfl 26 (.tmp 12) (.tmp 54) rfl (wz51.heap.size) 0 [.int .i64 k0, .int .i64 m0, .string u0, .int .i64 rx, .slice B50 D.len d50] rfl rfl X52.out (by simp) Tryd.infoV rfl ⟨fun _ => gd9.out, ?_⟩)
        simp only [Act.put]
        clear GD s9 m9
        have GD := gd9
        refine E_only 10 (by kernel_rfl) (E_val 10 rfl (some 13) rfl rfl (.bool ab) _ (run_asg (.tmp 55) rfl rfl) ⟨fun _ => GD.out, ?_⟩)
        simp only [Act.put, List.setIfInBounds_toArray, List.set_cons_succ, List.set_cons_zero]
        refine E_done (by kernel_rfl) ?_ _
        exact ⟨rfl, ⟨wz51.heap.size, .agg #[.bool t1, .int .i64 p1, .string s1], .agg #[.int .i64 k0, .int .i64 m0, .string u0, .int .i64 rx, .slice B50 D.len d50]⟩, ⟨B50, d50, _, lo50, hi50, rfl, t9.out, x9.out, ⟨(by have := OR40.out; have := OR42.out; have := OR44.out; have := OR46.out; have := OR48.out; have := OR50.out; have := OR52.out; have := HW0.out; omega), (by have := OR40.out; have := OR42.out; have := OR44.out; have := OR46.out; have := OR48.out; have := OR50.out; have := OR52.out; have := HW0.out; omega), (by have := OR40.out; have := OR42.out; have := OR44.out; have := OR46.out; have := OR48.out; have := OR50.out; have := OR52.out; have := HW0.out; have := HF.out; omega)⟩, ⟨(by have := OR40.out; have := OR42.out; have := OR44.out; have := OR46.out; have := OR48.out; have := OR50.out; have := OR52.out; have := HW0.out; omega), x9.out.lt, (by have := OR40.out; have := OR42.out; have := OR44.out; have := OR46.out; have := OR48.out; have := OR50.out; have := OR52.out; have := HW0.out; omega)⟩, gb_trans GI.out GD.out⟩, by simp only [List.foldl, Act.put, List.setIfInBounds_toArray, List.set_cons_succ, List.set_cons_zero]⟩
      · skip
        have hge53 : wd.heap.size ≤ wz49.heap.size := GD.out.size
        have HGE53 := hid hge53
        clear hge53
        have X53 := hid (HoldsT.new wz49 #[.int .i64 0, .int .i64 0, .string { data := #[] }, .int .i64 0, .slice none 0 0] 26)
        have OR53 : Hid ((wz47.heap.size + 1) ≤ wz49.heap.size) := HT
        replace GW := hid (gb_alloc GW.out (.cells #[.int .i64 0, .int .i64 0, .string { data := #[] }, .int .i64 0, .slice none 0 0] 26))
        replace T40 := hid (T40.out.grow (gb_alloc (gb_refl _ none) (.cells #[.int .i64 0, .int .i64 0, .string { data := #[] }, .int .i64 0, .slice none 0 0] 26)))
        replace X40 := hid (X40.out.grow (gb_alloc (gb_refl _ none) (.cells #[.int .i64 0, .int .i64 0, .string { data := #[] }, .int .i64 0, .slice none 0 0] 26)))
        replace T42 := hid (T42.out.grow (gb_alloc (gb_refl _ none) (.cells #[.int .i64 0, .int .i64 0, .string { data := #[] }, .int .i64 0, .slice none 0 0] 26)))
        replace X44 := hid (X44.out.grow (gb_alloc (gb_refl _ none) (.cells #[.int .i64 0, .int .i64 0, .string { data := #[] }, .int .i64 0, .slice none 0 0] 26)))
        replace T46 := hid (T46.out.grow (gb_alloc (gb_refl _ none) (.cells #[.int .i64 0, .int .i64 0, .string { data := #[] }, .int .i64 0, .slice none 0 0] 26)))
        replace X48 := hid (X48.out.grow (gb_alloc (gb_refl _ none) (.cells #[.int .i64 0, .int .i64 0, .string { data := #[] }, .int .i64 0, .slice none 0 0] 26)))
        replace GD := hid (gb_alloc GD.out (.cells #[.int .i64 0, .int .i64 0, .string { data := #[] }, .int .i64 0, .slice none 0 0] 26))
        refine E_val 8 rfl (some 12) rfl rfl (.pointer (some ⟨wz49.heap.size, 0, none⟩)) (wz49.alloc (.cells #[.int .i64 0, .int .i64 0, .string { data := #[] }, .int .i64 0, .slice none 0 0] 26)) (by go_simp) ⟨fun _ => GD.out, ?_⟩
        simp only [Act.put, List.setIfInBounds_toArray, List.set_cons_succ, List.set_cons_zero]
        replace HT := hid (show (wz49.heap.size + 1) ≤ (wz49.alloc (.cells #[.int .i64 0, .int .i64 0, .string { data := #[] }, .int .i64 0, .slice none 0 0] 26)).heap.size by simp)
        refine E_only 4 (by kernel_rfl) ?_
        refine E_call 4 rfl (some 53) rfl rfl 25 _ (run_call3 _ (by kernel_rfl) (.tmp 49) (.tmp 51) (.tmp 52) _ (.agg #[.int .i64 k0, .int .i64 m0, .string u0, .int .i64 x0, .slice B42 f0.len d42]) (.agg #[.bool t1, .int .i64 p1, .string s1]) (.agg #[.int .i64 k2, .int .i64 m2, .string u2, .int .i64 x2, .slice B46 f2.len d46]) rfl rfl rfl rfl) (implSetKey_any f0 f2 t1 p1 s1 _ k0 m0 u0 x0 B42 d42 _ k2 m2 u2 x2 B46 d46 _ ab rx D HAB.out HD.out (by omega) T42.out.1.1 (by omega) T46.out.1.1 (by omega) (HL.out.grow (gb_trans GP.out GW.out))) ?_
        rintro e wz55 ⟨B54, d54, M54, rfl, _, hR, hg⟩
        obtain ⟨lo54, hi54, hT54, hlo54, hlh54, hhi54⟩ := own_tr hR.own hg X53.out.lt
        have OR54 := hid (And.intro hlo54 hlh54)
        replace GW := hid (gb_trans GW.out hg)
        replace T40 := hid (T40.out.grow hg)
        replace X40 := hid (X40.out.grow hg)
        replace T42 := hid (T42.out.grow hg)
        replace X44 := hid (X44.out.grow hg)
        replace T46 := hid (T46.out.grow hg)
        replace X48 := hid (X48.out.grow hg)
        replace X53 := hid (X53.out.grow hg)
        replace HT := hid (Nat.le_trans HT.out (hg).size)
        replace GD := hid (gb_trans GD.out hg)
        clear hg
        have T54 := hid hT54; replace HT := hid hhi54
        clear hR hT54 hlo54 hlh54 hhi54
        refine ⟨_, rfl, fun _ => GD.out, ?_⟩
        simp only [Act.put, List.setIfInBounds_toArray, List.set_cons_succ, List.set_cons_zero]
        refine E_take 5 rfl (some 48) rfl (by kernel_rfl) (by kernel_rfl) (by kernel_rfl) (by kernel_rfl) (by decide) (fun _ _ _ _ h => by cases h.1) rfl (.tuple #[.agg #[.int .i64 k0, .int .i64 m0, .string u0, .int .i64 rx, .slice B54 D.len d54], .bool ab]) (fun w' hw => run_mov (.tmp 53) rfl rfl) GD.out ?_
        simp only [Act.put, List.setIfInBounds_toArray, List.set_cons_succ, List.set_cons_zero]
        refine E_take 6 rfl (some 54) rfl (by kernel_rfl) (by kernel_rfl) (by kernel_rfl) (by kernel_rfl) (by decide) (fun _ _ _ _ h => by cases h.1) rfl (.agg #[.int .i64 k0, .int .i64 m0, .string u0, .int .i64 rx, .slice B54 D.len d54]) (fun w' hw => run_ext (.tmp 48) 0 rfl rfl rfl) GD.out ?_
        simp only [Act.put, List.setIfInBounds_toArray, List.set_cons_succ, List.set_cons_zero]
        refine E_take 7 rfl (some 55) rfl (by kernel_rfl) (by kernel_rfl) (by kernel_rfl) (by kernel_rfl) (by decide) (fun _ _ _ _ h => by cases h.1) rfl (.bool ab) (fun w' hw => run_ext (.tmp 48) 1 rfl rfl rfl) GD.out ?_
        simp only [Act.put, List.setIfInBounds_toArray, List.set_cons_succ, List.set_cons_zero]
        have s9 := gb_setCells (r := some (wz49.heap.size)) (.inr rfl) [.int .i64 k0, .int .i64 m0, .string u0, .int .i64 rx, .slice B54 D.len d54] 0 (gb_refl wz55 (some (wz49.heap.size)))
        have x9 := hid (show HoldsT (wz55.setCells (wz49.heap.size) 0 [.int .i64 k0, .int .i64 m0, .string u0, .int .i64 rx, .slice B54 D.len d54]) (wz49.heap.size) #[.int .i64 k0, .int .i64 m0, .string u0, .int .i64 rx, .slice B54 D.len d54] 26 by have h := X53.out.setCells [.int .i64 k0, .int .i64 m0, .string u0, .int .i64 rx, .slice B54 D.len d54] 0; simpa [setArr] using h)
        have gd9 := hid (gb_setCells (r := none) (.inl HGE53.out) [.int .i64 k0, .int .i64 m0, .string u0, .int .i64 rx, .slice B54 D.len d54] 0 GD.out)
        have m9 : MkI wz55 (wz55.setCells (wz49.heap.size) 0 [.int .i64 k0, .int .i64 m0, .string u0, .int .i64 rx, .slice B54 D.len d54]) (wz49.heap.size) (wz49.heap.size + 1) := ⟨s9.os, s9.tape, s9.output, s9.size, fun k hk hb => s9.block k hk (by intro e; injection e; omega)⟩
        have t9 := hid (T54.out.mk' m9 (by have := OR40.out; have := OR42.out; have := OR44.out; have := OR46.out; have := OR48.out; have := OR53.out; have := OR54.out; have := HW0.out; omega))
        have HF := hid (Nat.le_trans HT.out m9.size)
        refine E_only 9 (by kernel_rfl) (E_store 9 rfl none rfl rfl 26 (.tmp 12) (.tmp 54) rfl (wz49.heap.size) 0 [.int .i64 k0, .int .i64 m0, .string u0, .int .i64 rx, .slice B54 D.len d54] rfl rfl X53.out (by simp) Tryd.infoV rfl ⟨fun _ => gd9.out, ?_⟩)
        simp only [Act.put]
        clear GD s9 m9
        have GD := gd9
        refine E_only 10 (by kernel_rfl) (E_val 10 rfl (some 13) rfl rfl (.bool ab) _ (run_asg (.tmp 55) rfl rfl) ⟨fun _ => GD.out, ?_⟩)
        simp only [Act.put, List.setIfInBounds_toArray, List.set_cons_succ, List.set_cons_zero]
        refine E_done (by kernel_rfl) ?_ _
        exact ⟨rfl, ⟨wz49.heap.size, .agg #[.bool t1, .int .i64 p1, .string s1], .agg #[.int .i64 k0, .int .i64 m0, .string u0, .int .i64 rx, .slice B54 D.len d54]⟩, ⟨B54, d54, _, lo54, hi54, rfl, t9.out, x9.out, ⟨(by have := OR40.out; have := OR42.out; have := OR44.out; have := OR46.out; have := OR48.out; have := OR53.out; have := OR54.out; have := HW0.out; omega), (by have := OR40.out; have := OR42.out; have := OR44.out; have := OR46.out; have := OR48.out; have := OR53.out; have := OR54.out; have := HW0.out; omega), (by have := OR40.out; have := OR42.out; have := OR44.out; have := OR46.out; have := OR48.out; have := OR53.out; have := OR54.out; have := HW0.out; have := HF.out; omega)⟩, ⟨(by have := OR40.out; have := OR42.out; have := OR44.out; have := OR46.out; have := OR48.out; have := OR53.out; have := OR54.out; have := HW0.out; omega), x9.out.lt, (by have := OR40.out; have := OR42.out; have := OR44.out; have := OR46.out; have := OR48.out; have := OR53.out; have := OR54.out; have := HW0.out; omega)⟩, gb_trans GI.out GD.out⟩, by simp only [List.foldl, Act.put, List.setIfInBounds_toArray, List.set_cons_succ, List.set_cons_zero]⟩
    · skip
      have hge56 : wd.heap.size ≤ wd.heap.size := GD.out.size
      have HGE56 := hid hge56
      clear hge56
      have X56 := hid (HoldsT.new wd #[.int .i64 0, .int .i64 0, .string { data := #[] }, .int .i64 0, .slice none 0 0] 26)
      have OR56 : Hid ((wz47.heap.size + 1) ≤ wd.heap.size) := HT
      replace GW := hid (gb_alloc GW.out (.cells #[.int .i64 0, .int .i64 0, .string { data := #[] }, .int .i64 0, .slice none 0 0] 26))
      replace T40 := hid (T40.out.grow (gb_alloc (gb_refl _ none) (.cells #[.int .i64 0, .int .i64 0, .string { data := #[] }, .int .i64 0, .slice none 0 0] 26)))
      replace X40 := hid (X40.out.grow (gb_alloc (gb_refl _ none) (.cells #[.int .i64 0, .int .i64 0, .string { data := #[] }, .int .i64 0, .slice none 0 0] 26)))
      replace T42 := hid (T42.out.grow (gb_alloc (gb_refl _ none) (.cells #[.int .i64 0, .int .i64 0, .string { data := #[] }, .int .i64 0, .slice none 0 0] 26)))
      replace X44 := hid (X44.out.grow (gb_alloc (gb_refl _ none) (.cells #[.int .i64 0, .int .i64 0, .string { data := #[] }, .int .i64 0, .slice none 0 0] 26)))
      replace T46 := hid (T46.out.grow (gb_alloc (gb_refl _ none) (.cells #[.int .i64 0, .int .i64 0, .string { data := #[] }, .int .i64 0, .slice none 0 0] 26)))
      replace X48 := hid (X48.out.grow (gb_alloc (gb_refl _ none) (.cells #[.int .i64 0, .int .i64 0, .string { data := #[] }, .int .i64 0, .slice none 0 0] 26)))
      replace GD := hid (gb_alloc GD.out (.cells #[.int .i64 0, .int .i64 0, .string { data := #[] }, .int .i64 0, .slice none 0 0] 26))
      refine E_val 8 rfl (some 12) rfl rfl (.pointer (some ⟨wd.heap.size, 0, none⟩)) (wd.alloc (.cells #[.int .i64 0, .int .i64 0, .string { data := #[] }, .int .i64 0, .slice none 0 0] 26)) (by go_simp) ⟨fun _ => GD.out, ?_⟩
      simp only [Act.put, List.setIfInBounds_toArray, List.set_cons_succ, List.set_cons_zero]
      replace HT := hid (show (wd.heap.size + 1) ≤ (wd.alloc (.cells #[.int .i64 0, .int .i64 0, .string { data := #[] }, .int .i64 0, .slice none 0 0] 26)).heap.size by simp)
      refine E_only 2 (by kernel_rfl) ?_
      refine E_call 2 rfl (some 51) rfl rfl 24 _ (run_call1 _ (by kernel_rfl) (.tmp 50) _ (.agg #[.bool t1, .int .i64 p1, .string s1]) rfl rfl) (toKey_any t1 p1 s1 _) ?_
      rintro e wz57 ⟨rfl, hg⟩
      replace GW := hid (gb_trans GW.out hg)
      replace T40 := hid (T40.out.grow hg)
      replace X40 := hid (X40.out.grow hg)
      replace T42 := hid (T42.out.grow hg)
      replace X44 := hid (X44.out.grow hg)
      replace T46 := hid (T46.out.grow hg)
      replace X48 := hid (X48.out.grow hg)
      replace X56 := hid (X56.out.grow hg)
      replace HT := hid (Nat.le_trans HT.out (hg).size)
      replace GD := hid (gb_trans GD.out hg)
      clear hg
      refine ⟨_, rfl, fun _ => GD.out, ?_⟩
      simp only [Act.put, List.setIfInBounds_toArray, List.set_cons_succ, List.set_cons_zero]
      refine E_only 4 (by kernel_rfl) ?_
      refine E_call 4 rfl (some 53) rfl rfl 25 _ (run_call3 _ (by kernel_rfl) (.tmp 49) (.tmp 51) (.tmp 52) _ (.agg #[.int .i64 k0, .int .i64 m0, .string u0, .int .i64 x0, .slice B42 f0.len d42]) (.agg #[.bool t1, .int .i64 p1, .string s1]) (.agg #[.int .i64 k2, .int .i64 m2, .string u2, .int .i64 x2, .slice B46 f2.len d46]) rfl rfl rfl rfl) (implSetKey_any f0 f2 t1 p1 s1 _ k0 m0 u0 x0 B42 d42 _ k2 m2 u2 x2 B46 d46 _ ab rx D HAB.out HD.out (by omega) T42.out.1.1 (by omega) T46.out.1.1 (by omega) (HL.out.grow (gb_trans GP.out GW.out))) ?_
      rintro e wz59 ⟨B58, d58, M58, rfl, _, hR, hg⟩
      obtain ⟨lo58, hi58, hT58, hlo58, hlh58, hhi58⟩ := own_tr hR.own hg X56.out.lt
      have OR58 := hid (And.intro hlo58 hlh58)
      replace GW := hid (gb_trans GW.out hg)
      replace T40 := hid (T40.out.grow hg)
      replace X40 := hid (X40.out.grow hg)
      replace T42 := hid (T42.out.grow hg)
      replace X44 := hid (X44.out.grow hg)
      replace T46 := hid (T46.out.grow hg)
      replace X48 := hid (X48.out.grow hg)
      replace X56 := hid (X56.out.grow hg)
      replace HT := hid (Nat.le_trans HT.out (hg).size)
      replace GD := hid (gb_trans GD.out hg)
      clear hg
      have T58 := hid hT58; replace HT := hid hhi58
      clear hR hT58 hlo58 hlh58 hhi58
      refine ⟨_, rfl, fun _ => GD.out, ?_⟩
      simp only [Act.put, List.setIfInBounds_toArray, List.set_cons_succ, List.set_cons_zero]
      refine E_take 5 rfl (some 48) rfl (by kernel_rfl) (by kernel_rfl) (by kernel_rfl) (by kernel_rfl) (by decide) (fun _ _ _ _ h => by cases h.1) rfl (.tuple #[.agg #[.int .i64 k0, .int .i64 m0, .string u0, .int .i64 rx, .slice B58 D.len d58], .bool ab]) (fun w' hw => run_mov (.tmp 53) rfl rfl) GD.out ?_
      simp only [Act.put, List.setIfInBounds_toArray, List.set_cons_succ, List.set_cons_zero]
      refine E_take 6 rfl (some 54) rfl (by kernel_rfl) (by kernel_rfl) (by kernel_rfl) (by kernel_rfl) (by decide) (fun _ _ _ _ h => by cases h.1) rfl (.agg #[.int .i64 k0, .int .i64 m0, .string u0, .int .i64 rx, .slice B58 D.len d58]) (fun w' hw => run_ext (.tmp 48) 0 rfl rfl rfl) GD.out ?_
      simp only [Act.put, List.setIfInBounds_toArray, List.set_cons_succ, List.set_cons_zero]
      refine E_take 7 rfl (some 55) rfl (by kernel_rfl) (by kernel_rfl) (by kernel_rfl) (by kernel_rfl) (by decide) (fun _ _ _ _ h => by cases h.1) rfl (.bool ab) (fun w' hw => run_ext (.tmp 48) 1 rfl rfl rfl) GD.out ?_
      simp only [Act.put, List.setIfInBounds_toArray, List.set_cons_succ, List.set_cons_zero]
      have s9 := gb_setCells (r := some (wd.heap.size)) (.inr rfl) [.int .i64 k0, .int .i64 m0, .string u0, .int .i64 rx, .slice B58 D.len d58] 0 (gb_refl wz59 (some (wd.heap.size)))
      have x9 := hid (show HoldsT (wz59.setCells (wd.heap.size) 0 [.int .i64 k0, .int .i64 m0, .string u0, .int .i64 rx, .slice B58 D.len d58]) (wd.heap.size) #[.int .i64 k0, .int .i64 m0, .string u0, .int .i64 rx, .slice B58 D.len d58] 26 by have h := X56.out.setCells [.int .i64 k0, .int .i64 m0, .string u0, .int .i64 rx, .slice B58 D.len d58] 0; simpa [setArr] using h)
      have gd9 := hid (gb_setCells (r := none) (.inl HGE56.out) [.int .i64 k0, .int .i64 m0, .string u0, .int .i64 rx, .slice B58 D.len d58] 0 GD.out)
      have m9 : MkI wz59 (wz59.setCells (wd.heap.size) 0 [.int .i64 k0, .int .i64 m0, .string u0, .int .i64 rx, .slice B58 D.len d58]) (wd.heap.size) (wd.heap.size + 1) := ⟨s9.os, s9.tape, s9.output, s9.size, fun k hk hb => s9.block k hk (by intro e; injection e; omega)⟩
      have t9 := hid (T58.out.mk' m9 (by have := OR40.out; have := OR42.out; have := OR44.out; have := OR46.out; have := OR48.out; have := OR56.out; have := OR58.out; have := HW0.out; omega))
      have HF := hid (Nat.le_trans HT.out m9.size)
      refine E_only 9 (by kernel_rfl) (E_store 9 rfl none rfl rfl 26 (.tmp 12) (.tmp 54) rfl (wd.heap.size) 0 [.int .i64 k0, .int .i64 m0, .string u0, .int .i64 rx, .slice B58 D.len d58] rfl rfl X56.out (by simp) Tryd.infoV rfl ⟨fun _ => gd9.out, ?_⟩)
      simp only [Act.put]
      clear GD s9 m9
      have GD := gd9
      refine E_only 10 (by kernel_rfl) (E_val 10 rfl (some 13) rfl rfl (.bool ab) _ (run_asg (.tmp 55) rfl rfl) ⟨fun _ => GD.out, ?_⟩)
      simp only [Act.put, List.setIfInBounds_toArray, List.set_cons_succ, List.set_cons_zero]
      refine E_done (by kernel_rfl) ?_ _
      exact ⟨rfl, ⟨wd.heap.size, .agg #[.bool t1, .int .i64 p1, .string s1], .agg #[.int .i64 k0, .int .i64 m0, .string u0, .int .i64 rx, .slice B58 D.len d58]⟩, ⟨B58, d58, _, lo58, hi58, rfl, t9.out, x9.out, ⟨(by have := OR40.out; have := OR42.out; have := OR44.out; have := OR46.out; have := OR48.out; have := OR56.out; have := OR58.out; have := HW0.out; omega), (by have := OR40.out; have := OR42.out; have := OR44.out; have := OR46.out; have := OR48.out; have := OR56.out; have := OR58.out; have := HW0.out; omega), (by have := OR40.out; have := OR42.out; have := OR44.out; have := OR46.out; have := OR48.out; have := OR56.out; have := OR58.out; have := HW0.out; have := HF.out; omega)⟩, ⟨(by have := OR40.out; have := OR42.out; have := OR44.out; have := OR46.out; have := OR48.out; have := OR56.out; have := OR58.out; have := HW0.out; omega), x9.out.lt, (by have := OR40.out; have := OR42.out; have := OR44.out; have := OR46.out; have := OR48.out; have := OR56.out; have := OR58.out; have := HW0.out; omega)⟩, gb_trans GI.out GD.out⟩, by simp only [List.foldl, Act.put, List.setIfInBounds_toArray, List.set_cons_succ, List.set_cons_zero]⟩
  rintro ⟨bb60, vc60_0, vc60_1⟩ wz60 ⟨B60, d60, M60, lo60, hi60, hv60, hT60, hX60, ⟨ho60, hp60, hq60⟩, ⟨hr60, hs60, ht60⟩, hg⟩
  dsimp only at hv60 hX60 hr60 hs60 ht60
  subst hv60
  simp only [List.foldl, Act.put, List.setIfInBounds_toArray, List.set_cons_succ, List.set_cons_zero]
  obtain ⟨tp60, hu60, hv60⟩ : ∃ z, (hi60 ≤ z ∧ bb60 + 1 ≤ z) ∧ z ≤ wz60.heap.size := ⟨_, ⟨hq60, hs60⟩, Nat.le_refl _⟩
  have OR60 := hid (And.intro (And.intro ho60 hp60) (And.intro hr60 (And.intro ht60 hu60)))
  replace GW := hid (gb_trans GW.out hg)
  replace T40 := hid (T40.out.grow hg)
  replace X40 := hid (X40.out.grow hg)
  replace T42 := hid (T42.out.grow hg)
  replace X44 := hid (X44.out.grow hg)
  replace T46 := hid (T46.out.grow hg)
  replace X48 := hid (X48.out.grow hg)
  replace HT := hid (Nat.le_trans HT.out (hg).size)
  clear hg
  have T60 := hid hT60; have X60 := hid hX60; replace HT := hid hv60
  clear ho60 hp60 hq60 hr60 hs60 ht60 hu60 hv60 hT60 hX60
  obtain ⟨a61_0, a61_1, a61_2, a61_3, a61_4⟩ := X60.out.cells5
  have la61 := X60.out.lt
  obtain ⟨a62_0, a62_1, a62_2, a62_3, a62_4⟩ := X40.out.cells5
  have la62 := X40.out.lt
  go_wp2_with fail
  refine (eqValue_any D (eqEntryS_any D) k0 m0 u0 rx B60 B40 d60 d40 _ _ _ T60.out.1.1 T40.out.1.1 (by omega)).mono ?_
  rintro e wz63 ⟨rfl, hg⟩
  clear a61_0 a61_1 a61_2 a61_3 a61_4 la61 a62_0 a62_1 a62_2 a62_3 a62_4 la62
  replace GW := hid (gb_trans GW.out hg)
  replace T40 := hid (T40.out.grow hg)
  replace X40 := hid (X40.out.grow hg)
  replace T42 := hid (T42.out.grow hg)
  replace X44 := hid (X44.out.grow hg)
  replace T46 := hid (T46.out.grow hg)
  replace X48 := hid (X48.out.grow hg)
  replace T60 := hid (T60.out.grow hg)
  replace X60 := hid (X60.out.grow hg)
  replace HT := hid (Nat.le_trans HT.out (hg).size)
  clear hg
  go_wp2_with fail
  refine wp_region_E 999 5 rfl (by kernel_rfl) (fun wd w' => wd.grownBy w' none) fun wd gd => ?_
  have g0 : wd.grownBy wd none := gb_refl _ _
  have GI := hid gd
  replace GW := hid (gb_trans GW.out gd)
  replace T40 := hid (T40.out.grow gd)
  replace X40 := hid (X40.out.grow gd)
  replace T42 := hid (T42.out.grow gd)
  replace X44 := hid (X44.out.grow gd)
  replace T46 := hid (T46.out.grow gd)
  replace X48 := hid (X48.out.grow gd)
  replace T60 := hid (T60.out.grow gd)
  replace X60 := hid (X60.out.grow gd)
  replace HT := hid (Nat.le_trans HT.out (gd).size)
  clear gd
  have GD := hid g0
  refine E_load 0 rfl (some 65) rfl (by kernel_rfl) (by kernel_rfl) (by kernel_rfl) (by kernel_rfl) (by decide) (fun _ _ _ _ h => h) rfl 26 (.tmp 10) rfl (wz43.heap.size) 0 rfl _ (fun w' hw => (X44.out.grow hw).rangeV) Tryd.underlying26 rfl Tryd.infoV g0 ?_
  simp only [Act.put, List.setIfInBounds_toArray, List.set_cons_succ, List.set_cons_zero]
  refine E_load 1 rfl (some 66) rfl (by kernel_rfl) (by kernel_rfl) (by kernel_rfl) (by kernel_rfl) (by decide) (fun _ _ _ _ h => h) rfl 40 (.tmp 3) rfl (w.heap.size) 0 rfl _ (fun w' hw => ((HB0.out.grow GW.out).grow hw).rangeV) Tryd.underlying40 rfl Tryd.infoVL g0 ?_
  simp only [Act.put, List.setIfInBounds_toArray, List.set_cons_succ, List.set_cons_zero]
  refine E_only 2 (by kernel_rfl) ?_
  refine E_call 2 rfl (some 67) rfl rfl 20 _ (run_call1 _ (by kernel_rfl) (.tmp 66) _ (.agg #[.int .i64 k0, .int .i64 m0, .string u0, .int .i64 x0, .slice A0 f0.len c0]) rfl rfl) (toValue_any f0 (toEntryS_any f0) k0 m0 u0 x0 A0 c0 _ _ (RP0.out.grow GW.out) HO0.out.1 (by omega)) ?_
  rintro e wz65 ⟨B64, d64, M64, rfl, ha64, ho64, hg⟩
  obtain ⟨lo64, hi64, hT64, hlo64, hlh64, hhi64⟩ := own_tr ho64 hg HT.out
  have OR64 := hid (And.intro hlo64 hlh64); have HA64 := hid ha64.2
  replace GW := hid (gb_trans GW.out hg)
  replace T40 := hid (T40.out.grow hg)
  replace X40 := hid (X40.out.grow hg)
  replace T42 := hid (T42.out.grow hg)
  replace X44 := hid (X44.out.grow hg)
  replace T46 := hid (T46.out.grow hg)
  replace X48 := hid (X48.out.grow hg)
  replace T60 := hid (T60.out.grow hg)
  replace X60 := hid (X60.out.grow hg)
  replace HT := hid (Nat.le_trans HT.out (hg).size)
  replace GD := hid (gb_trans GD.out hg)
  clear hg
  have T64 := hid hT64; replace HT := hid hhi64
  clear ho64 ha64 hT64 hlo64 hlh64 hhi64
  refine ⟨_, rfl, fun _ => GD.out, ?_⟩
  simp only [Act.put, List.setIfInBounds_toArray, List.set_cons_succ, List.set_cons_zero]
  refine E_only 3 (by kernel_rfl) ?_
  refine E_call 3 rfl (some 68) rfl rfl 21 _ (run_call2 _ (by kernel_rfl) (.tmp 65) (.tmp 67) _ (.agg #[.int .i64 k0, .int .i64 m0, .string u0, .int .i64 x0, .slice B42 f0.len d42]) (.agg #[.int .i64 k0, .int .i64 m0, .string u0, .int .i64 x0, .slice B64 f0.len d64]) rfl rfl rfl) (eqValue_any f0 (eqEntryS_any f0) k0 m0 u0 x0 B42 B64 d42 d64 _ _ _ T42.out.1.1 T64.out.1.1 (by omega)) ?_
  rintro e wz66 ⟨rfl, hg⟩
  replace GW := hid (gb_trans GW.out hg)
  replace T40 := hid (T40.out.grow hg)
  replace X40 := hid (X40.out.grow hg)
  replace T42 := hid (T42.out.grow hg)
  replace X44 := hid (X44.out.grow hg)
  replace T46 := hid (T46.out.grow hg)
  replace X48 := hid (X48.out.grow hg)
  replace T60 := hid (T60.out.grow hg)
  replace X60 := hid (X60.out.grow hg)
  replace T64 := hid (T64.out.grow hg)
  replace HT := hid (Nat.le_trans HT.out (hg).size)
  replace GD := hid (gb_trans GD.out hg)
  clear hg
  refine ⟨_, rfl, fun _ => GD.out, ?_⟩
  simp only [Act.put, List.setIfInBounds_toArray, List.set_cons_succ, List.set_cons_zero]
  refine E_only 4 (by kernel_rfl) (E_val 4 rfl (some 69) rfl rfl (.bool false) _ (run_not 4 68 rfl (b := true) rfl) ⟨fun _ => GD.out, ?_⟩)
  simp only [Act.put, List.setIfInBounds_toArray, List.set_cons_succ, List.set_cons_zero]
  refine E_done (by kernel_rfl) ?_ _
  replace GW := GW
  clear GD GI g0
  go_wp2_with fail
  refine wp_region_E 999 5 rfl (by kernel_rfl) (fun wd w' => wd.grownBy w' none) fun wd gd => ?_
  have g0 : wd.grownBy wd none := gb_refl _ _
  have GI := hid gd
  replace GW := hid (gb_trans GW.out gd)
  replace T40 := hid (T40.out.grow gd)
  replace X40 := hid (X40.out.grow gd)
  replace T42 := hid (T42.out.grow gd)
  replace X44 := hid (X44.out.grow gd)
  replace T46 := hid (T46.out.grow gd)
  replace X48 := hid (X48.out.grow gd)
  replace T60 := hid (T60.out.grow gd)
  replace X60 := hid (X60.out.grow gd)
  replace T64 := hid (T64.out.grow gd)
  replace HT := hid (Nat.le_trans HT.out (gd).size)
  clear gd
  have GD := hid g0
  refine E_load 0 rfl (some 70) rfl (by kernel_rfl) (by kernel_rfl) (by kernel_rfl) (by kernel_rfl) (by decide) (fun _ _ _ _ h => h) rfl 26 (.tmp 11) rfl (wz47.heap.size) 0 rfl _ (fun w' hw => (X48.out.grow hw).rangeV) Tryd.underlying26 rfl Tryd.infoV g0 ?_
  simp only [Act.put, List.setIfInBounds_toArray, List.set_cons_succ, List.set_cons_zero]
  refine E_load 1 rfl (some 71) rfl (by kernel_rfl) (by kernel_rfl) (by kernel_rfl) (by kernel_rfl) (by decide) (fun _ _ _ _ h => h) rfl 40 (.tmp 5) rfl (w.heap.size + 1 + 1) 0 rfl _ (fun w' hw => ((HB2.out.grow GW.out).grow hw).rangeV) Tryd.underlying40 rfl Tryd.infoVL g0 ?_
  simp only [Act.put, List.setIfInBounds_toArray, List.set_cons_succ, List.set_cons_zero]
  refine E_only 2 (by kernel_rfl) ?_
  refine E_call 2 rfl (some 72) rfl rfl 20 _ (run_call1 _ (by kernel_rfl) (.tmp 71) _ (.agg #[.int .i64 k2, .int .i64 m2, .string u2, .int .i64 x2, .slice A2 f2.len c2]) rfl rfl) (toValue_any f2 (toEntryS_any f2) k2 m2 u2 x2 A2 c2 _ _ (RP2.out.grow GW.out) HO2.out.1 (by omega)) ?_
  rintro e wz68 ⟨B67, d67, M67, rfl, ha67, ho67, hg⟩
  obtain ⟨lo67, hi67, hT67, hlo67, hlh67, hhi67⟩ := own_tr ho67 hg HT.out
  have OR67 := hid (And.intro hlo67 hlh67); have HA67 := hid ha67.2
  replace GW := hid (gb_trans GW.out hg)
  replace T40 := hid (T40.out.grow hg)
  replace X40 := hid (X40.out.grow hg)
  replace T42 := hid (T42.out.grow hg)
  replace X44 := hid (X44.out.grow hg)
  replace T46 := hid (T46.out.grow hg)
  replace X48 := hid (X48.out.grow hg)
  replace T60 := hid (T60.out.grow hg)
  replace X60 := hid (X60.out.grow hg)
  replace T64 := hid (T64.out.grow hg)
  replace HT := hid (Nat.le_trans HT.out (hg).size)
  replace GD := hid (gb_trans GD.out hg)
  clear hg
  have T67 := hid hT67; replace HT := hid hhi67
  clear ho67 ha67 hT67 hlo67 hlh67 hhi67
  refine ⟨_, rfl, fun _ => GD.out, ?_⟩
  simp only [Act.put, List.setIfInBounds_toArray, List.set_cons_succ, List.set_cons_zero]
  refine E_only 3 (by kernel_rfl) ?_
  refine E_call 3 rfl (some 73) rfl rfl 21 _ (run_call2 _ (by kernel_rfl) (.tmp 70) (.tmp 72) _ (.agg #[.int .i64 k2, .int .i64 m2, .string u2, .int .i64 x2, .slice B46 f2.len d46]) (.agg #[.int .i64 k2, .int .i64 m2, .string u2, .int .i64 x2, .slice B67 f2.len d67]) rfl rfl rfl) (eqValue_any f2 (eqEntryS_any f2) k2 m2 u2 x2 B46 B67 d46 d67 _ _ _ T46.out.1.1 T67.out.1.1 (by omega)) ?_
  rintro e wz69 ⟨rfl, hg⟩
  replace GW := hid (gb_trans GW.out hg)
  replace T40 := hid (T40.out.grow hg)
  replace X40 := hid (X40.out.grow hg)
  replace T42 := hid (T42.out.grow hg)
  replace X44 := hid (X44.out.grow hg)
  replace T46 := hid (T46.out.grow hg)
  replace X48 := hid (X48.out.grow hg)
  replace T60 := hid (T60.out.grow hg)
  replace X60 := hid (X60.out.grow hg)
  replace T64 := hid (T64.out.grow hg)
  replace T67 := hid (T67.out.grow hg)
  replace HT := hid (Nat.le_trans HT.out (hg).size)
  replace GD := hid (gb_trans GD.out hg)
  clear hg
  refine ⟨_, rfl, fun _ => GD.out, ?_⟩
  simp only [Act.put, List.setIfInBounds_toArray, List.set_cons_succ, List.set_cons_zero]
  refine E_only 4 (by kernel_rfl) (E_val 4 rfl (some 74) rfl rfl (.bool false) _ (run_not 4 73 rfl (b := true) rfl) ⟨fun _ => GD.out, ?_⟩)
  simp only [Act.put, List.setIfInBounds_toArray, List.set_cons_succ, List.set_cons_zero]
  refine E_done (by kernel_rfl) ?_ _
  replace GW := GW
  clear GD GI g0
  obtain ⟨a70_0, a70_1, a70_2, a70_3, a70_4⟩ := X44.out.cells5
  have la70 := X44.out.lt
  go_wp2_with fail
  refine (markValue_any f0 _ k0 m0 u0 x0 B42 d42 _ lo42 1 T42.out.1 (by omega) (by omega)).mono ?_
  rintro e wz72 ⟨rfl, hT, hM⟩
  clear a70_0 a70_1 a70_2 a70_3 a70_4 la70
  obtain ⟨z71, hz71⟩ : ∃ z : Nat, 1 + 7 * f0.size = z := ⟨_, rfl⟩
  have HZ71 := hid hz71
  have hzb71 : z71 ≤ 1 + 8388608 ∧ 1 ≤ z71 := by omega
  rw [hz71]
  clear hz71
  have hm := MkI.of hM T42.out.bounds
  replace GW := hid (gb_mk GW.out hm (by have := OR40.out; have := OR42.out; have := OR44.out; have := OR46.out; have := OR48.out; have := OR60.out; have := OR64.out; have := OR67.out; have := HW0.out; omega))
  replace T40 := hid (T40.out.mk' hm (by have := OR40.out; have := OR42.out; have := OR44.out; have := OR46.out; have := OR48.out; have := OR60.out; have := OR64.out; have := OR67.out; have := HW0.out; omega))
  replace X40 := hid (X40.out.mk' hm (by have := OR40.out; have := OR42.out; have := OR44.out; have := OR46.out; have := OR48.out; have := OR60.out; have := OR64.out; have := OR67.out; have := HW0.out; omega))
  replace X44 := hid (X44.out.mk' hm (by have := OR40.out; have := OR42.out; have := OR44.out; have := OR46.out; have := OR48.out; have := OR60.out; have := OR64.out; have := OR67.out; have := HW0.out; omega))
  replace T46 := hid (T46.out.mk' hm (by have := OR40.out; have := OR42.out; have := OR44.out; have := OR46.out; have := OR48.out; have := OR60.out; have := OR64.out; have := OR67.out; have := HW0.out; omega))
  replace X48 := hid (X48.out.mk' hm (by have := OR40.out; have := OR42.out; have := OR44.out; have := OR46.out; have := OR48.out; have := OR60.out; have := OR64.out; have := OR67.out; have := HW0.out; omega))
  replace T60 := hid (T60.out.mk' hm (by have := OR40.out; have := OR42.out; have := OR44.out; have := OR46.out; have := OR48.out; have := OR60.out; have := OR64.out; have := OR67.out; have := HW0.out; omega))
  replace X60 := hid (X60.out.mk' hm (by have := OR40.out; have := OR42.out; have := OR44.out; have := OR46.out; have := OR48.out; have := OR60.out; have := OR64.out; have := OR67.out; have := HW0.out; omega))
  replace T64 := hid (T64.out.mk' hm (by have := OR40.out; have := OR42.out; have := OR44.out; have := OR46.out; have := OR48.out; have := OR60.out; have := OR64.out; have := OR67.out; have := HW0.out; omega))
  replace T67 := hid (T67.out.mk' hm (by have := OR40.out; have := OR42.out; have := OR44.out; have := OR46.out; have := OR48.out; have := OR60.out; have := OR64.out; have := OR67.out; have := HW0.out; omega))
  replace T42 := hid (show Tr _ 35 lo42 hi42 (f0.mark 1) B42 _ from ⟨hT, T42.out.2⟩)
  replace HT := hid (Nat.le_trans HT.out hm.size)
  clear hm hM hT
  obtain ⟨a73_0, a73_1, a73_2, a73_3, a73_4⟩ := X48.out.cells5
  have la73 := X48.out.lt
  go_wp2_with fail
  refine (markValue_any f2 _ k2 m2 u2 x2 B46 d46 _ lo46 z71 T46.out.1 (by omega) (by omega)).mono ?_
  rintro e wz75 ⟨rfl, hT, hM⟩
  clear a73_0 a73_1 a73_2 a73_3 a73_4 la73
  obtain ⟨z74, hz74⟩ : ∃ z : Nat, z71 + 7 * f2.size = z := ⟨_, rfl⟩
  have HZ74 := hid hz74
  have hzb74 : z74 ≤ z71 + 8388608 ∧ 1 ≤ z74 := by omega
  rw [hz74]
  clear hz74
  have hm := MkI.of hM T46.out.bounds
  replace GW := hid (gb_mk GW.out hm (by have := OR40.out; have := OR42.out; have := OR44.out; have := OR46.out; have := OR48.out; have := OR60.out; have := OR64.out; have := OR67.out; have := HW0.out; omega))
  replace T40 := hid (T40.out.mk' hm (by have := OR40.out; have := OR42.out; have := OR44.out; have := OR46.out; have := OR48.out; have := OR60.out; have := OR64.out; have := OR67.out; have := HW0.out; omega))
  replace X40 := hid (X40.out.mk' hm (by have := OR40.out; have := OR42.out; have := OR44.out; have := OR46.out; have := OR48.out; have := OR60.out; have := OR64.out; have := OR67.out; have := HW0.out; omega))
  replace T42 := hid (T42.out.mk' hm (by have := OR40.out; have := OR42.out; have := OR44.out; have := OR46.out; have := OR48.out; have := OR60.out; have := OR64.out; have := OR67.out; have := HW0.out; omega))
  replace X44 := hid (X44.out.mk' hm (by have := OR40.out; have := OR42.out; have := OR44.out; have := OR46.out; have := OR48.out; have := OR60.out; have := OR64.out; have := OR67.out; have := HW0.out; omega))
  replace X48 := hid (X48.out.mk' hm (by have := OR40.out; have := OR42.out; have := OR44.out; have := OR46.out; have := OR48.out; have := OR60.out; have := OR64.out; have := OR67.out; have := HW0.out; omega))
  replace T60 := hid (T60.out.mk' hm (by have := OR40.out; have := OR42.out; have := OR44.out; have := OR46.out; have := OR48.out; have := OR60.out; have := OR64.out; have := OR67.out; have := HW0.out; omega))
  replace X60 := hid (X60.out.mk' hm (by have := OR40.out; have := OR42.out; have := OR44.out; have := OR46.out; have := OR48.out; have := OR60.out; have := OR64.out; have := OR67.out; have := HW0.out; omega))
  replace T64 := hid (T64.out.mk' hm (by have := OR40.out; have := OR42.out; have := OR44.out; have := OR46.out; have := OR48.out; have := OR60.out; have := OR64.out; have := OR67.out; have := HW0.out; omega))
  replace T67 := hid (T67.out.mk' hm (by have := OR40.out; have := OR42.out; have := OR44.out; have := OR46.out; have := OR48.out; have := OR60.out; have := OR64.out; have := OR67.out; have := HW0.out; omega))
  replace T46 := hid (show Tr _ 35 lo46 hi46 (f2.mark z71) B46 _ from ⟨hT, T46.out.2⟩)
  replace HT := hid (Nat.le_trans HT.out hm.size)
  clear hm hM hT
  obtain ⟨a76_0, a76_1, a76_2, a76_3, a76_4⟩ := X60.out.cells5
  have la76 := X60.out.lt
  obtain ⟨a77_0, a77_1, a77_2, a77_3, a77_4⟩ := X40.out.cells5
  have la77 := X40.out.lt
  go_wp2_with fail
  refine (eqValue_any D (eqEntryS_any D) k0 m0 u0 rx B60 B40 d60 d40 _ _ _ T60.out.1.1 T40.out.1.1 (by omega)).mono ?_
  rintro e wz78 ⟨rfl, hg⟩
  clear a76_0 a76_1 a76_2 a76_3 a76_4 la76 a77_0 a77_1 a77_2 a77_3 a77_4 la77
  replace GW := hid (gb_trans GW.out hg)
  replace T40 := hid (T40.out.grow hg)
  replace X40 := hid (X40.out.grow hg)
  replace T42 := hid (T42.out.grow hg)
  replace X44 := hid (X44.out.grow hg)
  replace T46 := hid (T46.out.grow hg)
  replace X48 := hid (X48.out.grow hg)
  replace T60 := hid (T60.out.grow hg)
  replace X60 := hid (X60.out.grow hg)
  replace T64 := hid (T64.out.grow hg)
  replace T67 := hid (T67.out.grow hg)
  replace HT := hid (Nat.le_trans HT.out (hg).size)
  clear hg
  obtain ⟨a79_0, a79_1, a79_2, a79_3, a79_4⟩ := X60.out.cells5
  have la79 := X60.out.lt
  go_wp2_with fail
  refine (markValue_any D _ k0 m0 u0 rx B60 d60 _ lo60 1 T60.out.1 (by omega) (by omega)).mono ?_
  rintro e wz81 ⟨rfl, hT, hM⟩
  clear a79_0 a79_1 a79_2 a79_3 a79_4 la79
  obtain ⟨z80, hz80⟩ : ∃ z : Nat, 1 + 7 * D.size = z := ⟨_, rfl⟩
  have HZ80 := hid hz80
  have hzb80 : z80 ≤ 1 + 8388608 ∧ 1 ≤ z80 := by omega
  rw [hz80]
  clear hz80
  have hm := MkI.of hM T60.out.bounds
  replace GW := hid (gb_mk GW.out hm (by have := OR40.out; have := OR42.out; have := OR44.out; have := OR46.out; have := OR48.out; have := OR60.out; have := OR64.out; have := OR67.out; have := HW0.out; omega))
  replace T40 := hid (T40.out.mk' hm (by have := OR40.out; have := OR42.out; have := OR44.out; have := OR46.out; have := OR48.out; have := OR60.out; have := OR64.out; have := OR67.out; have := HW0.out; omega))
  replace X40 := hid (X40.out.mk' hm (by have := OR40.out; have := OR42.out; have := OR44.out; have := OR46.out; have := OR48.out; have := OR60.out; have := OR64.out; have := OR67.out; have := HW0.out; omega))
  replace T42 := hid (T42.out.mk' hm (by have := OR40.out; have := OR42.out; have := OR44.out; have := OR46.out; have := OR48.out; have := OR60.out; have := OR64.out; have := OR67.out; have := HW0.out; omega))
  replace X44 := hid (X44.out.mk' hm (by have := OR40.out; have := OR42.out; have := OR44.out; have := OR46.out; have := OR48.out; have := OR60.out; have := OR64.out; have := OR67.out; have := HW0.out; omega))
  replace T46 := hid (T46.out.mk' hm (by have := OR40.out; have := OR42.out; have := OR44.out; have := OR46.out; have := OR48.out; have := OR60.out; have := OR64.out; have := OR67.out; have := HW0.out; omega))
  replace X48 := hid (X48.out.mk' hm (by have := OR40.out; have := OR42.out; have := OR44.out; have := OR46.out; have := OR48.out; have := OR60.out; have := OR64.out; have := OR67.out; have := HW0.out; omega))
  replace X60 := hid (X60.out.mk' hm (by have := OR40.out; have := OR42.out; have := OR44.out; have := OR46.out; have := OR48.out; have := OR60.out; have := OR64.out; have := OR67.out; have := HW0.out; omega))
  replace T64 := hid (T64.out.mk' hm (by have := OR40.out; have := OR42.out; have := OR44.out; have := OR46.out; have := OR48.out; have := OR60.out; have := OR64.out; have := OR67.out; have := HW0.out; omega))
  replace T67 := hid (T67.out.mk' hm (by have := OR40.out; have := OR42.out; have := OR44.out; have := OR46.out; have := OR48.out; have := OR60.out; have := OR64.out; have := OR67.out; have := HW0.out; omega))
  replace T60 := hid (show Tr _ 35 lo60 hi60 (D.mark 1) B60 _ from ⟨hT, T60.out.2⟩)
  replace HT := hid (Nat.le_trans HT.out hm.size)
  clear hm hM hT
  obtain ⟨a82_0, a82_1, a82_2, a82_3, a82_4⟩ := X60.out.cells5
  have la82 := X60.out.lt
  go_wp2_with fail
  refine (heldValue_any D _ k0 m0 u0 rx B60 d60 _ 1 (by have h := T60.out.1.1; rw [Forest.len_mark] at h; exact h) (by omega) (by omega)).mono ?_
  rintro e wz83 ⟨rfl, hg⟩
  clear a82_0 a82_1 a82_2 a82_3 a82_4 la82
  rw [HZ80.out]
  replace GW := hid (gb_trans GW.out hg)
  replace T40 := hid (T40.out.grow hg)
  replace X40 := hid (X40.out.grow hg)
  replace T42 := hid (T42.out.grow hg)
  replace X44 := hid (X44.out.grow hg)
  replace T46 := hid (T46.out.grow hg)
  replace X48 := hid (X48.out.grow hg)
  replace T60 := hid (T60.out.grow hg)
  replace X60 := hid (X60.out.grow hg)
  replace T64 := hid (T64.out.grow hg)
  replace T67 := hid (T67.out.grow hg)
  replace HT := hid (Nat.le_trans HT.out (hg).size)
  clear hg
  go_wp2_with fail
  refine wp_region_puts (X := Nat × Value × Value × Value × Value) (fun x w' => ∃ A' c' L' lo hi, x.2.2.2.2 = .agg #[.int .i64 k0, .int .i64 m0, .string u0, .int .i64 rx, .slice A' D.len c'] ∧ Tr w' 35 lo hi D A' L' ∧ HoldsT w' x.1 #[.int .i64 k0, .int .i64 m0, .string u0, .int .i64 rx, .slice A' D.len c'] 26 ∧ (hi67 ≤ lo ∧ lo ≤ hi ∧ hi ≤ w'.heap.size) ∧ (hi67 ≤ x.1 ∧ x.1 + 1 ≤ w'.heap.size ∧ (x.1 + 1 ≤ lo ∨ hi ≤ x.1)) ∧ wz83.grownBy w' none) (fun x => [(some 106, .agg #[.int .i64 k0, .int .i64 m0, .string u0, .int .i64 x0, .slice A0 f0.len c0]), (some 107, x.2.1), (some 108, .agg #[.bool t1, .int .i64 p1, .string s1]), (some 109, x.2.2.1), (some 110, .agg #[.int .i64 k2, .int .i64 m2, .string u2, .int .i64 x2, .slice A2 f2.len c2]), (some 111, x.2.2.2.1), (some 112, .tuple #[x.2.2.2.2, .bool ab]), (some 105, .tuple #[x.2.2.2.2, .bool ab]), (some 113, x.2.2.2.2), (some 114, .bool ab), (some 17, .pointer (some ⟨x.1, 0, none⟩)), (some 18, .bool ab)]) ?_ ?_
  · skip
    refine wp_region_E 999 13 rfl (by kernel_rfl) (fun wd w' => wd.grownBy w' none) fun wd gd => ?_
    have g0 : wd.grownBy wd none := gb_refl _ _
    have GI := hid gd
    replace GW := hid (gb_trans GW.out gd)
    replace T40 := hid (T40.out.grow gd)
    replace X40 := hid (X40.out.grow gd)
    replace T42 := hid (T42.out.grow gd)
    replace X44 := hid (X44.out.grow gd)
    replace T46 := hid (T46.out.grow gd)
    replace X48 := hid (X48.out.grow gd)
    replace T60 := hid (T60.out.grow gd)
    replace X60 := hid (X60.out.grow gd)
    replace T64 := hid (T64.out.grow gd)
    replace T67 := hid (T67.out.grow gd)
    replace HT := hid (Nat.le_trans HT.out (gd).size)
    clear gd
    have GD := hid g0
    refine E_load 0 rfl (some 106) rfl (by kernel_rfl) (by kernel_rfl) (by kernel_rfl) (by kernel_rfl) (by decide) (fun _ _ _ _ h => by cases h.1) rfl 40 (.tmp 3) rfl (w.heap.size) 0 rfl _ (fun w' hw => ((HB0.out.grow GW.out).grow hw).rangeV) Tryd.underlying40 rfl Tryd.infoVL g0 ?_
    simp only [Act.put, List.setIfInBounds_toArray, List.set_cons_succ, List.set_cons_zero]
    refine E_load 2 rfl (some 108) rfl (by kernel_rfl) (by kernel_rfl) (by kernel_rfl) (by kernel_rfl) (by decide) (fun _ _ _ _ h => by cases h.1) rfl 45 (.tmp 4) rfl (w.heap.size + 1) 0 rfl _ (fun w' hw => ((HB1.out.grow GW.out).grow hw).rangeV) Tryd.underlying45 rfl Tryd.infoKL g0 ?_
    simp only [Act.put, List.setIfInBounds_toArray, List.set_cons_succ, List.set_cons_zero]
    refine E_load 4 rfl (some 110) rfl (by kernel_rfl) (by kernel_rfl) (by kernel_rfl) (by kernel_rfl) (by decide) (fun _ _ _ _ h => by cases h.1) rfl 40 (.tmp 5) rfl (w.heap.size + 1 + 1) 0 rfl _ (fun w' hw => ((HB2.out.grow GW.out).grow hw).rangeV) Tryd.underlying40 rfl Tryd.infoVL g0 ?_
    simp only [Act.put, List.setIfInBounds_toArray, List.set_cons_succ, List.set_cons_zero]
    refine E_two 1 10 (by kernel_rfl) ?_ ?_
    · skip
      refine E_call 1 rfl (some 107) rfl rfl 20 _ (run_call1 _ (by kernel_rfl) (.tmp 106) _ (.agg #[.int .i64 k0, .int .i64 m0, .string u0, .int .i64 x0, .slice A0 f0.len c0]) rfl rfl) (toValue_any f0 (toEntryS_any f0) k0 m0 u0 x0 A0 c0 _ _ (RP0.out.grow GW.out) HO0.out.1 (by omega)) ?_
      rintro e wz85 ⟨B84, d84, M84, rfl, ha84, ho84, hg⟩
      obtain ⟨lo84, hi84, hT84, hlo84, hlh84, hhi84⟩ := own_tr ho84 hg HT.out
      have OR84 := hid (And.intro hlo84 hlh84); have HA84 := hid ha84.2
      replace GW := hid (gb_trans GW.out hg)
      replace T40 := hid (T40.out.grow hg)
      replace X40 := hid (X40.out.grow hg)
      replace T42 := hid (T42.out.grow hg)
      replace X44 := hid (X44.out.grow hg)
      replace T46 := hid (T46.out.grow hg)
      replace X48 := hid (X48.out.grow hg)
      replace T60 := hid (T60.out.grow hg)
      replace X60 := hid (X60.out.grow hg)
      replace T64 := hid (T64.out.grow hg)
      replace T67 := hid (T67.out.grow hg)
      replace HT := hid (Nat.le_trans HT.out (hg).size)
      replace GD := hid (gb_trans GD.out hg)
      clear hg
      have T84 := hid hT84; replace HT := hid hhi84
      clear ho84 ha84 hT84 hlo84 hlh84 hhi84
      refine ⟨_, rfl, fun _ => GD.out, ?_⟩
      simp only [Act.put, List.setIfInBounds_toArray, List.set_cons_succ, List.set_cons_zero]
      refine E_two 3 10 (by kernel_rfl) ?_ ?_
      · skip
        refine E_call 3 rfl (some 109) rfl rfl 24 _ (run_call1 _ (by kernel_rfl) (.tmp 108) _ (.agg #[.bool t1, .int .i64 p1, .string s1]) rfl rfl) (toKey_any t1 p1 s1 _) ?_
        rintro e wz86 ⟨rfl, hg⟩
        replace GW := hid (gb_trans GW.out hg)
        replace T40 := hid (T40.out.grow hg)
        replace X40 := hid (X40.out.grow hg)
        replace T42 := hid (T42.out.grow hg)
        replace X44 := hid (X44.out.grow hg)
        replace T46 := hid (T46.out.grow hg)
        replace X48 := hid (X48.out.grow hg)
        replace T60 := hid (T60.out.grow hg)
        replace X60 := hid (X60.out.grow hg)
        replace T64 := hid (T64.out.grow hg)
        replace T67 := hid (T67.out.grow hg)
        replace T84 := hid (T84.out.grow hg)
        replace HT := hid (Nat.le_trans HT.out (hg).size)
        replace GD := hid (gb_trans GD.out hg)
        clear hg
        refine ⟨_, rfl, fun _ => GD.out, ?_⟩
        simp only [Act.put, List.setIfInBounds_toArray, List.set_cons_succ, List.set_cons_zero]
        refine E_two 5 10 (by kernel_rfl) ?_ ?_
        · skip
          refine E_call 5 rfl (some 111) rfl rfl 20 _ (run_call1 _ (by kernel_rfl) (.tmp 110) _ (.agg #[.int .i64 k2, .int .i64 m2, .string u2, .int .i64 x2, .slice A2 f2.len c2]) rfl rfl) (toValue_any f2 (toEntryS_any f2) k2 m2 u2 x2 A2 c2 _ _ (RP2.out.grow GW.out) HO2.out.1 (by omega)) ?_
          rintro e wz88 ⟨B87, d87, M87, rfl, ha87, ho87, hg⟩
          obtain ⟨lo87, hi87, hT87, hlo87, hlh87, hhi87⟩ := own_tr ho87 hg HT.out
          have OR87 := hid (And.intro hlo87 hlh87); have HA87 := hid ha87.2
          replace GW := hid (gb_trans GW.out hg)
          replace T40 := hid (T40.out.grow hg)
          replace X40 := hid (X40.out.grow hg)
          replace T42 := hid (T42.out.grow hg)
          replace X44 := hid (X44.out.grow hg)
          replace T46 := hid (T46.out.grow hg)
          replace X48 := hid (X48.out.grow hg)
          replace T60 := hid (T60.out.grow hg)
          replace X60 := hid (X60.out.grow hg)
          replace T64 := hid (T64.out.grow hg)
          replace T67 := hid (T67.out.grow hg)
          replace T84 := hid (T84.out.grow hg)
          replace HT := hid (Nat.le_trans HT.out (hg).size)
          replace GD := hid (gb_trans GD.out hg)
          clear hg
          have T87 := hid hT87; replace HT := hid hhi87
          clear ho87 ha87 hT87 hlo87 hlh87 hhi87
          refine ⟨_, rfl, fun _ => GD.out, ?_⟩
          simp only [Act.put, List.setIfInBounds_toArray, List.set_cons_succ, List.set_cons_zero]
          refine E_two 6 10 (by kernel_rfl) ?_ ?_
          · skip
            refine E_call 6 rfl (some 112) rfl rfl 25 _ (run_call3 _ (by kernel_rfl) (.tmp 107) (.tmp 109) (.tmp 111) _ (.agg #[.int .i64 k0, .int .i64 m0, .string u0, .int .i64 x0, .slice B84 f0.len d84]) (.agg #[.bool t1, .int .i64 p1, .string s1]) (.agg #[.int .i64 k2, .int .i64 m2, .string u2, .int .i64 x2, .slice B87 f2.len d87]) rfl rfl rfl rfl) (implSetKey_any f0 f2 t1 p1 s1 _ k0 m0 u0 x0 B84 d84 _ k2 m2 u2 x2 B87 d87 _ ab rx D HAB.out HD.out (by omega) T84.out.1.1 (by omega) T87.out.1.1 (by omega) (HL.out.grow (gb_trans GP.out GW.out))) ?_
            rintro e wz90 ⟨B89, d89, M89, rfl, _, hR, hg⟩
            obtain ⟨lo89, hi89, hT89, hlo89, hlh89, hhi89⟩ := own_tr hR.own hg HT.out
            have OR89 := hid (And.intro hlo89 hlh89)
            replace GW := hid (gb_trans GW.out hg)
            replace T40 := hid (T40.out.grow hg)
            replace X40 := hid (X40.out.grow hg)
            replace T42 := hid (T42.out.grow hg)
            replace X44 := hid (X44.out.grow hg)
            replace T46 := hid (T46.out.grow hg)
            replace X48 := hid (X48.out.grow hg)
            replace T60 := hid (T60.out.grow hg)
            replace X60 := hid (X60.out.grow hg)
            replace T64 := hid (T64.out.grow hg)
            replace T67 := hid (T67.out.grow hg)
            replace T84 := hid (T84.out.grow hg)
            replace T87 := hid (T87.out.grow hg)
            replace HT := hid (Nat.le_trans HT.out (hg).size)
            replace GD := hid (gb_trans GD.out hg)
            clear hg
            have T89 := hid hT89; replace HT := hid hhi89
            clear hR hT89 hlo89 hlh89 hhi89
            refine ⟨_, rfl, fun _ => GD.out, ?_⟩
            simp only [Act.put, List.setIfInBounds_toArray, List.set_cons_succ, List.set_cons_zero]
            refine E_take 7 rfl (some 105) rfl (by kernel_rfl) (by kernel_rfl) (by kernel_rfl) (by kernel_rfl) (by decide) (fun _ _ _ _ h => by cases h.1) rfl (.tuple #[.agg #[.int .i64 k0, .int .i64 m0, .string u0, .int .i64 rx, .slice B89 D.len d89], .bool ab]) (fun w' hw => run_mov (.tmp 112) rfl rfl) GD.out ?_
            simp only [Act.put, List.setIfInBounds_toArray, List.set_cons_succ, List.set_cons_zero]
            refine E_take 8 rfl (some 113) rfl (by kernel_rfl) (by kernel_rfl) (by kernel_rfl) (by kernel_rfl) (by decide) (fun _ _ _ _ h => by cases h.1) rfl (.agg #[.int .i64 k0, .int .i64 m0, .string u0, .int .i64 rx, .slice B89 D.len d89]) (fun w' hw => run_ext (.tmp 105) 0 rfl rfl rfl) GD.out ?_
            simp only [Act.put, List.setIfInBounds_toArray, List.set_cons_succ, List.set_cons_zero]
            refine E_take 9 rfl (some 114) rfl (by kernel_rfl) (by kernel_rfl) (by kernel_rfl) (by kernel_rfl) (by decide) (fun _ _ _ _ h => by cases h.1) rfl (.bool ab) (fun w' hw => run_ext (.tmp 105) 1 rfl rfl rfl) GD.out ?_
            simp only [Act.put, List.setIfInBounds_toArray, List.set_cons_succ, List.set_cons_zero]
            refine E_only 10 (by kernel_rfl) ?_
            have hge91 : wd.heap.size ≤ wz90.heap.size := GD.out.size
            have HGE91 := hid hge91
            clear hge91
            have X91 := hid (HoldsT.new wz90 #[.int .i64 0, .int .i64 0, .string { data := #[] }, .int .i64 0, .slice none 0 0] 26)
            have OR91 : Hid (hi89 ≤ wz90.heap.size) := HT
            replace GW := hid (gb_alloc GW.out (.cells #[.int .i64 0, .int .i64 0, .string { data := #[] }, .int .i64 0, .slice none 0 0] 26))
            replace T40 := hid (T40.out.grow (gb_alloc (gb_refl _ none) (.cells #[.int .i64 0, .int .i64 0, .string { data := #[] }, .int .i64 0, .slice none 0 0] 26)))
            replace X40 := hid (X40.out.grow (gb_alloc (gb_refl _ none) (.cells #[.int .i64 0, .int .i64 0, .string { data := #[] }, .int .i64 0, .slice none 0 0] 26)))
            replace T42 := hid (T42.out.grow (gb_alloc (gb_refl _ none) (.cells #[.int .i64 0, .int .i64 0, .string { data := #[] }, .int .i64 0, .slice none 0 0] 26)))
            replace X44 := hid (X44.out.grow (gb_alloc (gb_refl _ none) (.cells #[.int .i64 0, .int .i64 0, .string { data := #[] }, .int .i64 0, .slice none 0 0] 26)))
            replace T46 := hid (T46.out.grow (gb_alloc (gb_refl _ none) (.cells #[.int .i64 0, .int .i64 0, .string { data := #[] }, .int .i64 0, .slice none 0 0] 26)))
            replace X48 := hid (X48.out.grow (gb_alloc (gb_refl _ none) (.cells #[.int .i64 0, .int .i64 0, .string { data := #[] }, .int .i64 0, .slice none 0 0] 26)))
            replace T60 := hid (T60.out.grow (gb_alloc (gb_refl _ none) (.cells #[.int .i64 0, .int .i64 0, .string { data := #[] }, .int .i64 0, .slice none 0 0] 26)))
            replace X60 := hid (X60.out.grow (gb_alloc (gb_refl _ none) (.cells #[.int .i64 0, .int .i64 0, .string { data := #[] }, .int .i64 0, .slice none 0 0] 26)))
            replace T64 := hid (T64.out.grow (gb_alloc (gb_refl _ none) (.cells #[.int .i64 0, .int .i64 0, .string { data := #[] }, .int .i64 0, .slice none 0 0] 26)))
            replace T67 := hid (T67.out.grow (gb_alloc (gb_refl _ none) (.cells #[.int .i64 0, .int .i64 0, .string { data := #[] }, .int .i64 0, .slice none 0 0] 26)))
            replace T84 := hid (T84.out.grow (gb_alloc (gb_refl _ none) (.cells #[.int .i64 0, .int .i64 0, .string { data := #[] }, .int .i64 0, .slice none 0 0] 26)))
            replace T87 := hid (T87.out.grow (gb_alloc (gb_refl _ none) (.cells #[.int .i64 0, .int .i64 0, .string { data := #[] }, .int .i64 0, .slice none 0 0] 26)))
            replace T89 := hid (T89.out.grow (gb_alloc (gb_refl _ none) (.cells #[.int .i64 0, .int .i64 0, .string { data := #[] }, .int .i64 0, .slice none 0 0] 26)))
            replace GD := hid (gb_alloc GD.out (.cells #[.int .i64 0, .int .i64 0, .string { data := #[] }, .int .i64 0, .slice none 0 0] 26))
            refine E_val 10 rfl (some 17) rfl rfl (.pointer (some ⟨wz90.heap.size, 0, none⟩)) (wz90.alloc (.cells #[.int .i64 0, .int .i64 0, .string { data := #[] }, .int .i64 0, .slice none 0 0] 26)) (by go_simp) ⟨fun _ => GD.out, ?_⟩
            simp only [Act.put, List.setIfInBounds_toArray, List.set_cons_succ, List.set_cons_zero]
            replace HT := hid (show (wz90.heap.size + 1) ≤ (wz90.alloc (.cells #[.int .i64 0, .int .i64 0, .string { data := #[] }, .int .i64 0, .slice none 0 0] 26)).heap.size by simp)
            have s9 := gb_setCells (r := some (wz90.heap.size)) (.inr rfl) [.int .i64 k0, .int .i64 m0, .string u0, .int .i64 rx, .slice B89 D.len d89] 0 (gb_refl (wz90.alloc (.cells #[.int .i64 0, .int .i64 0, .string { data := #[] }, .int .i64 0, .slice none 0 0] 26)) (some (wz90.heap.size)))
            have x9 := hid (show HoldsT ((wz90.alloc (.cells #[.int .i64 0, .int .i64 0, .string { data := #[] }, .int .i64 0, .slice none 0 0] 26)).setCells (wz90.heap.size) 0 [.int .i64 k0, .int .i64 m0, .string u0, .int .i64 rx, .slice B89 D.len d89]) (wz90.heap.size) #[.int .i64 k0, .int .i64 m0, .string u0, .int .i64 rx, .slice B89 D.len d89] 26 by have h := X91.out.setCells [.int .i64 k0, .int .i64 m0, .string u0, .int .i64 rx, .slice B89 D.len d89] 0; simpa [setArr] using h)
            have gd9 := hid (gb_setCells (r := none) (.inl HGE91.out) [.int .i64 k0, .int .i64 m0, .string u0, .int .i64 rx, .slice B89 D.len d89] 0 GD.out)
            have m9 : MkI (wz90.alloc (.cells #[.int .i64 0, .int .i64 0, .string { data := #[] }, .int .i64 0, .slice none 0 0] 26)) ((wz90.alloc (.cells #[.int .i64 0, .int .i64 0, .string { data := #[] }, .int .i64 0, .slice none 0 0] 26)).setCells (wz90.heap.size) 0 [.int .i64 k0, .int .i64 m0, .string u0, .int .i64 rx, .slice B89 D.len d89]) (wz90.heap.size) (wz90.heap.size + 1) := ⟨s9.os, s9.tape, s9.output, s9.size, fun k hk hb => s9.block k hk (by intro e; injection e; omega)⟩
            have t9 := hid (T89.out.mk' m9 (by have := OR40.out; have := OR42.out; have := OR44.out; have := OR46.out; have := OR48.out; have := OR60.out; have := OR64.out; have := OR67.out; have := OR84.out; have := OR87.out; have := OR89.out; have := OR91.out; have := HW0.out; omega))
            have HF := hid (Nat.le_trans HT.out m9.size)
            refine E_only 11 (by kernel_rfl) (E_store 11 rfl none rfl rfl 26 (.tmp 17) (.tmp 113) rfl (wz90.heap.size) 0 [.int .i64 k0, .int .i64 m0, .string u0, .int .i64 rx, .slice B89 D.len d89] rfl rfl X91.out (by simp) Tryd.infoV rfl ⟨fun _ => gd9.out, ?_⟩)
            simp only [Act.put]
            clear GD s9 m9
            have GD := gd9
            refine E_only 12 (by kernel_rfl) (E_val 12 rfl (some 18) rfl rfl (.bool ab) _ (run_asg (.tmp 114) rfl rfl) ⟨fun _ => GD.out, ?_⟩)
            simp only [Act.put, List.setIfInBounds_toArray, List.set_cons_succ, List.set_cons_zero]
            refine E_done (by kernel_rfl) ?_ _
            exact ⟨rfl, ⟨wz90.heap.size, .agg #[.int .i64 k0, .int .i64 m0, .string u0, .int .i64 x0, .slice B84 f0.len d84], .agg #[.bool t1, .int .i64 p1, .string s1], .agg #[.int .i64 k2, .int .i64 m2, .string u2, .int .i64 x2, .slice B87 f2.len d87], .agg #[.int .i64 k0, .int .i64 m0, .string u0, .int .i64 rx, .slice B89 D.len d89]⟩, ⟨B89, d89, _, lo89, hi89, rfl, t9.out, x9.out, ⟨(by have := OR40.out; have := OR42.out; have := OR44.out; have := OR46.out; have := OR48.out; have := OR60.out; have := OR64.out; have := OR67.out; have := OR84.out; have := OR87.out; have := OR89.out; have := OR91.out; have := HW0.out; omega), (by have := OR40.out; have := OR42.out; have := OR44.out; have := OR46.out; have := OR48.out; have := OR60.out; have := OR64.out; have := OR67.out; have := OR84.out; have := OR87.out; have := OR89.out; have := OR91.out; have := HW0.out; omega), (by have := OR40.out; have := OR42.out; have := OR44.out; have := OR46.out; have := OR48.out; have := OR60.out; have := OR64.out; have := OR67.out; have := OR84.out; have := OR87.out; have := OR89.out; have := OR91.out; have := HW0.out; have := HF.out; omega)⟩, ⟨(by have := OR40.out; have := OR42.out; have := OR44.out; have := OR46.out; have := OR48.out; have := OR60.out; have := OR64.out; have := OR67.out; have := OR84.out; have := OR87.out; have := OR89.out; have := OR91.out; have := HW0.out; omega), x9.out.lt, (by have := OR40.out; have := OR42.out; have := OR44.out; have := OR46.out; have := OR48.out; have := OR60.out; have := OR64.out; have := OR67.out; have := OR84.out; have := OR87.out; have := OR89.out; have := OR91.out; have := HW0.out; omega)⟩, gb_trans GI.out GD.out⟩, by simp only [List.foldl, Act.put, List.setIfInBounds_toArray, List.set_cons_succ, List.set_cons_zero]⟩
          · skip
            have hge92 : wd.heap.size ≤ wz88.heap.size := GD.out.size
            have HGE92 := hid hge92
            clear hge92
            have X92 := hid (HoldsT.new wz88 #[.int .i64 0, .int .i64 0, .string { data := #[] }, .int .i64 0, .slice none 0 0] 26)
            have OR92 : Hid (hi87 ≤ wz88.heap.size) := HT
            replace GW := hid (gb_alloc GW.out (.cells #[.int .i64 0, .int .i64 0, .string { data := #[] }, .int .i64 0, .slice none 0 0] 26))
            replace T40 := hid (T40.out.grow (gb_alloc (gb_refl _ none) (.cells #[.int .i64 0, .int .i64 0, .string { data := #[] }, .int .i64 0, .slice none 0 0] 26)))
            replace X40 := hid (X40.out.grow (gb_alloc (gb_refl _ none) (.cells #[.int .i64 0, .int .i64 0, .string { data := #[] }, .int .i64 0, .slice none 0 0] 26)))
            replace T42 := hid (T42.out.grow (gb_alloc (gb_refl _ none) (.cells #[.int .i64 0, .int .i64 0, .string { data := #[] }, .int .i64 0, .slice none 0 0] 26)))
            replace X44 := hid (X44.out.grow (gb_alloc (gb_refl _ none) (.cells #[.int .i64 0, .int .i64 0, .string { data := #[] }, .int .i64 0, .slice none 0 0] 26)))
            replace T46 := hid (T46.out.grow (gb_alloc (gb_refl _ none) (.cells #[.int .i64 0, .int .i64 0, .string { data := #[] }, .int .i64 0, .slice none 0 0] 26)))
            replace X48 := hid (X48.out.grow (gb_alloc (gb_refl _ none) (.cells #[.int .i64 0, .int .i64 0, .string { data := #[] }, .int .i64 0, .slice none 0 0] 26)))
            replace T60 := hid (T60.out.grow (gb_alloc (gb_refl _ none) (.cells #[.int .i64 0, .int .i64 0, .string { data := #[] }, .int .i64 0, .slice none 0 0] 26)))
            replace X60 := hid (X60.out.grow (gb_alloc (gb_refl _ none) (.cells #[.int .i64 0, .int .i64 0, .string { data := #[] }, .int .i64 0, .slice none 0 0] 26)))
            replace T64 := hid (T64.out.grow (gb_alloc (gb_refl _ none) (.cells #[.int .i64 0, .int .i64 0, .string { data := #[] }, .int .i64 0, .slice none 0 0] 26)))
            replace T67 := hid (T67.out.grow (gb_alloc (gb_refl _ none) (.cells #[.int .i64 0, .int .i64 0, .string { data := #[] }, .int .i64 0, .slice none 0 0] 26)))
            replace T84 := hid (T84.out.grow (gb_alloc (gb_refl _ none) (.cells #[.int .i64 0, .int .i64 0, .string { data := #[] }, .int .i64 0, .slice none 0 0] 26)))
            replace T87 := hid (T87.out.grow (gb_alloc (gb_refl _ none) (.cells #[.int .i64 0, .int .i64 0, .string { data := #[] }, .int .i64 0, .slice none 0 0] 26)))
            replace GD := hid (gb_alloc GD.out (.cells #[.int .i64 0, .int .i64 0, .string { data := #[] }, .int .i64 0, .slice none 0 0] 26))
            refine E_val 10 rfl (some 17) rfl rfl (.pointer (some ⟨wz88.heap.size, 0, none⟩)) (wz88.alloc (.cells #[.int .i64 0, .int .i64 0, .string { data := #[] }, .int .i64 0, .slice none 0 0] 26)) (by go_simp) ⟨fun _ => GD.out, ?_⟩
            simp only [Act.put, List.setIfInBounds_toArray, List.set_cons_succ, List.set_cons_zero]
            replace HT := hid (show (wz88.heap.size + 1) ≤ (wz88.alloc (.cells #[.int .i64 0, .int .i64 0, .string { data := #[] }, .int .i64 0, .slice none 0 0] 26)).heap.size by simp)
            refine E_only 6 (by kernel_rfl) ?_
            refine E_call 6 rfl (some 112) rfl rfl 25 _ (run_call3 _ (by kernel_rfl) (.tmp 107) (.tmp 109) (.tmp 111) _ (.agg #[.int .i64 k0, .int .i64 m0, .string u0, .int .i64 x0, .slice B84 f0.len d84]) (.agg #[.bool t1, .int .i64 p1, .string s1]) (.agg #[.int .i64 k2, .int .i64 m2, .string u2, .int .i64 x2, .slice B87 f2.len d87]) rfl rfl rfl rfl) (implSetKey_any f0 f2 t1 p1 s1 _ k0 m0 u0 x0 B84 d84 _ k2 m2 u2 x2 B87 d87 _ ab rx D HAB.out HD.out (by omega) T84.out.1.1 (by omega) T87.out.1.1 (by omega) (HL.out.grow (gb_trans GP.out GW.out))) ?_
            rintro e wz94 ⟨B93, d93, M93, rfl, _, hR, hg⟩
            obtain ⟨lo93, hi93, hT93, hlo93, hlh93, hhi93⟩ := own_tr hR.own hg X92.out.lt
            have OR93 := hid (And.intro hlo93 hlh93)
            replace GW := hid (gb_trans GW.out hg)
            replace T40 := hid (T40.out.grow hg)
            replace X40 := hid (X40.out.grow hg)
            replace T42 := hid (T42.out.grow hg)
            replace X44 := hid (X44.out.grow hg)
            replace T46 := hid (T46.out.grow hg)
            replace X48 := hid (X48.out.grow hg)
            replace T60 := hid (T60.out.grow hg)
            replace X60 := hid (X60.out.grow hg)
            replace T64 := hid (T64.out.grow hg)
            replace T67 := hid (T67.out.grow hg)
            replace T84 := hid (T84.out.grow hg)
            replace T87 := hid (T87.out.grow hg)
            replace X92 := hid (X92.out.grow hg)
            replace HT := hid (Nat.le_trans HT.out (hg).size)
            replace GD := hid (gb_trans GD.out hg)
            clear hg
            have T93 := hid hT93; replace HT := hid hhi93
            clear hR hT93 hlo93 hlh93 hhi93
            refine ⟨_, rfl, fun _ => GD.out, ?_⟩
            simp only [Act.put, List.setIfInBounds_toArray, List.set_cons_succ, List.set_cons_zero]
            refine E_take 7 rfl (some 105) rfl (by kernel_rfl) (by kernel_rfl) (by kernel_rfl) (by kernel_rfl) (by decide) (fun _ _ _ _ h => by cases h.1) rfl (.tuple #[.agg #[.int .i64 k0, .int .i64 m0, .string u0, .int .i64 rx, .slice B93 D.len d93], .bool ab]) (fun w' hw => run_mov (.tmp 112) rfl rfl) GD.out ?_
            simp only [Act.put, List.setIfInBounds_toArray, List.set_cons_succ, List.set_cons_zero]
            refine E_take 8 rfl (some 113) rfl (by kernel_rfl) (by kernel_rfl) (by kernel_rfl) (by kernel_rfl) (by decide) (fun _ _ _ _ h => by cases h.1) rfl (.agg #[.int .i64 k0, .int .i64 m0, .string u0, .int .i64 rx, .slice B93 D.len d93]) (fun w' hw => run_ext (.tmp 105) 0 rfl rfl rfl) GD.out ?_
            simp only [Act.put, List.setIfInBounds_toArray, List.set_cons_succ, List.set_cons_zero]
            refine E_take 9 rfl (some 114) rfl (by kernel_rfl) (by kernel_rfl) (by kernel_rfl) (by kernel_rfl) (by decide) (fun _ _ _ _ h => by cases h.1) rfl (.bool ab) (fun w' hw => run_ext (.tmp 105) 1 rfl rfl rfl) GD.out ?_
            simp only [Act.put, List.setIfInBounds_toArray, List.set_cons_succ, List.set_cons_zero]
            have s9 := gb_setCells (r := some (wz88.heap.size)) (.inr rfl) [.int .i64 k0, .int .i64 m0, .string u0, .int .i64 rx, .slice B93 D.len d93] 0 (gb_refl wz94 (some (wz88.heap.size)))
            have x9 := hid (show HoldsT (wz94.setCells (wz88.heap.size) 0 [.int .i64 k0, .int .i64 m0, .string u0, .int .i64 rx, .slice B93 D.len d93]) (wz88.heap.size) #[.int .i64 k0, .int .i64 m0, .string u0, .int .i64 rx, .slice B93 D.len d93] 26 by have h := X92.out.setCells [.int .i64 k0, .int .i64 m0, .string u0, .int .i64 rx, .slice B93 D.len d93] 0; simpa [setArr] using h)
            have gd9 := hid (gb_setCells (r := none) (.inl HGE92.out) [.int .i64 k0, .int .i64 m0, .string u0, .int .i64 rx, .slice B93 D.len d93] 0 GD.out)
            have m9 : MkI wz94 (wz94.setCells (wz88.heap.size) 0 [.int .i64 k0, .int .i64 m0, .string u0, .int .i64 rx, .slice B93 D.len d93]) (wz88.heap.size) (wz88.heap.size + 1) := ⟨s9.os, s9.tape, s9.output, s9.size, fun k hk hb => s9.block k hk (by intro e; injection e; omega)⟩
            have t9 := hid (T93.out.mk' m9 (by have := OR40.out; have := OR42.out; have := OR44.out; have := OR46.out; have := OR48.out; have := OR60.out; have := OR64.out; have := OR67.out; have := OR84.out; have := OR87.out; have := OR92.out; have := OR93.out; have := HW0.out; omega))
            have HF := hid (Nat.le_trans HT.out m9.size)
            refine E_only 11 (by kernel_rfl) (E_store 11 rfl none rfl rfl 26 (.tmp 17) (.tmp 113) rfl (wz88.heap.size) 0 [.int .i64 k0, .int .i64 m0, .string u0, .int .i64 rx, .slice B93 D.len d93] rfl rfl X92.out (by simp) Tryd.infoV rfl ⟨fun _ => gd9.out, ?_⟩)
            simp only [Act.put]
            clear GD s9 m9
            have GD := gd9
            refine E_only 12 (by kernel_rfl) (E_val 12 rfl (some 18) rfl rfl (.bool ab) _ (run_asg (.tmp 114) rfl rfl) ⟨fun _ => GD.out, ?_⟩)
            simp only [Act.put, List.setIfInBounds_toArray, List.set_cons_succ, List.set_cons_zero]
            refine E_done (by kernel_rfl) ?_ _
            exact ⟨rfl, ⟨wz88.heap.size, .agg #[.int .i64 k0, .int .i64 m0, .string u0, .int .i64 x0, .slice B84 f0.len d84], .agg #[.bool t1, .int .i64 p1, .string s1], .agg #[.int .i64 k2, .int .i64 m2, .string u2, .int .i64 x2, .slice B87 f2.len d87], .agg #[.int .i64 k0, .int .i64 m0, .string u0, .int .i64 rx, .slice B93 D.len d93]⟩, ⟨B93, d93, _, lo93, hi93, rfl, t9.out, x9.out, ⟨(by have := OR40.out; have := OR42.out; have := OR44.out; have := OR46.out; have := OR48.out; have := OR60.out; have := OR64.out; have := OR67.out; have := OR84.out; have := OR87.out; have := OR92.out; have := OR93.out; have := HW0.out; omega), (by have := OR40.out; have := OR42.out; have := OR44.out; have := OR46.out; have := OR48.out; have := OR60.out; have := OR64.out; have := OR67.out; have := OR84.out; have := OR87.out; have := OR92.out; have := OR93.out; have := HW0.out; omega), (by have := OR40.out; have := OR42.out; have := OR44.out; have := OR46.out; have := OR48.out; have := OR60.out; have := OR64.out; have := OR67.out; have := OR84.out; have := OR87.out; have := OR92.out; have := OR93.out; have := HW0.out; have := HF.out; omega)⟩, ⟨(by have := OR40.out; have := OR42.out; have := OR44.out; have := OR46.out; have := OR48.out; have := OR60.out; have := OR64.out; have := OR67.out; have := OR84.out; have := OR87.out; have := OR92.out; have := OR93.out; have := HW0.out; omega), x9.out.lt, (by have := OR40.out; have := OR42.out; have := OR44.out; have := OR46.out; have := OR48.out; have := OR60.out; have := OR64.out; have := OR67.out; have := OR84.out; have := OR87.out; have := OR92.out; have := OR93.out; have := HW0.out; omega)⟩, gb_trans GI.out GD.out⟩, by simp only [List.foldl, Act.put, List.setIfInBounds_toArray, List.set_cons_succ, List.set_cons_zero]⟩
        · skip
          have hge95 : wd.heap.size ≤ wz86.heap.size := GD.out.size
          have HGE95 := hid hge95
          clear hge95
          have X95 := hid (HoldsT.new wz86 #[.int .i64 0, .int .i64 0, .string { data := #[] }, .int .i64 0, .slice none 0 0] 26)
          have OR95 : Hid (hi84 ≤ wz86.heap.size) := HT
          replace GW := hid (gb_alloc GW.out (.cells #[.int .i64 0, .int .i64 0, .string { data := #[] }, .int .i64 0, .slice none 0 0] 26))
          replace T40 := hid (T40.out.grow (gb_alloc (gb_refl _ none) (.cells #[.int .i64 0, .int .i64 0, .string { data := #[] }, .int .i64 0, .slice none 0 0] 26)))
          replace X40 := hid (X40.out.grow (gb_alloc (gb_refl _ none) (.cells #[.int .i64 0, .int .i64 0, .string { data := #[] }, .int .i64 0, .slice none 0 0] 26)))
          replace T42 := hid (T42.out.grow (gb_alloc (gb_refl _ none) (.cells #[.int .i64 0, .int .i64 0, .string { data := #[] }, .int .i64 0, .slice none 0 0] 26)))
          replace X44 := hid (X44.out.grow (gb_alloc (gb_refl _ none) (.cells #[.int .i64 0, .int .i64 0, .string { data := #[] }, .int .i64 0, .slice none 0 0] 26)))
          replace T46 := hid (T46.out.grow (gb_alloc (gb_refl _ none) (.cells #[.int .i64 0, .int .i64 0, .string { data := #[] }, .int .i64 0, .slice none 0 0] 26)))
          replace X48 := hid (X48.out.grow (gb_alloc (gb_refl _ none) (.cells #[.int .i64 0, .int .i64 0, .string { data := #[] }, .int .i64 0, .slice none 0 0] 26)))
          replace T60 := hid (T60.out.grow (gb_alloc (gb_refl _ none) (.cells #[.int .i64 0, .int .i64 0, .string { data := #[] }, .int .i64 0, .slice none 0 0] 26)))
          replace X60 := hid (X60.out.grow (gb_alloc (gb_refl _ none) (.cells #[.int .i64 0, .int .i64 0, .string { data := #[] }, .int .i64 0, .slice none 0 0] 26)))
          replace T64 := hid (T64.out.grow (gb_alloc (gb_refl _ none) (.cells #[.int .i64 0, .int .i64 0, .string { data := #[] }, .int .i64 0, .slice none 0 0] 26)))
          replace T67 := hid (T67.out.grow (gb_alloc (gb_refl _ none) (.cells #[.int .i64 0, .int .i64 0, .string { data := #[] }, .int .i64 0, .slice none 0 0] 26)))
          replace T84 := hid (T84.out.grow (gb_alloc (gb_refl _ none) (.cells #[.int .i64 0, .int .i64 0, .string { data := #[] }, .int .i64 0, .slice none 0 0] 26)))
          replace GD := hid (gb_alloc GD.out (.cells #[.int .i64 0, .int .i64 0, .string { data := #[] }, .int .i64 0, .slice none 0 0] 26))
          refine E_val 10 rfl (some 17) rfl rfl (.pointer (some ⟨wz86.heap.size, 0, none⟩)) (wz86.alloc (.cells #[.int .i64 0, .int .i64 0, .string { data := #[] }, .int .i64 0, .slice none 0 0] 26)) (by go_simp) ⟨fun _ => GD.out, ?_⟩
          simp only [Act.put, List.setIfInBounds_toArray, List.set_cons_succ, List.set_cons_zero]
          replace HT := hid (show (wz86.heap.size + 1) ≤ (wz86.alloc (.cells #[.int .i64 0, .int .i64 0, .string { data := #[] }, .int .i64 0, .slice none 0 0] 26)).heap.size by simp)
          refine E_only 5 (by kernel_rfl) ?_
          refine E_call 5 rfl (some 111) rfl rfl 20 _ (run_call1 _ (by kernel_rfl) (.tmp 110) _ (.agg #[.int .i64 k2, .int .i64 m2, .string u2, .int .i64 x2, .slice A2 f2.len c2]) rfl rfl) (toValue_any f2 (toEntryS_any f2) k2 m2 u2 x2 A2 c2 _ _ (RP2.out.grow GW.out) HO2.out.1 (by omega)) ?_
          rintro e wz97 ⟨B96, d96, M96, rfl, ha96, ho96, hg⟩
          obtain ⟨lo96, hi96, hT96, hlo96, hlh96, hhi96⟩ := own_tr ho96 hg HT.out
          have OR96 := hid (And.intro hlo96 hlh96); have HA96 := hid ha96.2
          replace GW := hid (gb_trans GW.out hg)
          replace T40 := hid (T40.out.grow hg)
          replace X40 := hid (X40.out.grow hg)
          replace T42 := hid (T42.out.grow hg)
          replace X44 := hid (X44.out.grow hg)
          replace T46 := hid (T46.out.grow hg)
          replace X48 := hid (X48.out.grow hg)
          replace T60 := hid (T60.out.grow hg)
          replace X60 := hid (X60.out.grow hg)
          replace T64 := hid (T64.out.grow hg)
          replace T67 := hid (T67.out.grow hg)
          replace T84 := hid (T84.out.grow hg)
          replace X95 := hid (X95.out.grow hg)
          replace HT := hid (Nat.le_trans HT.out (hg).size)
          replace GD := hid (gb_trans GD.out hg)
          clear hg
          have T96 := hid hT96; replace HT := hid hhi96
          clear ho96 ha96 hT96 hlo96 hlh96 hhi96
          refine ⟨_, rfl, fun _ => GD.out, ?_⟩
          simp only [Act.put, List.setIfInBounds_toArray, List.set_cons_succ, List.set_cons_zero]
          refine E_only 6 (by kernel_rfl) ?_
          refine E_call 6 rfl (some 112) rfl rfl 25 _ (run_call3 _ (by kernel_rfl) (.tmp 107) (.tmp 109) (.tmp 111) _ (.agg #[.int .i64 k0, .int .i64 m0, .string u0, .int .i64 x0, .slice B84 f0.len d84]) (.agg #[.bool t1, .int .i64 p1, .string s1]) (.agg #[.int .i64 k2, .int .i64 m2, .string u2, .int .i64 x2, .slice B96 f2.len d96]) rfl rfl rfl rfl) (implSetKey_any f0 f2 t1 p1 s1 _ k0 m0 u0 x0 B84 d84 _ k2 m2 u2 x2 B96 d96 _ ab rx D HAB.out HD.out (by omega) T84.out.1.1 (by omega) T96.out.1.1 (by omega) (HL.out.grow (gb_trans GP.out GW.out))) ?_
          rintro e wz99 ⟨B98, d98, M98, rfl, _, hR, hg⟩
          obtain ⟨lo98, hi98, hT98, hlo98, hlh98, hhi98⟩ := own_tr hR.own hg X95.out.lt
          have OR98 := hid (And.intro hlo98 hlh98)
          replace GW := hid (gb_trans GW.out hg)
          replace T40 := hid (T40.out.grow hg)
          replace X40 := hid (X40.out.grow hg)
          replace T42 := hid (T42.out.grow hg)
          replace X44 := hid (X44.out.grow hg)
          replace T46 := hid (T46.out.grow hg)
          replace X48 := hid (X48.out.grow hg)
          replace T60 := hid (T60.out.grow hg)
          replace X60 := hid (X60.out.grow hg)
          replace T64 := hid (T64.out.grow hg)
          replace T67 := hid (T67.out.grow hg)
          replace T84 := hid (T84.out.grow hg)
          replace X95 := hid (X95.out.grow hg)
          replace T96 := hid (T96.out.grow hg)
          replace HT := hid (Nat.le_trans HT.out (hg).size)
          replace GD := hid (gb_trans GD.out hg)
          clear hg
          have T98 := hid hT98; replace HT := hid hhi98
          clear hR hT98 hlo98 hlh98 hhi98
          refine ⟨_, rfl, fun _ => GD.out, ?_⟩
          simp only [Act.put, List.setIfInBounds_toArray, List.set_cons_succ, List.set_cons_zero]
          refine E_take 7 rfl (some 105) rfl (by kernel_rfl) (by kernel_rfl) (by kernel_rfl) (by kernel_rfl) (by decide) (fun _ _ _ _ h => by cases h.1) rfl (.tuple #[.agg #[.int .i64 k0, .int .i64 m0, .string u0, .int .i64 rx, .slice B98 D.len d98], .bool ab]) (fun w' hw => run_mov (.tmp 112) rfl rfl) GD.out ?_
          simp only [Act.put, List.setIfInBounds_toArray, List.set_cons_succ, List.set_cons_zero]
          refine E_take 8 rfl (some 113) rfl (by kernel_rfl) (by kernel_rfl) (by kernel_rfl) (by kernel_rfl) (by decide) (fun _ _ _ _ h => by cases h.1) rfl (.agg #[.int .i64 k0, .int .i64 m0, .string u0, .int .i64 rx, .slice B98 D.len d98]) (fun w' hw => run_ext (.tmp 105) 0 rfl rfl rfl) GD.out ?_
          simp only [Act.put, List.setIfInBounds_toArray, List.set_cons_succ, List.set_cons_zero]
          refine E_take 9 rfl (some 114) rfl (by kernel_rfl) (by kernel_rfl) (by kernel_rfl) (by kernel_rfl) (by decide) (fun _ _ _ _ h => by cases h.1) rfl (.bool ab) (fun w' hw => run_ext (.tmp 105) 1 rfl rfl rfl) GD.out ?_
          simp only [Act.put, List.setIfInBounds_toArray, List.set_cons_succ, List.set_cons_zero]
          have s9 := gb_setCells (r := some (wz86.heap.size)) (.inr rfl) [.int .i64 k0, .int .i64 m0, .string u0, .int .i64 rx, .slice B98 D.len d98] 0 (gb_refl wz99 (some (wz86.heap.size)))
          have x9 := hid (show HoldsT (wz99.setCells (wz86.heap.size) 0 [.int .i64 k0, .int .i64 m0, .string u0, .int .i64 rx, .slice B98 D.len d98]) (wz86.heap.size) #[.int .i64 k0, .int .i64 m0, .string u0, .int .i64 rx, .slice B98 D.len d98] 26 by have h := X95.out.setCells [.int .i64 k0, .int .i64 m0, .string u0, .int .i64 rx, .slice B98 D.len d98] 0; simpa [setArr] using h)
          have gd9 := hid (gb_setCells (r := none) (.inl HGE95.out) [.int .i64 k0, .int .i64 m0, .string u0, .int .i64 rx, .slice B98 D.len d98] 0 GD.out)
          have m9 : MkI wz99 (wz99.setCells (wz86.heap.size) 0 [.int .i64 k0, .int .i64 m0, .string u0, .int .i64 rx, .slice B98 D.len d98]) (wz86.heap.size) (wz86.heap.size + 1) := ⟨s9.os, s9.tape, s9.output, s9.size, fun k hk hb => s9.block k hk (by intro e; injection e; omega)⟩
          have t9 := hid (T98.out.mk' m9 (by have := OR40.out; have := OR42.out; have := OR44.out; have := OR46.out; have := OR48.out; have := OR60.out; have := OR64.out; have := OR67.out; have := OR84.out; have := OR95.out; have := OR96.out; have := OR98.out; have := HW0.out; omega))
          have HF := hid (Nat.le_trans HT.out m9.size)
          refine E_only 11 (by kernel_rfl) (E_store 11 rfl none rfl rfl 26 (.tmp 17) (.tmp 113) rfl (wz86.heap.size) 0 [.int .i64 k0, .int .i64 m0, .string u0, .int .i64 rx, .slice B98 D.len d98] rfl rfl X95.out (by simp) Tryd.infoV rfl ⟨fun _ => gd9.out, ?_⟩)
          simp only [Act.put]
          clear GD s9 m9
          have GD := gd9
          refine E_only 12 (by kernel_rfl) (E_val 12 rfl (some 18) rfl rfl (.bool ab) _ (run_asg (.tmp 114) rfl rfl) ⟨fun _ => GD.out, ?_⟩)
          simp only [Act.put, List.setIfInBounds_toArray, List.set_cons_succ, List.set_cons_zero]
          refine E_done (by kernel_rfl) ?_ _
          exact ⟨rfl, ⟨wz86.heap.size, .agg #[.int .i64 k0, .int .i64 m0, .string u0, .int .i64 x0, .slice B84 f0.len d84], .agg #[.bool t1, .int .i64 p1, .string s1], .agg #[.int .i64 k2, .int .i64 m2, .string u2, .int .i64 x2, .slice B96 f2.len d96], .agg #[.int .i64 k0, .int .i64 m0, .string u0, .int .i64 rx, .slice B98 D.len d98]⟩, ⟨B98, d98, _, lo98, hi98, rfl, t9.out, x9.out, ⟨(by have := OR40.out; have := OR42.out; have := OR44.out; have := OR46.out; have := OR48.out; have := OR60.out; have := OR64.out; have := OR67.out; have := OR84.out; have := OR95.out; have := OR96.out; have := OR98.out; have := HW0.out; omega), (by have := OR40.out; have := OR42.out; have := OR44.out; have := OR46.out; have := OR48.out; have := OR60.out; have := OR64.out; have := OR67.out; have := OR84.out; have := OR95.out; have := OR96.out; have := OR98.out; have := HW0.out; omega), (by have := OR40.out; have := OR42.out; have := OR44.out; have := OR46.out; have := OR48.out; have := OR60.out; have := OR64.out; have := OR67.out; have := OR84.out; have := OR95.out; have := OR96.out; have := OR98.out; have := HW0.out; have := HF.out; omega)⟩, ⟨(by have := OR40.out; have := OR42.out; have := OR44.out; have := OR46.out; have := OR48.out; have := OR60.out; have := OR64.out; have := OR67.out; have := OR84.out; have := OR95.out; have := OR96.out; have := OR98.out; have := HW0.out; omega), x9.out.lt, (by have := OR40.out; have := OR42.out; have := OR44.out; have := OR46.out; have := OR48.out; have := OR60.out; have := OR64.out; have := OR67.out; have := OR84.out; have := OR95.out; have := OR96.out; have := OR98.out; have := HW0.out; omega)⟩, gb_trans GI.out GD.out⟩, by simp only [List.foldl, Act.put, List.setIfInBounds_toArray, List.set_cons_succ, List.set_cons_zero]⟩
      · skip
        have hge100 : wd.heap.size ≤ wz85.heap.size := GD.out.size
        have HGE100 := hid hge100
        clear hge100
        have X100 := hid (HoldsT.new wz85 #[.int .i64 0, .int .i64 0, .string { data := #[] }, .int .i64 0, .slice none 0 0] 26)
        have OR100 : Hid (hi84 ≤ wz85.heap.size) := HT
        replace GW := hid (gb_alloc GW.out (.cells #[.int .i64 0, .int .i64 0, .string { data := #[] }, .int .i64 0, .slice none 0 0] 26))
        replace T40 := hid (T40.out.grow (gb_alloc (gb_refl _ none) (.cells #[.int .i64 0, .int .i64 0, .string { data := #[] }, .int .i64 0, .slice none 0 0] 26)))
        replace X40 := hid (X40.out.grow (gb_alloc (gb_refl _ none) (.cells #[.int .i64 0, .int .i64 0, .string { data := #[] }, .int .i64 0, .slice none 0 0] 26)))
        replace T42 := hid (T42.out.grow (gb_alloc (gb_refl _ none) (.cells #[.int .i64 0, .int .i64 0, .string { data := #[] }, .int .i64 0, .slice none 0 0] 26)))
        replace X44 := hid (X44.out.grow (gb_alloc (gb_refl _ none) (.cells #[.int .i64 0, .int .i64 0, .string { data := #[] }, .int .i64 0, .slice none 0 0] 26)))
        replace T46 := hid (T46.out.grow (gb_alloc (gb_refl _ none) (.cells #[.int .i64 0, .int .i64 0, .string { data := #[] }, .int .i64 0, .slice none 0 0] 26)))
        replace X48 := hid (X48.out.grow (gb_alloc (gb_refl _ none) (.cells #[.int .i64 0, .int .i64 0, .string { data := #[] }, .int .i64 0, .slice none 0 0] 26)))
        replace T60 := hid (T60.out.grow (gb_alloc (gb_refl _ none) (.cells #[.int .i64 0, .int .i64 0, .string { data := #[] }, .int .i64 0, .slice none 0 0] 26)))
        replace X60 := hid (X60.out.grow (gb_alloc (gb_refl _ none) (.cells #[.int .i64 0, .int .i64 0, .string { data := #[] }, .int .i64 0, .slice none 0 0] 26)))
        replace T64 := hid (T64.out.grow (gb_alloc (gb_refl _ none) (.cells #[.int .i64 0, .int .i64 0, .string { data := #[] }, .int .i64 0, .slice none 0 0] 26)))
        replace T67 := hid (T67.out.grow (gb_alloc (gb_refl _ none) (.cells #[.int .i64 0, .int .i64 0, .string { data := #[] }, .int .i64 0, .slice none 0 0] 26)))
        replace T84 := hid (T84.out.grow (gb_alloc (gb_refl _ none) (.cells #[.int .i64 0, .int .i64 0, .string { data := #[] }, .int .i64 0, .slice none 0 0] 26)))
        replace GD := hid (gb_alloc GD.out (.cells #[.int .i64 0, .int .i64 0, .string { data := #[] }, .int .i64 0, .slice none 0 0] 26))
        refine E_val 10 rfl (some 17) rfl rfl (.pointer (some ⟨wz85.heap.size, 0, none⟩)) (wz85.alloc (.cells #[.int .i64 0, .int .i64 0, .string { data := #[] }, .int .i64 0, .slice none 0 0] 26)) (by go_simp) ⟨fun _ => GD.out, ?_⟩
        simp only [Act.put, List.setIfInBounds_toArray, List.set_cons_succ, List.set_cons_zero]
        replace HT := hid (show (wz85.heap.size + 1) ≤ (wz85.alloc (.cells #[.int .i64 0, .int .i64 0, .string { data := #[] }, .int .i64 0, .slice none 0 0] 26)).heap.size by simp)
        refine E_only 3 (by kernel_rfl) ?_
        refine E_call 3 rfl (some 109) rfl rfl 24 _ (run_call1 _ (by kernel_rfl) (.tmp 108) _ (.agg #[.bool t1, .int .i64 p1, .string s1]) rfl rfl) (toKey_any t1 p1 s1 _) ?_
        rintro e wz101 ⟨rfl, hg⟩
        replace GW := hid (gb_trans GW.out hg)
        replace T40 := hid (T40.out.grow hg)
        replace X40 := hid (X40.out.grow hg)
        replace T42 := hid (T42.out.grow hg)
        replace X44 := hid (X44.out.grow hg)
        replace T46 := hid (T46.out.grow hg)
        replace X48 := hid (X48.out.grow hg)
        replace T60 := hid (T60.out.grow hg)
        replace X60 := hid (X60.out.grow hg)
        replace T64 := hid (T64.out.grow hg)
        replace T67 := hid (T67.out.grow hg)
        replace T84 := hid (T84.out.grow hg)
        replace X100 := hid (X100.out.grow hg)
        replace HT := hid (Nat.le_trans HT.out (hg).size)
        replace GD := hid (gb_trans GD.out hg)
        clear hg
        refine ⟨_, rfl, fun _ => GD.out, ?_⟩
        simp only [Act.put, List.setIfInBounds_toArray, List.set_cons_succ, List.set_cons_zero]
        refine E_only 5 (by kernel_rfl) ?_
        refine E_call 5 rfl (some 111) rfl rfl 20 _ (run_call1 _ (by kernel_rfl) (.tmp 110) _ (.agg #[.int .i64 k2, .int .i64 m2, .string u2, .int .i64 x2, .slice A2 f2.len c2]) rfl rfl) (toValue_any f2 (toEntryS_any f2) k2 m2 u2 x2 A2 c2 _ _ (RP2.out.grow GW.out) HO2.out.1 (by omega)) ?_
        rintro e wz103 ⟨B102, d102, M102, rfl, ha102, ho102, hg⟩
        obtain ⟨lo102, hi102, hT102, hlo102, hlh102, hhi102⟩ := own_tr ho102 hg HT.out
        have OR102 := hid (And.intro hlo102 hlh102); have HA102 := hid ha102.2
        replace GW := hid (gb_trans GW.out hg)
        replace T40 := hid (T40.out.grow hg)
        replace X40 := hid (X40.out.grow hg)
        replace T42 := hid (T42.out.grow hg)
        replace X44 := hid (X44.out.grow hg)
        replace T46 := hid (T46.out.grow hg)
        replace X48 := hid (X48.out.grow hg)
        replace T60 := hid (T60.out.grow hg)
        replace X60 := hid (X60.out.grow hg)
        replace T64 := hid (T64.out.grow hg)
        replace T67 := hid (T67.out.grow hg)
        replace T84 := hid (T84.out.grow hg)
        replace X100 := hid (X100.out.grow hg)
        replace HT := hid (Nat.le_trans HT.out (hg).size)
        replace GD := hid (gb_trans GD.out hg)
        clear hg
        have T102 := hid hT102; replace HT := hid hhi102
        clear ho102 ha102 hT102 hlo102 hlh102 hhi102
        refine ⟨_, rfl, fun _ => GD.out, ?_⟩
        simp only [Act.put, List.setIfInBounds_toArray, List.set_cons_succ, List.set_cons_zero]
        refine E_only 6 (by kernel_rfl) ?_
        refine E_call 6 rfl (some 112) rfl rfl 25 _ (run_call3 _ (by kernel_rfl) (.tmp 107) (.tmp 109) (.tmp 111) _ (.agg #[.int .i64 k0, .int .i64 m0, .string u0, .int .i64 x0, .slice B84 f0.len d84]) (.agg #[.bool t1, .int .i64 p1, .string s1]) (.agg #[.int .i64 k2, .int .i64 m2, .string u2, .int .i64 x2, .slice B102 f2.len d102]) rfl rfl rfl rfl) (implSetKey_any f0 f2 t1 p1 s1 _ k0 m0 u0 x0 B84 d84 _ k2 m2 u2 x2 B102 d102 _ ab rx D HAB.out HD.out (by omega) T84.out.1.1 (by omega) T102.out.1.1 (by omega) (HL.out.grow (gb_trans GP.out GW.out))) ?_
        rintro e wz105 ⟨B104, d104, M104, rfl, _, hR, hg⟩
        obtain ⟨lo104, hi104, hT104, hlo104, hlh104, hhi104⟩ := own_tr hR.own hg X100.out.lt
        have OR104 := hid (And.intro hlo104 hlh104)
        replace GW := hid (gb_trans GW.out hg)
        replace T40 := hid (T40.out.grow hg)
        replace X40 := hid (X40.out.grow hg)
        replace T42 := hid (T42.out.grow hg)
        replace X44 := hid (X44.out.grow hg)
        replace T46 := hid (T46.out.grow hg)
        replace X48 := hid (X48.out.grow hg)
        replace T60 := hid (T60.out.grow hg)
        replace X60 := hid (X60.out.grow hg)
        replace T64 := hid (T64.out.grow hg)
        replace T67 := hid (T67.out.grow hg)
        replace T84 := hid (T84.out.grow hg)
        replace X100 := hid (X100.out.grow hg)
        replace T102 := hid (T102.out.grow hg)
        replace HT := hid (Nat.le_trans HT.out (hg).size)
        replace GD := hid (gb_trans GD.out hg)
        clear hg
        have T104 := hid hT104; replace HT := hid hhi104
        clear hR hT104 hlo104 hlh104 hhi104
        refine ⟨_, rfl, fun _ => GD.out, ?_⟩
        simp only [Act.put, List.setIfInBounds_toArray, List.set_cons_succ, List.set_cons_zero]
        refine E_take 7 rfl (some 105) rfl (by kernel_rfl) (by kernel_rfl) (by kernel_rfl) (by kernel_rfl) (by decide) (fun _ _ _ _ h => by cases h.1) rfl (.tuple #[.agg #[.int .i64 k0, .int .i64 m0, .string u0, .int .i64 rx, .slice B104 D.len d104], .bool ab]) (fun w' hw => run_mov (.tmp 112) rfl rfl) GD.out ?_
        simp only [Act.put, List.setIfInBounds_toArray, List.set_cons_succ, List.set_cons_zero]
        refine E_take 8 rfl (some 113) rfl (by kernel_rfl) (by kernel_rfl) (by kernel_rfl) (by kernel_rfl) (by decide) (fun _ _ _ _ h => by cases h.1) rfl (.agg #[.int .i64 k0, .int .i64 m0, .string u0, .int .i64 rx, .slice B104 D.len d104]) (fun w' hw => run_ext (.tmp 105) 0 rfl rfl rfl) GD.out ?_
        simp only [Act.put, List.setIfInBounds_toArray, List.set_cons_succ, List.set_cons_zero]
        refine E_take 9 rfl (some 114) rfl (by kernel_rfl) (by kernel_rfl) (by kernel_rfl) (by kernel_rfl) (by decide) (fun _ _ _ _ h => by cases h.1) rfl (.bool ab) (fun w' hw => run_ext (.tmp 105) 1 rfl rfl rfl) GD.out ?_
        simp only [Act.put, List.setIfInBounds_toArray, List.set_cons_succ, List.set_cons_zero]
        have s9 := gb_setCells (r := some (wz85.heap.size)) (.inr rfl) [.int .i64 k0, .int .i64 m0, .string u0, .int .i64 rx, .slice B104 D.len d104] 0 (gb_refl wz105 (some (wz85.heap.size)))
        have x9 := hid (show HoldsT (wz105.setCells (wz85.heap.size) 0 [.int .i64 k0, .int .i64 m0, .string u0, .int .i64 rx, .slice B104 D.len d104]) (wz85.heap.size) #[.int .i64 k0, .int .i64 m0, .string u0, .int .i64 rx, .slice B104 D.len d104] 26 by have h := X100.out.setCells [.int .i64 k0, .int .i64 m0, .string u0, .int .i64 rx, .slice B104 D.len d104] 0; simpa [setArr] using h)
        have gd9 := hid (gb_setCells (r := none) (.inl HGE100.out) [.int .i64 k0, .int .i64 m0, .string u0, .int .i64 rx, .slice B104 D.len d104] 0 GD.out)
        have m9 : MkI wz105 (wz105.setCells (wz85.heap.size) 0 [.int .i64 k0, .int .i64 m0, .string u0, .int .i64 rx, .slice B104 D.len d104]) (wz85.heap.size) (wz85.heap.size + 1) := ⟨s9.os, s9.tape, s9.output, s9.size, fun k hk hb => s9.block k hk (by intro e; injection e; omega)⟩
        have t9 := hid (T104.out.mk' m9 (by have := OR40.out; have := OR42.out; have := OR44.out; have := OR46.out; have := OR48.out; have := OR60.out; have := OR64.out; have := OR67.out; have := OR84.out; have := OR100.out; have := OR102.out; have := OR104.out; have := HW0.out; omega))
        have HF := hid (Nat.le_trans HT.out m9.size)
        refine E_only 11 (by kernel_rfl) (E_store 11 rfl none rfl rfl 26 (.tmp 17) (.tmp 113) rfl (wz85.heap.size) 0 [.int .i64 k0, .int .i64 m0, .string u0, .int .i64 rx, .slice B104 D.len d104] rfl rfl X100.out (by simp) Tryd.infoV rfl ⟨fun _ => gd9.out, ?_⟩)
        simp only [Act.put]
        clear GD s9 m9
        have GD := gd9
        refine E_only 12 (by kernel_rfl) (E_val 12 rfl (some 18) rfl rfl (.bool ab) _ (run_asg (.tmp 114) rfl rfl) ⟨fun _ => GD.out, ?_⟩)
        simp only [Act.put, List.setIfInBounds_toArray, List.set_cons_succ, List.set_cons_zero]
        refine E_done (by kernel_rfl) ?_ _
        exact ⟨rfl, ⟨wz85.heap.size, .agg #[.int .i64 k0, .int .i64 m0, .string u0, .int .i64 x0, .slice B84 f0.len d84], .agg #[.bool t1, .int .i64 p1, .string s1], .agg #[.int .i64 k2, .int .i64 m2, .string u2, .int .i64 x2, .slice B102 f2.len d102], .agg #[.int .i64 k0, .int .i64 m0, .string u0, .int .i64 rx, .slice B104 D.len d104]⟩, ⟨B104, d104, _, lo104, hi104, rfl, t9.out, x9.out, ⟨(by have := OR40.out; have := OR42.out; have := OR44.out; have := OR46.out; have := OR48.out; have := OR60.out; have := OR64.out; have := OR67.out; have := OR84.out; have := OR100.out; have := OR102.out; have := OR104.out; have := HW0.out; omega), (by have := OR40.out; have := OR42.out; have := OR44.out; have := OR46.out; have := OR48.out; have := OR60.out; have := OR64.out; have := OR67.out; have := OR84.out; have := OR100.out; have := OR102.out; have := OR104.out; have := HW0.out; omega), (by have := OR40.out; have := OR42.out; have := OR44.out; have := OR46.out; have := OR48.out; have := OR60.out; have := OR64.out; have := OR67.out; have := OR84.out; have := OR100.out; have := OR102.out; have := OR104.out; have := HW0.out; have := HF.out; omega)⟩, ⟨(by have := OR40.out; have := OR42.out; have := OR44.out; have := OR46.out; have := OR48.out; have := OR60.out; have := OR64.out; have := OR67.out; have := OR84.out; have := OR100.out; have := OR102.out; have := OR104.out; have := HW0.out; omega), x9.out.lt, (by have := OR40.out; have := OR42.out; have := OR44.out; have := OR46.out; have := OR48.out; have := OR60.out; have := OR64.out; have := OR67.out; have := OR84.out; have := OR100.out; have := OR102.out; have := OR104.out; have := HW0.out; omega)⟩, gb_trans GI.out GD.out⟩, by simp only [List.foldl, Act.put, List.setIfInBounds_toArray, List.set_cons_succ, List.set_cons_zero]⟩
    · skip
      have hge106 : wd.heap.size ≤ wd.heap.size := GD.out.size
      have HGE106 := hid hge106
      clear hge106
      have X106 := hid (HoldsT.new wd #[.int .i64 0, .int .i64 0, .string { data := #[] }, .int .i64 0, .slice none 0 0] 26)
      have OR106 : Hid (hi67 ≤ wd.heap.size) := HT
      replace GW := hid (gb_alloc GW.out (.cells #[.int .i64 0, .int .i64 0, .string { data := #[] }, .int .i64 0, .slice none 0 0] 26))
      replace T40 := hid (T40.out.grow (gb_alloc (gb_refl _ none) (.cells #[.int .i64 0, .int .i64 0, .string { data := #[] }, .int .i64 0, .slice none 0 0] 26)))
      replace X40 := hid (X40.out.grow (gb_alloc (gb_refl _ none) (.cells #[.int .i64 0, .int .i64 0, .string { data := #[] }, .int .i64 0, .slice none 0 0] 26)))
      replace T42 := hid (T42.out.grow (gb_alloc (gb_refl _ none) (.cells #[.int .i64 0, .int .i64 0, .string { data := #[] }, .int .i64 0, .slice none 0 0] 26)))
      replace X44 := hid (X44.out.grow (gb_alloc (gb_refl _ none) (.cells #[.int .i64 0, .int .i64 0, .string { data := #[] }, .int .i64 0, .slice none 0 0] 26)))
      replace T46 := hid (T46.out.grow (gb_alloc (gb_refl _ none) (.cells #[.int .i64 0, .int .i64 0, .string { data := #[] }, .int .i64 0, .slice none 0 0] 26)))
      replace X48 := hid (X48.out.grow (gb_alloc (gb_refl _ none) (.cells #[.int .i64 0, .int .i64 0, .string { data := #[] }, .int .i64 0, .slice none 0 0] 26)))
      replace T60 := hid (T60.out.grow (gb_alloc (gb_refl _ none) (.cells #[.int .i64 0, .int .i64 0, .string { data := #[] }, .int .i64 0, .slice none 0 0] 26)))
      replace X60 := hid (X60.out.grow (gb_alloc (gb_refl _ none) (.cells #[.int .i64 0, .int .i64 0, .string { data := #[] }, .int .i64 0, .slice none 0 0] 26)))
      replace T64 := hid (T64.out.grow (gb_alloc (gb_refl _ none) (.cells #[.int .i64 0, .int .i64 0, .string { data := #[] }, .int .i64 0, .slice none 0 0] 26)))
      replace T67 := hid (T67.out.grow (gb_alloc (gb_refl _ none) (.cells #[.int .i64 0, .int .i64 0, .string { data := #[] }, .int .i64 0, .slice none 0 0] 26)))
      replace GD := hid (gb_alloc GD.out (.cells #[.int .i64 0, .int .i64 0, .string { data := #[] }, .int .i64 0, .slice none 0 0] 26))
      refine E_val 10 rfl (some 17) rfl rfl (.pointer (some ⟨wd.heap.size, 0, none⟩)) (wd.alloc (.cells #[.int .i64 0, .int .i64 0, .string { data := #[] }, .int .i64 0, .slice none 0 0] 26)) (by go_simp) ⟨fun _ => GD.out, ?_⟩
      simp only [Act.put, List.setIfInBounds_toArray, List.set_cons_succ, List.set_cons_zero]
      replace HT := hid (show (wd.heap.size + 1) ≤ (wd.alloc (.cells #[.int .i64 0, .int .i64 0, .string { data := #[] }, .int .i64 0, .slice none 0 0] 26)).heap.size by simp)
      refine E_only 1 (by kernel_rfl) ?_
      refine E_call 1 rfl (some 107) rfl rfl 20 _ (run_call1 _ (by kernel_rfl) (.tmp 106) _ (.agg #[.int .i64 k0, .int .i64 m0, .string u0, .int .i64 x0, .slice A0 f0.len c0]) rfl rfl) (toValue_any f0 (toEntryS_any f0) k0 m0 u0 x0 A0 c0 _ _ (RP0.out.grow GW.out) HO0.out.1 (by omega)) ?_
      rintro e wz108 ⟨B107, d107, M107, rfl, ha107, ho107, hg⟩
      obtain ⟨lo107, hi107, hT107, hlo107, hlh107, hhi107⟩ := own_tr ho107 hg HT.out
      have OR107 := hid (And.intro hlo107 hlh107); have HA107 := hid ha107.2
      replace GW := hid (gb_trans GW.out hg)
      replace T40 := hid (T40.out.grow hg)
      replace X40 := hid (X40.out.grow hg)
      replace T42 := hid (T42.out.grow hg)
      replace X44 := hid (X44.out.grow hg)
      replace T46 := hid (T46.out.grow hg)
      replace X48 := hid (X48.out.grow hg)
      replace T60 := hid (T60.out.grow hg)
      replace X60 := hid (X60.out.grow hg)
      replace T64 := hid (T64.out.grow hg)
      replace T67 := hid (T67.out.grow hg)
      replace X106 := hid (X106.out.grow hg)
      replace HT := hid (Nat.le_trans HT.out (hg).size)
      replace GD := hid (gb_trans GD.out hg)
      clear hg
      have T107 := hid hT107; replace HT := hid hhi107
      clear ho107 ha107 hT107 hlo107 hlh107 hhi107
      refine ⟨_, rfl, fun _ => GD.out, ?_⟩
      simp only [Act.put, List.setIfInBounds_toArray, List.set_cons_succ, List.set_cons_zero]
      refine E_only 3 (by kernel_rfl) ?_
      refine E_call 3 rfl (some 109) rfl rfl 24 _ (run_call1 _ (by kernel_rfl) (.tmp 108) _ (.agg #[.bool t1, .int .i64 p1, .string s1]) rfl rfl) (toKey_any t1 p1 s1 _) ?_
      rintro e wz109 ⟨rfl, hg⟩
      replace GW := hid (gb_trans GW.out hg)
      replace T40 := hid (T40.out.grow hg)
      replace X40 := hid (X40.out.grow hg)
      replace T42 := hid (T42.out.grow hg)
      replace X44 := hid (X44.out.grow hg)
      replace T46 := hid (T46.out.grow hg)
      replace X48 := hid (X48.out.grow hg)
      replace T60 := hid (T60.out.grow hg)
      replace X60 := hid (X60.out.grow hg)
      replace T64 := hid (T64.out.grow hg)
      replace T67 := hid (T67.out.grow hg)
      replace X106 := hid (X106.out.grow hg)
      replace T107 := hid (T107.out.grow hg)
      replace HT := hid (Nat.le_trans HT.out (hg).size)
      replace GD := hid (gb_trans GD.out hg)
      clear hg
      refine ⟨_, rfl, fun _ => GD.out, ?_⟩
      simp only [Act.put, List.setIfInBounds_toArray, List.set_cons_succ, List.set_cons_zero]
      refine E_only 5 (by kernel_rfl) ?_
      refine E_call 5 rfl (some 111) rfl rfl 20 _ (run_call1 _ (by kernel_rfl) (.tmp 110) _ (.agg #[.int .i64 k2, .int .i64 m2, .string u2, .int .i64 x2, .slice A2 f2.len c2]) rfl rfl) (toValue_any f2 (toEntryS_any f2) k2 m2 u2 x2 A2 c2 _ _ (RP2.out.grow GW.out) HO2.out.1 (by omega)) ?_
      rintro e wz111 ⟨B110, d110, M110, rfl, ha110, ho110, hg⟩
      obtain ⟨lo110, hi110, hT110, hlo110, hlh110, hhi110⟩ := own_tr ho110 hg HT.out
      have OR110 := hid (And.intro hlo110 hlh110); have HA110 := hid ha110.2
      replace GW := hid (gb_trans GW.out hg)
      replace T40 := hid (T40.out.grow hg)
      replace X40 := hid (X40.out.grow hg)
      replace T42 := hid (T42.out.grow hg)
      replace X44 := hid (X44.out.grow hg)
      replace T46 := hid (T46.out.grow hg)
      replace X48 := hid (X48.out.grow hg)
      replace T60 := hid (T60.out.grow hg)
      replace X60 := hid (X60.out.grow hg)
      replace T64 := hid (T64.out.grow hg)
      replace T67 := hid (T67.out.grow hg)
      replace X106 := hid (X106.out.grow hg)
      replace T107 := hid (T107.out.grow hg)
      replace HT := hid (Nat.le_trans HT.out (hg).size)
      replace GD := hid (gb_trans GD.out hg)
      clear hg
      have T110 := hid hT110; replace HT := hid hhi110
      clear ho110 ha110 hT110 hlo110 hlh110 hhi110
      refine ⟨_, rfl, fun _ => GD.out, ?_⟩
      simp only [Act.put, List.setIfInBounds_toArray, List.set_cons_succ, List.set_cons_zero]
      refine E_only 6 (by kernel_rfl) ?_
      refine E_call 6 rfl (some 112) rfl rfl 25 _ (run_call3 _ (by kernel_rfl) (.tmp 107) (.tmp 109) (.tmp 111) _ (.agg #[.int .i64 k0, .int .i64 m0, .string u0, .int .i64 x0, .slice B107 f0.len d107]) (.agg #[.bool t1, .int .i64 p1, .string s1]) (.agg #[.int .i64 k2, .int .i64 m2, .string u2, .int .i64 x2, .slice B110 f2.len d110]) rfl rfl rfl rfl) (implSetKey_any f0 f2 t1 p1 s1 _ k0 m0 u0 x0 B107 d107 _ k2 m2 u2 x2 B110 d110 _ ab rx D HAB.out HD.out (by omega) T107.out.1.1 (by omega) T110.out.1.1 (by omega) (HL.out.grow (gb_trans GP.out GW.out))) ?_
      rintro e wz113 ⟨B112, d112, M112, rfl, _, hR, hg⟩
      obtain ⟨lo112, hi112, hT112, hlo112, hlh112, hhi112⟩ := own_tr hR.own hg X106.out.lt
      have OR112 := hid (And.intro hlo112 hlh112)
      replace GW := hid (gb_trans GW.out hg)
      replace T40 := hid (T40.out.grow hg)
      replace X40 := hid (X40.out.grow hg)
      replace T42 := hid (T42.out.grow hg)
      replace X44 := hid (X44.out.grow hg)
      replace T46 := hid (T46.out.grow hg)
      replace X48 := hid (X48.out.grow hg)
      replace T60 := hid (T60.out.grow hg)
      replace X60 := hid (X60.out.grow hg)
      replace T64 := hid (T64.out.grow hg)
      replace T67 := hid (T67.out.grow hg)
      replace X106 := hid (X106.out.grow hg)
      replace T107 := hid (T107.out.grow hg)
      replace T110 := hid (T110.out.grow hg)
      replace HT := hid (Nat.le_trans HT.out (hg).size)
      replace GD := hid (gb_trans GD.out hg)
      clear hg
      have T112 := hid hT112; replace HT := hid hhi112
      clear hR hT112 hlo112 hlh112 hhi112
      refine ⟨_, rfl, fun _ => GD.out, ?_⟩
      simp only [Act.put, List.setIfInBounds_toArray, List.set_cons_succ, List.set_cons_zero]
      refine E_take 7 rfl (some 105) rfl (by kernel_rfl) (by kernel_rfl) (by kernel_rfl) (by kernel_rfl) (by decide) (fun _ _ _ _ h => by cases h.1) rfl (.tuple #[.agg #[.int .i64 k0, .int .i64 m0, .string u0, .int .i64 rx, .slice B112 D.len d112], .bool ab]) (fun w' hw => run_mov (.tmp 112) rfl rfl) GD.out ?_
      simp only [Act.put, List.setIfInBounds_toArray, List.set_cons_succ, List.set_cons_zero]
      refine E_take 8 rfl (some 113) rfl (by kernel_rfl) (by kernel_rfl) (by kernel_rfl) (by kernel_rfl) (by decide) (fun _ _ _ _ h => by cases h.1) rfl (.agg #[.int .i64 k0, .int .i64 m0, .string u0, .int .i64 rx, .slice B112 D.len d112]) (fun w' hw => run_ext (.tmp 105) 0 rfl rfl rfl) GD.out ?_
      simp only [Act.put, List.setIfInBounds_toArray, List.set_cons_succ, List.set_cons_zero]
      refine E_take 9 rfl (some 114) rfl (by kernel_rfl) (by kernel_rfl) (by kernel_rfl) (by kernel_rfl) (by decide) (fun _ _ _ _ h => by cases h.1) rfl (.bool ab) (fun w' hw => run_ext (.tmp 105) 1 rfl rfl rfl) GD.out ?_
      simp only [Act.put, List.setIfInBounds_toArray, List.set_cons_succ, List.set_cons_zero]
      have s9 := gb_setCells (r := some (wd.heap.size)) (.inr rfl) [.int .i64 k0, .int .i64 m0, .string u0, .int .i64 rx, .slice B112 D.len d112] 0 (gb_refl wz113 (some (wd.heap.size)))
      have x9 := hid (show HoldsT (wz113.setCells (wd.heap.size) 0 [.int .i64 k0, .int .i64 m0, .string u0, .int .i64 rx, .slice B112 D.len d112]) (wd.heap.size) #[.int .i64 k0, .int .i64 m0, .string u0, .int .i64 rx, .slice B112 D.len d112] 26 by have h := X106.out.setCells [.int .i64 k0, .int .i64 m0, .string u0, .int .i64 rx, .slice B112 D.len d112] 0; simpa [setArr] using h)
      have gd9 := hid (gb_setCells (r := none) (.inl HGE106.out) [.int .i64 k0, .int .i64 m0, .string u0, .int .i64 rx, .slice B112 D.len d112] 0 GD.out)
      have m9 : MkI wz113 (wz113.setCells (wd.heap.size) 0 [.int .i64 k0, .int .i64 m0, .string u0, .int .i64 rx, .slice B112 D.len d112]) (wd.heap.size) (wd.heap.size + 1) := ⟨s9.os, s9.tape, s9.output, s9.size, fun k hk hb => s9.block k hk (by intro e; injection e; omega)⟩
      have t9 := hid (T112.out.mk' m9 (by have := OR40.out; have := OR42.out; have := OR44.out; have := OR46.out; have := OR48.out; have := OR60.out; have := OR64.out; have := OR67.out; have := OR106.out; have := OR107.out; have := OR110.out; have := OR112.out; have := HW0.out; omega))
      have HF := hid (Nat.le_trans HT.out m9.size)
      refine E_only 11 (by kernel_rfl) (E_store 11 rfl none rfl rfl 26 (.tmp 17) (.tmp 113) rfl (wd.heap.size) 0 [.int .i64 k0, .int .i64 m0, .string u0, .int .i64 rx, .slice B112 D.len d112] rfl rfl X106.out (by simp) Tryd.infoV rfl ⟨fun _ => gd9.out, ?_⟩)
      simp only [Act.put]
      clear GD s9 m9
      have GD := gd9
      refine E_only 12 (by kernel_rfl) (E_val 12 rfl (some 18) rfl rfl (.bool ab) _ (run_asg (.tmp 114) rfl rfl) ⟨fun _ => GD.out, ?_⟩)
      simp only [Act.put, List.setIfInBounds_toArray, List.set_cons_succ, List.set_cons_zero]
      refine E_done (by kernel_rfl) ?_ _
      exact ⟨rfl, ⟨wd.heap.size, .agg #[.int .i64 k0, .int .i64 m0, .string u0, .int .i64 x0, .slice B107 f0.len d107], .agg #[.bool t1, .int .i64 p1, .string s1], .agg #[.int .i64 k2, .int .i64 m2, .string u2, .int .i64 x2, .slice B110 f2.len d110], .agg #[.int .i64 k0, .int .i64 m0, .string u0, .int .i64 rx, .slice B112 D.len d112]⟩, ⟨B112, d112, _, lo112, hi112, rfl, t9.out, x9.out, ⟨(by have := OR40.out; have := OR42.out; have := OR44.out; have := OR46.out; have := OR48.out; have := OR60.out; have := OR64.out; have := OR67.out; have := OR106.out; have := OR107.out; have := OR110.out; have := OR112.out; have := HW0.out; omega), (by have := OR40.out; have := OR42.out; have := OR44.out; have := OR46.out; have := OR48.out; have := OR60.out; have := OR64.out; have := OR67.out; have := OR106.out; have := OR107.out; have := OR110.out; have := OR112.out; have := HW0.out; omega), (by have := OR40.out; have := OR42.out; have := OR44.out; have := OR46.out; have := OR48.out; have := OR60.out; have := OR64.out; have := OR67.out; have := OR106.out; have := OR107.out; have := OR110.out; have := OR112.out; have := HW0.out; have := HF.out; omega)⟩, ⟨(by have := OR40.out; have := OR42.out; have := OR44.out; have := OR46.out; have := OR48.out; have := OR60.out; have := OR64.out; have := OR67.out; have := OR106.out; have := OR107.out; have := OR110.out; have := OR112.out; have := HW0.out; omega), x9.out.lt, (by have := OR40.out; have := OR42.out; have := OR44.out; have := OR46.out; have := OR48.out; have := OR60.out; have := OR64.out; have := OR67.out; have := OR106.out; have := OR107.out; have := OR110.out; have := OR112.out; have := HW0.out; omega)⟩, gb_trans GI.out GD.out⟩, by simp only [List.foldl, Act.put, List.setIfInBounds_toArray, List.set_cons_succ, List.set_cons_zero]⟩
  rintro ⟨bb114, vc114_0, vc114_1, vc114_2, vc114_3⟩ wz114 ⟨B114, d114, M114, lo114, hi114, hv114, hT114, hX114, ⟨ho114, hp114, hq114⟩, ⟨hr114, hs114, ht114⟩, hg⟩
  dsimp only at hv114 hX114 hr114 hs114 ht114
  subst hv114
  simp only [List.foldl, Act.put, List.setIfInBounds_toArray, List.set_cons_succ, List.set_cons_zero]
  obtain ⟨tp114, hu114, hv114⟩ : ∃ z, (hi114 ≤ z ∧ bb114 + 1 ≤ z) ∧ z ≤ wz114.heap.size := ⟨_, ⟨hq114, hs114⟩, Nat.le_refl _⟩
  have OR114 := hid (And.intro (And.intro ho114 hp114) (And.intro hr114 (And.intro ht114 hu114)))
  replace GW := hid (gb_trans GW.out hg)
  replace T40 := hid (T40.out.grow hg)
  replace X40 := hid (X40.out.grow hg)
  replace T42 := hid (T42.out.grow hg)
  replace X44 := hid (X44.out.grow hg)
  replace T46 := hid (T46.out.grow hg)
  replace X48 := hid (X48.out.grow hg)
  replace T60 := hid (T60.out.grow hg)
  replace X60 := hid (X60.out.grow hg)
  replace T64 := hid (T64.out.grow hg)
  replace T67 := hid (T67.out.grow hg)
  replace HT := hid (Nat.le_trans HT.out (hg).size)
  clear hg
  have T114 := hid hT114; have X114 := hid hX114; replace HT := hid hv114
  clear ho114 hp114 hq114 hr114 hs114 ht114 hu114 hv114 hT114 hX114
  obtain ⟨a115_0, a115_1, a115_2, a115_3, a115_4⟩ := X114.out.cells5
  have la115 := X114.out.lt
  obtain ⟨a116_0, a116_1, a116_2, a116_3, a116_4⟩ := X40.out.cells5
  have la116 := X40.out.lt
  go_wp2_with fail
  refine (eqValue_any D (eqEntryS_any D) k0 m0 u0 rx B114 B40 d114 d40 _ _ _ T114.out.1.1 T40.out.1.1 (by omega)).mono ?_
  rintro e wz117 ⟨rfl, hg⟩
  clear a115_0 a115_1 a115_2 a115_3 a115_4 la115 a116_0 a116_1 a116_2 a116_3 a116_4 la116
  replace GW := hid (gb_trans GW.out hg)
  replace T40 := hid (T40.out.grow hg)
  replace X40 := hid (X40.out.grow hg)
  replace T42 := hid (T42.out.grow hg)
  replace X44 := hid (X44.out.grow hg)
  replace T46 := hid (T46.out.grow hg)
  replace X48 := hid (X48.out.grow hg)
  replace T60 := hid (T60.out.grow hg)
  replace X60 := hid (X60.out.grow hg)
  replace T64 := hid (T64.out.grow hg)
  replace T67 := hid (T67.out.grow hg)
  replace T114 := hid (T114.out.grow hg)
  replace X114 := hid (X114.out.grow hg)
  replace HT := hid (Nat.le_trans HT.out (hg).size)
  clear hg
  obtain ⟨a118_0, a118_1, a118_2, a118_3, a118_4⟩ := X60.out.cells5
  have la118 := X60.out.lt
  go_wp2_with fail
  refine (heldValue_any D _ k0 m0 u0 rx B60 d60 _ 1 (by have h := T60.out.1.1; rw [Forest.len_mark] at h; exact h) (by omega) (by omega)).mono ?_
  rintro e wz119 ⟨rfl, hg⟩
  clear a118_0 a118_1 a118_2 a118_3 a118_4 la118
  rw [HZ80.out]
  replace GW := hid (gb_trans GW.out hg)
  replace T40 := hid (T40.out.grow hg)
  replace X40 := hid (X40.out.grow hg)
  replace T42 := hid (T42.out.grow hg)
  replace X44 := hid (X44.out.grow hg)
  replace T46 := hid (T46.out.grow hg)
  replace X48 := hid (X48.out.grow hg)
  replace T60 := hid (T60.out.grow hg)
  replace X60 := hid (X60.out.grow hg)
  replace T64 := hid (T64.out.grow hg)
  replace T67 := hid (T67.out.grow hg)
  replace T114 := hid (T114.out.grow hg)
  replace X114 := hid (X114.out.grow hg)
  replace HT := hid (Nat.le_trans HT.out (hg).size)
  clear hg
  go_wp2_with fail
  go_ret
  exact ⟨rfl, gb_below (gb_trans GP.out GW.out)⟩
theorem setKeyLaid {w : World} (h : laidMetH Tryd.prog Rows.fnExactSetKeyRow.laid w) : LaidW w := by
  rw [MakeChecks.laidMetH_plain _ _ _ (by kernel_rfl)] at h
  exact allOf h
end Go.Proofs.YtmbochhmeojmfaaDoor
