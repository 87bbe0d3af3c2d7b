/- The law FnExactValuesOf, walked (printed by lawgen2.py). -/
import Derived.Test.YtlfigoboeogegaaValsW
import Derived.Test.YtlfigoboeogegaaValsM
import Derived.Test.YtlfigoboeogegaaSz
import Derived.Test.YtlfigoboeogegaaTo
import Derived.Test.YtlfigoboeogegaaEq
import Derived.Test.YtlfigoboeogegaaMark
import Derived.Test.YtlfigoboeogegaaHeldE
import Derived.Test.YtlfigoboeogegaaLaw
import Derived.Test.YtlfigoboeogegaaHeldX
namespace Go.Proofs.Ytlfigoboeogegaa
open Go.RowKit
set_option linter.unusedVariables false
set_option linter.unusedSimpArgs false

set_option maxRecDepth 100000 in
set_option maxHeartbeats 8000000 in
theorem valuesOf_walk (k0 m0 : Int) (u0 : ByteArray) (x0 : Int) (A0 : Option Addr) (n0 c0 : Nat) (f0 : Forest) (L0 : List Nat) (w : World) (_ha0 : A0 = none → c0 = 0) (hb0 : n0 ≤ maxLen) (hc0 : RowF w f0 A0 0 n0 L0) (hd0 : f0.ok) (he0 : u0.size ≤ maxLen) (_hf0 : (Lit.int .i64 k0).wf = true) (_hg0 : (Lit.int .i64 m0).wf = true) (_hh0 : (Lit.int .i64 x0).wf = true) :
    Calls Try.prog 5 #[.agg #[.int .i64 k0, .int .i64 m0, .string u0, .int .i64 x0, .slice A0 n0 c0]] w fun e w' => e = .returned (.bool true) ∧ Below w.heap.size w w' := by
  have hn0 : f0.len = n0 := by have := hc0.len; omega
  subst hn0
  have GP := hid (show w.grownBy (w.alloc (.cells #[.int .i64 k0, .int .i64 m0, .string u0, .int .i64 x0, .slice A0 f0.len c0] 24)) none from gb_alloc (gb_refl w none) (.cells #[.int .i64 k0, .int .i64 m0, .string u0, .int .i64 x0, .slice A0 f0.len c0] 24))
  have HB0 := hid (HoldsT.new w #[.int .i64 k0, .int .i64 m0, .string u0, .int .i64 x0, .slice A0 f0.len c0] 24)
  have RP0 := hid (hc0.grow GP.out)
  have HO0 := hid (And.intro hd0 (And.intro hb0 he0))
  clear _ha0 hb0 hc0 hd0 he0 _hf0 _hg0 _hh0
  have GW := hid (gb_refl (w.alloc (.cells #[.int .i64 k0, .int .i64 m0, .string u0, .int .i64 x0, .slice A0 f0.len c0] 24)) none)
  obtain ⟨tp0, htp0⟩ : ∃ z, z = ((w.alloc (.cells #[.int .i64 k0, .int .i64 m0, .string u0, .int .i64 x0, .slice A0 f0.len c0] 24))).heap.size := ⟨_, rfl⟩
  have HT : Hid (tp0 ≤ ((w.alloc (.cells #[.int .i64 k0, .int .i64 m0, .string u0, .int .i64 x0, .slice A0 f0.len c0] 24))).heap.size) := hid (Nat.le_of_eq htp0)
  have HW0 : Hid (((w.alloc (.cells #[.int .i64 k0, .int .i64 m0, .string u0, .int .i64 x0, .slice A0 f0.len c0] 24))).heap.size ≤ tp0) := hid (Nat.le_of_eq htp0.symm)
  clear htp0
  obtain ⟨D, hD⟩ : ∃ D, valVals k0 f0 = D := ⟨_, rfl⟩
  have hDs : D.size ≤ f0.size := by rw [← hD]; exact valVals_size _ _
  have HD := hid hD
  clear hD
  go_enter Try.func5, Try.ntmps5
  obtain ⟨a1_0, a1_1, a1_2, a1_3, a1_4⟩ := (HB0.out.grow GW.out).cells5
  have la1 := (HB0.out.grow GW.out).lt
  go_wp2_with fail
  refine (szValue_any f0 (szEntryS_any f0) k0 m0 u0 x0 A0 c0 1048576 _ _ (RP0.out.grow GW.out) HO0.out.1 HO0.out.2.1 (by omega) HO0.out.2.2).mono ?_
  rintro e wz3 ⟨rfl, hg⟩
  clear a1_0 a1_1 a1_2 a1_3 a1_4 la1
  replace GW := hid (gb_trans GW.out hg)
  replace HT := hid (Nat.le_trans HT.out (hg).size)
  clear hg
  rcases leftI_cases 1048576 (u0.size + (f0.len + f0.sz)) with ⟨e1, _⟩ | ⟨q2, e1, hq2⟩
  · rw [e1]
    clear e1
    go_wp2_with fail
    go_ret
    exact ⟨rfl, gb_below (gb_trans GP.out GW.out)⟩
  rw [e1]
  have hfs0 : f0.size + q2 ≤ 1048576 := by have := f0.size_sz; omega
  have hqb2 : q2 ≤ 1048576 := by omega
  clear e1 hq2
  obtain ⟨a4_0, a4_1, a4_2, a4_3, a4_4⟩ := (HB0.out.grow GW.out).cells5
  have la4 := (HB0.out.grow GW.out).lt
  go_wp2_with fail
  refine (toValue_any f0 (toEntryS_any f0) k0 m0 u0 x0 A0 c0 _ _ (RP0.out.grow GW.out) HO0.out.1 (by omega)).mono ?_
  rintro e wz6 ⟨B5, d5, M5, rfl, ha5, ho5, hg⟩
  clear a4_0 a4_1 a4_2 a4_3 a4_4 la4
  obtain ⟨lo5, hi5, hT5, hlo5, hlh5, hhi5⟩ := own_tr ho5 hg HT.out
  have OR5 := hid (And.intro hlo5 hlh5); have HA5 := hid ha5.2
  replace GW := hid (gb_trans GW.out hg)
  replace HT := hid (Nat.le_trans HT.out (hg).size)
  clear hg
  have T5 := hid hT5; replace HT := hid hhi5
  clear ho5 ha5 hT5 hlo5 hlh5 hhi5
  go_wp2_with fail
  refine (specVals_any f0 _ k0 m0 u0 x0 B5 d5 _ T5.out.1.1 (by omega)).mono ?_
  rintro e wz8 ⟨B7, d7, M7, rfl, hR, hg⟩
  rw [HD.out] at hR; rw [HD.out]
  obtain ⟨lo7, hi7, hT7, hlo7, hlh7, hhi7⟩ := own_trv hR hg HT.out
  have OR7 := hid (And.intro hlo7 hlh7)
  replace GW := hid (gb_trans GW.out hg)
  replace T5 := hid (T5.out.grow hg)
  replace HT := hid (Nat.le_trans HT.out (hg).size)
  clear hg
  have T7 := hid hT7; replace HT := hid hhi7
  clear hR hT7 hlo7 hlh7 hhi7
  obtain ⟨a9_0, a9_1, a9_2, a9_3, a9_4⟩ := (HB0.out.grow GW.out).cells5
  have la9 := (HB0.out.grow GW.out).lt
  go_wp2_with fail
  refine (toValue_any f0 (toEntryS_any f0) k0 m0 u0 x0 A0 c0 _ _ (RP0.out.grow GW.out) HO0.out.1 (by omega)).mono ?_
  rintro e wz11 ⟨B10, d10, M10, rfl, ha10, ho10, hg⟩
  clear a9_0 a9_1 a9_2 a9_3 a9_4 la9
  obtain ⟨lo10, hi10, hT10, hlo10, hlh10, hhi10⟩ := own_tr ho10 hg HT.out
  have OR10 := hid (And.intro hlo10 hlh10); have HA10 := hid ha10.2
  replace GW := hid (gb_trans GW.out hg)
  replace T5 := hid (T5.out.grow hg)
  replace T7 := hid (T7.out.grow hg)
  replace HT := hid (Nat.le_trans HT.out (hg).size)
  clear hg
  have T10 := hid hT10; replace HT := hid hhi10
  clear ho10 ha10 hT10 hlo10 hlh10 hhi10
  have X12 := hid (HoldsT.new wz11 #[.int .i64 k0, .int .i64 m0, .string u0, .int .i64 x0, .slice B10 f0.len d10] 31)
  replace GW := hid (gb_alloc GW.out (.cells #[.int .i64 k0, .int .i64 m0, .string u0, .int .i64 x0, .slice B10 f0.len d10] 31))
  replace T5 := hid (T5.out.grow (gb_alloc (gb_refl _ none) (.cells #[.int .i64 k0, .int .i64 m0, .string u0, .int .i64 x0, .slice B10 f0.len d10] 31)))
  replace T7 := hid (T7.out.grow (gb_alloc (gb_refl _ none) (.cells #[.int .i64 k0, .int .i64 m0, .string u0, .int .i64 x0, .slice B10 f0.len d10] 31)))
  replace T10 := hid (T10.out.grow (gb_alloc (gb_refl _ none) (.cells #[.int .i64 k0, .int .i64 m0, .string u0, .int .i64 x0, .slice B10 f0.len d10] 31)))
  have OR12 : Hid (hi10 ≤ wz11.heap.size) := HT; replace HT := hid (show wz11.heap.size + 1 ≤ (wz11.alloc (.cells #[.int .i64 k0, .int .i64 m0, .string u0, .int .i64 x0, .slice B10 f0.len d10] 31)).heap.size by simp)
  obtain ⟨a13_0, a13_1, a13_2, a13_3, a13_4⟩ := X12.out.cells5
  have la13 := X12.out.lt
  go_wp2_with fail
  refine (implVals_any f0 _ k0 m0 u0 x0 B10 d10 _ T10.out.1.1 (by omega)).mono ?_
  rintro e wz15 ⟨B14, d14, M14, rfl, hR, hg⟩
  clear a13_0 a13_1 a13_2 a13_3 a13_4 la13
  rw [HD.out] at hR; rw [HD.out]
  obtain ⟨lo14, hi14, hT14, hlo14, hlh14, hhi14⟩ := own_trv hR hg HT.out
  have OR14 := hid (And.intro hlo14 hlh14)
  replace GW := hid (gb_trans GW.out hg)
  replace T5 := hid (T5.out.grow hg)
  replace T7 := hid (T7.out.grow hg)
  replace T10 := hid (T10.out.grow hg)
  replace X12 := hid (X12.out.grow hg)
  replace HT := hid (Nat.le_trans HT.out (hg).size)
  clear hg
  have T14 := hid hT14; replace HT := hid hhi14
  clear hR hT14 hlo14 hlh14 hhi14
  go_wp2_with fail
  refine (eqValueS_any D _ B14 B7 d14 d7 _ _ T14.out.1 T7.out.1 (by omega)).mono ?_
  rintro e wz16 ⟨rfl, hg⟩
  replace GW := hid (gb_trans GW.out hg)
  replace T5 := hid (T5.out.grow hg)
  replace T7 := hid (T7.out.grow hg)
  replace T10 := hid (T10.out.grow hg)
  replace X12 := hid (X12.out.grow hg)
  replace T14 := hid (T14.out.grow hg)
  replace HT := hid (Nat.le_trans HT.out (hg).size)
  clear hg
  go_wp2_with fail
  refine wp_region_E 999 5 rfl (by kernel_rfl) (fun wd w' => wd.grownBy w' none) fun wd gd => ?_
  have g0 : wd.grownBy wd none := gb_refl _ _
  have GI := hid gd
  replace GW := hid (gb_trans GW.out gd)
  replace T5 := hid (T5.out.grow gd)
  replace T7 := hid (T7.out.grow gd)
  replace T10 := hid (T10.out.grow gd)
  replace X12 := hid (X12.out.grow gd)
  replace T14 := hid (T14.out.grow gd)
  replace HT := hid (Nat.le_trans HT.out (gd).size)
  clear gd
  have GD := hid g0
  refine E_load 0 rfl (some 27) rfl (by kernel_rfl) (by kernel_rfl) (by kernel_rfl) (by kernel_rfl) (by decide) (fun _ _ _ _ h => h) rfl 31 (.tmp 5) rfl (wz11.heap.size) 0 rfl _ (fun w' hw => (X12.out.grow hw).rangeV) Try.underlying31 rfl Try.infoV g0 ?_
  simp only [Act.put, List.setIfInBounds_toArray, List.set_cons_succ, List.set_cons_zero]
  refine E_load 1 rfl (some 28) rfl (by kernel_rfl) (by kernel_rfl) (by kernel_rfl) (by kernel_rfl) (by decide) (fun _ _ _ _ h => h) rfl 24 (.tmp 1) rfl (w.heap.size) 0 rfl _ (fun w' hw => ((HB0.out.grow GW.out).grow hw).rangeV) Try.underlying24 rfl Try.infoVL g0 ?_
  simp only [Act.put, List.setIfInBounds_toArray, List.set_cons_succ, List.set_cons_zero]
  refine E_only 2 (by kernel_rfl) ?_
  refine E_call 2 rfl (some 29) rfl rfl 11 _ (run_call1 _ (by kernel_rfl) (.tmp 28) _ (.agg #[.int .i64 k0, .int .i64 m0, .string u0, .int .i64 x0, .slice A0 f0.len c0]) rfl rfl) (toValue_any f0 (toEntryS_any f0) k0 m0 u0 x0 A0 c0 _ _ (RP0.out.grow GW.out) HO0.out.1 (by omega)) ?_
  rintro e wz18 ⟨B17, d17, M17, rfl, ha17, ho17, hg⟩
  obtain ⟨lo17, hi17, hT17, hlo17, hlh17, hhi17⟩ := own_tr ho17 hg HT.out
  have OR17 := hid (And.intro hlo17 hlh17); have HA17 := hid ha17.2
  replace GW := hid (gb_trans GW.out hg)
  replace T5 := hid (T5.out.grow hg)
  replace T7 := hid (T7.out.grow hg)
  replace T10 := hid (T10.out.grow hg)
  replace X12 := hid (X12.out.grow hg)
  replace T14 := hid (T14.out.grow hg)
  replace HT := hid (Nat.le_trans HT.out (hg).size)
  replace GD := hid (gb_trans GD.out hg)
  clear hg
  have T17 := hid hT17; replace HT := hid hhi17
  clear ho17 ha17 hT17 hlo17 hlh17 hhi17
  refine ⟨_, rfl, fun _ => GD.out, ?_⟩
  simp only [Act.put, List.setIfInBounds_toArray, List.set_cons_succ, List.set_cons_zero]
  refine E_only 3 (by kernel_rfl) ?_
  refine E_call 3 rfl (some 30) rfl rfl 14 _ (run_call2 _ (by kernel_rfl) (.tmp 27) (.tmp 29) _ (.agg #[.int .i64 k0, .int .i64 m0, .string u0, .int .i64 x0, .slice B10 f0.len d10]) (.agg #[.int .i64 k0, .int .i64 m0, .string u0, .int .i64 x0, .slice B17 f0.len d17]) rfl rfl rfl) (eqValue_any f0 (eqEntryS_any f0) k0 m0 u0 x0 B10 B17 d10 d17 _ _ _ T10.out.1.1 T17.out.1.1 (by omega)) ?_
  rintro e wz19 ⟨rfl, hg⟩
  replace GW := hid (gb_trans GW.out hg)
  replace T5 := hid (T5.out.grow hg)
  replace T7 := hid (T7.out.grow hg)
  replace T10 := hid (T10.out.grow hg)
  replace X12 := hid (X12.out.grow hg)
  replace T14 := hid (T14.out.grow hg)
  replace T17 := hid (T17.out.grow hg)
  replace HT := hid (Nat.le_trans HT.out (hg).size)
  replace GD := hid (gb_trans GD.out hg)
  clear hg
  refine ⟨_, rfl, fun _ => GD.out, ?_⟩
  simp only [Act.put, List.setIfInBounds_toArray, List.set_cons_succ, List.set_cons_zero]
  refine E_only 4 (by kernel_rfl) (E_val 4 rfl (some 31) rfl rfl (.bool false) _ (run_not 4 30 rfl (b := true) rfl) ⟨fun _ => GD.out, ?_⟩)
  simp only [Act.put, List.setIfInBounds_toArray, List.set_cons_succ, List.set_cons_zero]
  refine E_done (by kernel_rfl) ?_ _
  replace GW := GW
  clear GD GI g0
  obtain ⟨a20_0, a20_1, a20_2, a20_3, a20_4⟩ := X12.out.cells5
  have la20 := X12.out.lt
  go_wp2_with fail
  refine (markValue_any f0 _ k0 m0 u0 x0 B10 d10 _ lo10 1 T10.out.1 (by omega) (by omega)).mono ?_
  rintro e wz22 ⟨rfl, hT, hM⟩
  clear a20_0 a20_1 a20_2 a20_3 a20_4 la20
  obtain ⟨z21, hz21⟩ : ∃ z : Nat, 1 + 7 * f0.size = z := ⟨_, rfl⟩
  have HZ21 := hid hz21
  have hzb21 : z21 ≤ 1 + 8388608 ∧ 1 ≤ z21 := by omega
  rw [hz21]
  clear hz21
  have hm := MkI.of hM T10.out.bounds
  replace GW := hid (gb_mk GW.out hm (by have := OR5.out; have := OR7.out; have := OR10.out; have := OR12.out; have := OR14.out; have := OR17.out; have := HW0.out; omega))
  replace T5 := hid (T5.out.mk' hm (by have := OR5.out; have := OR7.out; have := OR10.out; have := OR12.out; have := OR14.out; have := OR17.out; have := HW0.out; omega))
  replace T7 := hid (T7.out.mk' hm (by have := OR5.out; have := OR7.out; have := OR10.out; have := OR12.out; have := OR14.out; have := OR17.out; have := HW0.out; omega))
  replace X12 := hid (X12.out.mk' hm (by have := OR5.out; have := OR7.out; have := OR10.out; have := OR12.out; have := OR14.out; have := OR17.out; have := HW0.out; omega))
  replace T14 := hid (T14.out.mk' hm (by have := OR5.out; have := OR7.out; have := OR10.out; have := OR12.out; have := OR14.out; have := OR17.out; have := HW0.out; omega))
  replace T17 := hid (T17.out.mk' hm (by have := OR5.out; have := OR7.out; have := OR10.out; have := OR12.out; have := OR14.out; have := OR17.out; have := HW0.out; omega))
  replace T10 := hid (show Tr _ 61 lo10 hi10 (f0.mark 1) B10 _ from ⟨hT, T10.out.2⟩)
  replace HT := hid (Nat.le_trans HT.out hm.size)
  clear hm hM hT
  go_wp2_with fail
  refine (eqValueS_any D _ B14 B7 d14 d7 _ _ T14.out.1 T7.out.1 (by omega)).mono ?_
  rintro e wz23 ⟨rfl, hg⟩
  replace GW := hid (gb_trans GW.out hg)
  replace T5 := hid (T5.out.grow hg)
  replace T7 := hid (T7.out.grow hg)
  replace T10 := hid (T10.out.grow hg)
  replace X12 := hid (X12.out.grow hg)
  replace T14 := hid (T14.out.grow hg)
  replace T17 := hid (T17.out.grow hg)
  replace HT := hid (Nat.le_trans HT.out (hg).size)
  clear hg
  go_wp2_with fail
  refine (markValueS_any D _ B14 d14 _ lo14 1 T14.out.1 T14.out.2.1 (fun b hb => (T14.out.2.2.1 b hb).2.1) (fun b hb => (T14.out.2.2.1 b hb).2.2) (by omega) (by have := D.vsz_le; omega) (by omega)).mono ?_
  rintro e wz25 ⟨rfl, hR, hO, hB, hM⟩
  obtain ⟨z24, hz24⟩ : ∃ z : Nat, 1 + D.vsz = z := ⟨_, rfl⟩
  have HZ24 := hid hz24
  have hzb24 : z24 ≤ 1 + 8388608 ∧ 1 ≤ z24 := by have := D.vsz_le; omega
  rw [hz24]
  clear hz24
  have hm := MkI.of hM T14.out.bounds
  replace GW := hid (gb_mk GW.out hm (by have := OR5.out; have := OR7.out; have := OR10.out; have := OR12.out; have := OR14.out; have := OR17.out; have := HW0.out; omega))
  replace T5 := hid (T5.out.mk' hm (by have := OR5.out; have := OR7.out; have := OR10.out; have := OR12.out; have := OR14.out; have := OR17.out; have := HW0.out; omega))
  replace T7 := hid (T7.out.mk' hm (by have := OR5.out; have := OR7.out; have := OR10.out; have := OR12.out; have := OR14.out; have := OR17.out; have := HW0.out; omega))
  replace T10 := hid (T10.out.mk' hm (by have := OR5.out; have := OR7.out; have := OR10.out; have := OR12.out; have := OR14.out; have := OR17.out; have := HW0.out; omega))
  replace X12 := hid (X12.out.mk' hm (by have := OR5.out; have := OR7.out; have := OR10.out; have := OR12.out; have := OR14.out; have := OR17.out; have := HW0.out; omega))
  replace T17 := hid (T17.out.mk' hm (by have := OR5.out; have := OR7.out; have := OR10.out; have := OR12.out; have := OR14.out; have := OR17.out; have := HW0.out; omega))
  replace T14 := hid (show TrV _ lo14 hi14 (D.markV 1) B14 _ from ⟨by rw [Forest.len_markV]; exact hR, hO, fun b hb => ⟨(T14.out.2.2.1 b hb).1, hB b hb, (T14.out.2.2.1 b hb).2.2⟩, T14.out.2.2.2⟩)
  replace HT := hid (Nat.le_trans HT.out hm.size)
  clear hm hM hR hO hB
  go_wp2_with fail
  refine (heldValueS_any D _ B14 d14 _ 1 (by have h := T14.out.1; rw [Forest.len_markV] at h; exact h) (by omega) (by have := D.vsz_le; omega) (by omega)).mono ?_
  rintro e wz26 ⟨rfl, hg⟩
  rw [HZ24.out]
  replace GW := hid (gb_trans GW.out hg)
  replace T5 := hid (T5.out.grow hg)
  replace T7 := hid (T7.out.grow hg)
  replace T10 := hid (T10.out.grow hg)
  replace X12 := hid (X12.out.grow hg)
  replace T14 := hid (T14.out.grow hg)
  replace T17 := hid (T17.out.grow hg)
  replace HT := hid (Nat.le_trans HT.out (hg).size)
  clear hg
  obtain ⟨a27_0, a27_1, a27_2, a27_3, a27_4⟩ := (HB0.out.grow GW.out).cells5
  have la27 := (HB0.out.grow GW.out).lt
  go_wp2_with fail
  refine (toValue_any f0 (toEntryS_any f0) k0 m0 u0 x0 A0 c0 _ _ (RP0.out.grow GW.out) HO0.out.1 (by omega)).mono ?_
  rintro e wz29 ⟨B28, d28, M28, rfl, ha28, ho28, hg⟩
  clear a27_0 a27_1 a27_2 a27_3 a27_4 la27
  obtain ⟨lo28, hi28, hT28, hlo28, hlh28, hhi28⟩ := own_tr ho28 hg HT.out
  have OR28 := hid (And.intro hlo28 hlh28); have HA28 := hid ha28.2
  replace GW := hid (gb_trans GW.out hg)
  replace T5 := hid (T5.out.grow hg)
  replace T7 := hid (T7.out.grow hg)
  replace T10 := hid (T10.out.grow hg)
  replace X12 := hid (X12.out.grow hg)
  replace T14 := hid (T14.out.grow hg)
  replace T17 := hid (T17.out.grow hg)
  replace HT := hid (Nat.le_trans HT.out (hg).size)
  clear hg
  have T28 := hid hT28; replace HT := hid hhi28
  clear ho28 ha28 hT28 hlo28 hlh28 hhi28
  go_wp2_with fail
  refine (implVals_any f0 _ k0 m0 u0 x0 B28 d28 _ T28.out.1.1 (by omega)).mono ?_
  rintro e wz31 ⟨B30, d30, M30, rfl, hR, hg⟩
  rw [HD.out] at hR; rw [HD.out]
  obtain ⟨lo30, hi30, hT30, hlo30, hlh30, hhi30⟩ := own_trv hR hg HT.out
  have OR30 := hid (And.intro hlo30 hlh30)
  replace GW := hid (gb_trans GW.out hg)
  replace T5 := hid (T5.out.grow hg)
  replace T7 := hid (T7.out.grow hg)
  replace T10 := hid (T10.out.grow hg)
  replace X12 := hid (X12.out.grow hg)
  replace T14 := hid (T14.out.grow hg)
  replace T17 := hid (T17.out.grow hg)
  replace T28 := hid (T28.out.grow hg)
  replace HT := hid (Nat.le_trans HT.out (hg).size)
  clear hg
  have T30 := hid hT30; replace HT := hid hhi30
  clear hR hT30 hlo30 hlh30 hhi30
  go_wp2_with fail
  refine (eqValueS_any D _ B30 B7 d30 d7 _ _ T30.out.1 T7.out.1 (by omega)).mono ?_
  rintro e wz32 ⟨rfl, hg⟩
  replace GW := hid (gb_trans GW.out hg)
  replace T5 := hid (T5.out.grow hg)
  replace T7 := hid (T7.out.grow hg)
  replace T10 := hid (T10.out.grow hg)
  replace X12 := hid (X12.out.grow hg)
  replace T14 := hid (T14.out.grow hg)
  replace T17 := hid (T17.out.grow hg)
  replace T28 := hid (T28.out.grow hg)
  replace T30 := hid (T30.out.grow hg)
  replace HT := hid (Nat.le_trans HT.out (hg).size)
  clear hg
  go_wp2_with fail
  refine (heldValueS_any D _ B14 d14 _ 1 (by have h := T14.out.1; rw [Forest.len_markV] at h; exact h) (by omega) (by have := D.vsz_le; omega) (by omega)).mono ?_
  rintro e wz33 ⟨rfl, hg⟩
  rw [HZ24.out]
  replace GW := hid (gb_trans GW.out hg)
  replace T5 := hid (T5.out.grow hg)
  replace T7 := hid (T7.out.grow hg)
  replace T10 := hid (T10.out.grow hg)
  replace X12 := hid (X12.out.grow hg)
  replace T14 := hid (T14.out.grow hg)
  replace T17 := hid (T17.out.grow hg)
  replace T28 := hid (T28.out.grow hg)
  replace T30 := hid (T30.out.grow hg)
  replace HT := hid (Nat.le_trans HT.out (hg).size)
  clear hg
  go_wp2_with fail
  go_ret
  exact ⟨rfl, gb_below (gb_trans GP.out GW.out)⟩
end Go.Proofs.Ytlfigoboeogegaa
