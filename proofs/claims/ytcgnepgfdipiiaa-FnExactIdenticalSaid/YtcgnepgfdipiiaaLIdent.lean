/- The law FnExactIdentical, walked (printed by lawgen.py). -/
import Derived.Test.YtcgnepgfdipiiaaIdent
import Derived.Test.YtcgnepgfdipiiaaSz
import Derived.Test.YtcgnepgfdipiiaaTo
import Derived.Test.YtcgnepgfdipiiaaEq
import Derived.Test.YtcgnepgfdipiiaaHeld
import Derived.Test.YtcgnepgfdipiiaaLWt
namespace Go.Proofs.Ytcgnepgfdipiiaa
open Go.RowKit
set_option linter.unusedVariables false

set_option maxHeartbeats 4000000 in
theorem identical_walk (k0 m0 : Int) (u0 : ByteArray) (x0 : Int) (A0 : Option Addr) (n0 c0 : Nat) (f0 : Forest) (L0 : List Nat) (k1 m1 : Int) (u1 : ByteArray) (x1 : Int) (A1 : Option Addr) (n1 c1 : Nat) (f1 : Forest) (L1 : List Nat) (w : World) (_ha0 : A0 = none → c0 = 0) (hb0 : n0 ≤ maxLen) (hc0 : RowF w f0 A0 0 n0 L0) (hd0 : f0.ok) (he0 : u0.size ≤ maxLen) (_hf0 : (Lit.int .i64 k0).wf = true) (_hg0 : (Lit.int .i64 m0).wf = true) (_hh0 : (Lit.int .i64 x0).wf = true) (_ha1 : A1 = none → c1 = 0) (hb1 : n1 ≤ maxLen) (hc1 : RowF w f1 A1 0 n1 L1) (hd1 : f1.ok) (he1 : u1.size ≤ maxLen) (_hf1 : (Lit.int .i64 k1).wf = true) (_hg1 : (Lit.int .i64 m1).wf = true) (_hh1 : (Lit.int .i64 x1).wf = true) :
    Calls Try.prog 10 #[.agg #[.int .i64 k0, .int .i64 m0, .string u0, .int .i64 x0, .slice A0 n0 c0], .agg #[.int .i64 k1, .int .i64 m1, .string u1, .int .i64 x1, .slice A1 n1 c1]] w fun e w' => e = .returned (.bool true) ∧ Below w.heap.size w w' := by
  have hn0 : f0.len = n0 := by have := hc0.len; omega
  subst hn0
  have hn1 : f1.len = n1 := by have := hc1.len; omega
  subst hn1
  have GP := hid (show w.grownBy ((w.alloc (.cells #[.int .i64 k0, .int .i64 m0, .string u0, .int .i64 x0, .slice A0 f0.len c0] 42)).alloc (.cells #[.int .i64 k1, .int .i64 m1, .string u1, .int .i64 x1, .slice A1 f1.len c1] 42)) none from gb_alloc (gb_alloc (gb_refl w none) (.cells #[.int .i64 k0, .int .i64 m0, .string u0, .int .i64 x0, .slice A0 f0.len c0] 42)) (.cells #[.int .i64 k1, .int .i64 m1, .string u1, .int .i64 x1, .slice A1 f1.len c1] 42))
  have HB0 := hid ((HoldsT.new w #[.int .i64 k0, .int .i64 m0, .string u0, .int .i64 x0, .slice A0 f0.len c0] 42).alloc (.cells #[.int .i64 k1, .int .i64 m1, .string u1, .int .i64 x1, .slice A1 f1.len c1] 42))
  have RP0 := hid (hc0.grow GP.out)
  have HO0 := hid (And.intro hd0 (And.intro hb0 he0))
  clear _ha0 hb0 hc0 hd0 he0 _hf0 _hg0 _hh0
  have HB1 := hid (show HoldsT ((w.alloc (.cells #[.int .i64 k0, .int .i64 m0, .string u0, .int .i64 x0, .slice A0 f0.len c0] 42)).alloc (.cells #[.int .i64 k1, .int .i64 m1, .string u1, .int .i64 x1, .slice A1 f1.len c1] 42)) (w.heap.size + 1) #[.int .i64 k1, .int .i64 m1, .string u1, .int .i64 x1, .slice A1 f1.len c1] 42 by simpa using (HoldsT.new (w.alloc (.cells #[.int .i64 k0, .int .i64 m0, .string u0, .int .i64 x0, .slice A0 f0.len c0] 42)) #[.int .i64 k1, .int .i64 m1, .string u1, .int .i64 x1, .slice A1 f1.len c1] 42))
  have RP1 := hid (hc1.grow GP.out)
  have HO1 := hid (And.intro hd1 (And.intro hb1 he1))
  clear _ha1 hb1 hc1 hd1 he1 _hf1 _hg1 _hh1
  have GW := hid (gb_refl ((w.alloc (.cells #[.int .i64 k0, .int .i64 m0, .string u0, .int .i64 x0, .slice A0 f0.len c0] 42)).alloc (.cells #[.int .i64 k1, .int .i64 m1, .string u1, .int .i64 x1, .slice A1 f1.len c1] 42)) none)
  obtain ⟨V, hV⟩ : ∃ V, valAlike k0 m0 u0 f0 k1 m1 u1 f1 = V := ⟨_, rfl⟩
  have HV := hid hV
  clear hV
  go_enter Try.func10, Try.ntmps10
  obtain ⟨a1_0, a1_1, a1_2, a1_3, a1_4⟩ := (HB0.out.grow GW.out).cells5
  have la1 := (HB0.out.grow GW.out).lt
  go_wp2_with fail
  refine (szValue_any f0 (szEntryS_any f0) k0 m0 u0 x0 A0 c0 1048576 _ _ (RP0.out.grow GW.out) HO0.out.1 HO0.out.2.1 (by omega) HO0.out.2.2).mono ?_
  rintro e wz3 ⟨rfl, hg⟩
  clear a1_0 a1_1 a1_2 a1_3 a1_4 la1
  replace GW := hid (gb_trans GW.out hg)
  clear hg
  rcases leftI_cases 1048576 (u0.size + (f0.len + f0.sz)) with ⟨e1, _⟩ | ⟨q2, e1, hq2⟩
  · rw [e1]
    clear e1
    go_wp2_with fail
    go_ret
    exact ⟨rfl, gb_below (gb_trans GP.out GW.out)⟩
  rw [e1]
  have hfs0 : f0.size + q2 ≤ 1048576 := by have := f0.size_sz; omega
  have hqb2 : q2 ≤ 1048576 := by omega
  have hus0 : u0.size ≤ 1048576 := by omega
  clear e1 hq2
  obtain ⟨a4_0, a4_1, a4_2, a4_3, a4_4⟩ := (HB1.out.grow GW.out).cells5
  have la4 := (HB1.out.grow GW.out).lt
  go_wp2_with fail
  refine (szValue_any f1 (szEntryS_any f1) k1 m1 u1 x1 A1 c1 q2 _ _ (RP1.out.grow GW.out) HO1.out.1 HO1.out.2.1 (by omega) HO1.out.2.2).mono ?_
  rintro e wz6 ⟨rfl, hg⟩
  clear a4_0 a4_1 a4_2 a4_3 a4_4 la4
  replace GW := hid (gb_trans GW.out hg)
  clear hg
  rcases leftI_cases q2 (u1.size + (f1.len + f1.sz)) with ⟨e1, _⟩ | ⟨q5, e1, hq5⟩
  · rw [e1]
    clear e1
    go_wp2_with fail
    go_ret
    exact ⟨rfl, gb_below (gb_trans GP.out GW.out)⟩
  rw [e1]
  have hfs1 : f1.size + q5 ≤ q2 := by have := f1.size_sz; omega
  have hqb5 : q5 ≤ q2 := by omega
  have hus1 : u1.size ≤ 1048576 := by omega
  clear e1 hq5
  go_wp2_with fail
  refine wp_region_grown 6 rfl (by kernel_rfl) fun wd gd => ?_
  refine held_load 0 rfl (some 20) rfl (by kernel_rfl) (by kernel_rfl) (by kernel_rfl) (fun _ _ _ _ h => h) 42 (.tmp 2) rfl rfl (w.heap.size) 0 rfl _ (HB0.out.grow GW.out).rangeV (HB0.out.grow GW.out).lt Try.underlying42 rfl Try.infoVL gd ?_
  refine held_load 2 rfl (some 22) rfl (by kernel_rfl) (by kernel_rfl) (by kernel_rfl) (fun _ _ _ _ h => h) 42 (.tmp 3) rfl rfl (w.heap.size + 1) 0 rfl _ (HB1.out.grow GW.out).rangeV (HB1.out.grow GW.out).lt Try.underlying42 rfl Try.infoVL gd ?_
  have GD := hid gd
  replace GW := hid (gb_trans GW.out gd)
  clear gd
  refine held_call1 1 rfl (some 21) rfl (by kernel_rfl) rfl 30 (by kernel_rfl) (.tmp 20) _ (.agg #[.int .i64 k0, .int .i64 m0, .string u0, .int .i64 x0, .slice A0 f0.len c0]) rfl rfl (toValue_tree f0 k0 m0 u0 x0 A0 c0 _ _ (RP0.out.grow GW.out) HO0.out.1 (by omega)) ?_
  rintro e wz8 ⟨B7, d7, M7, rfl, _, hT7, hg⟩
  have T7n := hid hT7.1
  clear hT7
  replace GD := hid (gb_trans GD.out hg)
  replace GW := hid (gb_trans GW.out hg)
  clear hg
  refine ⟨_, rfl, GD.out, ?_⟩
  have T7 := T7n; clear T7n
  refine held_call1 3 rfl (some 23) rfl (by kernel_rfl) rfl 30 (by kernel_rfl) (.tmp 22) _ (.agg #[.int .i64 k1, .int .i64 m1, .string u1, .int .i64 x1, .slice A1 f1.len c1]) rfl rfl (toValue_tree f1 k1 m1 u1 x1 A1 c1 _ _ (RP1.out.grow GW.out) HO1.out.1 (by omega)) ?_
  rintro e wz10 ⟨B9, d9, M9, rfl, _, hT9, hg⟩
  have T9n := hid hT9.1
  clear hT9
  replace GD := hid (gb_trans GD.out hg)
  replace GW := hid (gb_trans GW.out hg)
  replace T7 := hid (T7.out.grow hg)
  clear hg
  refine ⟨_, rfl, GD.out, ?_⟩
  have T9 := T9n; clear T9n
  refine held_call2 4 rfl (some 24) rfl (by kernel_rfl) rfl 36 (by kernel_rfl) (.tmp 21) (.tmp 23) _ (.agg #[.int .i64 k0, .int .i64 m0, .string u0, .int .i64 x0, .slice B7 f0.len d7]) (.agg #[.int .i64 k1, .int .i64 m1, .string u1, .int .i64 x1, .slice B9 f1.len d9]) rfl rfl rfl (specIdent_any f0 f1 _ k0 m0 u0 x0 B7 d7 _ k1 m1 u1 x1 B9 d9 _ T7.out T9.out (by omega) (by omega)) ?_
  rintro e wz11 ⟨rfl, hg⟩
  rw [HV.out]
  replace GD := hid (gb_trans GD.out hg)
  replace GW := hid (gb_trans GW.out hg)
  replace T7 := hid (T7.out.grow hg)
  replace T9 := hid (T9.out.grow hg)
  clear hg
  refine ⟨_, rfl, GD.out, ?_⟩
  refine held_assign 5 rfl (some 6) rfl (by kernel_rfl) rfl (.tmp 24) rfl (.bool V) rfl GD.out ?_
  refine wpAnyH_done (by kernel_rfl) ?_ _
  simp only [Act.put, List.setIfInBounds_toArray, List.set_cons_succ, List.set_cons_zero]
  clear GD
  obtain ⟨a12_0, a12_1, a12_2, a12_3, a12_4⟩ := (HB0.out.grow GW.out).cells5
  have la12 := (HB0.out.grow GW.out).lt
  go_wp2_with fail
  refine (toValue_tree f0 k0 m0 u0 x0 A0 c0 _ _ (RP0.out.grow GW.out) HO0.out.1 (by omega)).mono ?_
  rintro e wz14 ⟨B13, d13, M13, rfl, _, hT13, hg⟩
  clear a12_0 a12_1 a12_2 a12_3 a12_4 la12
  have T13n := hid hT13.1
  clear hT13
  replace GW := hid (gb_trans GW.out hg)
  replace T7 := hid (T7.out.grow hg)
  replace T9 := hid (T9.out.grow hg)
  clear hg
  have T13 := T13n; clear T13n
  have X15 := hid (HoldsT.new wz14 #[.int .i64 k0, .int .i64 m0, .string u0, .int .i64 x0, .slice B13 f0.len d13] 31)
  replace GW := hid (gb_alloc GW.out (.cells #[.int .i64 k0, .int .i64 m0, .string u0, .int .i64 x0, .slice B13 f0.len d13] 31))
  replace T7 := hid (T7.out.grow (gb_alloc (gb_refl _ none) (.cells #[.int .i64 k0, .int .i64 m0, .string u0, .int .i64 x0, .slice B13 f0.len d13] 31)))
  replace T9 := hid (T9.out.grow (gb_alloc (gb_refl _ none) (.cells #[.int .i64 k0, .int .i64 m0, .string u0, .int .i64 x0, .slice B13 f0.len d13] 31)))
  replace T13 := hid (T13.out.grow (gb_alloc (gb_refl _ none) (.cells #[.int .i64 k0, .int .i64 m0, .string u0, .int .i64 x0, .slice B13 f0.len d13] 31)))
  obtain ⟨a16_0, a16_1, a16_2, a16_3, a16_4⟩ := (HB1.out.grow GW.out).cells5
  have la16 := (HB1.out.grow GW.out).lt
  go_wp2_with fail
  refine (toValue_tree f1 k1 m1 u1 x1 A1 c1 _ _ (RP1.out.grow GW.out) HO1.out.1 (by omega)).mono ?_
  rintro e wz18 ⟨B17, d17, M17, rfl, _, hT17, hg⟩
  clear a16_0 a16_1 a16_2 a16_3 a16_4 la16
  have T17n := hid hT17.1
  clear hT17
  replace GW := hid (gb_trans GW.out hg)
  replace T7 := hid (T7.out.grow hg)
  replace T9 := hid (T9.out.grow hg)
  replace T13 := hid (T13.out.grow hg)
  replace X15 := hid (X15.out.grow hg)
  clear hg
  have T17 := T17n; clear T17n
  have X19 := hid (HoldsT.new wz18 #[.int .i64 k1, .int .i64 m1, .string u1, .int .i64 x1, .slice B17 f1.len d17] 31)
  replace GW := hid (gb_alloc GW.out (.cells #[.int .i64 k1, .int .i64 m1, .string u1, .int .i64 x1, .slice B17 f1.len d17] 31))
  replace T7 := hid (T7.out.grow (gb_alloc (gb_refl _ none) (.cells #[.int .i64 k1, .int .i64 m1, .string u1, .int .i64 x1, .slice B17 f1.len d17] 31)))
  replace T9 := hid (T9.out.grow (gb_alloc (gb_refl _ none) (.cells #[.int .i64 k1, .int .i64 m1, .string u1, .int .i64 x1, .slice B17 f1.len d17] 31)))
  replace T13 := hid (T13.out.grow (gb_alloc (gb_refl _ none) (.cells #[.int .i64 k1, .int .i64 m1, .string u1, .int .i64 x1, .slice B17 f1.len d17] 31)))
  replace X15 := hid (X15.out.grow (gb_alloc (gb_refl _ none) (.cells #[.int .i64 k1, .int .i64 m1, .string u1, .int .i64 x1, .slice B17 f1.len d17] 31)))
  replace T17 := hid (T17.out.grow (gb_alloc (gb_refl _ none) (.cells #[.int .i64 k1, .int .i64 m1, .string u1, .int .i64 x1, .slice B17 f1.len d17] 31)))
  obtain ⟨a20_0, a20_1, a20_2, a20_3, a20_4⟩ := X15.out.cells5
  have la20 := X15.out.lt
  obtain ⟨a21_0, a21_1, a21_2, a21_3, a21_4⟩ := X19.out.cells5
  have la21 := X19.out.lt
  go_wp2_with fail
  refine (implIdent_any f0 f1 _ k0 m0 u0 x0 B13 d13 _ k1 m1 u1 x1 B17 d17 _ T13.out T17.out (by omega) (by omega)).mono ?_
  rintro e wz22 ⟨rfl, hg⟩
  clear a20_0 a20_1 a20_2 a20_3 a20_4 la20 a21_0 a21_1 a21_2 a21_3 a21_4 la21
  rw [HV.out]
  replace GW := hid (gb_trans GW.out hg)
  replace T7 := hid (T7.out.grow hg)
  replace T9 := hid (T9.out.grow hg)
  replace T13 := hid (T13.out.grow hg)
  replace X15 := hid (X15.out.grow hg)
  replace T17 := hid (T17.out.grow hg)
  replace X19 := hid (X19.out.grow hg)
  clear hg
  go_wp2_with fail
  refine wp_region_grown 5 rfl (by kernel_rfl) fun wd gd => ?_
  refine held_load 0 rfl (some 35) rfl (by kernel_rfl) (by kernel_rfl) (by kernel_rfl) (fun _ _ _ _ h => h) 31 (.tmp 7) rfl rfl (wz14.heap.size) 0 rfl _ X15.out.rangeV X15.out.lt Try.underlying31 rfl Try.infoV gd ?_
  refine held_load 1 rfl (some 36) rfl (by kernel_rfl) (by kernel_rfl) (by kernel_rfl) (fun _ _ _ _ h => h) 42 (.tmp 2) rfl rfl (w.heap.size) 0 rfl _ (HB0.out.grow GW.out).rangeV (HB0.out.grow GW.out).lt Try.underlying42 rfl Try.infoVL gd ?_
  have GD := hid gd
  replace GW := hid (gb_trans GW.out gd)
  replace T7 := hid (T7.out.grow gd)
  replace T9 := hid (T9.out.grow gd)
  replace T13 := hid (T13.out.grow gd)
  replace X15 := hid (X15.out.grow gd)
  replace T17 := hid (T17.out.grow gd)
  replace X19 := hid (X19.out.grow gd)
  clear gd
  refine held_call1 2 rfl (some 37) rfl (by kernel_rfl) rfl 30 (by kernel_rfl) (.tmp 36) _ (.agg #[.int .i64 k0, .int .i64 m0, .string u0, .int .i64 x0, .slice A0 f0.len c0]) rfl rfl (toValue_tree f0 k0 m0 u0 x0 A0 c0 _ _ (RP0.out.grow GW.out) HO0.out.1 (by omega)) ?_
  rintro e wz24 ⟨B23, d23, M23, rfl, _, hT23, hg⟩
  have T23n := hid hT23.1
  clear hT23
  replace GD := hid (gb_trans GD.out hg)
  replace GW := hid (gb_trans GW.out hg)
  replace T7 := hid (T7.out.grow hg)
  replace T9 := hid (T9.out.grow hg)
  replace T13 := hid (T13.out.grow hg)
  replace X15 := hid (X15.out.grow hg)
  replace T17 := hid (T17.out.grow hg)
  replace X19 := hid (X19.out.grow hg)
  clear hg
  refine ⟨_, rfl, GD.out, ?_⟩
  have T23 := T23n; clear T23n
  refine held_call2 3 rfl (some 38) rfl (by kernel_rfl) rfl 21 (by kernel_rfl) (.tmp 35) (.tmp 37) _ (.agg #[.int .i64 k0, .int .i64 m0, .string u0, .int .i64 x0, .slice B13 f0.len d13]) (.agg #[.int .i64 k0, .int .i64 m0, .string u0, .int .i64 x0, .slice B23 f0.len d23]) rfl rfl rfl (eqValue_any f0 (eqEntryS_any f0) k0 m0 u0 x0 B13 B23 d13 d23 _ _ _ T13.out T23.out (by omega)) ?_
  rintro e wz25 ⟨rfl, hg⟩
  replace GD := hid (gb_trans GD.out hg)
  replace GW := hid (gb_trans GW.out hg)
  replace T7 := hid (T7.out.grow hg)
  replace T9 := hid (T9.out.grow hg)
  replace T13 := hid (T13.out.grow hg)
  replace X15 := hid (X15.out.grow hg)
  replace T17 := hid (T17.out.grow hg)
  replace X19 := hid (X19.out.grow hg)
  replace T23 := hid (T23.out.grow hg)
  clear hg
  refine ⟨_, rfl, GD.out, ?_⟩
  refine held_not 4 rfl (some 39) rfl (by kernel_rfl) rfl 4 38 rfl true rfl GD.out ?_
  refine wpAnyH_done (by kernel_rfl) ?_ _
  simp only [Act.put, List.setIfInBounds_toArray, List.set_cons_succ, List.set_cons_zero]
  clear GD
  go_wp2_with fail
  refine wp_region_grown 5 rfl (by kernel_rfl) fun wd gd => ?_
  refine held_load 0 rfl (some 40) rfl (by kernel_rfl) (by kernel_rfl) (by kernel_rfl) (fun _ _ _ _ h => h) 31 (.tmp 8) rfl rfl (wz18.heap.size) 0 rfl _ X19.out.rangeV X19.out.lt Try.underlying31 rfl Try.infoV gd ?_
  refine held_load 1 rfl (some 41) rfl (by kernel_rfl) (by kernel_rfl) (by kernel_rfl) (fun _ _ _ _ h => h) 42 (.tmp 3) rfl rfl (w.heap.size + 1) 0 rfl _ (HB1.out.grow GW.out).rangeV (HB1.out.grow GW.out).lt Try.underlying42 rfl Try.infoVL gd ?_
  have GD := hid gd
  replace GW := hid (gb_trans GW.out gd)
  replace T7 := hid (T7.out.grow gd)
  replace T9 := hid (T9.out.grow gd)
  replace T13 := hid (T13.out.grow gd)
  replace X15 := hid (X15.out.grow gd)
  replace T17 := hid (T17.out.grow gd)
  replace X19 := hid (X19.out.grow gd)
  replace T23 := hid (T23.out.grow gd)
  clear gd
  refine held_call1 2 rfl (some 42) rfl (by kernel_rfl) rfl 30 (by kernel_rfl) (.tmp 41) _ (.agg #[.int .i64 k1, .int .i64 m1, .string u1, .int .i64 x1, .slice A1 f1.len c1]) rfl rfl (toValue_tree f1 k1 m1 u1 x1 A1 c1 _ _ (RP1.out.grow GW.out) HO1.out.1 (by omega)) ?_
  rintro e wz27 ⟨B26, d26, M26, rfl, _, hT26, hg⟩
  have T26n := hid hT26.1
  clear hT26
  replace GD := hid (gb_trans GD.out hg)
  replace GW := hid (gb_trans GW.out hg)
  replace T7 := hid (T7.out.grow hg)
  replace T9 := hid (T9.out.grow hg)
  replace T13 := hid (T13.out.grow hg)
  replace X15 := hid (X15.out.grow hg)
  replace T17 := hid (T17.out.grow hg)
  replace X19 := hid (X19.out.grow hg)
  replace T23 := hid (T23.out.grow hg)
  clear hg
  refine ⟨_, rfl, GD.out, ?_⟩
  have T26 := T26n; clear T26n
  refine held_call2 3 rfl (some 43) rfl (by kernel_rfl) rfl 21 (by kernel_rfl) (.tmp 40) (.tmp 42) _ (.agg #[.int .i64 k1, .int .i64 m1, .string u1, .int .i64 x1, .slice B17 f1.len d17]) (.agg #[.int .i64 k1, .int .i64 m1, .string u1, .int .i64 x1, .slice B26 f1.len d26]) rfl rfl rfl (eqValue_any f1 (eqEntryS_any f1) k1 m1 u1 x1 B17 B26 d17 d26 _ _ _ T17.out T26.out (by omega)) ?_
  rintro e wz28 ⟨rfl, hg⟩
  replace GD := hid (gb_trans GD.out hg)
  replace GW := hid (gb_trans GW.out hg)
  replace T7 := hid (T7.out.grow hg)
  replace T9 := hid (T9.out.grow hg)
  replace T13 := hid (T13.out.grow hg)
  replace X15 := hid (X15.out.grow hg)
  replace T17 := hid (T17.out.grow hg)
  replace X19 := hid (X19.out.grow hg)
  replace T23 := hid (T23.out.grow hg)
  replace T26 := hid (T26.out.grow hg)
  clear hg
  refine ⟨_, rfl, GD.out, ?_⟩
  refine held_not 4 rfl (some 44) rfl (by kernel_rfl) rfl 4 43 rfl true rfl GD.out ?_
  refine wpAnyH_done (by kernel_rfl) ?_ _
  simp only [Act.put, List.setIfInBounds_toArray, List.set_cons_succ, List.set_cons_zero]
  clear GD
  go_wp2_with fail
  go_ret
  exact ⟨rfl, gb_below (gb_trans GP.out GW.out)⟩
end Go.Proofs.Ytcgnepgfdipiiaa
