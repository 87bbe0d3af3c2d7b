/- The law FnExactFindKey, walked (printed by lawgen.py). -/
import Derived.Test.YtcgnepgfdipiiaaFind
import Derived.Test.YtcgnepgfdipiiaaSz
import Derived.Test.YtcgnepgfdipiiaaTo
import Derived.Test.YtcgnepgfdipiiaaEq
import Derived.Test.YtcgnepgfdipiiaaHeld
import Derived.Test.YtcgnepgfdipiiaaLWt
namespace Go.Proofs.Ytcgnepgfdipiiaa
open Go.RowKit
set_option linter.unusedVariables false

theorem Try.infoKL : (Try.prog.info? 23).map (·.size) = some 3 := by kernel_rfl
set_option maxHeartbeats 4000000 in
theorem findKey_walk (k0 m0 : Int) (u0 : ByteArray) (x0 : Int) (A0 : Option Addr) (n0 c0 : Nat) (f0 : Forest) (L0 : List Nat) (t1 : Bool) (p1 : Int) (s1 : ByteArray) (w : World) (_ha0 : A0 = none → c0 = 0) (hb0 : n0 ≤ maxLen) (hc0 : RowF w f0 A0 0 n0 L0) (hd0 : f0.ok) (he0 : u0.size ≤ maxLen) (_hf0 : (Lit.int .i64 k0).wf = true) (_hg0 : (Lit.int .i64 m0).wf = true) (_hh0 : (Lit.int .i64 x0).wf = true) (ha1 : s1.size ≤ maxLen) (_hb1 : (Lit.int .i64 p1).wf = true) :
    Calls Try.prog 9 #[.agg #[.int .i64 k0, .int .i64 m0, .string u0, .int .i64 x0, .slice A0 n0 c0], .agg #[.bool t1, .int .i64 p1, .string s1]] w fun e w' => e = .returned (.bool true) ∧ Below w.heap.size w w' := by
  have hn0 : f0.len = n0 := by have := hc0.len; omega
  subst hn0
  have GP := hid (show w.grownBy ((w.alloc (.cells #[.int .i64 k0, .int .i64 m0, .string u0, .int .i64 x0, .slice A0 f0.len c0] 42)).alloc (.cells #[.bool t1, .int .i64 p1, .string s1] 23)) none from gb_alloc (gb_alloc (gb_refl w none) (.cells #[.int .i64 k0, .int .i64 m0, .string u0, .int .i64 x0, .slice A0 f0.len c0] 42)) (.cells #[.bool t1, .int .i64 p1, .string s1] 23))
  have HB0 := hid ((HoldsT.new w #[.int .i64 k0, .int .i64 m0, .string u0, .int .i64 x0, .slice A0 f0.len c0] 42).alloc (.cells #[.bool t1, .int .i64 p1, .string s1] 23))
  have RP0 := hid (hc0.grow GP.out)
  have HO0 := hid (And.intro hd0 (And.intro hb0 he0))
  clear _ha0 hb0 hc0 hd0 he0 _hf0 _hg0 _hh0
  have HB1 := hid (show HoldsT ((w.alloc (.cells #[.int .i64 k0, .int .i64 m0, .string u0, .int .i64 x0, .slice A0 f0.len c0] 42)).alloc (.cells #[.bool t1, .int .i64 p1, .string s1] 23)) (w.heap.size + 1) #[.bool t1, .int .i64 p1, .string s1] 23 by simpa using (HoldsT.new (w.alloc (.cells #[.int .i64 k0, .int .i64 m0, .string u0, .int .i64 x0, .slice A0 f0.len c0] 42)) #[.bool t1, .int .i64 p1, .string s1] 23))
  have HO1 := hid ha1
  clear ha1 _hb1
  have GW := hid (gb_refl ((w.alloc (.cells #[.int .i64 k0, .int .i64 m0, .string u0, .int .i64 x0, .slice A0 f0.len c0] 42)).alloc (.cells #[.bool t1, .int .i64 p1, .string s1] 23)) none)
  obtain ⟨V, hV⟩ : ∃ V, valFind k0 t1 p1 s1 f0 = V := ⟨_, rfl⟩
  have HV := hid hV
  clear hV
  go_enter Try.func9, Try.ntmps9
  obtain ⟨a1_0, a1_1, a1_2, a1_3, a1_4⟩ := (HB0.out.grow GW.out).cells5
  have la1 := (HB0.out.grow GW.out).lt
  go_wp2_with fail
  refine (szValue_any f0 (szEntryS_any f0) k0 m0 u0 x0 A0 c0 1048576 _ _ (RP0.out.grow GW.out) HO0.out.1 HO0.out.2.1 (by omega) HO0.out.2.2).mono ?_
  rintro e wz3 ⟨rfl, hg⟩
  clear a1_0 a1_1 a1_2 a1_3 a1_4 la1
  replace GW := hid (gb_trans GW.out hg)
  clear hg
  rcases leftI_cases 1048576 (u0.size + (f0.len + f0.sz)) with ⟨e1, _⟩ | ⟨q2, e1, hq2⟩
  · rw [e1]
    clear e1
    go_wp2_with fail
    go_ret
    exact ⟨rfl, gb_below (gb_trans GP.out GW.out)⟩
  rw [e1]
  have hfs0 : f0.size + q2 ≤ 1048576 := by have := f0.size_sz; omega
  have hqb2 : q2 ≤ 1048576 := by omega
  have hus0 : u0.size ≤ 1048576 := by omega
  clear e1 hq2
  obtain ⟨a4_0, a4_1, a4_2⟩ := (HB1.out.grow GW.out).cells3
  have la4 := (HB1.out.grow GW.out).lt
  go_wp2_with fail
  refine (szKey_any t1 p1 s1 q2 _ HO1.out (by omega)).mono ?_
  rintro e wz6 ⟨rfl, hg⟩
  clear a4_0 a4_1 a4_2 la4
  replace GW := hid (gb_trans GW.out hg)
  clear hg
  rcases Nat.lt_or_ge q2 s1.size with hk5 | hk5
  · rw [if_neg (by omega)]
    go_wp2_with fail
    go_ret
    exact ⟨rfl, gb_below (gb_trans GP.out GW.out)⟩
  rw [if_pos hk5]
  obtain ⟨q5, hq5⟩ : ∃ z, q2 - s1.size = z := ⟨_, rfl⟩
  rw [hq5]
  have hqb5 : q5 ≤ q2 := by omega
  have hss1 : s1.size ≤ 1048576 := by omega
  clear hq5
  go_wp2_with fail
  refine wp_region_grown 6 rfl (by kernel_rfl) fun wd gd => ?_
  refine held_load 0 rfl (some 19) rfl (by kernel_rfl) (by kernel_rfl) (by kernel_rfl) (fun _ _ _ _ h => h) 42 (.tmp 2) rfl rfl (w.heap.size) 0 rfl _ (HB0.out.grow GW.out).rangeV (HB0.out.grow GW.out).lt Try.underlying42 rfl Try.infoVL gd ?_
  refine held_load 2 rfl (some 21) rfl (by kernel_rfl) (by kernel_rfl) (by kernel_rfl) (fun _ _ _ _ h => h) 23 (.tmp 3) rfl rfl (w.heap.size + 1) 0 rfl _ (HB1.out.grow GW.out).rangeV (HB1.out.grow GW.out).lt Try.underlying23 rfl Try.infoKL gd ?_
  have GD := hid gd
  replace GW := hid (gb_trans GW.out gd)
  clear gd
  refine held_call1 1 rfl (some 20) rfl (by kernel_rfl) rfl 30 (by kernel_rfl) (.tmp 19) _ (.agg #[.int .i64 k0, .int .i64 m0, .string u0, .int .i64 x0, .slice A0 f0.len c0]) rfl rfl (toValue_tree f0 k0 m0 u0 x0 A0 c0 _ _ (RP0.out.grow GW.out) HO0.out.1 (by omega)) ?_
  rintro e wz8 ⟨B7, d7, M7, rfl, _, hT7, hg⟩
  have T7n := hid hT7.1
  clear hT7
  replace GD := hid (gb_trans GD.out hg)
  replace GW := hid (gb_trans GW.out hg)
  clear hg
  refine ⟨_, rfl, GD.out, ?_⟩
  have T7 := T7n; clear T7n
  refine held_call1 3 rfl (some 22) rfl (by kernel_rfl) rfl 17 (by kernel_rfl) (.tmp 21) _ (.agg #[.bool t1, .int .i64 p1, .string s1]) rfl rfl (toKey_any t1 p1 s1 _) ?_
  rintro e wz9 ⟨rfl, hg⟩
  replace GD := hid (gb_trans GD.out hg)
  replace GW := hid (gb_trans GW.out hg)
  replace T7 := hid (T7.out.grow hg)
  clear hg
  refine ⟨_, rfl, GD.out, ?_⟩
  refine held_call2 4 rfl (some 23) rfl (by kernel_rfl) rfl 34 (by kernel_rfl) (.tmp 20) (.tmp 22) _ (.agg #[.int .i64 k0, .int .i64 m0, .string u0, .int .i64 x0, .slice B7 f0.len d7]) (.agg #[.bool t1, .int .i64 p1, .string s1]) rfl rfl rfl (specFind_any f0 t1 p1 s1 _ k0 m0 u0 x0 B7 d7 _ T7.out (by omega)) ?_
  rintro e wz10 ⟨rfl, hg⟩
  rw [HV.out]
  replace GD := hid (gb_trans GD.out hg)
  replace GW := hid (gb_trans GW.out hg)
  replace T7 := hid (T7.out.grow hg)
  clear hg
  refine ⟨_, rfl, GD.out, ?_⟩
  refine held_assign 5 rfl (some 6) rfl (by kernel_rfl) rfl (.tmp 23) rfl (.int .i64 V) rfl GD.out ?_
  refine wpAnyH_done (by kernel_rfl) ?_ _
  simp only [Act.put, List.setIfInBounds_toArray, List.set_cons_succ, List.set_cons_zero]
  clear GD
  obtain ⟨a11_0, a11_1, a11_2, a11_3, a11_4⟩ := (HB0.out.grow GW.out).cells5
  have la11 := (HB0.out.grow GW.out).lt
  go_wp2_with fail
  refine (toValue_tree f0 k0 m0 u0 x0 A0 c0 _ _ (RP0.out.grow GW.out) HO0.out.1 (by omega)).mono ?_
  rintro e wz13 ⟨B12, d12, M12, rfl, _, hT12, hg⟩
  clear a11_0 a11_1 a11_2 a11_3 a11_4 la11
  have T12n := hid hT12.1
  clear hT12
  replace GW := hid (gb_trans GW.out hg)
  replace T7 := hid (T7.out.grow hg)
  clear hg
  have T12 := T12n; clear T12n
  have X14 := hid (HoldsT.new wz13 #[.int .i64 k0, .int .i64 m0, .string u0, .int .i64 x0, .slice B12 f0.len d12] 31)
  replace GW := hid (gb_alloc GW.out (.cells #[.int .i64 k0, .int .i64 m0, .string u0, .int .i64 x0, .slice B12 f0.len d12] 31))
  replace T7 := hid (T7.out.grow (gb_alloc (gb_refl _ none) (.cells #[.int .i64 k0, .int .i64 m0, .string u0, .int .i64 x0, .slice B12 f0.len d12] 31)))
  replace T12 := hid (T12.out.grow (gb_alloc (gb_refl _ none) (.cells #[.int .i64 k0, .int .i64 m0, .string u0, .int .i64 x0, .slice B12 f0.len d12] 31)))
  go_wp2_with fail
  refine wp_region_grown 5 rfl (by kernel_rfl) fun wd gd => ?_
  refine held_load 0 rfl (some 26) rfl (by kernel_rfl) (by kernel_rfl) (by kernel_rfl) (fun _ _ _ _ h => h) 31 (.tmp 7) rfl rfl (wz13.heap.size) 0 rfl _ X14.out.rangeV X14.out.lt Try.underlying31 rfl Try.infoV gd ?_
  refine held_load 1 rfl (some 27) rfl (by kernel_rfl) (by kernel_rfl) (by kernel_rfl) (fun _ _ _ _ h => h) 23 (.tmp 3) rfl rfl (w.heap.size + 1) 0 rfl _ (HB1.out.grow GW.out).rangeV (HB1.out.grow GW.out).lt Try.underlying23 rfl Try.infoKL gd ?_
  have GD := hid gd
  replace GW := hid (gb_trans GW.out gd)
  replace T7 := hid (T7.out.grow gd)
  replace T12 := hid (T12.out.grow gd)
  replace X14 := hid (X14.out.grow gd)
  clear gd
  refine held_call1 2 rfl (some 28) rfl (by kernel_rfl) rfl 17 (by kernel_rfl) (.tmp 27) _ (.agg #[.bool t1, .int .i64 p1, .string s1]) rfl rfl (toKey_any t1 p1 s1 _) ?_
  rintro e wz15 ⟨rfl, hg⟩
  replace GD := hid (gb_trans GD.out hg)
  replace GW := hid (gb_trans GW.out hg)
  replace T7 := hid (T7.out.grow hg)
  replace T12 := hid (T12.out.grow hg)
  replace X14 := hid (X14.out.grow hg)
  clear hg
  refine ⟨_, rfl, GD.out, ?_⟩
  refine held_call2 3 rfl (some 29) rfl (by kernel_rfl) rfl 35 (by kernel_rfl) (.tmp 26) (.tmp 28) _ (.agg #[.int .i64 k0, .int .i64 m0, .string u0, .int .i64 x0, .slice B12 f0.len d12]) (.agg #[.bool t1, .int .i64 p1, .string s1]) rfl rfl rfl (implFind_any f0 t1 p1 s1 _ k0 m0 u0 x0 B12 d12 _ T12.out (by omega)) ?_
  rintro e wz16 ⟨rfl, hg⟩
  rw [HV.out]
  replace GD := hid (gb_trans GD.out hg)
  replace GW := hid (gb_trans GW.out hg)
  replace T7 := hid (T7.out.grow hg)
  replace T12 := hid (T12.out.grow hg)
  replace X14 := hid (X14.out.grow hg)
  clear hg
  refine ⟨_, rfl, GD.out, ?_⟩
  refine held_assign 4 rfl (some 8) rfl (by kernel_rfl) rfl (.tmp 29) rfl (.int .i64 V) rfl GD.out ?_
  refine wpAnyH_done (by kernel_rfl) ?_ _
  simp only [Act.put, List.setIfInBounds_toArray, List.set_cons_succ, List.set_cons_zero]
  clear GD
  go_wp2_with fail
  refine wp_region_grown 5 rfl (by kernel_rfl) fun wd gd => ?_
  refine held_load 0 rfl (some 33) rfl (by kernel_rfl) (by kernel_rfl) (by kernel_rfl) (fun _ _ _ _ h => h) 31 (.tmp 7) rfl rfl (wz13.heap.size) 0 rfl _ X14.out.rangeV X14.out.lt Try.underlying31 rfl Try.infoV gd ?_
  refine held_load 1 rfl (some 34) rfl (by kernel_rfl) (by kernel_rfl) (by kernel_rfl) (fun _ _ _ _ h => h) 42 (.tmp 2) rfl rfl (w.heap.size) 0 rfl _ (HB0.out.grow GW.out).rangeV (HB0.out.grow GW.out).lt Try.underlying42 rfl Try.infoVL gd ?_
  have GD := hid gd
  replace GW := hid (gb_trans GW.out gd)
  replace T7 := hid (T7.out.grow gd)
  replace T12 := hid (T12.out.grow gd)
  replace X14 := hid (X14.out.grow gd)
  clear gd
  refine held_call1 2 rfl (some 35) rfl (by kernel_rfl) rfl 30 (by kernel_rfl) (.tmp 34) _ (.agg #[.int .i64 k0, .int .i64 m0, .string u0, .int .i64 x0, .slice A0 f0.len c0]) rfl rfl (toValue_tree f0 k0 m0 u0 x0 A0 c0 _ _ (RP0.out.grow GW.out) HO0.out.1 (by omega)) ?_
  rintro e wz18 ⟨B17, d17, M17, rfl, _, hT17, hg⟩
  have T17n := hid hT17.1
  clear hT17
  replace GD := hid (gb_trans GD.out hg)
  replace GW := hid (gb_trans GW.out hg)
  replace T7 := hid (T7.out.grow hg)
  replace T12 := hid (T12.out.grow hg)
  replace X14 := hid (X14.out.grow hg)
  clear hg
  refine ⟨_, rfl, GD.out, ?_⟩
  have T17 := T17n; clear T17n
  refine held_call2 3 rfl (some 36) rfl (by kernel_rfl) rfl 21 (by kernel_rfl) (.tmp 33) (.tmp 35) _ (.agg #[.int .i64 k0, .int .i64 m0, .string u0, .int .i64 x0, .slice B12 f0.len d12]) (.agg #[.int .i64 k0, .int .i64 m0, .string u0, .int .i64 x0, .slice B17 f0.len d17]) rfl rfl rfl (eqValue_any f0 (eqEntryS_any f0) k0 m0 u0 x0 B12 B17 d12 d17 _ _ _ T12.out T17.out (by omega)) ?_
  rintro e wz19 ⟨rfl, hg⟩
  replace GD := hid (gb_trans GD.out hg)
  replace GW := hid (gb_trans GW.out hg)
  replace T7 := hid (T7.out.grow hg)
  replace T12 := hid (T12.out.grow hg)
  replace X14 := hid (X14.out.grow hg)
  replace T17 := hid (T17.out.grow hg)
  clear hg
  refine ⟨_, rfl, GD.out, ?_⟩
  refine held_not 4 rfl (some 37) rfl (by kernel_rfl) rfl 4 36 rfl true rfl GD.out ?_
  refine wpAnyH_done (by kernel_rfl) ?_ _
  simp only [Act.put, List.setIfInBounds_toArray, List.set_cons_succ, List.set_cons_zero]
  clear GD
  go_wp2_with fail
  go_ret
  exact ⟨rfl, gb_below (gb_trans GP.out GW.out)⟩
end Go.Proofs.Ytcgnepgfdipiiaa
