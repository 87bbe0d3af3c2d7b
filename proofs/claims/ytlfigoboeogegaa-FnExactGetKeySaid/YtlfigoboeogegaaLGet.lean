/- The law FnExactGetKey, walked (printed by lawgen2.py). -/
import Derived.Test.YtlfigoboeogegaaGet
import Derived.Test.YtlfigoboeogegaaSz
import Derived.Test.YtlfigoboeogegaaTo
import Derived.Test.YtlfigoboeogegaaEq
import Derived.Test.YtlfigoboeogegaaMark
import Derived.Test.YtlfigoboeogegaaHeldE
import Derived.Test.YtlfigoboeogegaaLaw
import Derived.Test.YtlfigoboeogegaaHeldX
namespace Go.Proofs.Ytlfigoboeogegaa
open Go.RowKit
set_option linter.unusedVariables false
set_option linter.unusedSimpArgs false

theorem Try.infoKL : (Try.prog.info? 26).map (·.size) = some 3 := by kernel_rfl
set_option maxRecDepth 100000 in
set_option maxHeartbeats 8000000 in
theorem getKey_walk (k0 m0 : Int) (u0 : ByteArray) (x0 : Int) (A0 : Option Addr) (n0 c0 : Nat) (f0 : Forest) (L0 : List Nat) (t1 : Bool) (p1 : Int) (s1 : ByteArray) (w : World) (_ha0 : A0 = none → c0 = 0) (hb0 : n0 ≤ maxLen) (hc0 : RowF w f0 A0 0 n0 L0) (hd0 : f0.ok) (he0 : u0.size ≤ maxLen) (_hf0 : (Lit.int .i64 k0).wf = true) (_hg0 : (Lit.int .i64 m0).wf = true) (_hh0 : (Lit.int .i64 x0).wf = true) (ha1 : s1.size ≤ maxLen) (hb1 : (Lit.int .i64 p1).wf = true) :
    Calls Try.prog 4 #[.agg #[.int .i64 k0, .int .i64 m0, .string u0, .int .i64 x0, .slice A0 n0 c0], .agg #[.bool t1, .int .i64 p1, .string s1]] w fun e w' => e = .returned (.bool true) ∧ Below w.heap.size w w' := by
  have hn0 : f0.len = n0 := by have := hc0.len; omega
  subst hn0
  have GP := hid (show w.grownBy ((w.alloc (.cells #[.int .i64 k0, .int .i64 m0, .string u0, .int .i64 x0, .slice A0 f0.len c0] 24)).alloc (.cells #[.bool t1, .int .i64 p1, .string s1] 26)) none from gb_alloc (gb_alloc (gb_refl w none) (.cells #[.int .i64 k0, .int .i64 m0, .string u0, .int .i64 x0, .slice A0 f0.len c0] 24)) (.cells #[.bool t1, .int .i64 p1, .string s1] 26))
  have HB0 := hid ((HoldsT.new w #[.int .i64 k0, .int .i64 m0, .string u0, .int .i64 x0, .slice A0 f0.len c0] 24).alloc (.cells #[.bool t1, .int .i64 p1, .string s1] 26))
  have RP0 := hid (hc0.grow GP.out)
  have HO0 := hid (And.intro hd0 (And.intro hb0 he0))
  clear _ha0 hb0 hc0 hd0 he0 _hf0 _hg0 _hh0
  have HB1 := hid (show HoldsT ((w.alloc (.cells #[.int .i64 k0, .int .i64 m0, .string u0, .int .i64 x0, .slice A0 f0.len c0] 24)).alloc (.cells #[.bool t1, .int .i64 p1, .string s1] 26)) (w.heap.size + 1) #[.bool t1, .int .i64 p1, .string s1] 26 by simpa using (HoldsT.new (w.alloc (.cells #[.int .i64 k0, .int .i64 m0, .string u0, .int .i64 x0, .slice A0 f0.len c0] 24)) #[.bool t1, .int .i64 p1, .string s1] 26))
  have HO1 := hid (And.intro ha1 hb1)
  clear ha1 hb1
  have GW := hid (gb_refl ((w.alloc (.cells #[.int .i64 k0, .int .i64 m0, .string u0, .int .i64 x0, .slice A0 f0.len c0] 24)).alloc (.cells #[.bool t1, .int .i64 p1, .string s1] 26)) none)
  obtain ⟨tp0, htp0⟩ : ∃ z, z = (((w.alloc (.cells #[.int .i64 k0, .int .i64 m0, .string u0, .int .i64 x0, .slice A0 f0.len c0] 24)).alloc (.cells #[.bool t1, .int .i64 p1, .string s1] 26))).heap.size := ⟨_, rfl⟩
  have HT : Hid (tp0 ≤ (((w.alloc (.cells #[.int .i64 k0, .int .i64 m0, .string u0, .int .i64 x0, .slice A0 f0.len c0] 24)).alloc (.cells #[.bool t1, .int .i64 p1, .string s1] 26))).heap.size) := hid (Nat.le_of_eq htp0)
  have HW0 : Hid ((((w.alloc (.cells #[.int .i64 k0, .int .i64 m0, .string u0, .int .i64 x0, .slice A0 f0.len c0] 24)).alloc (.cells #[.bool t1, .int .i64 p1, .string s1] 26))).heap.size ≤ tp0) := hid (Nat.le_of_eq htp0.symm)
  clear htp0
  obtain ⟨gk, gm, gu, gx, gf, gb, hGI, hgs⟩ := getIs_some k0 t1 p1 s1 f0
  have HGI := hid hGI
  clear hGI
  go_enter Try.func4, Try.ntmps4
  obtain ⟨a1_0, a1_1, a1_2, a1_3, a1_4⟩ := (HB0.out.grow GW.out).cells5
  have la1 := (HB0.out.grow GW.out).lt
  go_wp2_with fail
  refine (szValue_any f0 (szEntryS_any f0) k0 m0 u0 x0 A0 c0 1048576 _ _ (RP0.out.grow GW.out) HO0.out.1 HO0.out.2.1 (by omega) HO0.out.2.2).mono ?_
  rintro e wz3 ⟨rfl, hg⟩
  clear a1_0 a1_1 a1_2 a1_3 a1_4 la1
  replace GW := hid (gb_trans GW.out hg)
  replace HT := hid (Nat.le_trans HT.out (hg).size)
  clear hg
  rcases leftI_cases 1048576 (u0.size + (f0.len + f0.sz)) with ⟨e1, _⟩ | ⟨q2, e1, hq2⟩
  · rw [e1]
    clear e1
    go_wp2_with fail
    go_ret
    exact ⟨rfl, gb_below (gb_trans GP.out GW.out)⟩
  rw [e1]
  have hfs0 : f0.size + q2 ≤ 1048576 := by have := f0.size_sz; omega
  have hqb2 : q2 ≤ 1048576 := by omega
  clear e1 hq2
  obtain ⟨a4_0, a4_1, a4_2⟩ := (HB1.out.grow GW.out).cells3
  have la4 := (HB1.out.grow GW.out).lt
  go_wp2_with fail
  refine (szKey_any t1 p1 s1 q2 _ HO1.out.1 (by omega)).mono ?_
  rintro e wz6 ⟨rfl, hg⟩
  clear a4_0 a4_1 a4_2 la4
  replace GW := hid (gb_trans GW.out hg)
  replace HT := hid (Nat.le_trans HT.out (hg).size)
  clear hg
  rcases Nat.lt_or_ge q2 s1.size with hk5 | hk5
  · rw [if_neg (by omega)]
    go_wp2_with fail
    go_ret
    exact ⟨rfl, gb_below (gb_trans GP.out GW.out)⟩
  rw [if_pos hk5]
  obtain ⟨q5, hq5⟩ : ∃ z, q2 - s1.size = z := ⟨_, rfl⟩
  rw [hq5]
  have hqb5 : q5 ≤ q2 := by omega
  clear hq5
  go_wp2_with fail
  refine wp_region_puts (X := Nat × Value × Value × Value) (fun x w' => ∃ A' c' L' lo hi, x.2.2.2 = .agg #[.int .i64 gk, .int .i64 gm, .string gu, .int .i64 gx, .slice A' gf.len c'] ∧ Tr w' 61 lo hi gf A' L' ∧ HoldsT w' x.1 #[.int .i64 gk, .int .i64 gm, .string gu, .int .i64 gx, .slice A' gf.len c'] 31 ∧ (tp0 ≤ lo ∧ lo ≤ hi ∧ hi ≤ w'.heap.size) ∧ (tp0 ≤ x.1 ∧ x.1 + 1 ≤ w'.heap.size ∧ (x.1 + 1 ≤ lo ∨ hi ≤ x.1)) ∧ wz6.grownBy w' none) (fun x => [(some 27, .agg #[.int .i64 k0, .int .i64 m0, .string u0, .int .i64 x0, .slice A0 f0.len c0]), (some 28, x.2.1), (some 29, .agg #[.bool t1, .int .i64 p1, .string s1]), (some 30, x.2.2.1), (some 31, .tuple #[x.2.2.2, .bool gb]), (some 26, .tuple #[x.2.2.2, .bool gb]), (some 32, x.2.2.2), (some 33, .bool gb), (some 6, .pointer (some ⟨x.1, 0, none⟩)), (some 7, .bool gb)]) ?_ ?_
  · skip
    refine wp_region_E 999 11 rfl (by kernel_rfl) (fun wd w' => wd.grownBy w' none) fun wd gd => ?_
    have g0 : wd.grownBy wd none := gb_refl _ _
    have GI := hid gd
    replace GW := hid (gb_trans GW.out gd)
    replace HT := hid (Nat.le_trans HT.out (gd).size)
    clear gd
    have GD := hid g0
    refine E_load 0 rfl (some 27) rfl (by kernel_rfl) (by kernel_rfl) (by kernel_rfl) (by kernel_rfl) (by decide) (fun _ _ _ _ h => by cases h.1) rfl 24 (.tmp 2) rfl (w.heap.size) 0 rfl _ (fun w' hw => ((HB0.out.grow GW.out).grow hw).rangeV) Try.underlying24 rfl Try.infoVL g0 ?_
    simp only [Act.put, List.setIfInBounds_toArray, List.set_cons_succ, List.set_cons_zero]
    refine E_load 2 rfl (some 29) rfl (by kernel_rfl) (by kernel_rfl) (by kernel_rfl) (by kernel_rfl) (by decide) (fun _ _ _ _ h => by cases h.1) rfl 26 (.tmp 3) rfl (w.heap.size + 1) 0 rfl _ (fun w' hw => ((HB1.out.grow GW.out).grow hw).rangeV) Try.underlying26 rfl Try.infoKL g0 ?_
    simp only [Act.put, List.setIfInBounds_toArray, List.set_cons_succ, List.set_cons_zero]
    refine E_two 1 8 (by kernel_rfl) ?_ ?_
    · skip
      refine E_call 1 rfl (some 28) rfl rfl 11 _ (run_call1 _ (by kernel_rfl) (.tmp 27) _ (.agg #[.int .i64 k0, .int .i64 m0, .string u0, .int .i64 x0, .slice A0 f0.len c0]) rfl rfl) (toValue_any f0 (toEntryS_any f0) k0 m0 u0 x0 A0 c0 _ _ (RP0.out.grow GW.out) HO0.out.1 (by omega)) ?_
      rintro e wz8 ⟨B7, d7, M7, rfl, ha7, ho7, hg⟩
      obtain ⟨lo7, hi7, hT7, hlo7, hlh7, hhi7⟩ := own_tr ho7 hg HT.out
      have OR7 := hid (And.intro hlo7 hlh7); have HA7 := hid ha7.2
      replace GW := hid (gb_trans GW.out hg)
      replace HT := hid (Nat.le_trans HT.out (hg).size)
      replace GD := hid (gb_trans GD.out hg)
      clear hg
      have T7 := hid hT7; replace HT := hid hhi7
      clear ho7 ha7 hT7 hlo7 hlh7 hhi7
      refine ⟨_, rfl, fun _ => GD.out, ?_⟩
      simp only [Act.put, List.setIfInBounds_toArray, List.set_cons_succ, List.set_cons_zero]
      refine E_two 3 8 (by kernel_rfl) ?_ ?_
      · skip
        refine E_call 3 rfl (some 30) rfl rfl 12 _ (run_call1 _ (by kernel_rfl) (.tmp 29) _ (.agg #[.bool t1, .int .i64 p1, .string s1]) rfl rfl) (toKey_any t1 p1 s1 _) ?_
        rintro e wz9 ⟨rfl, hg⟩
        replace GW := hid (gb_trans GW.out hg)
        replace T7 := hid (T7.out.grow hg)
        replace HT := hid (Nat.le_trans HT.out (hg).size)
        replace GD := hid (gb_trans GD.out hg)
        clear hg
        refine ⟨_, rfl, fun _ => GD.out, ?_⟩
        simp only [Act.put, List.setIfInBounds_toArray, List.set_cons_succ, List.set_cons_zero]
        refine E_two 4 8 (by kernel_rfl) ?_ ?_
        · skip
          refine E_call 4 rfl (some 31) rfl rfl 17 _ (run_call2 _ (by kernel_rfl) (.tmp 28) (.tmp 30) _ (.agg #[.int .i64 k0, .int .i64 m0, .string u0, .int .i64 x0, .slice B7 f0.len d7]) (.agg #[.bool t1, .int .i64 p1, .string s1]) rfl rfl rfl) (specGet_any f0 t1 p1 s1 _ k0 m0 u0 x0 B7 d7 _ gk gm gu gx gf gb HGI.out T7.out.1.1 (by omega) (by omega)) ?_
          rintro e wz11 ⟨B10, d10, M10, rfl, _, hR, hg⟩
          obtain ⟨lo10, hi10, hT10, hlo10, hlh10, hhi10⟩ := own_tr hR.own hg HT.out
          have OR10 := hid (And.intro hlo10 hlh10)
          replace GW := hid (gb_trans GW.out hg)
          replace T7 := hid (T7.out.grow hg)
          replace HT := hid (Nat.le_trans HT.out (hg).size)
          replace GD := hid (gb_trans GD.out hg)
          clear hg
          have T10 := hid hT10; replace HT := hid hhi10
          clear hR hT10 hlo10 hlh10 hhi10
          refine ⟨_, rfl, fun _ => GD.out, ?_⟩
          simp only [Act.put, List.setIfInBounds_toArray, List.set_cons_succ, List.set_cons_zero]
          refine E_take 5 rfl (some 26) rfl (by kernel_rfl) (by kernel_rfl) (by kernel_rfl) (by kernel_rfl) (by decide) (fun _ _ _ _ h => by cases h.1) rfl (.tuple #[.agg #[.int .i64 gk, .int .i64 gm, .string gu, .int .i64 gx, .slice B10 gf.len d10], .bool gb]) (fun w' hw => run_mov (.tmp 31) rfl rfl) GD.out ?_
          simp only [Act.put, List.setIfInBounds_toArray, List.set_cons_succ, List.set_cons_zero]
          refine E_take 6 rfl (some 32) rfl (by kernel_rfl) (by kernel_rfl) (by kernel_rfl) (by kernel_rfl) (by decide) (fun _ _ _ _ h => by cases h.1) rfl (.agg #[.int .i64 gk, .int .i64 gm, .string gu, .int .i64 gx, .slice B10 gf.len d10]) (fun w' hw => run_ext (.tmp 26) 0 rfl rfl rfl) GD.out ?_
          simp only [Act.put, List.setIfInBounds_toArray, List.set_cons_succ, List.set_cons_zero]
          refine E_take 7 rfl (some 33) rfl (by kernel_rfl) (by kernel_rfl) (by kernel_rfl) (by kernel_rfl) (by decide) (fun _ _ _ _ h => by cases h.1) rfl (.bool gb) (fun w' hw => run_ext (.tmp 26) 1 rfl rfl rfl) GD.out ?_
          simp only [Act.put, List.setIfInBounds_toArray, List.set_cons_succ, List.set_cons_zero]
          refine E_only 8 (by kernel_rfl) ?_
          have hge12 : wd.heap.size ≤ wz11.heap.size := GD.out.size
          have HGE12 := hid hge12
          clear hge12
          have X12 := hid (HoldsT.new wz11 #[.int .i64 0, .int .i64 0, .string { data := #[] }, .int .i64 0, .slice none 0 0] 31)
          have OR12 : Hid (hi10 ≤ wz11.heap.size) := HT
          replace GW := hid (gb_alloc GW.out (.cells #[.int .i64 0, .int .i64 0, .string { data := #[] }, .int .i64 0, .slice none 0 0] 31))
          replace T7 := hid (T7.out.grow (gb_alloc (gb_refl _ none) (.cells #[.int .i64 0, .int .i64 0, .string { data := #[] }, .int .i64 0, .slice none 0 0] 31)))
          replace T10 := hid (T10.out.grow (gb_alloc (gb_refl _ none) (.cells #[.int .i64 0, .int .i64 0, .string { data := #[] }, .int .i64 0, .slice none 0 0] 31)))
          replace GD := hid (gb_alloc GD.out (.cells #[.int .i64 0, .int .i64 0, .string { data := #[] }, .int .i64 0, .slice none 0 0] 31))
          refine E_val 8 rfl (some 6) rfl rfl (.pointer (some ⟨wz11.heap.size, 0, none⟩)) (wz11.alloc (.cells #[.int .i64 0, .int .i64 0, .string { data := #[] }, .int .i64 0, .slice none 0 0] 31)) (by go_simp) ⟨fun _ => GD.out, ?_⟩
          simp only [Act.put, List.setIfInBounds_toArray, List.set_cons_succ, List.set_cons_zero]
          replace HT := hid (show (wz11.heap.size + 1) ≤ (wz11.alloc (.cells #[.int .i64 0, .int .i64 0, .string { data := #[] }, .int .i64 0, .slice none 0 0] 31)).heap.size by simp)
          have s9 := gb_setCells (r := some (wz11.heap.size)) (.inr rfl) [.int .i64 gk, .int .i64 gm, .string gu, .int .i64 gx, .slice B10 gf.len d10] 0 (gb_refl (wz11.alloc (.cells #[.int .i64 0, .int .i64 0, .string { data := #[] }, .int .i64 0, .slice none 0 0] 31)) (some (wz11.heap.size)))
          have x9 := hid (show HoldsT ((wz11.alloc (.cells #[.int .i64 0, .int .i64 0, .string { data := #[] }, .int .i64 0, .slice none 0 0] 31)).setCells (wz11.heap.size) 0 [.int .i64 gk, .int .i64 gm, .string gu, .int .i64 gx, .slice B10 gf.len d10]) (wz11.heap.size) #[.int .i64 gk, .int .i64 gm, .string gu, .int .i64 gx, .slice B10 gf.len d10] 31 by have h := X12.out.setCells [.int .i64 gk, .int .i64 gm, .string gu, .int .i64 gx, .slice B10 gf.len d10] 0; simpa [setArr] using h)
          have gd9 := hid (gb_setCells (r := none) (.inl HGE12.out) [.int .i64 gk, .int .i64 gm, .string gu, .int .i64 gx, .slice B10 gf.len d10] 0 GD.out)
          have m9 : MkI (wz11.alloc (.cells #[.int .i64 0, .int .i64 0, .string { data := #[] }, .int .i64 0, .slice none 0 0] 31)) ((wz11.alloc (.cells #[.int .i64 0, .int .i64 0, .string { data := #[] }, .int .i64 0, .slice none 0 0] 31)).setCells (wz11.heap.size) 0 [.int .i64 gk, .int .i64 gm, .string gu, .int .i64 gx, .slice B10 gf.len d10]) (wz11.heap.size) (wz11.heap.size + 1) := ⟨s9.os, s9.tape, s9.output, s9.size, fun k hk hb => s9.block k hk (by intro e; injection e; omega)⟩
          have t9 := hid (T10.out.mk' m9 (by have := OR7.out; have := OR10.out; have := OR12.out; have := HW0.out; omega))
          have HF := hid (Nat.le_trans HT.out m9.size)
          refine E_only 9 (by kernel_rfl) (E_store 9 rfl none rfl rfl 31 (.tmp 6) (.tmp 32) rfl (wz11.heap.size) 0 [.int .i64 gk, .int .i64 gm, .string gu, .int .i64 gx, .slice B10 gf.len d10] rfl rfl X12.out (by simp) Try.infoV rfl ⟨fun _ => gd9.out, ?_⟩)
          simp only [Act.put]
          clear GD s9 m9
          have GD := gd9
          refine E_only 10 (by kernel_rfl) (E_val 10 rfl (some 7) rfl rfl (.bool gb) _ (run_asg (.tmp 33) rfl rfl) ⟨fun _ => GD.out, ?_⟩)
          simp only [Act.put, List.setIfInBounds_toArray, List.set_cons_succ, List.set_cons_zero]
          refine E_done (by kernel_rfl) ?_ _
          exact ⟨rfl, ⟨wz11.heap.size, .agg #[.int .i64 k0, .int .i64 m0, .string u0, .int .i64 x0, .slice B7 f0.len d7], .agg #[.bool t1, .int .i64 p1, .string s1], .agg #[.int .i64 gk, .int .i64 gm, .string gu, .int .i64 gx, .slice B10 gf.len d10]⟩, ⟨B10, d10, _, lo10, hi10, rfl, t9.out, x9.out, ⟨(by have := OR7.out; have := OR10.out; have := OR12.out; have := HW0.out; omega), (by have := OR7.out; have := OR10.out; have := OR12.out; have := HW0.out; omega), (by have := OR7.out; have := OR10.out; have := OR12.out; have := HW0.out; have := HF.out; omega)⟩, ⟨(by have := OR7.out; have := OR10.out; have := OR12.out; have := HW0.out; omega), x9.out.lt, (by have := OR7.out; have := OR10.out; have := OR12.out; have := HW0.out; omega)⟩, gb_trans GI.out GD.out⟩, by simp only [List.foldl, Act.put, List.setIfInBounds_toArray, List.set_cons_succ, List.set_cons_zero]⟩
        · skip
          have hge13 : wd.heap.size ≤ wz9.heap.size := GD.out.size
          have HGE13 := hid hge13
          clear hge13
          have X13 := hid (HoldsT.new wz9 #[.int .i64 0, .int .i64 0, .string { data := #[] }, .int .i64 0, .slice none 0 0] 31)
          have OR13 : Hid (hi7 ≤ wz9.heap.size) := HT
          replace GW := hid (gb_alloc GW.out (.cells #[.int .i64 0, .int .i64 0, .string { data := #[] }, .int .i64 0, .slice none 0 0] 31))
          replace T7 := hid (T7.out.grow (gb_alloc (gb_refl _ none) (.cells #[.int .i64 0, .int .i64 0, .string { data := #[] }, .int .i64 0, .slice none 0 0] 31)))
          replace GD := hid (gb_alloc GD.out (.cells #[.int .i64 0, .int .i64 0, .string { data := #[] }, .int .i64 0, .slice none 0 0] 31))
          refine E_val 8 rfl (some 6) rfl rfl (.pointer (some ⟨wz9.heap.size, 0, none⟩)) (wz9.alloc (.cells #[.int .i64 0, .int .i64 0, .string { data := #[] }, .int .i64 0, .slice none 0 0] 31)) (by go_simp) ⟨fun _ => GD.out, ?_⟩
          simp only [Act.put, List.setIfInBounds_toArray, List.set_cons_succ, List.set_cons_zero]
          replace HT := hid (show (wz9.heap.size + 1) ≤ (wz9.alloc (.cells #[.int .i64 0, .int .i64 0, .string { data := #[] }, .int .i64 0, .slice none 0 0] 31)).heap.size by simp)
          refine E_only 4 (by kernel_rfl) ?_
          refine E_call 4 rfl (some 31) rfl rfl 17 _ (run_call2 _ (by kernel_rfl) (.tmp 28) (.tmp 30) _ (.agg #[.int .i64 k0, .int .i64 m0, .string u0, .int .i64 x0, .slice B7 f0.len d7]) (.agg #[.bool t1, .int .i64 p1, .string s1]) rfl rfl rfl) (specGet_any f0 t1 p1 s1 _ k0 m0 u0 x0 B7 d7 _ gk gm gu gx gf gb HGI.out T7.out.1.1 (by omega) (by omega)) ?_
          rintro e wz15 ⟨B14, d14, M14, rfl, _, hR, hg⟩
          obtain ⟨lo14, hi14, hT14, hlo14, hlh14, hhi14⟩ := own_tr hR.own hg X13.out.lt
          have OR14 := hid (And.intro hlo14 hlh14)
          replace GW := hid (gb_trans GW.out hg)
          replace T7 := hid (T7.out.grow hg)
          replace X13 := hid (X13.out.grow hg)
          replace HT := hid (Nat.le_trans HT.out (hg).size)
          replace GD := hid (gb_trans GD.out hg)
          clear hg
          have T14 := hid hT14; replace HT := hid hhi14
          clear hR hT14 hlo14 hlh14 hhi14
          refine ⟨_, rfl, fun _ => GD.out, ?_⟩
          simp only [Act.put, List.setIfInBounds_toArray, List.set_cons_succ, List.set_cons_zero]
          refine E_take 5 rfl (some 26) rfl (by kernel_rfl) (by kernel_rfl) (by kernel_rfl) (by kernel_rfl) (by decide) (fun _ _ _ _ h => by cases h.1) rfl (.tuple #[.agg #[.int .i64 gk, .int .i64 gm, .string gu, .int .i64 gx, .slice B14 gf.len d14], .bool gb]) (fun w' hw => run_mov (.tmp 31) rfl rfl) GD.out ?_
          simp only [Act.put, List.setIfInBounds_toArray, List.set_cons_succ, List.set_cons_zero]
          refine E_take 6 rfl (some 32) rfl (by kernel_rfl) (by kernel_rfl) (by kernel_rfl) (by kernel_rfl) (by decide) (fun _ _ _ _ h => by cases h.1) rfl (.agg #[.int .i64 gk, .int .i64 gm, .string gu, .int .i64 gx, .slice B14 gf.len d14]) (fun w' hw => run_ext (.tmp 26) 0 rfl rfl rfl) GD.out ?_
          simp only [Act.put, List.setIfInBounds_toArray, List.set_cons_succ, List.set_cons_zero]
          refine E_take 7 rfl (some 33) rfl (by kernel_rfl) (by kernel_rfl) (by kernel_rfl) (by kernel_rfl) (by decide) (fun _ _ _ _ h => by cases h.1) rfl (.bool gb) (fun w' hw => run_ext (.tmp 26) 1 rfl rfl rfl) GD.out ?_
          simp only [Act.put, List.setIfInBounds_toArray, List.set_cons_succ, List.set_cons_zero]
          have s9 := gb_setCells (r := some (wz9.heap.size)) (.inr rfl) [.int .i64 gk, .int .i64 gm, .string gu, .int .i64 gx, .slice B14 gf.len d14] 0 (gb_refl wz15 (some (wz9.heap.size)))
          have x9 := hid (show HoldsT (wz15.setCells (wz9.heap.size) 0 [.int .i64 gk, .int .i64 gm, .string gu, .int .i64 gx, .slice B14 gf.len d14]) (wz9.heap.size) #[.int .i64 gk, .int .i64 gm, .string gu, .int .i64 gx, .slice B14 gf.len d14] 31 by have h := X13.out.setCells [.int .i64 gk, .int .i64 gm, .string gu, .int .i64 gx, .slice B14 gf.len d14] 0; simpa [setArr] using h)
          have gd9 := hid (gb_setCells (r := none) (.inl HGE13.out) [.int .i64 gk, .int .i64 gm, .string gu, .int .i64 gx, .slice B14 gf.len d14] 0 GD.out)
          have m9 : MkI wz15 (wz15.setCells (wz9.heap.size) 0 [.int .i64 gk, .int .i64 gm, .string gu, .int .i64 gx, .slice B14 gf.len d14]) (wz9.heap.size) (wz9.heap.size + 1) := ⟨s9.os, s9.tape, s9.output, s9.size, fun k hk hb => s9.block k hk (by intro e; injection e; omega)⟩
          have t9 := hid (T14.out.mk' m9 (by have := OR7.out; have := OR13.out; have := OR14.out; have := HW0.out; omega))
          have HF := hid (Nat.le_trans HT.out m9.size)
          refine E_only 9 (by kernel_rfl) (E_store 9 rfl none rfl rfl 31 (.tmp 6) (.tmp 32) rfl (wz9.heap.size) 0 [.int .i64 gk, .int .i64 gm, .string gu, .int .i64 gx, .slice B14 gf.len d14] rfl rfl X13.out (by simp) Try.infoV rfl ⟨fun _ => gd9.out, ?_⟩)
          simp only [Act.put]
          clear GD s9 m9
          have GD := gd9
          refine E_only 10 (by kernel_rfl) (E_val 10 rfl (some 7) rfl rfl (.bool gb) _ (run_asg (.tmp 33) rfl rfl) ⟨fun _ => GD.out, ?_⟩)
          simp only [Act.put, List.setIfInBounds_toArray, List.set_cons_succ, List.set_cons_zero]
          refine E_done (by kernel_rfl) ?_ _
          exact ⟨rfl, ⟨wz9.heap.size, .agg #[.int .i64 k0, .int .i64 m0, .string u0, .int .i64 x0, .slice B7 f0.len d7], .agg #[.bool t1, .int .i64 p1, .string s1], .agg #[.int .i64 gk, .int .i64 gm, .string gu, .int .i64 gx, .slice B14 gf.len d14]⟩, ⟨B14, d14, _, lo14, hi14, rfl, t9.out, x9.out, ⟨(by have := OR7.out; have := OR13.out; have := OR14.out; have := HW0.out; omega), (by have := OR7.out; have := OR13.out; have := OR14.out; have := HW0.out; omega), (by have := OR7.out; have := OR13.out; have := OR14.out; have := HW0.out; have := HF.out; omega)⟩, ⟨(by have := OR7.out; have := OR13.out; have := OR14.out; have := HW0.out; omega), x9.out.lt, (by have := OR7.out; have := OR13.out; have := OR14.out; have := HW0.out; omega)⟩, gb_trans GI.out GD.out⟩, by simp only [List.foldl, Act.put, List.setIfInBounds_toArray, List.set_cons_succ, List.set_cons_zero]⟩
      · skip
        have hge16 : wd.heap.size ≤ wz8.heap.size := GD.out.size
        have HGE16 := hid hge16
        clear hge16
        have X16 := hid (HoldsT.new wz8 #[.int .i64 0, .int .i64 0, .string { data := #[] }, .int .i64 0, .slice none 0 0] 31)
        have OR16 : Hid (hi7 ≤ wz8.heap.size) := HT
        replace GW := hid (gb_alloc GW.out (.cells #[.int .i64 0, .int .i64 0, .string { data := #[] }, .int .i64 0, .slice none 0 0] 31))
        replace T7 := hid (T7.out.grow (gb_alloc (gb_refl _ none) (.cells #[.int .i64 0, .int .i64 0, .string { data := #[] }, .int .i64 0, .slice none 0 0] 31)))
        replace GD := hid (gb_alloc GD.out (.cells #[.int .i64 0, .int .i64 0, .string { data := #[] }, .int .i64 0, .slice none 0 0] 31))
        refine E_val 8 rfl (some 6) rfl rfl (.pointer (some ⟨wz8.heap.size, 0, none⟩)) (wz8.alloc (.cells #[.int .i64 0, .int .i64 0, .string { data := #[] }, .int .i64 0, .slice none 0 0] 31)) (by go_simp) ⟨fun _ => GD.out, ?_⟩
        simp only [Act.put, List.setIfInBounds_toArray, List.set_cons_succ, List.set_cons_zero]
        replace HT := hid (show (wz8.heap.size + 1) ≤ (wz8.alloc (.cells #[.int .i64 0, .int .i64 0, .string { data := #[] }, .int .i64 0, .slice none 0 0] 31)).heap.size by simp)
        refine E_only 3 (by kernel_rfl) ?_
        refine E_call 3 rfl (some 30) rfl rfl 12 _ (run_call1 _ (by kernel_rfl) (.tmp 29) _ (.agg #[.bool t1, .int .i64 p1, .string s1]) rfl rfl) (toKey_any t1 p1 s1 _) ?_
        rintro e wz17 ⟨rfl, hg⟩
        replace GW := hid (gb_trans GW.out hg)
        replace T7 := hid (T7.out.grow hg)
        replace X16 := hid (X16.out.grow hg)
        replace HT := hid (Nat.le_trans HT.out (hg).size)
        replace GD := hid (gb_trans GD.out hg)
        clear hg
        refine ⟨_, rfl, fun _ => GD.out, ?_⟩
        simp only [Act.put, List.setIfInBounds_toArray, List.set_cons_succ, List.set_cons_zero]
        refine E_only 4 (by kernel_rfl) ?_
        refine E_call 4 rfl (some 31) rfl rfl 17 _ (run_call2 _ (by kernel_rfl) (.tmp 28) (.tmp 30) _ (.agg #[.int .i64 k0, .int .i64 m0, .string u0, .int .i64 x0, .slice B7 f0.len d7]) (.agg #[.bool t1, .int .i64 p1, .string s1]) rfl rfl rfl) (specGet_any f0 t1 p1 s1 _ k0 m0 u0 x0 B7 d7 _ gk gm gu gx gf gb HGI.out T7.out.1.1 (by omega) (by omega)) ?_
        rintro e wz19 ⟨B18, d18, M18, rfl, _, hR, hg⟩
        obtain ⟨lo18, hi18, hT18, hlo18, hlh18, hhi18⟩ := own_tr hR.own hg X16.out.lt
        have OR18 := hid (And.intro hlo18 hlh18)
        replace GW := hid (gb_trans GW.out hg)
        replace T7 := hid (T7.out.grow hg)
        replace X16 := hid (X16.out.grow hg)
        replace HT := hid (Nat.le_trans HT.out (hg).size)
        replace GD := hid (gb_trans GD.out hg)
        clear hg
        have T18 := hid hT18; replace HT := hid hhi18
        clear hR hT18 hlo18 hlh18 hhi18
        refine ⟨_, rfl, fun _ => GD.out, ?_⟩
        simp only [Act.put, List.setIfInBounds_toArray, List.set_cons_succ, List.set_cons_zero]
        refine E_take 5 rfl (some 26) rfl (by kernel_rfl) (by kernel_rfl) (by kernel_rfl) (by kernel_rfl) (by decide) (fun _ _ _ _ h => by cases h.1) rfl (.tuple #[.agg #[.int .i64 gk, .int .i64 gm, .string gu, .int .i64 gx, .slice B18 gf.len d18], .bool gb]) (fun w' hw => run_mov (.tmp 31) rfl rfl) GD.out ?_
        simp only [Act.put, List.setIfInBounds_toArray, List.set_cons_succ, List.set_cons_zero]
        refine E_take 6 rfl (some 32) rfl (by kernel_rfl) (by kernel_rfl) (by kernel_rfl) (by kernel_rfl) (by decide) (fun _ _ _ _ h => by cases h.1) rfl (.agg #[.int .i64 gk, .int .i64 gm, .string gu, .int .i64 gx, .slice B18 gf.len d18]) (fun w' hw => run_ext (.tmp 26) 0 rfl rfl rfl) GD.out ?_
        simp only [Act.put, List.setIfInBounds_toArray, List.set_cons_succ, List.set_cons_zero]
        refine E_take 7 rfl (some 33) rfl (by kernel_rfl) (by kernel_rfl) (by kernel_rfl) (by kernel_rfl) (by decide) (fun _ _ _ _ h => by cases h.1) rfl (.bool gb) (fun w' hw => run_ext (.tmp 26) 1 rfl rfl rfl) GD.out ?_
        simp only [Act.put, List.setIfInBounds_toArray, List.set_cons_succ, List.set_cons_zero]
        have s9 := gb_setCells (r := some (wz8.heap.size)) (.inr rfl) [.int .i64 gk, .int .i64 gm, .string gu, .int .i64 gx, .slice B18 gf.len d18] 0 (gb_refl wz19 (some (wz8.heap.size)))
        have x9 := hid (show HoldsT (wz19.setCells (wz8.heap.size) 0 [.int .i64 gk, .int .i64 gm, .string gu, .int .i64 gx, .slice B18 gf.len d18]) (wz8.heap.size) #[.int .i64 gk, .int .i64 gm, .string gu, .int .i64 gx, .slice B18 gf.len d18] 31 by have h := X16.out.setCells [.int .i64 gk, .int .i64 gm, .string gu, .int .i64 gx, .slice B18 gf.len d18] 0; simpa [setArr] using h)
        have gd9 := hid (gb_setCells (r := none) (.inl HGE16.out) [.int .i64 gk, .int .i64 gm, .string gu, .int .i64 gx, .slice B18 gf.len d18] 0 GD.out)
        have m9 : MkI wz19 (wz19.setCells (wz8.heap.size) 0 [.int .i64 gk, .int .i64 gm, .string gu, .int .i64 gx, .slice B18 gf.len d18]) (wz8.heap.size) (wz8.heap.size + 1) := ⟨s9.os, s9.tape, s9.output, s9.size, fun k hk hb => s9.block k hk (by intro e; injection e; omega)⟩
        have t9 := hid (T18.out.mk' m9 (by have := OR7.out; have := OR16.out; have := OR18.out; have := HW0.out; omega))
        have HF := hid (Nat.le_trans HT.out m9.size)
        refine E_only 9 (by kernel_rfl) (E_store 9 rfl none rfl rfl 31 (.tmp 6) (.tmp 32) rfl (wz8.heap.size) 0 [.int .i64 gk, .int .i64 gm, .string gu, .int .i64 gx, .slice B18 gf.len d18] rfl rfl X16.out (by simp) Try.infoV rfl ⟨fun _ => gd9.out, ?_⟩)
        simp only [Act.put]
        clear GD s9 m9
        have GD := gd9
        refine E_only 10 (by kernel_rfl) (E_val 10 rfl (some 7) rfl rfl (.bool gb) _ (run_asg (.tmp 33) rfl rfl) ⟨fun _ => GD.out, ?_⟩)
        simp only [Act.put, List.setIfInBounds_toArray, List.set_cons_succ, List.set_cons_zero]
        refine E_done (by kernel_rfl) ?_ _
        exact ⟨rfl, ⟨wz8.heap.size, .agg #[.int .i64 k0, .int .i64 m0, .string u0, .int .i64 x0, .slice B7 f0.len d7], .agg #[.bool t1, .int .i64 p1, .string s1], .agg #[.int .i64 gk, .int .i64 gm, .string gu, .int .i64 gx, .slice B18 gf.len d18]⟩, ⟨B18, d18, _, lo18, hi18, rfl, t9.out, x9.out, ⟨(by have := OR7.out; have := OR16.out; have := OR18.out; have := HW0.out; omega), (by have := OR7.out; have := OR16.out; have := OR18.out; have := HW0.out; omega), (by have := OR7.out; have := OR16.out; have := OR18.out; have := HW0.out; have := HF.out; omega)⟩, ⟨(by have := OR7.out; have := OR16.out; have := OR18.out; have := HW0.out; omega), x9.out.lt, (by have := OR7.out; have := OR16.out; have := OR18.out; have := HW0.out; omega)⟩, gb_trans GI.out GD.out⟩, by simp only [List.foldl, Act.put, List.setIfInBounds_toArray, List.set_cons_succ, List.set_cons_zero]⟩
    · skip
      have hge20 : wd.heap.size ≤ wd.heap.size := GD.out.size
      have HGE20 := hid hge20
      clear hge20
      have X20 := hid (HoldsT.new wd #[.int .i64 0, .int .i64 0, .string { data := #[] }, .int .i64 0, .slice none 0 0] 31)
      have OR20 : Hid (tp0 ≤ wd.heap.size) := HT
      replace GW := hid (gb_alloc GW.out (.cells #[.int .i64 0, .int .i64 0, .string { data := #[] }, .int .i64 0, .slice none 0 0] 31))
      replace GD := hid (gb_alloc GD.out (.cells #[.int .i64 0, .int .i64 0, .string { data := #[] }, .int .i64 0, .slice none 0 0] 31))
      refine E_val 8 rfl (some 6) rfl rfl (.pointer (some ⟨wd.heap.size, 0, none⟩)) (wd.alloc (.cells #[.int .i64 0, .int .i64 0, .string { data := #[] }, .int .i64 0, .slice none 0 0] 31)) (by go_simp) ⟨fun _ => GD.out, ?_⟩
      simp only [Act.put, List.setIfInBounds_toArray, List.set_cons_succ, List.set_cons_zero]
      replace HT := hid (show (wd.heap.size + 1) ≤ (wd.alloc (.cells #[.int .i64 0, .int .i64 0, .string { data := #[] }, .int .i64 0, .slice none 0 0] 31)).heap.size by simp)
      refine E_only 1 (by kernel_rfl) ?_
      refine E_call 1 rfl (some 28) rfl rfl 11 _ (run_call1 _ (by kernel_rfl) (.tmp 27) _ (.agg #[.int .i64 k0, .int .i64 m0, .string u0, .int .i64 x0, .slice A0 f0.len c0]) rfl rfl) (toValue_any f0 (toEntryS_any f0) k0 m0 u0 x0 A0 c0 _ _ (RP0.out.grow GW.out) HO0.out.1 (by omega)) ?_
      rintro e wz22 ⟨B21, d21, M21, rfl, ha21, ho21, hg⟩
      obtain ⟨lo21, hi21, hT21, hlo21, hlh21, hhi21⟩ := own_tr ho21 hg HT.out
      have OR21 := hid (And.intro hlo21 hlh21); have HA21 := hid ha21.2
      replace GW := hid (gb_trans GW.out hg)
      replace X20 := hid (X20.out.grow hg)
      replace HT := hid (Nat.le_trans HT.out (hg).size)
      replace GD := hid (gb_trans GD.out hg)
      clear hg
      have T21 := hid hT21; replace HT := hid hhi21
      clear ho21 ha21 hT21 hlo21 hlh21 hhi21
      refine ⟨_, rfl, fun _ => GD.out, ?_⟩
      simp only [Act.put, List.setIfInBounds_toArray, List.set_cons_succ, List.set_cons_zero]
      refine E_only 3 (by kernel_rfl) ?_
      refine E_call 3 rfl (some 30) rfl rfl 12 _ (run_call1 _ (by kernel_rfl) (.tmp 29) _ (.agg #[.bool t1, .int .i64 p1, .string s1]) rfl rfl) (toKey_any t1 p1 s1 _) ?_
      rintro e wz23 ⟨rfl, hg⟩
      replace GW := hid (gb_trans GW.out hg)
      replace X20 := hid (X20.out.grow hg)
      replace T21 := hid (T21.out.grow hg)
      replace HT := hid (Nat.le_trans HT.out (hg).size)
      replace GD := hid (gb_trans GD.out hg)
      clear hg
      refine ⟨_, rfl, fun _ => GD.out, ?_⟩
      simp only [Act.put, List.setIfInBounds_toArray, List.set_cons_succ, List.set_cons_zero]
      refine E_only 4 (by kernel_rfl) ?_
      refine E_call 4 rfl (some 31) rfl rfl 17 _ (run_call2 _ (by kernel_rfl) (.tmp 28) (.tmp 30) _ (.agg #[.int .i64 k0, .int .i64 m0, .string u0, .int .i64 x0, .slice B21 f0.len d21]) (.agg #[.bool t1, .int .i64 p1, .string s1]) rfl rfl rfl) (specGet_any f0 t1 p1 s1 _ k0 m0 u0 x0 B21 d21 _ gk gm gu gx gf gb HGI.out T21.out.1.1 (by omega) (by omega)) ?_
      rintro e wz25 ⟨B24, d24, M24, rfl, _, hR, hg⟩
      obtain ⟨lo24, hi24, hT24, hlo24, hlh24, hhi24⟩ := own_tr hR.own hg X20.out.lt
      have OR24 := hid (And.intro hlo24 hlh24)
      replace GW := hid (gb_trans GW.out hg)
      replace X20 := hid (X20.out.grow hg)
      replace T21 := hid (T21.out.grow hg)
      replace HT := hid (Nat.le_trans HT.out (hg).size)
      replace GD := hid (gb_trans GD.out hg)
      clear hg
      have T24 := hid hT24; replace HT := hid hhi24
      clear hR hT24 hlo24 hlh24 hhi24
      refine ⟨_, rfl, fun _ => GD.out, ?_⟩
      simp only [Act.put, List.setIfInBounds_toArray, List.set_cons_succ, List.set_cons_zero]
      refine E_take 5 rfl (some 26) rfl (by kernel_rfl) (by kernel_rfl) (by kernel_rfl) (by kernel_rfl) (by decide) (fun _ _ _ _ h => by cases h.1) rfl (.tuple #[.agg #[.int .i64 gk, .int .i64 gm, .string gu, .int .i64 gx, .slice B24 gf.len d24], .bool gb]) (fun w' hw => run_mov (.tmp 31) rfl rfl) GD.out ?_
      simp only [Act.put, List.setIfInBounds_toArray, List.set_cons_succ, List.set_cons_zero]
      refine E_take 6 rfl (some 32) rfl (by kernel_rfl) (by kernel_rfl) (by kernel_rfl) (by kernel_rfl) (by decide) (fun _ _ _ _ h => by cases h.1) rfl (.agg #[.int .i64 gk, .int .i64 gm, .string gu, .int .i64 gx, .slice B24 gf.len d24]) (fun w' hw => run_ext (.tmp 26) 0 rfl rfl rfl) GD.out ?_
      simp only [Act.put, List.setIfInBounds_toArray, List.set_cons_succ, List.set_cons_zero]
      refine E_take 7 rfl (some 33) rfl (by kernel_rfl) (by kernel_rfl) (by kernel_rfl) (by kernel_rfl) (by decide) (fun _ _ _ _ h => by cases h.1) rfl (.bool gb) (fun w' hw => run_ext (.tmp 26) 1 rfl rfl rfl) GD.out ?_
      simp only [Act.put, List.setIfInBounds_toArray, List.set_cons_succ, List.set_cons_zero]
      have s9 := gb_setCells (r := some (wd.heap.size)) (.inr rfl) [.int .i64 gk, .int .i64 gm, .string gu, .int .i64 gx, .slice B24 gf.len d24] 0 (gb_refl wz25 (some (wd.heap.size)))
      have x9 := hid (show HoldsT (wz25.setCells (wd.heap.size) 0 [.int .i64 gk, .int .i64 gm, .string gu, .int .i64 gx, .slice B24 gf.len d24]) (wd.heap.size) #[.int .i64 gk, .int .i64 gm, .string gu, .int .i64 gx, .slice B24 gf.len d24] 31 by have h := X20.out.setCells [.int .i64 gk, .int .i64 gm, .string gu, .int .i64 gx, .slice B24 gf.len d24] 0; simpa [setArr] using h)
      have gd9 := hid (gb_setCells (r := none) (.inl HGE20.out) [.int .i64 gk, .int .i64 gm, .string gu, .int .i64 gx, .slice B24 gf.len d24] 0 GD.out)
      have m9 : MkI wz25 (wz25.setCells (wd.heap.size) 0 [.int .i64 gk, .int .i64 gm, .string gu, .int .i64 gx, .slice B24 gf.len d24]) (wd.heap.size) (wd.heap.size + 1) := ⟨s9.os, s9.tape, s9.output, s9.size, fun k hk hb => s9.block k hk (by intro e; injection e; omega)⟩
      have t9 := hid (T24.out.mk' m9 (by have := OR20.out; have := OR21.out; have := OR24.out; have := HW0.out; omega))
      have HF := hid (Nat.le_trans HT.out m9.size)
      refine E_only 9 (by kernel_rfl) (E_store 9 rfl none rfl rfl 31 (.tmp 6) (.tmp 32) rfl (wd.heap.size) 0 [.int .i64 gk, .int .i64 gm, .string gu, .int .i64 gx, .slice B24 gf.len d24] rfl rfl X20.out (by simp) Try.infoV rfl ⟨fun _ => gd9.out, ?_⟩)
      simp only [Act.put]
      clear GD s9 m9
      have GD := gd9
      refine E_only 10 (by kernel_rfl) (E_val 10 rfl (some 7) rfl rfl (.bool gb) _ (run_asg (.tmp 33) rfl rfl) ⟨fun _ => GD.out, ?_⟩)
      simp only [Act.put, List.setIfInBounds_toArray, List.set_cons_succ, List.set_cons_zero]
      refine E_done (by kernel_rfl) ?_ _
      exact ⟨rfl, ⟨wd.heap.size, .agg #[.int .i64 k0, .int .i64 m0, .string u0, .int .i64 x0, .slice B21 f0.len d21], .agg #[.bool t1, .int .i64 p1, .string s1], .agg #[.int .i64 gk, .int .i64 gm, .string gu, .int .i64 gx, .slice B24 gf.len d24]⟩, ⟨B24, d24, _, lo24, hi24, rfl, t9.out, x9.out, ⟨(by have := OR20.out; have := OR21.out; have := OR24.out; have := HW0.out; omega), (by have := OR20.out; have := OR21.out; have := OR24.out; have := HW0.out; omega), (by have := OR20.out; have := OR21.out; have := OR24.out; have := HW0.out; have := HF.out; omega)⟩, ⟨(by have := OR20.out; have := OR21.out; have := OR24.out; have := HW0.out; omega), x9.out.lt, (by have := OR20.out; have := OR21.out; have := OR24.out; have := HW0.out; omega)⟩, gb_trans GI.out GD.out⟩, by simp only [List.foldl, Act.put, List.setIfInBounds_toArray, List.set_cons_succ, List.set_cons_zero]⟩
  rintro ⟨bb26, vc26_0, vc26_1, vc26_2⟩ wz26 ⟨B26, d26, M26, lo26, hi26, hv26, hT26, hX26, ⟨ho26, hp26, hq26⟩, ⟨hr26, hs26, ht26⟩, hg⟩
  dsimp only at hv26 hX26 hr26 hs26 ht26
  subst hv26
  simp only [List.foldl, Act.put, List.setIfInBounds_toArray, List.set_cons_succ, List.set_cons_zero]
  obtain ⟨tp26, hu26, hv26⟩ : ∃ z, (hi26 ≤ z ∧ bb26 + 1 ≤ z) ∧ z ≤ wz26.heap.size := ⟨_, ⟨hq26, hs26⟩, Nat.le_refl _⟩
  have OR26 := hid (And.intro (And.intro ho26 hp26) (And.intro hr26 (And.intro ht26 hu26)))
  replace GW := hid (gb_trans GW.out hg)
  replace HT := hid (Nat.le_trans HT.out (hg).size)
  clear hg
  have T26 := hid hT26; have X26 := hid hX26; replace HT := hid hv26
  clear ho26 hp26 hq26 hr26 hs26 ht26 hu26 hv26 hT26 hX26
  obtain ⟨a27_0, a27_1, a27_2, a27_3, a27_4⟩ := (HB0.out.grow GW.out).cells5
  have la27 := (HB0.out.grow GW.out).lt
  go_wp2_with fail
  refine (toValue_any f0 (toEntryS_any f0) k0 m0 u0 x0 A0 c0 _ _ (RP0.out.grow GW.out) HO0.out.1 (by omega)).mono ?_
  rintro e wz29 ⟨B28, d28, M28, rfl, ha28, ho28, hg⟩
  clear a27_0 a27_1 a27_2 a27_3 a27_4 la27
  obtain ⟨lo28, hi28, hT28, hlo28, hlh28, hhi28⟩ := own_tr ho28 hg HT.out
  have OR28 := hid (And.intro hlo28 hlh28); have HA28 := hid ha28.2
  replace GW := hid (gb_trans GW.out hg)
  replace T26 := hid (T26.out.grow hg)
  replace X26 := hid (X26.out.grow hg)
  replace HT := hid (Nat.le_trans HT.out (hg).size)
  clear hg
  have T28 := hid hT28; replace HT := hid hhi28
  clear ho28 ha28 hT28 hlo28 hlh28 hhi28
  have X30 := hid (HoldsT.new wz29 #[.int .i64 k0, .int .i64 m0, .string u0, .int .i64 x0, .slice B28 f0.len d28] 31)
  replace GW := hid (gb_alloc GW.out (.cells #[.int .i64 k0, .int .i64 m0, .string u0, .int .i64 x0, .slice B28 f0.len d28] 31))
  replace T26 := hid (T26.out.grow (gb_alloc (gb_refl _ none) (.cells #[.int .i64 k0, .int .i64 m0, .string u0, .int .i64 x0, .slice B28 f0.len d28] 31)))
  replace X26 := hid (X26.out.grow (gb_alloc (gb_refl _ none) (.cells #[.int .i64 k0, .int .i64 m0, .string u0, .int .i64 x0, .slice B28 f0.len d28] 31)))
  replace T28 := hid (T28.out.grow (gb_alloc (gb_refl _ none) (.cells #[.int .i64 k0, .int .i64 m0, .string u0, .int .i64 x0, .slice B28 f0.len d28] 31)))
  have OR30 : Hid (hi28 ≤ wz29.heap.size) := HT; replace HT := hid (show wz29.heap.size + 1 ≤ (wz29.alloc (.cells #[.int .i64 k0, .int .i64 m0, .string u0, .int .i64 x0, .slice B28 f0.len d28] 31)).heap.size by simp)
  go_wp2_with fail
  refine wp_region_puts (X := Nat × Value × Value) (fun x w' => ∃ A' c' L' lo hi, x.2.2 = .agg #[.int .i64 gk, .int .i64 gm, .string gu, .int .i64 gx, .slice A' gf.len c'] ∧ Tr w' 61 lo hi gf A' L' ∧ HoldsT w' x.1 #[.int .i64 gk, .int .i64 gm, .string gu, .int .i64 gx, .slice A' gf.len c'] 31 ∧ ((wz29.heap.size + 1) ≤ lo ∧ lo ≤ hi ∧ hi ≤ w'.heap.size) ∧ ((wz29.heap.size + 1) ≤ x.1 ∧ x.1 + 1 ≤ w'.heap.size ∧ (x.1 + 1 ≤ lo ∨ hi ≤ x.1)) ∧ (wz29.alloc (.cells #[.int .i64 k0, .int .i64 m0, .string u0, .int .i64 x0, .slice B28 f0.len d28] 31)).grownBy w' none) (fun x => [(some 37, .agg #[.int .i64 k0, .int .i64 m0, .string u0, .int .i64 x0, .slice B28 f0.len d28]), (some 38, .agg #[.bool t1, .int .i64 p1, .string s1]), (some 39, x.2.1), (some 40, .tuple #[x.2.2, .bool gb]), (some 36, .tuple #[x.2.2, .bool gb]), (some 41, x.2.2), (some 42, .bool gb), (some 9, .pointer (some ⟨x.1, 0, none⟩)), (some 10, .bool gb)]) ?_ ?_
  · skip
    refine wp_region_E 999 10 rfl (by kernel_rfl) (fun wd w' => wd.grownBy w' none) fun wd gd => ?_
    have g0 : wd.grownBy wd none := gb_refl _ _
    have GI := hid gd
    replace GW := hid (gb_trans GW.out gd)
    replace T26 := hid (T26.out.grow gd)
    replace X26 := hid (X26.out.grow gd)
    replace T28 := hid (T28.out.grow gd)
    replace X30 := hid (X30.out.grow gd)
    replace HT := hid (Nat.le_trans HT.out (gd).size)
    clear gd
    have GD := hid g0
    refine E_load 0 rfl (some 37) rfl (by kernel_rfl) (by kernel_rfl) (by kernel_rfl) (by kernel_rfl) (by decide) (fun _ _ _ _ h => by cases h.1) rfl 31 (.tmp 8) rfl (wz29.heap.size) 0 rfl _ (fun w' hw => (X30.out.grow hw).rangeV) Try.underlying31 rfl Try.infoV g0 ?_
    simp only [Act.put, List.setIfInBounds_toArray, List.set_cons_succ, List.set_cons_zero]
    refine E_load 1 rfl (some 38) rfl (by kernel_rfl) (by kernel_rfl) (by kernel_rfl) (by kernel_rfl) (by decide) (fun _ _ _ _ h => by cases h.1) rfl 26 (.tmp 3) rfl (w.heap.size + 1) 0 rfl _ (fun w' hw => ((HB1.out.grow GW.out).grow hw).rangeV) Try.underlying26 rfl Try.infoKL g0 ?_
    simp only [Act.put, List.setIfInBounds_toArray, List.set_cons_succ, List.set_cons_zero]
    refine E_two 2 7 (by kernel_rfl) ?_ ?_
    · skip
      refine E_call 2 rfl (some 39) rfl rfl 12 _ (run_call1 _ (by kernel_rfl) (.tmp 38) _ (.agg #[.bool t1, .int .i64 p1, .string s1]) rfl rfl) (toKey_any t1 p1 s1 _) ?_
      rintro e wz31 ⟨rfl, hg⟩
      replace GW := hid (gb_trans GW.out hg)
      replace T26 := hid (T26.out.grow hg)
      replace X26 := hid (X26.out.grow hg)
      replace T28 := hid (T28.out.grow hg)
      replace X30 := hid (X30.out.grow hg)
      replace HT := hid (Nat.le_trans HT.out (hg).size)
      replace GD := hid (gb_trans GD.out hg)
      clear hg
      refine ⟨_, rfl, fun _ => GD.out, ?_⟩
      simp only [Act.put, List.setIfInBounds_toArray, List.set_cons_succ, List.set_cons_zero]
      refine E_two 3 7 (by kernel_rfl) ?_ ?_
      · skip
        refine E_call 3 rfl (some 40) rfl rfl 18 _ (run_call2 _ (by kernel_rfl) (.tmp 37) (.tmp 39) _ (.agg #[.int .i64 k0, .int .i64 m0, .string u0, .int .i64 x0, .slice B28 f0.len d28]) (.agg #[.bool t1, .int .i64 p1, .string s1]) rfl rfl rfl) (implGet_any f0 t1 p1 s1 _ k0 m0 u0 x0 B28 d28 _ gk gm gu gx gf gb HGI.out T28.out.1.1 (by omega) (by omega)) ?_
        rintro e wz33 ⟨B32, d32, M32, rfl, _, hR, hg⟩
        obtain ⟨lo32, hi32, hT32, hlo32, hlh32, hhi32⟩ := own_tr hR.own hg HT.out
        have OR32 := hid (And.intro hlo32 hlh32)
        replace GW := hid (gb_trans GW.out hg)
        replace T26 := hid (T26.out.grow hg)
        replace X26 := hid (X26.out.grow hg)
        replace T28 := hid (T28.out.grow hg)
        replace X30 := hid (X30.out.grow hg)
        replace HT := hid (Nat.le_trans HT.out (hg).size)
        replace GD := hid (gb_trans GD.out hg)
        clear hg
        have T32 := hid hT32; replace HT := hid hhi32
        clear hR hT32 hlo32 hlh32 hhi32
        refine ⟨_, rfl, fun _ => GD.out, ?_⟩
        simp only [Act.put, List.setIfInBounds_toArray, List.set_cons_succ, List.set_cons_zero]
        refine E_take 4 rfl (some 36) rfl (by kernel_rfl) (by kernel_rfl) (by kernel_rfl) (by kernel_rfl) (by decide) (fun _ _ _ _ h => by cases h.1) rfl (.tuple #[.agg #[.int .i64 gk, .int .i64 gm, .string gu, .int .i64 gx, .slice B32 gf.len d32], .bool gb]) (fun w' hw => run_mov (.tmp 40) rfl rfl) GD.out ?_
        simp only [Act.put, List.setIfInBounds_toArray, List.set_cons_succ, List.set_cons_zero]
        refine E_take 5 rfl (some 41) rfl (by kernel_rfl) (by kernel_rfl) (by kernel_rfl) (by kernel_rfl) (by decide) (fun _ _ _ _ h => by cases h.1) rfl (.agg #[.int .i64 gk, .int .i64 gm, .string gu, .int .i64 gx, .slice B32 gf.len d32]) (fun w' hw => run_ext (.tmp 36) 0 rfl rfl rfl) GD.out ?_
        simp only [Act.put, List.setIfInBounds_toArray, List.set_cons_succ, List.set_cons_zero]
        refine E_take 6 rfl (some 42) rfl (by kernel_rfl) (by kernel_rfl) (by kernel_rfl) (by kernel_rfl) (by decide) (fun _ _ _ _ h => by cases h.1) rfl (.bool gb) (fun w' hw => run_ext (.tmp 36) 1 rfl rfl rfl) GD.out ?_
        simp only [Act.put, List.setIfInBounds_toArray, List.set_cons_succ, List.set_cons_zero]
        refine E_only 7 (by kernel_rfl) ?_
        have hge34 : wd.heap.size ≤ wz33.heap.size := GD.out.size
        have HGE34 := hid hge34
        clear hge34
        have X34 := hid (HoldsT.new wz33 #[.int .i64 0, .int .i64 0, .string { data := #[] }, .int .i64 0, .slice none 0 0] 31)
        have OR34 : Hid (hi32 ≤ wz33.heap.size) := HT
        replace GW := hid (gb_alloc GW.out (.cells #[.int .i64 0, .int .i64 0, .string { data := #[] }, .int .i64 0, .slice none 0 0] 31))
        replace T26 := hid (T26.out.grow (gb_alloc (gb_refl _ none) (.cells #[.int .i64 0, .int .i64 0, .string { data := #[] }, .int .i64 0, .slice none 0 0] 31)))
        replace X26 := hid (X26.out.grow (gb_alloc (gb_refl _ none) (.cells #[.int .i64 0, .int .i64 0, .string { data := #[] }, .int .i64 0, .slice none 0 0] 31)))
        replace T28 := hid (T28.out.grow (gb_alloc (gb_refl _ none) (.cells #[.int .i64 0, .int .i64 0, .string { data := #[] }, .int .i64 0, .slice none 0 0] 31)))
        replace X30 := hid (X30.out.grow (gb_alloc (gb_refl _ none) (.cells #[.int .i64 0, .int .i64 0, .string { data := #[] }, .int .i64 0, .slice none 0 0] 31)))
        replace T32 := hid (T32.out.grow (gb_alloc (gb_refl _ none) (.cells #[.int .i64 0, .int .i64 0, .string { data := #[] }, .int .i64 0, .slice none 0 0] 31)))
        replace GD := hid (gb_alloc GD.out (.cells #[.int .i64 0, .int .i64 0, .string { data := #[] }, .int .i64 0, .slice none 0 0] 31))
        refine E_val 7 rfl (some 9) rfl rfl (.pointer (some ⟨wz33.heap.size, 0, none⟩)) (wz33.alloc (.cells #[.int .i64 0, .int .i64 0, .string { data := #[] }, .int .i64 0, .slice none 0 0] 31)) (by go_simp) ⟨fun _ => GD.out, ?_⟩
        simp only [Act.put, List.setIfInBounds_toArray, List.set_cons_succ, List.set_cons_zero]
        replace HT := hid (show (wz33.heap.size + 1) ≤ (wz33.alloc (.cells #[.int .i64 0, .int .i64 0, .string { data := #[] }, .int .i64 0, .slice none 0 0] 31)).heap.size by simp)
        have s9 := gb_setCells (r := some (wz33.heap.size)) (.inr rfl) [.int .i64 gk, .int .i64 gm, .string gu, .int .i64 gx, .slice B32 gf.len d32] 0 (gb_refl (wz33.alloc (.cells #[.int .i64 0, .int .i64 0, .string { data := #[] }, .int .i64 0, .slice none 0 0] 31)) (some (wz33.heap.size)))
        have x9 := hid (show HoldsT ((wz33.alloc (.cells #[.int .i64 0, .int .i64 0, .string { data := #[] }, .int .i64 0, .slice none 0 0] 31)).setCells (wz33.heap.size) 0 [.int .i64 gk, .int .i64 gm, .string gu, .int .i64 gx, .slice B32 gf.len d32]) (wz33.heap.size) #[.int .i64 gk, .int .i64 gm, .string gu, .int .i64 gx, .slice B32 gf.len d32] 31 by have h := X34.out.setCells [.int .i64 gk, .int .i64 gm, .string gu, .int .i64 gx, .slice B32 gf.len d32] 0; simpa [setArr] using h)
        have gd9 := hid (gb_setCells (r := none) (.inl HGE34.out) [.int .i64 gk, .int .i64 gm, .string gu, .int .i64 gx, .slice B32 gf.len d32] 0 GD.out)
        have m9 : MkI (wz33.alloc (.cells #[.int .i64 0, .int .i64 0, .string { data := #[] }, .int .i64 0, .slice none 0 0] 31)) ((wz33.alloc (.cells #[.int .i64 0, .int .i64 0, .string { data := #[] }, .int .i64 0, .slice none 0 0] 31)).setCells (wz33.heap.size) 0 [.int .i64 gk, .int .i64 gm, .string gu, .int .i64 gx, .slice B32 gf.len d32]) (wz33.heap.size) (wz33.heap.size + 1) := ⟨s9.os, s9.tape, s9.output, s9.size, fun k hk hb => s9.block k hk (by intro e; injection e; omega)⟩
        have t9 := hid (T32.out.mk' m9 (by have := OR26.out; have := OR28.out; have := OR30.out; have := OR32.out; have := OR34.out; have := HW0.out; omega))
        have HF := hid (Nat.le_trans HT.out m9.size)
        refine E_only 8 (by kernel_rfl) (E_store 8 rfl none rfl rfl 31 (.tmp 9) (.tmp 41) rfl (wz33.heap.size) 0 [.int .i64 gk, .int .i64 gm, .string gu, .int .i64 gx, .slice B32 gf.len d32] rfl rfl X34.out (by simp) Try.infoV rfl ⟨fun _ => gd9.out, ?_⟩)
        simp only [Act.put]
        clear GD s9 m9
        have GD := gd9
        refine E_only 9 (by kernel_rfl) (E_val 9 rfl (some 10) rfl rfl (.bool gb) _ (run_asg (.tmp 42) rfl rfl) ⟨fun _ => GD.out, ?_⟩)
        simp only [Act.put, List.setIfInBounds_toArray, List.set_cons_succ, List.set_cons_zero]
        refine E_done (by kernel_rfl) ?_ _
        exact ⟨rfl, ⟨wz33.heap.size, .agg #[.bool t1, .int .i64 p1, .string s1], .agg #[.int .i64 gk, .int .i64 gm, .string gu, .int .i64 gx, .slice B32 gf.len d32]⟩, ⟨B32, d32, _, lo32, hi32, rfl, t9.out, x9.out, ⟨(by have := OR26.out; have := OR28.out; have := OR30.out; have := OR32.out; have := OR34.out; have := HW0.out; omega), (by have := OR26.out; have := OR28.out; have := OR30.out; have := OR32.out; have := OR34.out; have := HW0.out; omega), (by have := OR26.out; have := OR28.out; have := OR30.out; have := OR32.out; have := OR34.out; have := HW0.out; have := HF.out; omega)⟩, ⟨(by have := OR26.out; have := OR28.out; have := OR30.out; have := OR32.out; have := OR34.out; have := HW0.out; omega), x9.out.lt, (by have := OR26.out; have := OR28.out; have := OR30.out; have := OR32.out; have := OR34.out; have := HW0.out; omega)⟩, gb_trans GI.out GD.out⟩, by simp only [List.foldl, Act.put, List.setIfInBounds_toArray, List.set_cons_succ, List.set_cons_zero]⟩
      · skip
        have hge35 : wd.heap.size ≤ wz31.heap.size := GD.out.size
        have HGE35 := hid hge35
        clear hge35
        have X35 := hid (HoldsT.new wz31 #[.int .i64 0, .int .i64 0, .string { data := #[] }, .int .i64 0, .slice none 0 0] 31)
        have OR35 : Hid ((wz29.heap.size + 1) ≤ wz31.heap.size) := HT
        replace GW := hid (gb_alloc GW.out (.cells #[.int .i64 0, .int .i64 0, .string { data := #[] }, .int .i64 0, .slice none 0 0] 31))
        replace T26 := hid (T26.out.grow (gb_alloc (gb_refl _ none) (.cells #[.int .i64 0, .int .i64 0, .string { data := #[] }, .int .i64 0, .slice none 0 0] 31)))
        replace X26 := hid (X26.out.grow (gb_alloc (gb_refl _ none) (.cells #[.int .i64 0, .int .i64 0, .string { data := #[] }, .int .i64 0, .slice none 0 0] 31)))
        replace T28 := hid (T28.out.grow (gb_alloc (gb_refl _ none) (.cells #[.int .i64 0, .int .i64 0, .string { data := #[] }, .int .i64 0, .slice none 0 0] 31)))
        replace X30 := hid (X30.out.grow (gb_alloc (gb_refl _ none) (.cells #[.int .i64 0, .int .i64 0, .string { data := #[] }, .int .i64 0, .slice none 0 0] 31)))
        replace GD := hid (gb_alloc GD.out (.cells #[.int .i64 0, .int .i64 0, .string { data := #[] }, .int .i64 0, .slice none 0 0] 31))
        refine E_val 7 rfl (some 9) rfl rfl (.pointer (some ⟨wz31.heap.size, 0, none⟩)) (wz31.alloc (.cells #[.int .i64 0, .int .i64 0, .string { data := #[] }, .int .i64 0, .slice none 0 0] 31)) (by go_simp) ⟨fun _ => GD.out, ?_⟩
        simp only [Act.put, List.setIfInBounds_toArray, List.set_cons_succ, List.set_cons_zero]
        replace HT := hid (show (wz31.heap.size + 1) ≤ (wz31.alloc (.cells #[.int .i64 0, .int .i64 0, .string { data := #[] }, .int .i64 0, .slice none 0 0] 31)).heap.size by simp)
        refine E_only 3 (by kernel_rfl) ?_
        refine E_call 3 rfl (some 40) rfl rfl 18 _ (run_call2 _ (by kernel_rfl) (.tmp 37) (.tmp 39) _ (.agg #[.int .i64 k0, .int .i64 m0, .string u0, .int .i64 x0, .slice B28 f0.len d28]) (.agg #[.bool t1, .int .i64 p1, .string s1]) rfl rfl rfl) (implGet_any f0 t1 p1 s1 _ k0 m0 u0 x0 B28 d28 _ gk gm gu gx gf gb HGI.out T28.out.1.1 (by omega) (by omega)) ?_
        rintro e wz37 ⟨B36, d36, M36, rfl, _, hR, hg⟩
        obtain ⟨lo36, hi36, hT36, hlo36, hlh36, hhi36⟩ := own_tr hR.own hg X35.out.lt
        have OR36 := hid (And.intro hlo36 hlh36)
        replace GW := hid (gb_trans GW.out hg)
        replace T26 := hid (T26.out.grow hg)
        replace X26 := hid (X26.out.grow hg)
        replace T28 := hid (T28.out.grow hg)
        replace X30 := hid (X30.out.grow hg)
        replace X35 := hid (X35.out.grow hg)
        replace HT := hid (Nat.le_trans HT.out (hg).size)
        replace GD := hid (gb_trans GD.out hg)
        clear hg
        have T36 := hid hT36; replace HT := hid hhi36
        clear hR hT36 hlo36 hlh36 hhi36
        refine ⟨_, rfl, fun _ => GD.out, ?_⟩
        simp only [Act.put, List.setIfInBounds_toArray, List.set_cons_succ, List.set_cons_zero]
        refine E_take 4 rfl (some 36) rfl (by kernel_rfl) (by kernel_rfl) (by kernel_rfl) (by kernel_rfl) (by decide) (fun _ _ _ _ h => by cases h.1) rfl (.tuple #[.agg #[.int .i64 gk, .int .i64 gm, .string gu, .int .i64 gx, .slice B36 gf.len d36], .bool gb]) (fun w' hw => run_mov (.tmp 40) rfl rfl) GD.out ?_
        simp only [Act.put, List.setIfInBounds_toArray, List.set_cons_succ, List.set_cons_zero]
        refine E_take 5 rfl (some 41) rfl (by kernel_rfl) (by kernel_rfl) (by kernel_rfl) (by kernel_rfl) (by decide) (fun _ _ _ _ h => by cases h.1) rfl (.agg #[.int .i64 gk, .int .i64 gm, .string gu, .int .i64 gx, .slice B36 gf.len d36]) (fun w' hw => run_ext (.tmp 36) 0 rfl rfl rfl) GD.out ?_
        simp only [Act.put, List.setIfInBounds_toArray, List.set_cons_succ, List.set_cons_zero]
        refine E_take 6 rfl (some 42) rfl (by kernel_rfl) (by kernel_rfl) (by kernel_rfl) (by kernel_rfl) (by decide) (fun _ _ _ _ h => by cases h.1) rfl (.bool gb) (fun w' hw => run_ext (.tmp 36) 1 rfl rfl rfl) GD.out ?_
        simp only [Act.put, List.setIfInBounds_toArray, List.set_cons_succ, List.set_cons_zero]
        have s9 := gb_setCells (r := some (wz31.heap.size)) (.inr rfl) [.int .i64 gk, .int .i64 gm, .string gu, .int .i64 gx, .slice B36 gf.len d36] 0 (gb_refl wz37 (some (wz31.heap.size)))
        have x9 := hid (show HoldsT (wz37.setCells (wz31.heap.size) 0 [.int .i64 gk, .int .i64 gm, .string gu, .int .i64 gx, .slice B36 gf.len d36]) (wz31.heap.size) #[.int .i64 gk, .int .i64 gm, .string gu, .int .i64 gx, .slice B36 gf.len d36] 31 by have h := X35.out.setCells [.int .i64 gk, .int .i64 gm, .string gu, .int .i64 gx, .slice B36 gf.len d36] 0; simpa [setArr] using h)
        have gd9 := hid (gb_setCells (r := none) (.inl HGE35.out) [.int .i64 gk, .int .i64 gm, .string gu, .int .i64 gx, .slice B36 gf.len d36] 0 GD.out)
        have m9 : MkI wz37 (wz37.setCells (wz31.heap.size) 0 [.int .i64 gk, .int .i64 gm, .string gu, .int .i64 gx, .slice B36 gf.len d36]) (wz31.heap.size) (wz31.heap.size + 1) := ⟨s9.os, s9.tape, s9.output, s9.size, fun k hk hb => s9.block k hk (by intro e; injection e; omega)⟩
        have t9 := hid (T36.out.mk' m9 (by have := OR26.out; have := OR28.out; have := OR30.out; have := OR35.out; have := OR36.out; have := HW0.out; omega))
        have HF := hid (Nat.le_trans HT.out m9.size)
        refine E_only 8 (by kernel_rfl) (E_store 8 rfl none rfl rfl 31 (.tmp 9) (.tmp 41) rfl (wz31.heap.size) 0 [.int .i64 gk, .int .i64 gm, .string gu, .int .i64 gx, .slice B36 gf.len d36] rfl rfl X35.out (by simp) Try.infoV rfl ⟨fun _ => gd9.out, ?_⟩)
        simp only [Act.put]
        clear GD s9 m9
        have GD := gd9
        refine E_only 9 (by kernel_rfl) (E_val 9 rfl (some 10) rfl rfl (.bool gb) _ (run_asg (.tmp 42) rfl rfl) ⟨fun _ => GD.out, ?_⟩)
        simp only [Act.put, List.setIfInBounds_toArray, List.set_cons_succ, List.set_cons_zero]
        refine E_done (by kernel_rfl) ?_ _
        exact ⟨rfl, ⟨wz31.heap.size, .agg #[.bool t1, .int .i64 p1, .string s1], .agg #[.int .i64 gk, .int .i64 gm, .string gu, .int .i64 gx, .slice B36 gf.len d36]⟩, ⟨B36, d36, _, lo36, hi36, rfl, t9.out, x9.out, ⟨(by have := OR26.out; have := OR28.out; have := OR30.out; have := OR35.out; have := OR36.out; have := HW0.out; omega), (by have := OR26.out; have := OR28.out; have := OR30.out; have := OR35.out; have := OR36.out; have := HW0.out; omega), (by have := OR26.out; have := OR28.out; have := OR30.out; have := OR35.out; have := OR36.out; have := HW0.out; have := HF.out; omega)⟩, ⟨(by have := OR26.out; have := OR28.out; have := OR30.out; have := OR35.out; have := OR36.out; have := HW0.out; omega), x9.out.lt, (by have := OR26.out; have := OR28.out; have := OR30.out; have := OR35.out; have := OR36.out; have := HW0.out; omega)⟩, gb_trans GI.out GD.out⟩, by simp only [List.foldl, Act.put, List.setIfInBounds_toArray, List.set_cons_succ, List.set_cons_zero]⟩
    · skip
      have hge38 : wd.heap.size ≤ wd.heap.size := GD.out.size
      have HGE38 := hid hge38
      clear hge38
      have X38 := hid (HoldsT.new wd #[.int .i64 0, .int .i64 0, .string { data := #[] }, .int .i64 0, .slice none 0 0] 31)
      have OR38 : Hid ((wz29.heap.size + 1) ≤ wd.heap.size) := HT
      replace GW := hid (gb_alloc GW.out (.cells #[.int .i64 0, .int .i64 0, .string { data := #[] }, .int .i64 0, .slice none 0 0] 31))
      replace T26 := hid (T26.out.grow (gb_alloc (gb_refl _ none) (.cells #[.int .i64 0, .int .i64 0, .string { data := #[] }, .int .i64 0, .slice none 0 0] 31)))
      replace X26 := hid (X26.out.grow (gb_alloc (gb_refl _ none) (.cells #[.int .i64 0, .int .i64 0, .string { data := #[] }, .int .i64 0, .slice none 0 0] 31)))
      replace T28 := hid (T28.out.grow (gb_alloc (gb_refl _ none) (.cells #[.int .i64 0, .int .i64 0, .string { data := #[] }, .int .i64 0, .slice none 0 0] 31)))
      replace X30 := hid (X30.out.grow (gb_alloc (gb_refl _ none) (.cells #[.int .i64 0, .int .i64 0, .string { data := #[] }, .int .i64 0, .slice none 0 0] 31)))
      replace GD := hid (gb_alloc GD.out (.cells #[.int .i64 0, .int .i64 0, .string { data := #[] }, .int .i64 0, .slice none 0 0] 31))
      refine E_val 7 rfl (some 9) rfl rfl (.pointer (some ⟨wd.heap.size, 0, none⟩)) (wd.alloc (.cells #[.int .i64 0, .int .i64 0, .string { data := #[] }, .int .i64 0, .slice none 0 0] 31)) (by go_simp) ⟨fun _ => GD.out, ?_⟩
      simp only [Act.put, List.setIfInBounds_toArray, List.set_cons_succ, List.set_cons_zero]
      replace HT := hid (show (wd.heap.size + 1) ≤ (wd.alloc (.cells #[.int .i64 0, .int .i64 0, .string { data := #[] }, .int .i64 0, .slice none 0 0] 31)).heap.size by simp)
      refine E_only 2 (by kernel_rfl) ?_
      refine E_call 2 rfl (some 39) rfl rfl 12 _ (run_call1 _ (by kernel_rfl) (.tmp 38) _ (.agg #[.bool t1, .int .i64 p1, .string s1]) rfl rfl) (toKey_any t1 p1 s1 _) ?_
      rintro e wz39 ⟨rfl, hg⟩
      replace GW := hid (gb_trans GW.out hg)
      replace T26 := hid (T26.out.grow hg)
      replace X26 := hid (X26.out.grow hg)
      replace T28 := hid (T28.out.grow hg)
      replace X30 := hid (X30.out.grow hg)
      replace X38 := hid (X38.out.grow hg)
      replace HT := hid (Nat.le_trans HT.out (hg).size)
      replace GD := hid (gb_trans GD.out hg)
      clear hg
      refine ⟨_, rfl, fun _ => GD.out, ?_⟩
      simp only [Act.put, List.setIfInBounds_toArray, List.set_cons_succ, List.set_cons_zero]
      refine E_only 3 (by kernel_rfl) ?_
      refine E_call 3 rfl (some 40) rfl rfl 18 _ (run_call2 _ (by kernel_rfl) (.tmp 37) (.tmp 39) _ (.agg #[.int .i64 k0, .int .i64 m0, .string u0, .int .i64 x0, .slice B28 f0.len d28]) (.agg #[.bool t1, .int .i64 p1, .string s1]) rfl rfl rfl) (implGet_any f0 t1 p1 s1 _ k0 m0 u0 x0 B28 d28 _ gk gm gu gx gf gb HGI.out T28.out.1.1 (by omega) (by omega)) ?_
      rintro e wz41 ⟨B40, d40, M40, rfl, _, hR, hg⟩
      obtain ⟨lo40, hi40, hT40, hlo40, hlh40, hhi40⟩ := own_tr hR.own hg X38.out.lt
      have OR40 := hid (And.intro hlo40 hlh40)
      replace GW := hid (gb_trans GW.out hg)
      replace T26 := hid (T26.out.grow hg)
      replace X26 := hid (X26.out.grow hg)
      replace T28 := hid (T28.out.grow hg)
      replace X30 := hid (X30.out.grow hg)
      replace X38 := hid (X38.out.grow hg)
      replace HT := hid (Nat.le_trans HT.out (hg).size)
      replace GD := hid (gb_trans GD.out hg)
      clear hg
      have T40 := hid hT40; replace HT := hid hhi40
      clear hR hT40 hlo40 hlh40 hhi40
      refine ⟨_, rfl, fun _ => GD.out, ?_⟩
      simp only [Act.put, List.setIfInBounds_toArray, List.set_cons_succ, List.set_cons_zero]
      refine E_take 4 rfl (some 36) rfl (by kernel_rfl) (by kernel_rfl) (by kernel_rfl) (by kernel_rfl) (by decide) (fun _ _ _ _ h => by cases h.1) rfl (.tuple #[.agg #[.int .i64 gk, .int .i64 gm, .string gu, .int .i64 gx, .slice B40 gf.len d40], .bool gb]) (fun w' hw => run_mov (.tmp 40) rfl rfl) GD.out ?_
      simp only [Act.put, List.setIfInBounds_toArray, List.set_cons_succ, List.set_cons_zero]
      refine E_take 5 rfl (some 41) rfl (by kernel_rfl) (by kernel_rfl) (by kernel_rfl) (by kernel_rfl) (by decide) (fun _ _ _ _ h => by cases h.1) rfl (.agg #[.int .i64 gk, .int .i64 gm, .string gu, .int .i64 gx, .slice B40 gf.len d40]) (fun w' hw => run_ext (.tmp 36) 0 rfl rfl rfl) GD.out ?_
      simp only [Act.put, List.setIfInBounds_toArray, List.set_cons_succ, List.set_cons_zero]
      refine E_take 6 rfl (some 42) rfl (by kernel_rfl) (by kernel_rfl) (by kernel_rfl) (by kernel_rfl) (by decide) (fun _ _ _ _ h => by cases h.1) rfl (.bool gb) (fun w' hw => run_ext (.tmp 36) 1 rfl rfl rfl) GD.out ?_
      simp only [Act.put, List.setIfInBounds_toArray, List.set_cons_succ, List.set_cons_zero]
      have s9 := gb_setCells (r := some (wd.heap.size)) (.inr rfl) [.int .i64 gk, .int .i64 gm, .string gu, .int .i64 gx, .slice B40 gf.len d40] 0 (gb_refl wz41 (some (wd.heap.size)))
      have x9 := hid (show HoldsT (wz41.setCells (wd.heap.size) 0 [.int .i64 gk, .int .i64 gm, .string gu, .int .i64 gx, .slice B40 gf.len d40]) (wd.heap.size) #[.int .i64 gk, .int .i64 gm, .string gu, .int .i64 gx, .slice B40 gf.len d40] 31 by have h := X38.out.setCells [.int .i64 gk, .int .i64 gm, .string gu, .int .i64 gx, .slice B40 gf.len d40] 0; simpa [setArr] using h)
      have gd9 := hid (gb_setCells (r := none) (.inl HGE38.out) [.int .i64 gk, .int .i64 gm, .string gu, .int .i64 gx, .slice B40 gf.len d40] 0 GD.out)
      have m9 : MkI wz41 (wz41.setCells (wd.heap.size) 0 [.int .i64 gk, .int .i64 gm, .string gu, .int .i64 gx, .slice B40 gf.len d40]) (wd.heap.size) (wd.heap.size + 1) := ⟨s9.os, s9.tape, s9.output, s9.size, fun k hk hb => s9.block k hk (by intro e; injection e; omega)⟩
      have t9 := hid (T40.out.mk' m9 (by have := OR26.out; have := OR28.out; have := OR30.out; have := OR38.out; have := OR40.out; have := HW0.out; omega))
      have HF := hid (Nat.le_trans HT.out m9.size)
      refine E_only 8 (by kernel_rfl) (E_store 8 rfl none rfl rfl 31 (.tmp 9) (.tmp 41) rfl (wd.heap.size) 0 [.int .i64 gk, .int .i64 gm, .string gu, .int .i64 gx, .slice B40 gf.len d40] rfl rfl X38.out (by simp) Try.infoV rfl ⟨fun _ => gd9.out, ?_⟩)
      simp only [Act.put]
      clear GD s9 m9
      have GD := gd9
      refine E_only 9 (by kernel_rfl) (E_val 9 rfl (some 10) rfl rfl (.bool gb) _ (run_asg (.tmp 42) rfl rfl) ⟨fun _ => GD.out, ?_⟩)
      simp only [Act.put, List.setIfInBounds_toArray, List.set_cons_succ, List.set_cons_zero]
      refine E_done (by kernel_rfl) ?_ _
      exact ⟨rfl, ⟨wd.heap.size, .agg #[.bool t1, .int .i64 p1, .string s1], .agg #[.int .i64 gk, .int .i64 gm, .string gu, .int .i64 gx, .slice B40 gf.len d40]⟩, ⟨B40, d40, _, lo40, hi40, rfl, t9.out, x9.out, ⟨(by have := OR26.out; have := OR28.out; have := OR30.out; have := OR38.out; have := OR40.out; have := HW0.out; omega), (by have := OR26.out; have := OR28.out; have := OR30.out; have := OR38.out; have := OR40.out; have := HW0.out; omega), (by have := OR26.out; have := OR28.out; have := OR30.out; have := OR38.out; have := OR40.out; have := HW0.out; have := HF.out; omega)⟩, ⟨(by have := OR26.out; have := OR28.out; have := OR30.out; have := OR38.out; have := OR40.out; have := HW0.out; omega), x9.out.lt, (by have := OR26.out; have := OR28.out; have := OR30.out; have := OR38.out; have := OR40.out; have := HW0.out; omega)⟩, gb_trans GI.out GD.out⟩, by simp only [List.foldl, Act.put, List.setIfInBounds_toArray, List.set_cons_succ, List.set_cons_zero]⟩
  rintro ⟨bb42, vc42_0, vc42_1⟩ wz42 ⟨B42, d42, M42, lo42, hi42, hv42, hT42, hX42, ⟨ho42, hp42, hq42⟩, ⟨hr42, hs42, ht42⟩, hg⟩
  dsimp only at hv42 hX42 hr42 hs42 ht42
  subst hv42
  simp only [List.foldl, Act.put, List.setIfInBounds_toArray, List.set_cons_succ, List.set_cons_zero]
  obtain ⟨tp42, hu42, hv42⟩ : ∃ z, (hi42 ≤ z ∧ bb42 + 1 ≤ z) ∧ z ≤ wz42.heap.size := ⟨_, ⟨hq42, hs42⟩, Nat.le_refl _⟩
  have OR42 := hid (And.intro (And.intro ho42 hp42) (And.intro hr42 (And.intro ht42 hu42)))
  replace GW := hid (gb_trans GW.out hg)
  replace T26 := hid (T26.out.grow hg)
  replace X26 := hid (X26.out.grow hg)
  replace T28 := hid (T28.out.grow hg)
  replace X30 := hid (X30.out.grow hg)
  replace HT := hid (Nat.le_trans HT.out (hg).size)
  clear hg
  have T42 := hid hT42; have X42 := hid hX42; replace HT := hid hv42
  clear ho42 hp42 hq42 hr42 hs42 ht42 hu42 hv42 hT42 hX42
  obtain ⟨a43_0, a43_1, a43_2, a43_3, a43_4⟩ := X42.out.cells5
  have la43 := X42.out.lt
  obtain ⟨a44_0, a44_1, a44_2, a44_3, a44_4⟩ := X26.out.cells5
  have la44 := X26.out.lt
  go_wp2_with fail
  refine (eqValue_any gf (eqEntryS_any gf) gk gm gu gx B42 B26 d42 d26 _ _ _ T42.out.1.1 T26.out.1.1 (by omega)).mono ?_
  rintro e wz45 ⟨rfl, hg⟩
  clear a43_0 a43_1 a43_2 a43_3 a43_4 la43 a44_0 a44_1 a44_2 a44_3 a44_4 la44
  replace GW := hid (gb_trans GW.out hg)
  replace T26 := hid (T26.out.grow hg)
  replace X26 := hid (X26.out.grow hg)
  replace T28 := hid (T28.out.grow hg)
  replace X30 := hid (X30.out.grow hg)
  replace T42 := hid (T42.out.grow hg)
  replace X42 := hid (X42.out.grow hg)
  replace HT := hid (Nat.le_trans HT.out (hg).size)
  clear hg
  go_wp2_with fail
  refine wp_region_E 999 5 rfl (by kernel_rfl) (fun wd w' => wd.grownBy w' none) fun wd gd => ?_
  have g0 : wd.grownBy wd none := gb_refl _ _
  have GI := hid gd
  replace GW := hid (gb_trans GW.out gd)
  replace T26 := hid (T26.out.grow gd)
  replace X26 := hid (X26.out.grow gd)
  replace T28 := hid (T28.out.grow gd)
  replace X30 := hid (X30.out.grow gd)
  replace T42 := hid (T42.out.grow gd)
  replace X42 := hid (X42.out.grow gd)
  replace HT := hid (Nat.le_trans HT.out (gd).size)
  clear gd
  have GD := hid g0
  refine E_load 0 rfl (some 52) rfl (by kernel_rfl) (by kernel_rfl) (by kernel_rfl) (by kernel_rfl) (by decide) (fun _ _ _ _ h => h) rfl 31 (.tmp 8) rfl (wz29.heap.size) 0 rfl _ (fun w' hw => (X30.out.grow hw).rangeV) Try.underlying31 rfl Try.infoV g0 ?_
  simp only [Act.put, List.setIfInBounds_toArray, List.set_cons_succ, List.set_cons_zero]
  refine E_load 1 rfl (some 53) rfl (by kernel_rfl) (by kernel_rfl) (by kernel_rfl) (by kernel_rfl) (by decide) (fun _ _ _ _ h => h) rfl 24 (.tmp 2) rfl (w.heap.size) 0 rfl _ (fun w' hw => ((HB0.out.grow GW.out).grow hw).rangeV) Try.underlying24 rfl Try.infoVL g0 ?_
  simp only [Act.put, List.setIfInBounds_toArray, List.set_cons_succ, List.set_cons_zero]
  refine E_only 2 (by kernel_rfl) ?_
  refine E_call 2 rfl (some 54) rfl rfl 11 _ (run_call1 _ (by kernel_rfl) (.tmp 53) _ (.agg #[.int .i64 k0, .int .i64 m0, .string u0, .int .i64 x0, .slice A0 f0.len c0]) rfl rfl) (toValue_any f0 (toEntryS_any f0) k0 m0 u0 x0 A0 c0 _ _ (RP0.out.grow GW.out) HO0.out.1 (by omega)) ?_
  rintro e wz47 ⟨B46, d46, M46, rfl, ha46, ho46, hg⟩
  obtain ⟨lo46, hi46, hT46, hlo46, hlh46, hhi46⟩ := own_tr ho46 hg HT.out
  have OR46 := hid (And.intro hlo46 hlh46); have HA46 := hid ha46.2
  replace GW := hid (gb_trans GW.out hg)
  replace T26 := hid (T26.out.grow hg)
  replace X26 := hid (X26.out.grow hg)
  replace T28 := hid (T28.out.grow hg)
  replace X30 := hid (X30.out.grow hg)
  replace T42 := hid (T42.out.grow hg)
  replace X42 := hid (X42.out.grow hg)
  replace HT := hid (Nat.le_trans HT.out (hg).size)
  replace GD := hid (gb_trans GD.out hg)
  clear hg
  have T46 := hid hT46; replace HT := hid hhi46
  clear ho46 ha46 hT46 hlo46 hlh46 hhi46
  refine ⟨_, rfl, fun _ => GD.out, ?_⟩
  simp only [Act.put, List.setIfInBounds_toArray, List.set_cons_succ, List.set_cons_zero]
  refine E_only 3 (by kernel_rfl) ?_
  refine E_call 3 rfl (some 55) rfl rfl 14 _ (run_call2 _ (by kernel_rfl) (.tmp 52) (.tmp 54) _ (.agg #[.int .i64 k0, .int .i64 m0, .string u0, .int .i64 x0, .slice B28 f0.len d28]) (.agg #[.int .i64 k0, .int .i64 m0, .string u0, .int .i64 x0, .slice B46 f0.len d46]) rfl rfl rfl) (eqValue_any f0 (eqEntryS_any f0) k0 m0 u0 x0 B28 B46 d28 d46 _ _ _ T28.out.1.1 T46.out.1.1 (by omega)) ?_
  rintro e wz48 ⟨rfl, hg⟩
  replace GW := hid (gb_trans GW.out hg)
  replace T26 := hid (T26.out.grow hg)
  replace X26 := hid (X26.out.grow hg)
  replace T28 := hid (T28.out.grow hg)
  replace X30 := hid (X30.out.grow hg)
  replace T42 := hid (T42.out.grow hg)
  replace X42 := hid (X42.out.grow hg)
  replace T46 := hid (T46.out.grow hg)
  replace HT := hid (Nat.le_trans HT.out (hg).size)
  replace GD := hid (gb_trans GD.out hg)
  clear hg
  refine ⟨_, rfl, fun _ => GD.out, ?_⟩
  simp only [Act.put, List.setIfInBounds_toArray, List.set_cons_succ, List.set_cons_zero]
  refine E_only 4 (by kernel_rfl) (E_val 4 rfl (some 56) rfl rfl (.bool false) _ (run_not 4 55 rfl (b := true) rfl) ⟨fun _ => GD.out, ?_⟩)
  simp only [Act.put, List.setIfInBounds_toArray, List.set_cons_succ, List.set_cons_zero]
  refine E_done (by kernel_rfl) ?_ _
  replace GW := GW
  clear GD GI g0
  obtain ⟨a49_0, a49_1, a49_2, a49_3, a49_4⟩ := X30.out.cells5
  have la49 := X30.out.lt
  go_wp2_with fail
  refine (markValue_any f0 _ k0 m0 u0 x0 B28 d28 _ lo28 1 T28.out.1 (by omega) (by omega)).mono ?_
  rintro e wz51 ⟨rfl, hT, hM⟩
  clear a49_0 a49_1 a49_2 a49_3 a49_4 la49
  obtain ⟨z50, hz50⟩ : ∃ z : Nat, 1 + 7 * f0.size = z := ⟨_, rfl⟩
  have HZ50 := hid hz50
  have hzb50 : z50 ≤ 33554432 ∧ 1 ≤ z50 := by omega
  rw [hz50]
  clear hz50
  have hm := MkI.of hM T28.out.bounds
  replace GW := hid (gb_mk GW.out hm (by have := OR26.out; have := OR28.out; have := OR30.out; have := OR42.out; have := OR46.out; have := HW0.out; omega))
  replace T26 := hid (T26.out.mk' hm (by have := OR26.out; have := OR28.out; have := OR30.out; have := OR42.out; have := OR46.out; have := HW0.out; omega))
  replace X26 := hid (X26.out.mk' hm (by have := OR26.out; have := OR28.out; have := OR30.out; have := OR42.out; have := OR46.out; have := HW0.out; omega))
  replace X30 := hid (X30.out.mk' hm (by have := OR26.out; have := OR28.out; have := OR30.out; have := OR42.out; have := OR46.out; have := HW0.out; omega))
  replace T42 := hid (T42.out.mk' hm (by have := OR26.out; have := OR28.out; have := OR30.out; have := OR42.out; have := OR46.out; have := HW0.out; omega))
  replace X42 := hid (X42.out.mk' hm (by have := OR26.out; have := OR28.out; have := OR30.out; have := OR42.out; have := OR46.out; have := HW0.out; omega))
  replace T46 := hid (T46.out.mk' hm (by have := OR26.out; have := OR28.out; have := OR30.out; have := OR42.out; have := OR46.out; have := HW0.out; omega))
  replace T28 := hid (show Tr _ 61 lo28 hi28 (f0.mark 1) B28 _ from ⟨hT, T28.out.2⟩)
  replace HT := hid (Nat.le_trans HT.out hm.size)
  clear hm hM hT
  obtain ⟨a52_0, a52_1, a52_2, a52_3, a52_4⟩ := X42.out.cells5
  have la52 := X42.out.lt
  obtain ⟨a53_0, a53_1, a53_2, a53_3, a53_4⟩ := X26.out.cells5
  have la53 := X26.out.lt
  go_wp2_with fail
  refine (eqValue_any gf (eqEntryS_any gf) gk gm gu gx B42 B26 d42 d26 _ _ _ T42.out.1.1 T26.out.1.1 (by omega)).mono ?_
  rintro e wz54 ⟨rfl, hg⟩
  clear a52_0 a52_1 a52_2 a52_3 a52_4 la52 a53_0 a53_1 a53_2 a53_3 a53_4 la53
  replace GW := hid (gb_trans GW.out hg)
  replace T26 := hid (T26.out.grow hg)
  replace X26 := hid (X26.out.grow hg)
  replace T28 := hid (T28.out.grow hg)
  replace X30 := hid (X30.out.grow hg)
  replace T42 := hid (T42.out.grow hg)
  replace X42 := hid (X42.out.grow hg)
  replace T46 := hid (T46.out.grow hg)
  replace HT := hid (Nat.le_trans HT.out (hg).size)
  clear hg
  obtain ⟨a55_0, a55_1, a55_2, a55_3, a55_4⟩ := X42.out.cells5
  have la55 := X42.out.lt
  go_wp2_with fail
  refine (markValue_any gf _ gk gm gu gx B42 d42 _ lo42 1 T42.out.1 (by omega) (by omega)).mono ?_
  rintro e wz57 ⟨rfl, hT, hM⟩
  clear a55_0 a55_1 a55_2 a55_3 a55_4 la55
  obtain ⟨z56, hz56⟩ : ∃ z : Nat, 1 + 7 * gf.size = z := ⟨_, rfl⟩
  have HZ56 := hid hz56
  have hzb56 : z56 ≤ 33554432 ∧ 1 ≤ z56 := by omega
  rw [hz56]
  clear hz56
  have hm := MkI.of hM T42.out.bounds
  replace GW := hid (gb_mk GW.out hm (by have := OR26.out; have := OR28.out; have := OR30.out; have := OR42.out; have := OR46.out; have := HW0.out; omega))
  replace T26 := hid (T26.out.mk' hm (by have := OR26.out; have := OR28.out; have := OR30.out; have := OR42.out; have := OR46.out; have := HW0.out; omega))
  replace X26 := hid (X26.out.mk' hm (by have := OR26.out; have := OR28.out; have := OR30.out; have := OR42.out; have := OR46.out; have := HW0.out; omega))
  replace T28 := hid (T28.out.mk' hm (by have := OR26.out; have := OR28.out; have := OR30.out; have := OR42.out; have := OR46.out; have := HW0.out; omega))
  replace X30 := hid (X30.out.mk' hm (by have := OR26.out; have := OR28.out; have := OR30.out; have := OR42.out; have := OR46.out; have := HW0.out; omega))
  replace X42 := hid (X42.out.mk' hm (by have := OR26.out; have := OR28.out; have := OR30.out; have := OR42.out; have := OR46.out; have := HW0.out; omega))
  replace T46 := hid (T46.out.mk' hm (by have := OR26.out; have := OR28.out; have := OR30.out; have := OR42.out; have := OR46.out; have := HW0.out; omega))
  replace T42 := hid (show Tr _ 61 lo42 hi42 (gf.mark 1) B42 _ from ⟨hT, T42.out.2⟩)
  replace HT := hid (Nat.le_trans HT.out hm.size)
  clear hm hM hT
  obtain ⟨a58_0, a58_1, a58_2, a58_3, a58_4⟩ := X42.out.cells5
  have la58 := X42.out.lt
  go_wp2_with fail
  refine (heldValue_any gf _ gk gm gu gx B42 d42 _ 1 (by have h := T42.out.1.1; rw [Forest.len_mark] at h; exact h) (by omega) (by omega)).mono ?_
  rintro e wz59 ⟨rfl, hg⟩
  clear a58_0 a58_1 a58_2 a58_3 a58_4 la58
  rw [HZ56.out]
  replace GW := hid (gb_trans GW.out hg)
  replace T26 := hid (T26.out.grow hg)
  replace X26 := hid (X26.out.grow hg)
  replace T28 := hid (T28.out.grow hg)
  replace X30 := hid (X30.out.grow hg)
  replace T42 := hid (T42.out.grow hg)
  replace X42 := hid (X42.out.grow hg)
  replace T46 := hid (T46.out.grow hg)
  replace HT := hid (Nat.le_trans HT.out (hg).size)
  clear hg
  go_wp2_with fail
  refine wp_region_puts (X := Nat × Value × Value × Value) (fun x w' => ∃ A' c' L' lo hi, x.2.2.2 = .agg #[.int .i64 gk, .int .i64 gm, .string gu, .int .i64 gx, .slice A' gf.len c'] ∧ Tr w' 61 lo hi gf A' L' ∧ HoldsT w' x.1 #[.int .i64 gk, .int .i64 gm, .string gu, .int .i64 gx, .slice A' gf.len c'] 31 ∧ (hi46 ≤ lo ∧ lo ≤ hi ∧ hi ≤ w'.heap.size) ∧ (hi46 ≤ x.1 ∧ x.1 + 1 ≤ w'.heap.size ∧ (x.1 + 1 ≤ lo ∨ hi ≤ x.1)) ∧ wz59.grownBy w' none) (fun x => [(some 85, .agg #[.int .i64 k0, .int .i64 m0, .string u0, .int .i64 x0, .slice A0 f0.len c0]), (some 86, x.2.1), (some 87, .agg #[.bool t1, .int .i64 p1, .string s1]), (some 88, x.2.2.1), (some 89, .tuple #[x.2.2.2, .bool gb]), (some 84, .tuple #[x.2.2.2, .bool gb]), (some 90, x.2.2.2), (some 91, .bool gb), (some 14, .pointer (some ⟨x.1, 0, none⟩)), (some 15, .bool gb)]) ?_ ?_
  · skip
    refine wp_region_E 999 11 rfl (by kernel_rfl) (fun wd w' => wd.grownBy w' none) fun wd gd => ?_
    have g0 : wd.grownBy wd none := gb_refl _ _
    have GI := hid gd
    replace GW := hid (gb_trans GW.out gd)
    replace T26 := hid (T26.out.grow gd)
    replace X26 := hid (X26.out.grow gd)
    replace T28 := hid (T28.out.grow gd)
    replace X30 := hid (X30.out.grow gd)
    replace T42 := hid (T42.out.grow gd)
    replace X42 := hid (X42.out.grow gd)
    replace T46 := hid (T46.out.grow gd)
    replace HT := hid (Nat.le_trans HT.out (gd).size)
    clear gd
    have GD := hid g0
    refine E_load 0 rfl (some 85) rfl (by kernel_rfl) (by kernel_rfl) (by kernel_rfl) (by kernel_rfl) (by decide) (fun _ _ _ _ h => by cases h.1) rfl 24 (.tmp 2) rfl (w.heap.size) 0 rfl _ (fun w' hw => ((HB0.out.grow GW.out).grow hw).rangeV) Try.underlying24 rfl Try.infoVL g0 ?_
    simp only [Act.put, List.setIfInBounds_toArray, List.set_cons_succ, List.set_cons_zero]
    refine E_load 2 rfl (some 87) rfl (by kernel_rfl) (by kernel_rfl) (by kernel_rfl) (by kernel_rfl) (by decide) (fun _ _ _ _ h => by cases h.1) rfl 26 (.tmp 3) rfl (w.heap.size + 1) 0 rfl _ (fun w' hw => ((HB1.out.grow GW.out).grow hw).rangeV) Try.underlying26 rfl Try.infoKL g0 ?_
    simp only [Act.put, List.setIfInBounds_toArray, List.set_cons_succ, List.set_cons_zero]
    refine E_two 1 8 (by kernel_rfl) ?_ ?_
    · skip
      refine E_call 1 rfl (some 86) rfl rfl 11 _ (run_call1 _ (by kernel_rfl) (.tmp 85) _ (.agg #[.int .i64 k0, .int .i64 m0, .string u0, .int .i64 x0, .slice A0 f0.len c0]) rfl rfl) (toValue_any f0 (toEntryS_any f0) k0 m0 u0 x0 A0 c0 _ _ (RP0.out.grow GW.out) HO0.out.1 (by omega)) ?_
      rintro e wz61 ⟨B60, d60, M60, rfl, ha60, ho60, hg⟩
      obtain ⟨lo60, hi60, hT60, hlo60, hlh60, hhi60⟩ := own_tr ho60 hg HT.out
      have OR60 := hid (And.intro hlo60 hlh60); have HA60 := hid ha60.2
      replace GW := hid (gb_trans GW.out hg)
      replace T26 := hid (T26.out.grow hg)
      replace X26 := hid (X26.out.grow hg)
      replace T28 := hid (T28.out.grow hg)
      replace X30 := hid (X30.out.grow hg)
      replace T42 := hid (T42.out.grow hg)
      replace X42 := hid (X42.out.grow hg)
      replace T46 := hid (T46.out.grow hg)
      replace HT := hid (Nat.le_trans HT.out (hg).size)
      replace GD := hid (gb_trans GD.out hg)
      clear hg
      have T60 := hid hT60; replace HT := hid hhi60
      clear ho60 ha60 hT60 hlo60 hlh60 hhi60
      refine ⟨_, rfl, fun _ => GD.out, ?_⟩
      simp only [Act.put, List.setIfInBounds_toArray, List.set_cons_succ, List.set_cons_zero]
      refine E_two 3 8 (by kernel_rfl) ?_ ?_
      · skip
        refine E_call 3 rfl (some 88) rfl rfl 12 _ (run_call1 _ (by kernel_rfl) (.tmp 87) _ (.agg #[.bool t1, .int .i64 p1, .string s1]) rfl rfl) (toKey_any t1 p1 s1 _) ?_
        rintro e wz62 ⟨rfl, hg⟩
        replace GW := hid (gb_trans GW.out hg)
        replace T26 := hid (T26.out.grow hg)
        replace X26 := hid (X26.out.grow hg)
        replace T28 := hid (T28.out.grow hg)
        replace X30 := hid (X30.out.grow hg)
        replace T42 := hid (T42.out.grow hg)
        replace X42 := hid (X42.out.grow hg)
        replace T46 := hid (T46.out.grow hg)
        replace T60 := hid (T60.out.grow hg)
        replace HT := hid (Nat.le_trans HT.out (hg).size)
        replace GD := hid (gb_trans GD.out hg)
        clear hg
        refine ⟨_, rfl, fun _ => GD.out, ?_⟩
        simp only [Act.put, List.setIfInBounds_toArray, List.set_cons_succ, List.set_cons_zero]
        refine E_two 4 8 (by kernel_rfl) ?_ ?_
        · skip
          refine E_call 4 rfl (some 89) rfl rfl 18 _ (run_call2 _ (by kernel_rfl) (.tmp 86) (.tmp 88) _ (.agg #[.int .i64 k0, .int .i64 m0, .string u0, .int .i64 x0, .slice B60 f0.len d60]) (.agg #[.bool t1, .int .i64 p1, .string s1]) rfl rfl rfl) (implGet_any f0 t1 p1 s1 _ k0 m0 u0 x0 B60 d60 _ gk gm gu gx gf gb HGI.out T60.out.1.1 (by omega) (by omega)) ?_
          rintro e wz64 ⟨B63, d63, M63, rfl, _, hR, hg⟩
          obtain ⟨lo63, hi63, hT63, hlo63, hlh63, hhi63⟩ := own_tr hR.own hg HT.out
          have OR63 := hid (And.intro hlo63 hlh63)
          replace GW := hid (gb_trans GW.out hg)
          replace T26 := hid (T26.out.grow hg)
          replace X26 := hid (X26.out.grow hg)
          replace T28 := hid (T28.out.grow hg)
          replace X30 := hid (X30.out.grow hg)
          replace T42 := hid (T42.out.grow hg)
          replace X42 := hid (X42.out.grow hg)
          replace T46 := hid (T46.out.grow hg)
          replace T60 := hid (T60.out.grow hg)
          replace HT := hid (Nat.le_trans HT.out (hg).size)
          replace GD := hid (gb_trans GD.out hg)
          clear hg
          have T63 := hid hT63; replace HT := hid hhi63
          clear hR hT63 hlo63 hlh63 hhi63
          refine ⟨_, rfl, fun _ => GD.out, ?_⟩
          simp only [Act.put, List.setIfInBounds_toArray, List.set_cons_succ, List.set_cons_zero]
          refine E_take 5 rfl (some 84) rfl (by kernel_rfl) (by kernel_rfl) (by kernel_rfl) (by kernel_rfl) (by decide) (fun _ _ _ _ h => by cases h.1) rfl (.tuple #[.agg #[.int .i64 gk, .int .i64 gm, .string gu, .int .i64 gx, .slice B63 gf.len d63], .bool gb]) (fun w' hw => run_mov (.tmp 89) rfl rfl) GD.out ?_
          simp only [Act.put, List.setIfInBounds_toArray, List.set_cons_succ, List.set_cons_zero]
          refine E_take 6 rfl (some 90) rfl (by kernel_rfl) (by kernel_rfl) (by kernel_rfl) (by kernel_rfl) (by decide) (fun _ _ _ _ h => by cases h.1) rfl (.agg #[.int .i64 gk, .int .i64 gm, .string gu, .int .i64 gx, .slice B63 gf.len d63]) (fun w' hw => run_ext (.tmp 84) 0 rfl rfl rfl) GD.out ?_
          simp only [Act.put, List.setIfInBounds_toArray, List.set_cons_succ, List.set_cons_zero]
          refine E_take 7 rfl (some 91) rfl (by kernel_rfl) (by kernel_rfl) (by kernel_rfl) (by kernel_rfl) (by decide) (fun _ _ _ _ h => by cases h.1) rfl (.bool gb) (fun w' hw => run_ext (.tmp 84) 1 rfl rfl rfl) GD.out ?_
          simp only [Act.put, List.setIfInBounds_toArray, List.set_cons_succ, List.set_cons_zero]
          refine E_only 8 (by kernel_rfl) ?_
          have hge65 : wd.heap.size ≤ wz64.heap.size := GD.out.size
          have HGE65 := hid hge65
          clear hge65
          have X65 := hid (HoldsT.new wz64 #[.int .i64 0, .int .i64 0, .string { data := #[] }, .int .i64 0, .slice none 0 0] 31)
          have OR65 : Hid (hi63 ≤ wz64.heap.size) := HT
          replace GW := hid (gb_alloc GW.out (.cells #[.int .i64 0, .int .i64 0, .string { data := #[] }, .int .i64 0, .slice none 0 0] 31))
          replace T26 := hid (T26.out.grow (gb_alloc (gb_refl _ none) (.cells #[.int .i64 0, .int .i64 0, .string { data := #[] }, .int .i64 0, .slice none 0 0] 31)))
          replace X26 := hid (X26.out.grow (gb_alloc (gb_refl _ none) (.cells #[.int .i64 0, .int .i64 0, .string { data := #[] }, .int .i64 0, .slice none 0 0] 31)))
          replace T28 := hid (T28.out.grow (gb_alloc (gb_refl _ none) (.cells #[.int .i64 0, .int .i64 0, .string { data := #[] }, .int .i64 0, .slice none 0 0] 31)))
          replace X30 := hid (X30.out.grow (gb_alloc (gb_refl _ none) (.cells #[.int .i64 0, .int .i64 0, .string { data := #[] }, .int .i64 0, .slice none 0 0] 31)))
          replace T42 := hid (T42.out.grow (gb_alloc (gb_refl _ none) (.cells #[.int .i64 0, .int .i64 0, .string { data := #[] }, .int .i64 0, .slice none 0 0] 31)))
          replace X42 := hid (X42.out.grow (gb_alloc (gb_refl _ none) (.cells #[.int .i64 0, .int .i64 0, .string { data := #[] }, .int .i64 0, .slice none 0 0] 31)))
          replace T46 := hid (T46.out.grow (gb_alloc (gb_refl _ none) (.cells #[.int .i64 0, .int .i64 0, .string { data := #[] }, .int .i64 0, .slice none 0 0] 31)))
          replace T60 := hid (T60.out.grow (gb_alloc (gb_refl _ none) (.cells #[.int .i64 0, .int .i64 0, .string { data := #[] }, .int .i64 0, .slice none 0 0] 31)))
          replace T63 := hid (T63.out.grow (gb_alloc (gb_refl _ none) (.cells #[.int .i64 0, .int .i64 0, .string { data := #[] }, .int .i64 0, .slice none 0 0] 31)))
          replace GD := hid (gb_alloc GD.out (.cells #[.int .i64 0, .int .i64 0, .string { data := #[] }, .int .i64 0, .slice none 0 0] 31))
          refine E_val 8 rfl (some 14) rfl rfl (.pointer (some ⟨wz64.heap.size, 0, none⟩)) (wz64.alloc (.cells #[.int .i64 0, .int .i64 0, .string { data := #[] }, .int .i64 0, .slice none 0 0] 31)) (by go_simp) ⟨fun _ => GD.out, ?_⟩
          simp only [Act.put, List.setIfInBounds_toArray, List.set_cons_succ, List.set_cons_zero]
          replace HT := hid (show (wz64.heap.size + 1) ≤ (wz64.alloc (.cells #[.int .i64 0, .int .i64 0, .string { data := #[] }, .int .i64 0, .slice none 0 0] 31)).heap.size by simp)
          have s9 := gb_setCells (r := some (wz64.heap.size)) (.inr rfl) [.int .i64 gk, .int .i64 gm, .string gu, .int .i64 gx, .slice B63 gf.len d63] 0 (gb_refl (wz64.alloc (.cells #[.int .i64 0, .int .i64 0, .string { data := #[] }, .int .i64 0, .slice none 0 0] 31)) (some (wz64.heap.size)))
          have x9 := hid (show HoldsT ((wz64.alloc (.cells #[.int .i64 0, .int .i64 0, .string { data := #[] }, .int .i64 0, .slice none 0 0] 31)).setCells (wz64.heap.size) 0 [.int .i64 gk, .int .i64 gm, .string gu, .int .i64 gx, .slice B63 gf.len d63]) (wz64.heap.size) #[.int .i64 gk, .int .i64 gm, .string gu, .int .i64 gx, .slice B63 gf.len d63] 31 by have h := X65.out.setCells [.int .i64 gk, .int .i64 gm, .string gu, .int .i64 gx, .slice B63 gf.len d63] 0; simpa [setArr] using h)
          have gd9 := hid (gb_setCells (r := none) (.inl HGE65.out) [.int .i64 gk, .int .i64 gm, .string gu, .int .i64 gx, .slice B63 gf.len d63] 0 GD.out)
          have m9 : MkI (wz64.alloc (.cells #[.int .i64 0, .int .i64 0, .string { data := #[] }, .int .i64 0, .slice none 0 0] 31)) ((wz64.alloc (.cells #[.int .i64 0, .int .i64 0, .string { data := #[] }, .int .i64 0, .slice none 0 0] 31)).setCells (wz64.heap.size) 0 [.int .i64 gk, .int .i64 gm, .string gu, .int .i64 gx, .slice B63 gf.len d63]) (wz64.heap.size) (wz64.heap.size + 1) := ⟨s9.os, s9.tape, s9.output, s9.size, fun k hk hb => s9.block k hk (by intro e; injection e; omega)⟩
          have t9 := hid (T63.out.mk' m9 (by have := OR26.out; have := OR28.out; have := OR30.out; have := OR42.out; have := OR46.out; have := OR60.out; have := OR63.out; have := OR65.out; have := HW0.out; omega))
          have HF := hid (Nat.le_trans HT.out m9.size)
          refine E_only 9 (by kernel_rfl) (E_store 9 rfl none rfl rfl 31 (.tmp 14) (.tmp 90) rfl (wz64.heap.size) 0 [.int .i64 gk, .int .i64 gm, .string gu, .int .i64 gx, .slice B63 gf.len d63] rfl rfl X65.out (by simp) Try.infoV rfl ⟨fun _ => gd9.out, ?_⟩)
          simp only [Act.put]
          clear GD s9 m9
          have GD := gd9
          refine E_only 10 (by kernel_rfl) (E_val 10 rfl (some 15) rfl rfl (.bool gb) _ (run_asg (.tmp 91) rfl rfl) ⟨fun _ => GD.out, ?_⟩)
          simp only [Act.put, List.setIfInBounds_toArray, List.set_cons_succ, List.set_cons_zero]
          refine E_done (by kernel_rfl) ?_ _
          exact ⟨rfl, ⟨wz64.heap.size, .agg #[.int .i64 k0, .int .i64 m0, .string u0, .int .i64 x0, .slice B60 f0.len d60], .agg #[.bool t1, .int .i64 p1, .string s1], .agg #[.int .i64 gk, .int .i64 gm, .string gu, .int .i64 gx, .slice B63 gf.len d63]⟩, ⟨B63, d63, _, lo63, hi63, rfl, t9.out, x9.out, ⟨(by have := OR26.out; have := OR28.out; have := OR30.out; have := OR42.out; have := OR46.out; have := OR60.out; have := OR63.out; have := OR65.out; have := HW0.out; omega), (by have := OR26.out; have := OR28.out; have := OR30.out; have := OR42.out; have := OR46.out; have := OR60.out; have := OR63.out; have := OR65.out; have := HW0.out; omega), (by have := OR26.out; have := OR28.out; have := OR30.out; have := OR42.out; have := OR46.out; have := OR60.out; have := OR63.out; have := OR65.out; have := HW0.out; have := HF.out; omega)⟩, ⟨(by have := OR26.out; have := OR28.out; have := OR30.out; have := OR42.out; have := OR46.out; have := OR60.out; have := OR63.out; have := OR65.out; have := HW0.out; omega), x9.out.lt, (by have := OR26.out; have := OR28.out; have := OR30.out; have := OR42.out; have := OR46.out; have := OR60.out; have := OR63.out; have := OR65.out; have := HW0.out; omega)⟩, gb_trans GI.out GD.out⟩, by simp only [List.foldl, Act.put, List.setIfInBounds_toArray, List.set_cons_succ, List.set_cons_zero]⟩
        · skip
          have hge66 : wd.heap.size ≤ wz62.heap.size := GD.out.size
          have HGE66 := hid hge66
          clear hge66
          have X66 := hid (HoldsT.new wz62 #[.int .i64 0, .int .i64 0, .string { data := #[] }, .int .i64 0, .slice none 0 0] 31)
          have OR66 : Hid (hi60 ≤ wz62.heap.size) := HT
          replace GW := hid (gb_alloc GW.out (.cells #[.int .i64 0, .int .i64 0, .string { data := #[] }, .int .i64 0, .slice none 0 0] 31))
          replace T26 := hid (T26.out.grow (gb_alloc (gb_refl _ none) (.cells #[.int .i64 0, .int .i64 0, .string { data := #[] }, .int .i64 0, .slice none 0 0] 31)))
          replace X26 := hid (X26.out.grow (gb_alloc (gb_refl _ none) (.cells #[.int .i64 0, .int .i64 0, .string { data := #[] }, .int .i64 0, .slice none 0 0] 31)))
          replace T28 := hid (T28.out.grow (gb_alloc (gb_refl _ none) (.cells #[.int .i64 0, .int .i64 0, .string { data := #[] }, .int .i64 0, .slice none 0 0] 31)))
          replace X30 := hid (X30.out.grow (gb_alloc (gb_refl _ none) (.cells #[.int .i64 0, .int .i64 0, .string { data := #[] }, .int .i64 0, .slice none 0 0] 31)))
          replace T42 := hid (T42.out.grow (gb_alloc (gb_refl _ none) (.cells #[.int .i64 0, .int .i64 0, .string { data := #[] }, .int .i64 0, .slice none 0 0] 31)))
          replace X42 := hid (X42.out.grow (gb_alloc (gb_refl _ none) (.cells #[.int .i64 0, .int .i64 0, .string { data := #[] }, .int .i64 0, .slice none 0 0] 31)))
          replace T46 := hid (T46.out.grow (gb_alloc (gb_refl _ none) (.cells #[.int .i64 0, .int .i64 0, .string { data := #[] }, .int .i64 0, .slice none 0 0] 31)))
          replace T60 := hid (T60.out.grow (gb_alloc (gb_refl _ none) (.cells #[.int .i64 0, .int .i64 0, .string { data := #[] }, .int .i64 0, .slice none 0 0] 31)))
          replace GD := hid (gb_alloc GD.out (.cells #[.int .i64 0, .int .i64 0, .string { data := #[] }, .int .i64 0, .slice none 0 0] 31))
          refine E_val 8 rfl (some 14) rfl rfl (.pointer (some ⟨wz62.heap.size, 0, none⟩)) (wz62.alloc (.cells #[.int .i64 0, .int .i64 0, .string { data := #[] }, .int .i64 0, .slice none 0 0] 31)) (by go_simp) ⟨fun _ => GD.out, ?_⟩
          simp only [Act.put, List.setIfInBounds_toArray, List.set_cons_succ, List.set_cons_zero]
          replace HT := hid (show (wz62.heap.size + 1) ≤ (wz62.alloc (.cells #[.int .i64 0, .int .i64 0, .string { data := #[] }, .int .i64 0, .slice none 0 0] 31)).heap.size by simp)
          refine E_only 4 (by kernel_rfl) ?_
          refine E_call 4 rfl (some 89) rfl rfl 18 _ (run_call2 _ (by kernel_rfl) (.tmp 86) (.tmp 88) _ (.agg #[.int .i64 k0, .int .i64 m0, .string u0, .int .i64 x0, .slice B60 f0.len d60]) (.agg #[.bool t1, .int .i64 p1, .string s1]) rfl rfl rfl) (implGet_any f0 t1 p1 s1 _ k0 m0 u0 x0 B60 d60 _ gk gm gu gx gf gb HGI.out T60.out.1.1 (by omega) (by omega)) ?_
          rintro e wz68 ⟨B67, d67, M67, rfl, _, hR, hg⟩
          obtain ⟨lo67, hi67, hT67, hlo67, hlh67, hhi67⟩ := own_tr hR.own hg X66.out.lt
          have OR67 := hid (And.intro hlo67 hlh67)
          replace GW := hid (gb_trans GW.out hg)
          replace T26 := hid (T26.out.grow hg)
          replace X26 := hid (X26.out.grow hg)
          replace T28 := hid (T28.out.grow hg)
          replace X30 := hid (X30.out.grow hg)
          replace T42 := hid (T42.out.grow hg)
          replace X42 := hid (X42.out.grow hg)
          replace T46 := hid (T46.out.grow hg)
          replace T60 := hid (T60.out.grow hg)
          replace X66 := hid (X66.out.grow hg)
          replace HT := hid (Nat.le_trans HT.out (hg).size)
          replace GD := hid (gb_trans GD.out hg)
          clear hg
          have T67 := hid hT67; replace HT := hid hhi67
          clear hR hT67 hlo67 hlh67 hhi67
          refine ⟨_, rfl, fun _ => GD.out, ?_⟩
          simp only [Act.put, List.setIfInBounds_toArray, List.set_cons_succ, List.set_cons_zero]
          refine E_take 5 rfl (some 84) rfl (by kernel_rfl) (by kernel_rfl) (by kernel_rfl) (by kernel_rfl) (by decide) (fun _ _ _ _ h => by cases h.1) rfl (.tuple #[.agg #[.int .i64 gk, .int .i64 gm, .string gu, .int .i64 gx, .slice B67 gf.len d67], .bool gb]) (fun w' hw => run_mov (.tmp 89) rfl rfl) GD.out ?_
          simp only [Act.put, List.setIfInBounds_toArray, List.set_cons_succ, List.set_cons_zero]
          refine E_take 6 rfl (some 90) rfl (by kernel_rfl) (by kernel_rfl) (by kernel_rfl) (by kernel_rfl) (by decide) (fun _ _ _ _ h => by cases h.1) rfl (.agg #[.int .i64 gk, .int .i64 gm, .string gu, .int .i64 gx, .slice B67 gf.len d67]) (fun w' hw => run_ext (.tmp 84) 0 rfl rfl rfl) GD.out ?_
          simp only [Act.put, List.setIfInBounds_toArray, List.set_cons_succ, List.set_cons_zero]
          refine E_take 7 rfl (some 91) rfl (by kernel_rfl) (by kernel_rfl) (by kernel_rfl) (by kernel_rfl) (by decide) (fun _ _ _ _ h => by cases h.1) rfl (.bool gb) (fun w' hw => run_ext (.tmp 84) 1 rfl rfl rfl) GD.out ?_
          simp only [Act.put, List.setIfInBounds_toArray, List.set_cons_succ, List.set_cons_zero]
          have s9 := gb_setCells (r := some (wz62.heap.size)) (.inr rfl) [.int .i64 gk, .int .i64 gm, .string gu, .int .i64 gx, .slice B67 gf.len d67] 0 (gb_refl wz68 (some (wz62.heap.size)))
          have x9 := hid (show HoldsT (wz68.setCells (wz62.heap.size) 0 [.int .i64 gk, .int .i64 gm, .string gu, .int .i64 gx, .slice B67 gf.len d67]) (wz62.heap.size) #[.int .i64 gk, .int .i64 gm, .string gu, .int .i64 gx, .slice B67 gf.len d67] 31 by have h := X66.out.setCells [.int .i64 gk, .int .i64 gm, .string gu, .int .i64 gx, .slice B67 gf.len d67] 0; simpa [setArr] using h)
          have gd9 := hid (gb_setCells (r := none) (.inl HGE66.out) [.int .i64 gk, .int .i64 gm, .string gu, .int .i64 gx, .slice B67 gf.len d67] 0 GD.out)
          have m9 : MkI wz68 (wz68.setCells (wz62.heap.size) 0 [.int .i64 gk, .int .i64 gm, .string gu, .int .i64 gx, .slice B67 gf.len d67]) (wz62.heap.size) (wz62.heap.size + 1) := ⟨s9.os, s9.tape, s9.output, s9.size, fun k hk hb => s9.block k hk (by intro e; injection e; omega)⟩
          have t9 := hid (T67.out.mk' m9 (by have := OR26.out; have := OR28.out; have := OR30.out; have := OR42.out; have := OR46.out; have := OR60.out; have := OR66.out; have := OR67.out; have := HW0.out; omega))
          have HF := hid (Nat.le_trans HT.out m9.size)
          refine E_only 9 (by kernel_rfl) (E_store 9 rfl none rfl rfl 31 (.tmp 14) (.tmp 90) rfl (wz62.heap.size) 0 [.int .i64 gk, .int .i64 gm, .string gu, .int .i64 gx, .slice B67 gf.len d67] rfl rfl X66.out (by simp) Try.infoV rfl ⟨fun _ => gd9.out, ?_⟩)
          simp only [Act.put]
          clear GD s9 m9
          have GD := gd9
          refine E_only 10 (by kernel_rfl) (E_val 10 rfl (some 15) rfl rfl (.bool gb) _ (run_asg (.tmp 91) rfl rfl) ⟨fun _ => GD.out, ?_⟩)
          simp only [Act.put, List.setIfInBounds_toArray, List.set_cons_succ, List.set_cons_zero]
          refine E_done (by kernel_rfl) ?_ _
          exact ⟨rfl, ⟨wz62.heap.size, .agg #[.int .i64 k0, .int .i64 m0, .string u0, .int .i64 x0, .slice B60 f0.len d60], .agg #[.bool t1, .int .i64 p1, .string s1], .agg #[.int .i64 gk, .int .i64 gm, .string gu, .int .i64 gx, .slice B67 gf.len d67]⟩, ⟨B67, d67, _, lo67, hi67, rfl, t9.out, x9.out, ⟨(by have := OR26.out; have := OR28.out; have := OR30.out; have := OR42.out; have := OR46.out; have := OR60.out; have := OR66.out; have := OR67.out; have := HW0.out; omega), (by have := OR26.out; have := OR28.out; have := OR30.out; have := OR42.out; have := OR46.out; have := OR60.out; have := OR66.out; have := OR67.out; have := HW0.out; omega), (by have := OR26.out; have := OR28.out; have := OR30.out; have := OR42.out; have := OR46.out; have := OR60.out; have := OR66.out; have := OR67.out; have := HW0.out; have := HF.out; omega)⟩, ⟨(by have := OR26.out; have := OR28.out; have := OR30.out; have := OR42.out; have := OR46.out; have := OR60.out; have := OR66.out; have := OR67.out; have := HW0.out; omega), x9.out.lt, (by have := OR26.out; have := OR28.out; have := OR30.out; have := OR42.out; have := OR46.out; have := OR60.out; have := OR66.out; have := OR67.out; have := HW0.out; omega)⟩, gb_trans GI.out GD.out⟩, by simp only [List.foldl, Act.put, List.setIfInBounds_toArray, List.set_cons_succ, List.set_cons_zero]⟩
      · skip
        have hge69 : wd.heap.size ≤ wz61.heap.size := GD.out.size
        have HGE69 := hid hge69
        clear hge69
        have X69 := hid (HoldsT.new wz61 #[.int .i64 0, .int .i64 0, .string { data := #[] }, .int .i64 0, .slice none 0 0] 31)
        have OR69 : Hid (hi60 ≤ wz61.heap.size) := HT
        replace GW := hid (gb_alloc GW.out (.cells #[.int .i64 0, .int .i64 0, .string { data := #[] }, .int .i64 0, .slice none 0 0] 31))
        replace T26 := hid (T26.out.grow (gb_alloc (gb_refl _ none) (.cells #[.int .i64 0, .int .i64 0, .string { data := #[] }, .int .i64 0, .slice none 0 0] 31)))
        replace X26 := hid (X26.out.grow (gb_alloc (gb_refl _ none) (.cells #[.int .i64 0, .int .i64 0, .string { data := #[] }, .int .i64 0, .slice none 0 0] 31)))
        replace T28 := hid (T28.out.grow (gb_alloc (gb_refl _ none) (.cells #[.int .i64 0, .int .i64 0, .string { data := #[] }, .int .i64 0, .slice none 0 0] 31)))
        replace X30 := hid (X30.out.grow (gb_alloc (gb_refl _ none) (.cells #[.int .i64 0, .int .i64 0, .string { data := #[] }, .int .i64 0, .slice none 0 0] 31)))
        replace T42 := hid (T42.out.grow (gb_alloc (gb_refl _ none) (.cells #[.int .i64 0, .int .i64 0, .string { data := #[] }, .int .i64 0, .slice none 0 0] 31)))
        replace X42 := hid (X42.out.grow (gb_alloc (gb_refl _ none) (.cells #[.int .i64 0, .int .i64 0, .string { data := #[] }, .int .i64 0, .slice none 0 0] 31)))
        replace T46 := hid (T46.out.grow (gb_alloc (gb_refl _ none) (.cells #[.int .i64 0, .int .i64 0, .string { data := #[] }, .int .i64 0, .slice none 0 0] 31)))
        replace T60 := hid (T60.out.grow (gb_alloc (gb_refl _ none) (.cells #[.int .i64 0, .int .i64 0, .string { data := #[] }, .int .i64 0, .slice none 0 0] 31)))
        replace GD := hid (gb_alloc GD.out (.cells #[.int .i64 0, .int .i64 0, .string { data := #[] }, .int .i64 0, .slice none 0 0] 31))
        refine E_val 8 rfl (some 14) rfl rfl (.pointer (some ⟨wz61.heap.size, 0, none⟩)) (wz61.alloc (.cells #[.int .i64 0, .int .i64 0, .string { data := #[] }, .int .i64 0, .slice none 0 0] 31)) (by go_simp) ⟨fun _ => GD.out, ?_⟩
        simp only [Act.put, List.setIfInBounds_toArray, List.set_cons_succ, List.set_cons_zero]
        replace HT := hid (show (wz61.heap.size + 1) ≤ (wz61.alloc (.cells #[.int .i64 0, .int .i64 0, .string { data := #[] }, .int .i64 0, .slice none 0 0] 31)).heap.size by simp)
        refine E_only 3 (by kernel_rfl) ?_
        refine E_call 3 rfl (some 88) rfl rfl 12 _ (run_call1 _ (by kernel_rfl) (.tmp 87) _ (.agg #[.bool t1, .int .i64 p1, .string s1]) rfl rfl) (toKey_any t1 p1 s1 _) ?_
        rintro e wz70 ⟨rfl, hg⟩
        replace GW := hid (gb_trans GW.out hg)
        replace T26 := hid (T26.out.grow hg)
        replace X26 := hid (X26.out.grow hg)
        replace T28 := hid (T28.out.grow hg)
        replace X30 := hid (X30.out.grow hg)
        replace T42 := hid (T42.out.grow hg)
        replace X42 := hid (X42.out.grow hg)
        replace T46 := hid (T46.out.grow hg)
        replace T60 := hid (T60.out.grow hg)
        replace X69 := hid (X69.out.grow hg)
        replace HT := hid (Nat.le_trans HT.out (hg).size)
        replace GD := hid (gb_trans GD.out hg)
        clear hg
        refine ⟨_, rfl, fun _ => GD.out, ?_⟩
        simp only [Act.put, List.setIfInBounds_toArray, List.set_cons_succ, List.set_cons_zero]
        refine E_only 4 (by kernel_rfl) ?_
        refine E_call 4 rfl (some 89) rfl rfl 18 _ (run_call2 _ (by kernel_rfl) (.tmp 86) (.tmp 88) _ (.agg #[.int .i64 k0, .int .i64 m0, .string u0, .int .i64 x0, .slice B60 f0.len d60]) (.agg #[.bool t1, .int .i64 p1, .string s1]) rfl rfl rfl) (implGet_any f0 t1 p1 s1 _ k0 m0 u0 x0 B60 d60 _ gk gm gu gx gf gb HGI.out T60.out.1.1 (by omega) (by omega)) ?_
        rintro e wz72 ⟨B71, d71, M71, rfl, _, hR, hg⟩
        obtain ⟨lo71, hi71, hT71, hlo71, hlh71, hhi71⟩ := own_tr hR.own hg X69.out.lt
        have OR71 := hid (And.intro hlo71 hlh71)
        replace GW := hid (gb_trans GW.out hg)
        replace T26 := hid (T26.out.grow hg)
        replace X26 := hid (X26.out.grow hg)
        replace T28 := hid (T28.out.grow hg)
        replace X30 := hid (X30.out.grow hg)
        replace T42 := hid (T42.out.grow hg)
        replace X42 := hid (X42.out.grow hg)
        replace T46 := hid (T46.out.grow hg)
        replace T60 := hid (T60.out.grow hg)
        replace X69 := hid (X69.out.grow hg)
        replace HT := hid (Nat.le_trans HT.out (hg).size)
        replace GD := hid (gb_trans GD.out hg)
        clear hg
        have T71 := hid hT71; replace HT := hid hhi71
        clear hR hT71 hlo71 hlh71 hhi71
        refine ⟨_, rfl, fun _ => GD.out, ?_⟩
        simp only [Act.put, List.setIfInBounds_toArray, List.set_cons_succ, List.set_cons_zero]
        refine E_take 5 rfl (some 84) rfl (by kernel_rfl) (by kernel_rfl) (by kernel_rfl) (by kernel_rfl) (by decide) (fun _ _ _ _ h => by cases h.1) rfl (.tuple #[.agg #[.int .i64 gk, .int .i64 gm, .string gu, .int .i64 gx, .slice B71 gf.len d71], .bool gb]) (fun w' hw => run_mov (.tmp 89) rfl rfl) GD.out ?_
        simp only [Act.put, List.setIfInBounds_toArray, List.set_cons_succ, List.set_cons_zero]
        refine E_take 6 rfl (some 90) rfl (by kernel_rfl) (by kernel_rfl) (by kernel_rfl) (by kernel_rfl) (by decide) (fun _ _ _ _ h => by cases h.1) rfl (.agg #[.int .i64 gk, .int .i64 gm, .string gu, .int .i64 gx, .slice B71 gf.len d71]) (fun w' hw => run_ext (.tmp 84) 0 rfl rfl rfl) GD.out ?_
        simp only [Act.put, List.setIfInBounds_toArray, List.set_cons_succ, List.set_cons_zero]
        refine E_take 7 rfl (some 91) rfl (by kernel_rfl) (by kernel_rfl) (by kernel_rfl) (by kernel_rfl) (by decide) (fun _ _ _ _ h => by cases h.1) rfl (.bool gb) (fun w' hw => run_ext (.tmp 84) 1 rfl rfl rfl) GD.out ?_
        simp only [Act.put, List.setIfInBounds_toArray, List.set_cons_succ, List.set_cons_zero]
        have s9 := gb_setCells (r := some (wz61.heap.size)) (.inr rfl) [.int .i64 gk, .int .i64 gm, .string gu, .int .i64 gx, .slice B71 gf.len d71] 0 (gb_refl wz72 (some (wz61.heap.size)))
        have x9 := hid (show HoldsT (wz72.setCells (wz61.heap.size) 0 [.int .i64 gk, .int .i64 gm, .string gu, .int .i64 gx, .slice B71 gf.len d71]) (wz61.heap.size) #[.int .i64 gk, .int .i64 gm, .string gu, .int .i64 gx, .slice B71 gf.len d71] 31 by have h := X69.out.setCells [.int .i64 gk, .int .i64 gm, .string gu, .int .i64 gx, .slice B71 gf.len d71] 0; simpa [setArr] using h)
        have gd9 := hid (gb_setCells (r := none) (.inl HGE69.out) [.int .i64 gk, .int .i64 gm, .string gu, .int .i64 gx, .slice B71 gf.len d71] 0 GD.out)
        have m9 : MkI wz72 (wz72.setCells (wz61.heap.size) 0 [.int .i64 gk, .int .i64 gm, .string gu, .int .i64 gx, .slice B71 gf.len d71]) (wz61.heap.size) (wz61.heap.size + 1) := ⟨s9.os, s9.tape, s9.output, s9.size, fun k hk hb => s9.block k hk (by intro e; injection e; omega)⟩
        have t9 := hid (T71.out.mk' m9 (by have := OR26.out; have := OR28.out; have := OR30.out; have := OR42.out; have := OR46.out; have := OR60.out; have := OR69.out; have := OR71.out; have := HW0.out; omega))
        have HF := hid (Nat.le_trans HT.out m9.size)
        refine E_only 9 (by kernel_rfl) (E_store 9 rfl none rfl rfl 31 (.tmp 14) (.tmp 90) rfl (wz61.heap.size) 0 [.int .i64 gk, .int .i64 gm, .string gu, .int .i64 gx, .slice B71 gf.len d71] rfl rfl X69.out (by simp) Try.infoV rfl ⟨fun _ => gd9.out, ?_⟩)
        simp only [Act.put]
        clear GD s9 m9
        have GD := gd9
        refine E_only 10 (by kernel_rfl) (E_val 10 rfl (some 15) rfl rfl (.bool gb) _ (run_asg (.tmp 91) rfl rfl) ⟨fun _ => GD.out, ?_⟩)
        simp only [Act.put, List.setIfInBounds_toArray, List.set_cons_succ, List.set_cons_zero]
        refine E_done (by kernel_rfl) ?_ _
        exact ⟨rfl, ⟨wz61.heap.size, .agg #[.int .i64 k0, .int .i64 m0, .string u0, .int .i64 x0, .slice B60 f0.len d60], .agg #[.bool t1, .int .i64 p1, .string s1], .agg #[.int .i64 gk, .int .i64 gm, .string gu, .int .i64 gx, .slice B71 gf.len d71]⟩, ⟨B71, d71, _, lo71, hi71, rfl, t9.out, x9.out, ⟨(by have := OR26.out; have := OR28.out; have := OR30.out; have := OR42.out; have := OR46.out; have := OR60.out; have := OR69.out; have := OR71.out; have := HW0.out; omega), (by have := OR26.out; have := OR28.out; have := OR30.out; have := OR42.out; have := OR46.out; have := OR60.out; have := OR69.out; have := OR71.out; have := HW0.out; omega), (by have := OR26.out; have := OR28.out; have := OR30.out; have := OR42.out; have := OR46.out; have := OR60.out; have := OR69.out; have := OR71.out; have := HW0.out; have := HF.out; omega)⟩, ⟨(by have := OR26.out; have := OR28.out; have := OR30.out; have := OR42.out; have := OR46.out; have := OR60.out; have := OR69.out; have := OR71.out; have := HW0.out; omega), x9.out.lt, (by have := OR26.out; have := OR28.out; have := OR30.out; have := OR42.out; have := OR46.out; have := OR60.out; have := OR69.out; have := OR71.out; have := HW0.out; omega)⟩, gb_trans GI.out GD.out⟩, by simp only [List.foldl, Act.put, List.setIfInBounds_toArray, List.set_cons_succ, List.set_cons_zero]⟩
    · skip
      have hge73 : wd.heap.size ≤ wd.heap.size := GD.out.size
      have HGE73 := hid hge73
      clear hge73
      have X73 := hid (HoldsT.new wd #[.int .i64 0, .int .i64 0, .string { data := #[] }, .int .i64 0, .slice none 0 0] 31)
      have OR73 : Hid (hi46 ≤ wd.heap.size) := HT
      replace GW := hid (gb_alloc GW.out (.cells #[.int .i64 0, .int .i64 0, .string { data := #[] }, .int .i64 0, .slice none 0 0] 31))
      replace T26 := hid (T26.out.grow (gb_alloc (gb_refl _ none) (.cells #[.int .i64 0, .int .i64 0, .string { data := #[] }, .int .i64 0, .slice none 0 0] 31)))
      replace X26 := hid (X26.out.grow (gb_alloc (gb_refl _ none) (.cells #[.int .i64 0, .int .i64 0, .string { data := #[] }, .int .i64 0, .slice none 0 0] 31)))
      replace T28 := hid (T28.out.grow (gb_alloc (gb_refl _ none) (.cells #[.int .i64 0, .int .i64 0, .string { data := #[] }, .int .i64 0, .slice none 0 0] 31)))
      replace X30 := hid (X30.out.grow (gb_alloc (gb_refl _ none) (.cells #[.int .i64 0, .int .i64 0, .string { data := #[] }, .int .i64 0, .slice none 0 0] 31)))
      replace T42 := hid (T42.out.grow (gb_alloc (gb_refl _ none) (.cells #[.int .i64 0, .int .i64 0, .string { data := #[] }, .int .i64 0, .slice none 0 0] 31)))
      replace X42 := hid (X42.out.grow (gb_alloc (gb_refl _ none) (.cells #[.int .i64 0, .int .i64 0, .string { data := #[] }, .int .i64 0, .slice none 0 0] 31)))
      replace T46 := hid (T46.out.grow (gb_alloc (gb_refl _ none) (.cells #[.int .i64 0, .int .i64 0, .string { data := #[] }, .int .i64 0, .slice none 0 0] 31)))
      replace GD := hid (gb_alloc GD.out (.cells #[.int .i64 0, .int .i64 0, .string { data := #[] }, .int .i64 0, .slice none 0 0] 31))
      refine E_val 8 rfl (some 14) rfl rfl (.pointer (some ⟨wd.heap.size, 0, none⟩)) (wd.alloc (.cells #[.int .i64 0, .int .i64 0, .string { data := #[] }, .int .i64 0, .slice none 0 0] 31)) (by go_simp) ⟨fun _ => GD.out, ?_⟩
      simp only [Act.put, List.setIfInBounds_toArray, List.set_cons_succ, List.set_cons_zero]
      replace HT := hid (show (wd.heap.size + 1) ≤ (wd.alloc (.cells #[.int .i64 0, .int .i64 0, .string { data := #[] }, .int .i64 0, .slice none 0 0] 31)).heap.size by simp)
      refine E_only 1 (by kernel_rfl) ?_
      refine E_call 1 rfl (some 86) rfl rfl 11 _ (run_call1 _ (by kernel_rfl) (.tmp 85) _ (.agg #[.int .i64 k0, .int .i64 m0, .string u0, .int .i64 x0, .slice A0 f0.len c0]) rfl rfl) (toValue_any f0 (toEntryS_any f0) k0 m0 u0 x0 A0 c0 _ _ (RP0.out.grow GW.out) HO0.out.1 (by omega)) ?_
      rintro e wz75 ⟨B74, d74, M74, rfl, ha74, ho74, hg⟩
      obtain ⟨lo74, hi74, hT74, hlo74, hlh74, hhi74⟩ := own_tr ho74 hg HT.out
      have OR74 := hid (And.intro hlo74 hlh74); have HA74 := hid ha74.2
      replace GW := hid (gb_trans GW.out hg)
      replace T26 := hid (T26.out.grow hg)
      replace X26 := hid (X26.out.grow hg)
      replace T28 := hid (T28.out.grow hg)
      replace X30 := hid (X30.out.grow hg)
      replace T42 := hid (T42.out.grow hg)
      replace X42 := hid (X42.out.grow hg)
      replace T46 := hid (T46.out.grow hg)
      replace X73 := hid (X73.out.grow hg)
      replace HT := hid (Nat.le_trans HT.out (hg).size)
      replace GD := hid (gb_trans GD.out hg)
      clear hg
      have T74 := hid hT74; replace HT := hid hhi74
      clear ho74 ha74 hT74 hlo74 hlh74 hhi74
      refine ⟨_, rfl, fun _ => GD.out, ?_⟩
      simp only [Act.put, List.setIfInBounds_toArray, List.set_cons_succ, List.set_cons_zero]
      refine E_only 3 (by kernel_rfl) ?_
      refine E_call 3 rfl (some 88) rfl rfl 12 _ (run_call1 _ (by kernel_rfl) (.tmp 87) _ (.agg #[.bool t1, .int .i64 p1, .string s1]) rfl rfl) (toKey_any t1 p1 s1 _) ?_
      rintro e wz76 ⟨rfl, hg⟩
      replace GW := hid (gb_trans GW.out hg)
      replace T26 := hid (T26.out.grow hg)
      replace X26 := hid (X26.out.grow hg)
      replace T28 := hid (T28.out.grow hg)
      replace X30 := hid (X30.out.grow hg)
      replace T42 := hid (T42.out.grow hg)
      replace X42 := hid (X42.out.grow hg)
      replace T46 := hid (T46.out.grow hg)
      replace X73 := hid (X73.out.grow hg)
      replace T74 := hid (T74.out.grow hg)
      replace HT := hid (Nat.le_trans HT.out (hg).size)
      replace GD := hid (gb_trans GD.out hg)
      clear hg
      refine ⟨_, rfl, fun _ => GD.out, ?_⟩
      simp only [Act.put, List.setIfInBounds_toArray, List.set_cons_succ, List.set_cons_zero]
      refine E_only 4 (by kernel_rfl) ?_
      refine E_call 4 rfl (some 89) rfl rfl 18 _ (run_call2 _ (by kernel_rfl) (.tmp 86) (.tmp 88) _ (.agg #[.int .i64 k0, .int .i64 m0, .string u0, .int .i64 x0, .slice B74 f0.len d74]) (.agg #[.bool t1, .int .i64 p1, .string s1]) rfl rfl rfl) (implGet_any f0 t1 p1 s1 _ k0 m0 u0 x0 B74 d74 _ gk gm gu gx gf gb HGI.out T74.out.1.1 (by omega) (by omega)) ?_
      rintro e wz78 ⟨B77, d77, M77, rfl, _, hR, hg⟩
      obtain ⟨lo77, hi77, hT77, hlo77, hlh77, hhi77⟩ := own_tr hR.own hg X73.out.lt
      have OR77 := hid (And.intro hlo77 hlh77)
      replace GW := hid (gb_trans GW.out hg)
      replace T26 := hid (T26.out.grow hg)
      replace X26 := hid (X26.out.grow hg)
      replace T28 := hid (T28.out.grow hg)
      replace X30 := hid (X30.out.grow hg)
      replace T42 := hid (T42.out.grow hg)
      replace X42 := hid (X42.out.grow hg)
      replace T46 := hid (T46.out.grow hg)
      replace X73 := hid (X73.out.grow hg)
      replace T74 := hid (T74.out.grow hg)
      replace HT := hid (Nat.le_trans HT.out (hg).size)
      replace GD := hid (gb_trans GD.out hg)
      clear hg
      have T77 := hid hT77; replace HT := hid hhi77
      clear hR hT77 hlo77 hlh77 hhi77
      refine ⟨_, rfl, fun _ => GD.out, ?_⟩
      simp only [Act.put, List.setIfInBounds_toArray, List.set_cons_succ, List.set_cons_zero]
      refine E_take 5 rfl (some 84) rfl (by kernel_rfl) (by kernel_rfl) (by kernel_rfl) (by kernel_rfl) (by decide) (fun _ _ _ _ h => by cases h.1) rfl (.tuple #[.agg #[.int .i64 gk, .int .i64 gm, .string gu, .int .i64 gx, .slice B77 gf.len d77], .bool gb]) (fun w' hw => run_mov (.tmp 89) rfl rfl) GD.out ?_
      simp only [Act.put, List.setIfInBounds_toArray, List.set_cons_succ, List.set_cons_zero]
      refine E_take 6 rfl (some 90) rfl (by kernel_rfl) (by kernel_rfl) (by kernel_rfl) (by kernel_rfl) (by decide) (fun _ _ _ _ h => by cases h.1) rfl (.agg #[.int .i64 gk, .int .i64 gm, .string gu, .int .i64 gx, .slice B77 gf.len d77]) (fun w' hw => run_ext (.tmp 84) 0 rfl rfl rfl) GD.out ?_
      simp only [Act.put, List.setIfInBounds_toArray, List.set_cons_succ, List.set_cons_zero]
      refine E_take 7 rfl (some 91) rfl (by kernel_rfl) (by kernel_rfl) (by kernel_rfl) (by kernel_rfl) (by decide) (fun _ _ _ _ h => by cases h.1) rfl (.bool gb) (fun w' hw => run_ext (.tmp 84) 1 rfl rfl rfl) GD.out ?_
      simp only [Act.put, List.setIfInBounds_toArray, List.set_cons_succ, List.set_cons_zero]
      have s9 := gb_setCells (r := some (wd.heap.size)) (.inr rfl) [.int .i64 gk, .int .i64 gm, .string gu, .int .i64 gx, .slice B77 gf.len d77] 0 (gb_refl wz78 (some (wd.heap.size)))
      have x9 := hid (show HoldsT (wz78.setCells (wd.heap.size) 0 [.int .i64 gk, .int .i64 gm, .string gu, .int .i64 gx, .slice B77 gf.len d77]) (wd.heap.size) #[.int .i64 gk, .int .i64 gm, .string gu, .int .i64 gx, .slice B77 gf.len d77] 31 by have h := X73.out.setCells [.int .i64 gk, .int .i64 gm, .string gu, .int .i64 gx, .slice B77 gf.len d77] 0; simpa [setArr] using h)
      have gd9 := hid (gb_setCells (r := none) (.inl HGE73.out) [.int .i64 gk, .int .i64 gm, .string gu, .int .i64 gx, .slice B77 gf.len d77] 0 GD.out)
      have m9 : MkI wz78 (wz78.setCells (wd.heap.size) 0 [.int .i64 gk, .int .i64 gm, .string gu, .int .i64 gx, .slice B77 gf.len d77]) (wd.heap.size) (wd.heap.size + 1) := ⟨s9.os, s9.tape, s9.output, s9.size, fun k hk hb => s9.block k hk (by intro e; injection e; omega)⟩
      have t9 := hid (T77.out.mk' m9 (by have := OR26.out; have := OR28.out; have := OR30.out; have := OR42.out; have := OR46.out; have := OR73.out; have := OR74.out; have := OR77.out; have := HW0.out; omega))
      have HF := hid (Nat.le_trans HT.out m9.size)
      refine E_only 9 (by kernel_rfl) (E_store 9 rfl none rfl rfl 31 (.tmp 14) (.tmp 90) rfl (wd.heap.size) 0 [.int .i64 gk, .int .i64 gm, .string gu, .int .i64 gx, .slice B77 gf.len d77] rfl rfl X73.out (by simp) Try.infoV rfl ⟨fun _ => gd9.out, ?_⟩)
      simp only [Act.put]
      clear GD s9 m9
      have GD := gd9
      refine E_only 10 (by kernel_rfl) (E_val 10 rfl (some 15) rfl rfl (.bool gb) _ (run_asg (.tmp 91) rfl rfl) ⟨fun _ => GD.out, ?_⟩)
      simp only [Act.put, List.setIfInBounds_toArray, List.set_cons_succ, List.set_cons_zero]
      refine E_done (by kernel_rfl) ?_ _
      exact ⟨rfl, ⟨wd.heap.size, .agg #[.int .i64 k0, .int .i64 m0, .string u0, .int .i64 x0, .slice B74 f0.len d74], .agg #[.bool t1, .int .i64 p1, .string s1], .agg #[.int .i64 gk, .int .i64 gm, .string gu, .int .i64 gx, .slice B77 gf.len d77]⟩, ⟨B77, d77, _, lo77, hi77, rfl, t9.out, x9.out, ⟨(by have := OR26.out; have := OR28.out; have := OR30.out; have := OR42.out; have := OR46.out; have := OR73.out; have := OR74.out; have := OR77.out; have := HW0.out; omega), (by have := OR26.out; have := OR28.out; have := OR30.out; have := OR42.out; have := OR46.out; have := OR73.out; have := OR74.out; have := OR77.out; have := HW0.out; omega), (by have := OR26.out; have := OR28.out; have := OR30.out; have := OR42.out; have := OR46.out; have := OR73.out; have := OR74.out; have := OR77.out; have := HW0.out; have := HF.out; omega)⟩, ⟨(by have := OR26.out; have := OR28.out; have := OR30.out; have := OR42.out; have := OR46.out; have := OR73.out; have := OR74.out; have := OR77.out; have := HW0.out; omega), x9.out.lt, (by have := OR26.out; have := OR28.out; have := OR30.out; have := OR42.out; have := OR46.out; have := OR73.out; have := OR74.out; have := OR77.out; have := HW0.out; omega)⟩, gb_trans GI.out GD.out⟩, by simp only [List.foldl, Act.put, List.setIfInBounds_toArray, List.set_cons_succ, List.set_cons_zero]⟩
  rintro ⟨bb79, vc79_0, vc79_1, vc79_2⟩ wz79 ⟨B79, d79, M79, lo79, hi79, hv79, hT79, hX79, ⟨ho79, hp79, hq79⟩, ⟨hr79, hs79, ht79⟩, hg⟩
  dsimp only at hv79 hX79 hr79 hs79 ht79
  subst hv79
  simp only [List.foldl, Act.put, List.setIfInBounds_toArray, List.set_cons_succ, List.set_cons_zero]
  obtain ⟨tp79, hu79, hv79⟩ : ∃ z, (hi79 ≤ z ∧ bb79 + 1 ≤ z) ∧ z ≤ wz79.heap.size := ⟨_, ⟨hq79, hs79⟩, Nat.le_refl _⟩
  have OR79 := hid (And.intro (And.intro ho79 hp79) (And.intro hr79 (And.intro ht79 hu79)))
  replace GW := hid (gb_trans GW.out hg)
  replace T26 := hid (T26.out.grow hg)
  replace X26 := hid (X26.out.grow hg)
  replace T28 := hid (T28.out.grow hg)
  replace X30 := hid (X30.out.grow hg)
  replace T42 := hid (T42.out.grow hg)
  replace X42 := hid (X42.out.grow hg)
  replace T46 := hid (T46.out.grow hg)
  replace HT := hid (Nat.le_trans HT.out (hg).size)
  clear hg
  have T79 := hid hT79; have X79 := hid hX79; replace HT := hid hv79
  clear ho79 hp79 hq79 hr79 hs79 ht79 hu79 hv79 hT79 hX79
  obtain ⟨a80_0, a80_1, a80_2, a80_3, a80_4⟩ := X79.out.cells5
  have la80 := X79.out.lt
  obtain ⟨a81_0, a81_1, a81_2, a81_3, a81_4⟩ := X26.out.cells5
  have la81 := X26.out.lt
  go_wp2_with fail
  refine (eqValue_any gf (eqEntryS_any gf) gk gm gu gx B79 B26 d79 d26 _ _ _ T79.out.1.1 T26.out.1.1 (by omega)).mono ?_
  rintro e wz82 ⟨rfl, hg⟩
  clear a80_0 a80_1 a80_2 a80_3 a80_4 la80 a81_0 a81_1 a81_2 a81_3 a81_4 la81
  replace GW := hid (gb_trans GW.out hg)
  replace T26 := hid (T26.out.grow hg)
  replace X26 := hid (X26.out.grow hg)
  replace T28 := hid (T28.out.grow hg)
  replace X30 := hid (X30.out.grow hg)
  replace T42 := hid (T42.out.grow hg)
  replace X42 := hid (X42.out.grow hg)
  replace T46 := hid (T46.out.grow hg)
  replace T79 := hid (T79.out.grow hg)
  replace X79 := hid (X79.out.grow hg)
  replace HT := hid (Nat.le_trans HT.out (hg).size)
  clear hg
  obtain ⟨a83_0, a83_1, a83_2, a83_3, a83_4⟩ := X42.out.cells5
  have la83 := X42.out.lt
  go_wp2_with fail
  refine (heldValue_any gf _ gk gm gu gx B42 d42 _ 1 (by have h := T42.out.1.1; rw [Forest.len_mark] at h; exact h) (by omega) (by omega)).mono ?_
  rintro e wz84 ⟨rfl, hg⟩
  clear a83_0 a83_1 a83_2 a83_3 a83_4 la83
  rw [HZ56.out]
  replace GW := hid (gb_trans GW.out hg)
  replace T26 := hid (T26.out.grow hg)
  replace X26 := hid (X26.out.grow hg)
  replace T28 := hid (T28.out.grow hg)
  replace X30 := hid (X30.out.grow hg)
  replace T42 := hid (T42.out.grow hg)
  replace X42 := hid (X42.out.grow hg)
  replace T46 := hid (T46.out.grow hg)
  replace T79 := hid (T79.out.grow hg)
  replace X79 := hid (X79.out.grow hg)
  replace HT := hid (Nat.le_trans HT.out (hg).size)
  clear hg
  go_wp2_with fail
  go_ret
  exact ⟨rfl, gb_below (gb_trans GP.out GW.out)⟩
end Go.Proofs.Ytlfigoboeogegaa
