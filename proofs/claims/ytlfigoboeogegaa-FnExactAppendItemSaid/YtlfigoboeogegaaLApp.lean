/- The law FnExactAppendItem, walked (printed by lawgen2.py). -/
import Derived.Test.YtlfigoboeogegaaAppI
import Derived.Test.YtlfigoboeogegaaSz
import Derived.Test.YtlfigoboeogegaaTo
import Derived.Test.YtlfigoboeogegaaEq
import Derived.Test.YtlfigoboeogegaaMark
import Derived.Test.YtlfigoboeogegaaHeldE
import Derived.Test.YtlfigoboeogegaaLaw
import Derived.Test.YtlfigoboeogegaaHeldX
namespace Go.Proofs.Ytlfigoboeogegaa
open Go.RowKit
set_option linter.unusedVariables false
set_option linter.unusedSimpArgs false

set_option maxRecDepth 100000 in
set_option maxHeartbeats 8000000 in
theorem appendItem_walk (k0 m0 : Int) (u0 : ByteArray) (x0 : Int) (A0 : Option Addr) (n0 c0 : Nat) (f0 : Forest) (L0 : List Nat) (k1 m1 : Int) (u1 : ByteArray) (x1 : Int) (A1 : Option Addr) (n1 c1 : Nat) (f1 : Forest) (L1 : List Nat) (w : World) (_ha0 : A0 = none → c0 = 0) (hb0 : n0 ≤ maxLen) (hc0 : RowF w f0 A0 0 n0 L0) (hd0 : f0.ok) (he0 : u0.size ≤ maxLen) (_hf0 : (Lit.int .i64 k0).wf = true) (_hg0 : (Lit.int .i64 m0).wf = true) (_hh0 : (Lit.int .i64 x0).wf = true) (_ha1 : A1 = none → c1 = 0) (hb1 : n1 ≤ maxLen) (hc1 : RowF w f1 A1 0 n1 L1) (hd1 : f1.ok) (he1 : u1.size ≤ maxLen) (_hf1 : (Lit.int .i64 k1).wf = true) (_hg1 : (Lit.int .i64 m1).wf = true) (_hh1 : (Lit.int .i64 x1).wf = true) :
    Calls Try.prog 7 #[.agg #[.int .i64 k0, .int .i64 m0, .string u0, .int .i64 x0, .slice A0 n0 c0], .agg #[.int .i64 k1, .int .i64 m1, .string u1, .int .i64 x1, .slice A1 n1 c1]] w fun e w' => e = .returned (.bool true) ∧ Below w.heap.size w w' := by
  have hn0 : f0.len = n0 := by have := hc0.len; omega
  subst hn0
  have hn1 : f1.len = n1 := by have := hc1.len; omega
  subst hn1
  have GP := hid (show w.grownBy ((w.alloc (.cells #[.int .i64 k0, .int .i64 m0, .string u0, .int .i64 x0, .slice A0 f0.len c0] 24)).alloc (.cells #[.int .i64 k1, .int .i64 m1, .string u1, .int .i64 x1, .slice A1 f1.len c1] 24)) none from gb_alloc (gb_alloc (gb_refl w none) (.cells #[.int .i64 k0, .int .i64 m0, .string u0, .int .i64 x0, .slice A0 f0.len c0] 24)) (.cells #[.int .i64 k1, .int .i64 m1, .string u1, .int .i64 x1, .slice A1 f1.len c1] 24))
  have HB0 := hid ((HoldsT.new w #[.int .i64 k0, .int .i64 m0, .string u0, .int .i64 x0, .slice A0 f0.len c0] 24).alloc (.cells #[.int .i64 k1, .int .i64 m1, .string u1, .int .i64 x1, .slice A1 f1.len c1] 24))
  have RP0 := hid (hc0.grow GP.out)
  have HO0 := hid (And.intro hd0 (And.intro hb0 he0))
  clear _ha0 hb0 hc0 hd0 he0 _hf0 _hg0 _hh0
  have HB1 := hid (show HoldsT ((w.alloc (.cells #[.int .i64 k0, .int .i64 m0, .string u0, .int .i64 x0, .slice A0 f0.len c0] 24)).alloc (.cells #[.int .i64 k1, .int .i64 m1, .string u1, .int .i64 x1, .slice A1 f1.len c1] 24)) (w.heap.size + 1) #[.int .i64 k1, .int .i64 m1, .string u1, .int .i64 x1, .slice A1 f1.len c1] 24 by simpa using (HoldsT.new (w.alloc (.cells #[.int .i64 k0, .int .i64 m0, .string u0, .int .i64 x0, .slice A0 f0.len c0] 24)) #[.int .i64 k1, .int .i64 m1, .string u1, .int .i64 x1, .slice A1 f1.len c1] 24))
  have RP1 := hid (hc1.grow GP.out)
  have HO1 := hid (And.intro hd1 (And.intro hb1 he1))
  clear _ha1 hb1 hc1 hd1 he1 _hf1 _hg1 _hh1
  have GW := hid (gb_refl ((w.alloc (.cells #[.int .i64 k0, .int .i64 m0, .string u0, .int .i64 x0, .slice A0 f0.len c0] 24)).alloc (.cells #[.int .i64 k1, .int .i64 m1, .string u1, .int .i64 x1, .slice A1 f1.len c1] 24)) none)
  obtain ⟨tp0, htp0⟩ : ∃ z, z = (((w.alloc (.cells #[.int .i64 k0, .int .i64 m0, .string u0, .int .i64 x0, .slice A0 f0.len c0] 24)).alloc (.cells #[.int .i64 k1, .int .i64 m1, .string u1, .int .i64 x1, .slice A1 f1.len c1] 24))).heap.size := ⟨_, rfl⟩
  have HT : Hid (tp0 ≤ (((w.alloc (.cells #[.int .i64 k0, .int .i64 m0, .string u0, .int .i64 x0, .slice A0 f0.len c0] 24)).alloc (.cells #[.int .i64 k1, .int .i64 m1, .string u1, .int .i64 x1, .slice A1 f1.len c1] 24))).heap.size) := hid (Nat.le_of_eq htp0)
  have HW0 : Hid ((((w.alloc (.cells #[.int .i64 k0, .int .i64 m0, .string u0, .int .i64 x0, .slice A0 f0.len c0] 24)).alloc (.cells #[.int .i64 k1, .int .i64 m1, .string u1, .int .i64 x1, .slice A1 f1.len c1] 24))).heap.size ≤ tp0) := hid (Nat.le_of_eq htp0.symm)
  clear htp0
  obtain ⟨ab, hab⟩ := appB_some k0 x0
  obtain ⟨rx, D, hD⟩ := PutIs.some ab k0 x0 f0 false x0 { data := #[] } k1 m1 u1 x1 f1 (fun h => hab.elim (fun q => q.2.1) (fun q => absurd (h.symm.trans q.1) (by simp)))
  have hDs : D.size ≤ f0.size + f1.size + 1 := hD.size
  have HAB := hid hab
  have HD := hid hD
  clear hab hD
  go_enter Try.func7, Try.ntmps7
  obtain ⟨a1_0, a1_1, a1_2, a1_3, a1_4⟩ := (HB0.out.grow GW.out).cells5
  have la1 := (HB0.out.grow GW.out).lt
  go_wp2_with fail
  refine (szValue_any f0 (szEntryS_any f0) k0 m0 u0 x0 A0 c0 1048576 _ _ (RP0.out.grow GW.out) HO0.out.1 HO0.out.2.1 (by omega) HO0.out.2.2).mono ?_
  rintro e wz3 ⟨rfl, hg⟩
  clear a1_0 a1_1 a1_2 a1_3 a1_4 la1
  replace GW := hid (gb_trans GW.out hg)
  replace HT := hid (Nat.le_trans HT.out (hg).size)
  clear hg
  rcases leftI_cases 1048576 (u0.size + (f0.len + f0.sz)) with ⟨e1, _⟩ | ⟨q2, e1, hq2⟩
  · rw [e1]
    clear e1
    go_wp2_with fail
    go_ret
    exact ⟨rfl, gb_below (gb_trans GP.out GW.out)⟩
  rw [e1]
  have hfs0 : f0.size + q2 ≤ 1048576 := by have := f0.size_sz; omega
  have hqb2 : q2 ≤ 1048576 := by omega
  clear e1 hq2
  obtain ⟨a4_0, a4_1, a4_2, a4_3, a4_4⟩ := (HB1.out.grow GW.out).cells5
  have la4 := (HB1.out.grow GW.out).lt
  go_wp2_with fail
  refine (szValue_any f1 (szEntryS_any f1) k1 m1 u1 x1 A1 c1 q2 _ _ (RP1.out.grow GW.out) HO1.out.1 HO1.out.2.1 (by omega) HO1.out.2.2).mono ?_
  rintro e wz6 ⟨rfl, hg⟩
  clear a4_0 a4_1 a4_2 a4_3 a4_4 la4
  replace GW := hid (gb_trans GW.out hg)
  replace HT := hid (Nat.le_trans HT.out (hg).size)
  clear hg
  rcases leftI_cases q2 (u1.size + (f1.len + f1.sz)) with ⟨e1, _⟩ | ⟨q5, e1, hq5⟩
  · rw [e1]
    clear e1
    go_wp2_with fail
    go_ret
    exact ⟨rfl, gb_below (gb_trans GP.out GW.out)⟩
  rw [e1]
  have hfs1 : f1.size + q5 ≤ q2 := by have := f1.size_sz; omega
  have hqb5 : q5 ≤ q2 := by omega
  clear e1 hq5
  go_wp2_with fail
  refine wp_region_puts (X := Nat × Value × Value × Value) (fun x w' => ∃ A' c' L' lo hi, x.2.2.2 = .agg #[.int .i64 k0, .int .i64 m0, .string u0, .int .i64 rx, .slice A' D.len c'] ∧ Tr w' 61 lo hi D A' L' ∧ HoldsT w' x.1 #[.int .i64 k0, .int .i64 m0, .string u0, .int .i64 rx, .slice A' D.len c'] 31 ∧ (tp0 ≤ lo ∧ lo ≤ hi ∧ hi ≤ w'.heap.size) ∧ (tp0 ≤ x.1 ∧ x.1 + 1 ≤ w'.heap.size ∧ (x.1 + 1 ≤ lo ∨ hi ≤ x.1)) ∧ wz6.grownBy w' none) (fun x => [(some 28, .agg #[.int .i64 k0, .int .i64 m0, .string u0, .int .i64 x0, .slice A0 f0.len c0]), (some 29, x.2.1), (some 30, .agg #[.int .i64 k1, .int .i64 m1, .string u1, .int .i64 x1, .slice A1 f1.len c1]), (some 31, x.2.2.1), (some 32, .tuple #[x.2.2.2, .bool ab]), (some 27, .tuple #[x.2.2.2, .bool ab]), (some 33, x.2.2.2), (some 34, .bool ab), (some 6, .pointer (some ⟨x.1, 0, none⟩)), (some 7, .bool ab)]) ?_ ?_
  · skip
    refine wp_region_E 999 11 rfl (by kernel_rfl) (fun wd w' => wd.grownBy w' none) fun wd gd => ?_
    have g0 : wd.grownBy wd none := gb_refl _ _
    have GI := hid gd
    replace GW := hid (gb_trans GW.out gd)
    replace HT := hid (Nat.le_trans HT.out (gd).size)
    clear gd
    have GD := hid g0
    refine E_load 0 rfl (some 28) rfl (by kernel_rfl) (by kernel_rfl) (by kernel_rfl) (by kernel_rfl) (by decide) (fun _ _ _ _ h => by cases h.1) rfl 24 (.tmp 2) rfl (w.heap.size) 0 rfl _ (fun w' hw => ((HB0.out.grow GW.out).grow hw).rangeV) Try.underlying24 rfl Try.infoVL g0 ?_
    simp only [Act.put, List.setIfInBounds_toArray, List.set_cons_succ, List.set_cons_zero]
    refine E_load 2 rfl (some 30) rfl (by kernel_rfl) (by kernel_rfl) (by kernel_rfl) (by kernel_rfl) (by decide) (fun _ _ _ _ h => by cases h.1) rfl 24 (.tmp 3) rfl (w.heap.size + 1) 0 rfl _ (fun w' hw => ((HB1.out.grow GW.out).grow hw).rangeV) Try.underlying24 rfl Try.infoVL g0 ?_
    simp only [Act.put, List.setIfInBounds_toArray, List.set_cons_succ, List.set_cons_zero]
    refine E_two 1 8 (by kernel_rfl) ?_ ?_
    · skip
      refine E_call 1 rfl (some 29) rfl rfl 11 _ (run_call1 _ (by kernel_rfl) (.tmp 28) _ (.agg #[.int .i64 k0, .int .i64 m0, .string u0, .int .i64 x0, .slice A0 f0.len c0]) rfl rfl) (toValue_any f0 (toEntryS_any f0) k0 m0 u0 x0 A0 c0 _ _ (RP0.out.grow GW.out) HO0.out.1 (by omega)) ?_
      rintro e wz8 ⟨B7, d7, M7, rfl, ha7, ho7, hg⟩
      obtain ⟨lo7, hi7, hT7, hlo7, hlh7, hhi7⟩ := own_tr ho7 hg HT.out
      have OR7 := hid (And.intro hlo7 hlh7); have HA7 := hid ha7.2
      replace GW := hid (gb_trans GW.out hg)
      replace HT := hid (Nat.le_trans HT.out (hg).size)
      replace GD := hid (gb_trans GD.out hg)
      clear hg
      have T7 := hid hT7; replace HT := hid hhi7
      clear ho7 ha7 hT7 hlo7 hlh7 hhi7
      refine ⟨_, rfl, fun _ => GD.out, ?_⟩
      simp only [Act.put, List.setIfInBounds_toArray, List.set_cons_succ, List.set_cons_zero]
      refine E_two 3 8 (by kernel_rfl) ?_ ?_
      · skip
        refine E_call 3 rfl (some 31) rfl rfl 11 _ (run_call1 _ (by kernel_rfl) (.tmp 30) _ (.agg #[.int .i64 k1, .int .i64 m1, .string u1, .int .i64 x1, .slice A1 f1.len c1]) rfl rfl) (toValue_any f1 (toEntryS_any f1) k1 m1 u1 x1 A1 c1 _ _ (RP1.out.grow GW.out) HO1.out.1 (by omega)) ?_
        rintro e wz10 ⟨B9, d9, M9, rfl, ha9, ho9, hg⟩
        obtain ⟨lo9, hi9, hT9, hlo9, hlh9, hhi9⟩ := own_tr ho9 hg HT.out
        have OR9 := hid (And.intro hlo9 hlh9); have HA9 := hid ha9.2
        replace GW := hid (gb_trans GW.out hg)
        replace T7 := hid (T7.out.grow hg)
        replace HT := hid (Nat.le_trans HT.out (hg).size)
        replace GD := hid (gb_trans GD.out hg)
        clear hg
        have T9 := hid hT9; replace HT := hid hhi9
        clear ho9 ha9 hT9 hlo9 hlh9 hhi9
        refine ⟨_, rfl, fun _ => GD.out, ?_⟩
        simp only [Act.put, List.setIfInBounds_toArray, List.set_cons_succ, List.set_cons_zero]
        refine E_two 4 8 (by kernel_rfl) ?_ ?_
        · skip
          refine E_call 4 rfl (some 32) rfl rfl 28 _ (run_call2 _ (by kernel_rfl) (.tmp 29) (.tmp 31) _ (.agg #[.int .i64 k0, .int .i64 m0, .string u0, .int .i64 x0, .slice B7 f0.len d7]) (.agg #[.int .i64 k1, .int .i64 m1, .string u1, .int .i64 x1, .slice B9 f1.len d9]) rfl rfl rfl) (specAppend_any f0 f1 _ k0 m0 u0 x0 B7 d7 _ k1 m1 u1 x1 B9 d9 _ ab rx D HAB.out HD.out T7.out.1.1 (RowF.nil0 T7.out.1.1 HA7.out) (by omega) T9.out.1.1 (RowF.nil0 T9.out.1.1 HA9.out) (by omega)) ?_
          rintro e wz12 ⟨B11, d11, M11, rfl, _, hR, hg⟩
          obtain ⟨lo11, hi11, hT11, hlo11, hlh11, hhi11⟩ := own_tr hR.own hg HT.out
          have OR11 := hid (And.intro hlo11 hlh11)
          replace GW := hid (gb_trans GW.out hg)
          replace T7 := hid (T7.out.grow hg)
          replace T9 := hid (T9.out.grow hg)
          replace HT := hid (Nat.le_trans HT.out (hg).size)
          replace GD := hid (gb_trans GD.out hg)
          clear hg
          have T11 := hid hT11; replace HT := hid hhi11
          clear hR hT11 hlo11 hlh11 hhi11
          refine ⟨_, rfl, fun _ => GD.out, ?_⟩
          simp only [Act.put, List.setIfInBounds_toArray, List.set_cons_succ, List.set_cons_zero]
          refine E_take 5 rfl (some 27) rfl (by kernel_rfl) (by kernel_rfl) (by kernel_rfl) (by kernel_rfl) (by decide) (fun _ _ _ _ h => by cases h.1) rfl (.tuple #[.agg #[.int .i64 k0, .int .i64 m0, .string u0, .int .i64 rx, .slice B11 D.len d11], .bool ab]) (fun w' hw => run_mov (.tmp 32) rfl rfl) GD.out ?_
          simp only [Act.put, List.setIfInBounds_toArray, List.set_cons_succ, List.set_cons_zero]
          refine E_take 6 rfl (some 33) rfl (by kernel_rfl) (by kernel_rfl) (by kernel_rfl) (by kernel_rfl) (by decide) (fun _ _ _ _ h => by cases h.1) rfl (.agg #[.int .i64 k0, .int .i64 m0, .string u0, .int .i64 rx, .slice B11 D.len d11]) (fun w' hw => run_ext (.tmp 27) 0 rfl rfl rfl) GD.out ?_
          simp only [Act.put, List.setIfInBounds_toArray, List.set_cons_succ, List.set_cons_zero]
          refine E_take 7 rfl (some 34) rfl (by kernel_rfl) (by kernel_rfl) (by kernel_rfl) (by kernel_rfl) (by decide) (fun _ _ _ _ h => by cases h.1) rfl (.bool ab) (fun w' hw => run_ext (.tmp 27) 1 rfl rfl rfl) GD.out ?_
          simp only [Act.put, List.setIfInBounds_toArray, List.set_cons_succ, List.set_cons_zero]
          refine E_only 8 (by kernel_rfl) ?_
          have hge13 : wd.heap.size ≤ wz12.heap.size := GD.out.size
          have HGE13 := hid hge13
          clear hge13
          have X13 := hid (HoldsT.new wz12 #[.int .i64 0, .int .i64 0, .string { data := #[] }, .int .i64 0, .slice none 0 0] 31)
          have OR13 : Hid (hi11 ≤ wz12.heap.size) := HT
          replace GW := hid (gb_alloc GW.out (.cells #[.int .i64 0, .int .i64 0, .string { data := #[] }, .int .i64 0, .slice none 0 0] 31))
          replace T7 := hid (T7.out.grow (gb_alloc (gb_refl _ none) (.cells #[.int .i64 0, .int .i64 0, .string { data := #[] }, .int .i64 0, .slice none 0 0] 31)))
          replace T9 := hid (T9.out.grow (gb_alloc (gb_refl _ none) (.cells #[.int .i64 0, .int .i64 0, .string { data := #[] }, .int .i64 0, .slice none 0 0] 31)))
          replace T11 := hid (T11.out.grow (gb_alloc (gb_refl _ none) (.cells #[.int .i64 0, .int .i64 0, .string { data := #[] }, .int .i64 0, .slice none 0 0] 31)))
          replace GD := hid (gb_alloc GD.out (.cells #[.int .i64 0, .int .i64 0, .string { data := #[] }, .int .i64 0, .slice none 0 0] 31))
          refine E_val 8 rfl (some 6) rfl rfl (.pointer (some ⟨wz12.heap.size, 0, none⟩)) (wz12.alloc (.cells #[.int .i64 0, .int .i64 0, .string { data := #[] }, .int .i64 0, .slice none 0 0] 31)) (by go_simp) ⟨fun _ => GD.out, ?_⟩
          simp only [Act.put, List.setIfInBounds_toArray, List.set_cons_succ, List.set_cons_zero]
          replace HT := hid (show (wz12.heap.size + 1) ≤ (wz12.alloc (.cells #[.int .i64 0, .int .i64 0, .string { data := #[] }, .int .i64 0, .slice none 0 0] 31)).heap.size by simp)
          have s9 := gb_setCells (r := some (wz12.heap.size)) (.inr rfl) [.int .i64 k0, .int .i64 m0, .string u0, .int .i64 rx, .slice B11 D.len d11] 0 (gb_refl (wz12.alloc (.cells #[.int .i64 0, .int .i64 0, .string { data := #[] }, .int .i64 0, .slice none 0 0] 31)) (some (wz12.heap.size)))
          have x9 := hid (show HoldsT ((wz12.alloc (.cells #[.int .i64 0, .int .i64 0, .string { data := #[] }, .int .i64 0, .slice none 0 0] 31)).setCells (wz12.heap.size) 0 [.int .i64 k0, .int .i64 m0, .string u0, .int .i64 rx, .slice B11 D.len d11]) (wz12.heap.size) #[.int .i64 k0, .int .i64 m0, .string u0, .int .i64 rx, .slice B11 D.len d11] 31 by have h := X13.out.setCells [.int .i64 k0, .int .i64 m0, .string u0, .int .i64 rx, .slice B11 D.len d11] 0; simpa [setArr] using h)
          have gd9 := hid (gb_setCells (r := none) (.inl HGE13.out) [.int .i64 k0, .int .i64 m0, .string u0, .int .i64 rx, .slice B11 D.len d11] 0 GD.out)
          have m9 : MkI (wz12.alloc (.cells #[.int .i64 0, .int .i64 0, .string { data := #[] }, .int .i64 0, .slice none 0 0] 31)) ((wz12.alloc (.cells #[.int .i64 0, .int .i64 0, .string { data := #[] }, .int .i64 0, .slice none 0 0] 31)).setCells (wz12.heap.size) 0 [.int .i64 k0, .int .i64 m0, .string u0, .int .i64 rx, .slice B11 D.len d11]) (wz12.heap.size) (wz12.heap.size + 1) := ⟨s9.os, s9.tape, s9.output, s9.size, fun k hk hb => s9.block k hk (by intro e; injection e; omega)⟩
          have t9 := hid (T11.out.mk' m9 (by have := OR7.out; have := OR9.out; have := OR11.out; have := OR13.out; have := HW0.out; omega))
          have HF := hid (Nat.le_trans HT.out m9.size)
          refine E_only 9 (by kernel_rfl) (E_store 9 rfl none rfl rfl 31 (.tmp 6) (.tmp 33) rfl (wz12.heap.size) 0 [.int .i64 k0, .int .i64 m0, .string u0, .int .i64 rx, .slice B11 D.len d11] rfl rfl X13.out (by simp) Try.infoV rfl ⟨fun _ => gd9.out, ?_⟩)
          simp only [Act.put]
          clear GD s9 m9
          have GD := gd9
          refine E_only 10 (by kernel_rfl) (E_val 10 rfl (some 7) rfl rfl (.bool ab) _ (run_asg (.tmp 34) rfl rfl) ⟨fun _ => GD.out, ?_⟩)
          simp only [Act.put, List.setIfInBounds_toArray, List.set_cons_succ, List.set_cons_zero]
          refine E_done (by kernel_rfl) ?_ _
          exact ⟨rfl, ⟨wz12.heap.size, .agg #[.int .i64 k0, .int .i64 m0, .string u0, .int .i64 x0, .slice B7 f0.len d7], .agg #[.int .i64 k1, .int .i64 m1, .string u1, .int .i64 x1, .slice B9 f1.len d9], .agg #[.int .i64 k0, .int .i64 m0, .string u0, .int .i64 rx, .slice B11 D.len d11]⟩, ⟨B11, d11, _, lo11, hi11, rfl, t9.out, x9.out, ⟨(by have := OR7.out; have := OR9.out; have := OR11.out; have := OR13.out; have := HW0.out; omega), (by have := OR7.out; have := OR9.out; have := OR11.out; have := OR13.out; have := HW0.out; omega), (by have := OR7.out; have := OR9.out; have := OR11.out; have := OR13.out; have := HW0.out; have := HF.out; omega)⟩, ⟨(by have := OR7.out; have := OR9.out; have := OR11.out; have := OR13.out; have := HW0.out; omega), x9.out.lt, (by have := OR7.out; have := OR9.out; have := OR11.out; have := OR13.out; have := HW0.out; omega)⟩, gb_trans GI.out GD.out⟩, by simp only [List.foldl, Act.put, List.setIfInBounds_toArray, List.set_cons_succ, List.set_cons_zero]⟩
        · skip
          have hge14 : wd.heap.size ≤ wz10.heap.size := GD.out.size
          have HGE14 := hid hge14
          clear hge14
          have X14 := hid (HoldsT.new wz10 #[.int .i64 0, .int .i64 0, .string { data := #[] }, .int .i64 0, .slice none 0 0] 31)
          have OR14 : Hid (hi9 ≤ wz10.heap.size) := HT
          replace GW := hid (gb_alloc GW.out (.cells #[.int .i64 0, .int .i64 0, .string { data := #[] }, .int .i64 0, .slice none 0 0] 31))
          replace T7 := hid (T7.out.grow (gb_alloc (gb_refl _ none) (.cells #[.int .i64 0, .int .i64 0, .string { data := #[] }, .int .i64 0, .slice none 0 0] 31)))
          replace T9 := hid (T9.out.grow (gb_alloc (gb_refl _ none) (.cells #[.int .i64 0, .int .i64 0, .string { data := #[] }, .int .i64 0, .slice none 0 0] 31)))
          replace GD := hid (gb_alloc GD.out (.cells #[.int .i64 0, .int .i64 0, .string { data := #[] }, .int .i64 0, .slice none 0 0] 31))
          refine E_val 8 rfl (some 6) rfl rfl (.pointer (some ⟨wz10.heap.size, 0, none⟩)) (wz10.alloc (.cells #[.int .i64 0, .int .i64 0, .string { data := #[] }, .int .i64 0, .slice none 0 0] 31)) (by go_simp) ⟨fun _ => GD.out, ?_⟩
          simp only [Act.put, List.setIfInBounds_toArray, List.set_cons_succ, List.set_cons_zero]
          replace HT := hid (show (wz10.heap.size + 1) ≤ (wz10.alloc (.cells #[.int .i64 0, .int .i64 0, .string { data := #[] }, .int .i64 0, .slice none 0 0] 31)).heap.size by simp)
          refine E_only 4 (by kernel_rfl) ?_
          refine E_call 4 rfl (some 32) rfl rfl 28 _ (run_call2 _ (by kernel_rfl) (.tmp 29) (.tmp 31) _ (.agg #[.int .i64 k0, .int .i64 m0, .string u0, .int .i64 x0, .slice B7 f0.len d7]) (.agg #[.int .i64 k1, .int .i64 m1, .string u1, .int .i64 x1, .slice B9 f1.len d9]) rfl rfl rfl) (specAppend_any f0 f1 _ k0 m0 u0 x0 B7 d7 _ k1 m1 u1 x1 B9 d9 _ ab rx D HAB.out HD.out T7.out.1.1 (RowF.nil0 T7.out.1.1 HA7.out) (by omega) T9.out.1.1 (RowF.nil0 T9.out.1.1 HA9.out) (by omega)) ?_
          rintro e wz16 ⟨B15, d15, M15, rfl, _, hR, hg⟩
          obtain ⟨lo15, hi15, hT15, hlo15, hlh15, hhi15⟩ := own_tr hR.own hg X14.out.lt
          have OR15 := hid (And.intro hlo15 hlh15)
          replace GW := hid (gb_trans GW.out hg)
          replace T7 := hid (T7.out.grow hg)
          replace T9 := hid (T9.out.grow hg)
          replace X14 := hid (X14.out.grow hg)
          replace HT := hid (Nat.le_trans HT.out (hg).size)
          replace GD := hid (gb_trans GD.out hg)
          clear hg
          have T15 := hid hT15; replace HT := hid hhi15
          clear hR hT15 hlo15 hlh15 hhi15
          refine ⟨_, rfl, fun _ => GD.out, ?_⟩
          simp only [Act.put, List.setIfInBounds_toArray, List.set_cons_succ, List.set_cons_zero]
          refine E_take 5 rfl (some 27) rfl (by kernel_rfl) (by kernel_rfl) (by kernel_rfl) (by kernel_rfl) (by decide) (fun _ _ _ _ h => by cases h.1) rfl (.tuple #[.agg #[.int .i64 k0, .int .i64 m0, .string u0, .int .i64 rx, .slice B15 D.len d15], .bool ab]) (fun w' hw => run_mov (.tmp 32) rfl rfl) GD.out ?_
          simp only [Act.put, List.setIfInBounds_toArray, List.set_cons_succ, List.set_cons_zero]
          refine E_take 6 rfl (some 33) rfl (by kernel_rfl) (by kernel_rfl) (by kernel_rfl) (by kernel_rfl) (by decide) (fun _ _ _ _ h => by cases h.1) rfl (.agg #[.int .i64 k0, .int .i64 m0, .string u0, .int .i64 rx, .slice B15 D.len d15]) (fun w' hw => run_ext (.tmp 27) 0 rfl rfl rfl) GD.out ?_
          simp only [Act.put, List.setIfInBounds_toArray, List.set_cons_succ, List.set_cons_zero]
          refine E_take 7 rfl (some 34) rfl (by kernel_rfl) (by kernel_rfl) (by kernel_rfl) (by kernel_rfl) (by decide) (fun _ _ _ _ h => by cases h.1) rfl (.bool ab) (fun w' hw => run_ext (.tmp 27) 1 rfl rfl rfl) GD.out ?_
          simp only [Act.put, List.setIfInBounds_toArray, List.set_cons_succ, List.set_cons_zero]
          have s9 := gb_setCells (r := some (wz10.heap.size)) (.inr rfl) [.int .i64 k0, .int .i64 m0, .string u0, .int .i64 rx, .slice B15 D.len d15] 0 (gb_refl wz16 (some (wz10.heap.size)))
          have x9 := hid (show HoldsT (wz16.setCells (wz10.heap.size) 0 [.int .i64 k0, .int .i64 m0, .string u0, .int .i64 rx, .slice B15 D.len d15]) (wz10.heap.size) #[.int .i64 k0, .int .i64 m0, .string u0, .int .i64 rx, .slice B15 D.len d15] 31 by have h := X14.out.setCells [.int .i64 k0, .int .i64 m0, .string u0, .int .i64 rx, .slice B15 D.len d15] 0; simpa [setArr] using h)
          have gd9 := hid (gb_setCells (r := none) (.inl HGE14.out) [.int .i64 k0, .int .i64 m0, .string u0, .int .i64 rx, .slice B15 D.len d15] 0 GD.out)
          have m9 : MkI wz16 (wz16.setCells (wz10.heap.size) 0 [.int .i64 k0, .int .i64 m0, .string u0, .int .i64 rx, .slice B15 D.len d15]) (wz10.heap.size) (wz10.heap.size + 1) := ⟨s9.os, s9.tape, s9.output, s9.size, fun k hk hb => s9.block k hk (by intro e; injection e; omega)⟩
          have t9 := hid (T15.out.mk' m9 (by have := OR7.out; have := OR9.out; have := OR14.out; have := OR15.out; have := HW0.out; omega))
          have HF := hid (Nat.le_trans HT.out m9.size)
          refine E_only 9 (by kernel_rfl) (E_store 9 rfl none rfl rfl 31 (.tmp 6) (.tmp 33) rfl (wz10.heap.size) 0 [.int .i64 k0, .int .i64 m0, .string u0, .int .i64 rx, .slice B15 D.len d15] rfl rfl X14.out (by simp) Try.infoV rfl ⟨fun _ => gd9.out, ?_⟩)
          simp only [Act.put]
          clear GD s9 m9
          have GD := gd9
          refine E_only 10 (by kernel_rfl) (E_val 10 rfl (some 7) rfl rfl (.bool ab) _ (run_asg (.tmp 34) rfl rfl) ⟨fun _ => GD.out, ?_⟩)
          simp only [Act.put, List.setIfInBounds_toArray, List.set_cons_succ, List.set_cons_zero]
          refine E_done (by kernel_rfl) ?_ _
          exact ⟨rfl, ⟨wz10.heap.size, .agg #[.int .i64 k0, .int .i64 m0, .string u0, .int .i64 x0, .slice B7 f0.len d7], .agg #[.int .i64 k1, .int .i64 m1, .string u1, .int .i64 x1, .slice B9 f1.len d9], .agg #[.int .i64 k0, .int .i64 m0, .string u0, .int .i64 rx, .slice B15 D.len d15]⟩, ⟨B15, d15, _, lo15, hi15, rfl, t9.out, x9.out, ⟨(by have := OR7.out; have := OR9.out; have := OR14.out; have := OR15.out; have := HW0.out; omega), (by have := OR7.out; have := OR9.out; have := OR14.out; have := OR15.out; have := HW0.out; omega), (by have := OR7.out; have := OR9.out; have := OR14.out; have := OR15.out; have := HW0.out; have := HF.out; omega)⟩, ⟨(by have := OR7.out; have := OR9.out; have := OR14.out; have := OR15.out; have := HW0.out; omega), x9.out.lt, (by have := OR7.out; have := OR9.out; have := OR14.out; have := OR15.out; have := HW0.out; omega)⟩, gb_trans GI.out GD.out⟩, by simp only [List.foldl, Act.put, List.setIfInBounds_toArray, List.set_cons_succ, List.set_cons_zero]⟩
      · skip
        have hge17 : wd.heap.size ≤ wz8.heap.size := GD.out.size
        have HGE17 := hid hge17
        clear hge17
        have X17 := hid (HoldsT.new wz8 #[.int .i64 0, .int .i64 0, .string { data := #[] }, .int .i64 0, .slice none 0 0] 31)
        have OR17 : Hid (hi7 ≤ wz8.heap.size) := HT
        replace GW := hid (gb_alloc GW.out (.cells #[.int .i64 0, .int .i64 0, .string { data := #[] }, .int .i64 0, .slice none 0 0] 31))
        replace T7 := hid (T7.out.grow (gb_alloc (gb_refl _ none) (.cells #[.int .i64 0, .int .i64 0, .string { data := #[] }, .int .i64 0, .slice none 0 0] 31)))
        replace GD := hid (gb_alloc GD.out (.cells #[.int .i64 0, .int .i64 0, .string { data := #[] }, .int .i64 0, .slice none 0 0] 31))
        refine E_val 8 rfl (some 6) rfl rfl (.pointer (some ⟨wz8.heap.size, 0, none⟩)) (wz8.alloc (.cells #[.int .i64 0, .int .i64 0, .string { data := #[] }, .int .i64 0, .slice none 0 0] 31)) (by go_simp) ⟨fun _ => GD.out, ?_⟩
        simp only [Act.put, List.setIfInBounds_toArray, List.set_cons_succ, List.set_cons_zero]
        replace HT := hid (show (wz8.heap.size + 1) ≤ (wz8.alloc (.cells #[.int .i64 0, .int .i64 0, .string { data := #[] }, .int .i64 0, .slice none 0 0] 31)).heap.size by simp)
        refine E_only 3 (by kernel_rfl) ?_
        refine E_call 3 rfl (some 31) rfl rfl 11 _ (run_call1 _ (by kernel_rfl) (.tmp 30) _ (.agg #[.int .i64 k1, .int .i64 m1, .string u1, .int .i64 x1, .slice A1 f1.len c1]) rfl rfl) (toValue_any f1 (toEntryS_any f1) k1 m1 u1 x1 A1 c1 _ _ (RP1.out.grow GW.out) HO1.out.1 (by omega)) ?_
        rintro e wz19 ⟨B18, d18, M18, rfl, ha18, ho18, hg⟩
        obtain ⟨lo18, hi18, hT18, hlo18, hlh18, hhi18⟩ := own_tr ho18 hg HT.out
        have OR18 := hid (And.intro hlo18 hlh18); have HA18 := hid ha18.2
        replace GW := hid (gb_trans GW.out hg)
        replace T7 := hid (T7.out.grow hg)
        replace X17 := hid (X17.out.grow hg)
        replace HT := hid (Nat.le_trans HT.out (hg).size)
        replace GD := hid (gb_trans GD.out hg)
        clear hg
        have T18 := hid hT18; replace HT := hid hhi18
        clear ho18 ha18 hT18 hlo18 hlh18 hhi18
        refine ⟨_, rfl, fun _ => GD.out, ?_⟩
        simp only [Act.put, List.setIfInBounds_toArray, List.set_cons_succ, List.set_cons_zero]
        refine E_only 4 (by kernel_rfl) ?_
        refine E_call 4 rfl (some 32) rfl rfl 28 _ (run_call2 _ (by kernel_rfl) (.tmp 29) (.tmp 31) _ (.agg #[.int .i64 k0, .int .i64 m0, .string u0, .int .i64 x0, .slice B7 f0.len d7]) (.agg #[.int .i64 k1, .int .i64 m1, .string u1, .int .i64 x1, .slice B18 f1.len d18]) rfl rfl rfl) (specAppend_any f0 f1 _ k0 m0 u0 x0 B7 d7 _ k1 m1 u1 x1 B18 d18 _ ab rx D HAB.out HD.out T7.out.1.1 (RowF.nil0 T7.out.1.1 HA7.out) (by omega) T18.out.1.1 (RowF.nil0 T18.out.1.1 HA18.out) (by omega)) ?_
        rintro e wz21 ⟨B20, d20, M20, rfl, _, hR, hg⟩
        obtain ⟨lo20, hi20, hT20, hlo20, hlh20, hhi20⟩ := own_tr hR.own hg X17.out.lt
        have OR20 := hid (And.intro hlo20 hlh20)
        replace GW := hid (gb_trans GW.out hg)
        replace T7 := hid (T7.out.grow hg)
        replace X17 := hid (X17.out.grow hg)
        replace T18 := hid (T18.out.grow hg)
        replace HT := hid (Nat.le_trans HT.out (hg).size)
        replace GD := hid (gb_trans GD.out hg)
        clear hg
        have T20 := hid hT20; replace HT := hid hhi20
        clear hR hT20 hlo20 hlh20 hhi20
        refine ⟨_, rfl, fun _ => GD.out, ?_⟩
        simp only [Act.put, List.setIfInBounds_toArray, List.set_cons_succ, List.set_cons_zero]
        refine E_take 5 rfl (some 27) rfl (by kernel_rfl) (by kernel_rfl) (by kernel_rfl) (by kernel_rfl) (by decide) (fun _ _ _ _ h => by cases h.1) rfl (.tuple #[.agg #[.int .i64 k0, .int .i64 m0, .string u0, .int .i64 rx, .slice B20 D.len d20], .bool ab]) (fun w' hw => run_mov (.tmp 32) rfl rfl) GD.out ?_
        simp only [Act.put, List.setIfInBounds_toArray, List.set_cons_succ, List.set_cons_zero]
        refine E_take 6 rfl (some 33) rfl (by kernel_rfl) (by kernel_rfl) (by kernel_rfl) (by kernel_rfl) (by decide) (fun _ _ _ _ h => by cases h.1) rfl (.agg #[.int .i64 k0, .int .i64 m0, .string u0, .int .i64 rx, .slice B20 D.len d20]) (fun w' hw => run_ext (.tmp 27) 0 rfl rfl rfl) GD.out ?_
        simp only [Act.put, List.setIfInBounds_toArray, List.set_cons_succ, List.set_cons_zero]
        refine E_take 7 rfl (some 34) rfl (by kernel_rfl) (by kernel_rfl) (by kernel_rfl) (by kernel_rfl) (by decide) (fun _ _ _ _ h => by cases h.1) rfl (.bool ab) (fun w' hw => run_ext (.tmp 27) 1 rfl rfl rfl) GD.out ?_
        simp only [Act.put, List.setIfInBounds_toArray, List.set_cons_succ, List.set_cons_zero]
        have s9 := gb_setCells (r := some (wz8.heap.size)) (.inr rfl) [.int .i64 k0, .int .i64 m0, .string u0, .int .i64 rx, .slice B20 D.len d20] 0 (gb_refl wz21 (some (wz8.heap.size)))
        have x9 := hid (show HoldsT (wz21.setCells (wz8.heap.size) 0 [.int .i64 k0, .int .i64 m0, .string u0, .int .i64 rx, .slice B20 D.len d20]) (wz8.heap.size) #[.int .i64 k0, .int .i64 m0, .string u0, .int .i64 rx, .slice B20 D.len d20] 31 by have h := X17.out.setCells [.int .i64 k0, .int .i64 m0, .string u0, .int .i64 rx, .slice B20 D.len d20] 0; simpa [setArr] using h)
        have gd9 := hid (gb_setCells (r := none) (.inl HGE17.out) [.int .i64 k0, .int .i64 m0, .string u0, .int .i64 rx, .slice B20 D.len d20] 0 GD.out)
        have m9 : MkI wz21 (wz21.setCells (wz8.heap.size) 0 [.int .i64 k0, .int .i64 m0, .string u0, .int .i64 rx, .slice B20 D.len d20]) (wz8.heap.size) (wz8.heap.size + 1) := ⟨s9.os, s9.tape, s9.output, s9.size, fun k hk hb => s9.block k hk (by intro e; injection e; omega)⟩
        have t9 := hid (T20.out.mk' m9 (by have := OR7.out; have := OR17.out; have := OR18.out; have := OR20.out; have := HW0.out; omega))
        have HF := hid (Nat.le_trans HT.out m9.size)
        refine E_only 9 (by kernel_rfl) (E_store 9 rfl none rfl rfl 31 (.tmp 6) (.tmp 33) rfl (wz8.heap.size) 0 [.int .i64 k0, .int .i64 m0, .string u0, .int .i64 rx, .slice B20 D.len d20] rfl rfl X17.out (by simp) Try.infoV rfl ⟨fun _ => gd9.out, ?_⟩)
        simp only [Act.put]
        clear GD s9 m9
        have GD := gd9
        refine E_only 10 (by kernel_rfl) (E_val 10 rfl (some 7) rfl rfl (.bool ab) _ (run_asg (.tmp 34) rfl rfl) ⟨fun _ => GD.out, ?_⟩)
        simp only [Act.put, List.setIfInBounds_toArray, List.set_cons_succ, List.set_cons_zero]
        refine E_done (by kernel_rfl) ?_ _
        exact ⟨rfl, ⟨wz8.heap.size, .agg #[.int .i64 k0, .int .i64 m0, .string u0, .int .i64 x0, .slice B7 f0.len d7], .agg #[.int .i64 k1, .int .i64 m1, .string u1, .int .i64 x1, .slice B18 f1.len d18], .agg #[.int .i64 k0, .int .i64 m0, .string u0, .int .i64 rx, .slice B20 D.len d20]⟩, ⟨B20, d20, _, lo20, hi20, rfl, t9.out, x9.out, ⟨(by have := OR7.out; have := OR17.out; have := OR18.out; have := OR20.out; have := HW0.out; omega), (by have := OR7.out; have := OR17.out; have := OR18.out; have := OR20.out; have := HW0.out; omega), (by have := OR7.out; have := OR17.out; have := OR18.out; have := OR20.out; have := HW0.out; have := HF.out; omega)⟩, ⟨(by have := OR7.out; have := OR17.out; have := OR18.out; have := OR20.out; have := HW0.out; omega), x9.out.lt, (by have := OR7.out; have := OR17.out; have := OR18.out; have := OR20.out; have := HW0.out; omega)⟩, gb_trans GI.out GD.out⟩, by simp only [List.foldl, Act.put, List.setIfInBounds_toArray, List.set_cons_succ, List.set_cons_zero]⟩
    · skip
      have hge22 : wd.heap.size ≤ wd.heap.size := GD.out.size
      have HGE22 := hid hge22
      clear hge22
      have X22 := hid (HoldsT.new wd #[.int .i64 0, .int .i64 0, .string { data := #[] }, .int .i64 0, .slice none 0 0] 31)
      have OR22 : Hid (tp0 ≤ wd.heap.size) := HT
      replace GW := hid (gb_alloc GW.out (.cells #[.int .i64 0, .int .i64 0, .string { data := #[] }, .int .i64 0, .slice none 0 0] 31))
      replace GD := hid (gb_alloc GD.out (.cells #[.int .i64 0, .int .i64 0, .string { data := #[] }, .int .i64 0, .slice none 0 0] 31))
      refine E_val 8 rfl (some 6) rfl rfl (.pointer (some ⟨wd.heap.size, 0, none⟩)) (wd.alloc (.cells #[.int .i64 0, .int .i64 0, .string { data := #[] }, .int .i64 0, .slice none 0 0] 31)) (by go_simp) ⟨fun _ => GD.out, ?_⟩
      simp only [Act.put, List.setIfInBounds_toArray, List.set_cons_succ, List.set_cons_zero]
      replace HT := hid (show (wd.heap.size + 1) ≤ (wd.alloc (.cells #[.int .i64 0, .int .i64 0, .string { data := #[] }, .int .i64 0, .slice none 0 0] 31)).heap.size by simp)
      refine E_only 1 (by kernel_rfl) ?_
      refine E_call 1 rfl (some 29) rfl rfl 11 _ (run_call1 _ (by kernel_rfl) (.tmp 28) _ (.agg #[.int .i64 k0, .int .i64 m0, .string u0, .int .i64 x0, .slice A0 f0.len c0]) rfl rfl) (toValue_any f0 (toEntryS_any f0) k0 m0 u0 x0 A0 c0 _ _ (RP0.out.grow GW.out) HO0.out.1 (by omega)) ?_
      rintro e wz24 ⟨B23, d23, M23, rfl, ha23, ho23, hg⟩
      obtain ⟨lo23, hi23, hT23, hlo23, hlh23, hhi23⟩ := own_tr ho23 hg HT.out
      have OR23 := hid (And.intro hlo23 hlh23); have HA23 := hid ha23.2
      replace GW := hid (gb_trans GW.out hg)
      replace X22 := hid (X22.out.grow hg)
      replace HT := hid (Nat.le_trans HT.out (hg).size)
      replace GD := hid (gb_trans GD.out hg)
      clear hg
      have T23 := hid hT23; replace HT := hid hhi23
      clear ho23 ha23 hT23 hlo23 hlh23 hhi23
      refine ⟨_, rfl, fun _ => GD.out, ?_⟩
      simp only [Act.put, List.setIfInBounds_toArray, List.set_cons_succ, List.set_cons_zero]
      refine E_only 3 (by kernel_rfl) ?_
      refine E_call 3 rfl (some 31) rfl rfl 11 _ (run_call1 _ (by kernel_rfl) (.tmp 30) _ (.agg #[.int .i64 k1, .int .i64 m1, .string u1, .int .i64 x1, .slice A1 f1.len c1]) rfl rfl) (toValue_any f1 (toEntryS_any f1) k1 m1 u1 x1 A1 c1 _ _ (RP1.out.grow GW.out) HO1.out.1 (by omega)) ?_
      rintro e wz26 ⟨B25, d25, M25, rfl, ha25, ho25, hg⟩
      obtain ⟨lo25, hi25, hT25, hlo25, hlh25, hhi25⟩ := own_tr ho25 hg HT.out
      have OR25 := hid (And.intro hlo25 hlh25); have HA25 := hid ha25.2
      replace GW := hid (gb_trans GW.out hg)
      replace X22 := hid (X22.out.grow hg)
      replace T23 := hid (T23.out.grow hg)
      replace HT := hid (Nat.le_trans HT.out (hg).size)
      replace GD := hid (gb_trans GD.out hg)
      clear hg
      have T25 := hid hT25; replace HT := hid hhi25
      clear ho25 ha25 hT25 hlo25 hlh25 hhi25
      refine ⟨_, rfl, fun _ => GD.out, ?_⟩
      simp only [Act.put, List.setIfInBounds_toArray, List.set_cons_succ, List.set_cons_zero]
      refine E_only 4 (by kernel_rfl) ?_
      refine E_call 4 rfl (some 32) rfl rfl 28 _ (run_call2 _ (by kernel_rfl) (.tmp 29) (.tmp 31) _ (.agg #[.int .i64 k0, .int .i64 m0, .string u0, .int .i64 x0, .slice B23 f0.len d23]) (.agg #[.int .i64 k1, .int .i64 m1, .string u1, .int .i64 x1, .slice B25 f1.len d25]) rfl rfl rfl) (specAppend_any f0 f1 _ k0 m0 u0 x0 B23 d23 _ k1 m1 u1 x1 B25 d25 _ ab rx D HAB.out HD.out T23.out.1.1 (RowF.nil0 T23.out.1.1 HA23.out) (by omega) T25.out.1.1 (RowF.nil0 T25.out.1.1 HA25.out) (by omega)) ?_
      rintro e wz28 ⟨B27, d27, M27, rfl, _, hR, hg⟩
      obtain ⟨lo27, hi27, hT27, hlo27, hlh27, hhi27⟩ := own_tr hR.own hg X22.out.lt
      have OR27 := hid (And.intro hlo27 hlh27)
      replace GW := hid (gb_trans GW.out hg)
      replace X22 := hid (X22.out.grow hg)
      replace T23 := hid (T23.out.grow hg)
      replace T25 := hid (T25.out.grow hg)
      replace HT := hid (Nat.le_trans HT.out (hg).size)
      replace GD := hid (gb_trans GD.out hg)
      clear hg
      have T27 := hid hT27; replace HT := hid hhi27
      clear hR hT27 hlo27 hlh27 hhi27
      refine ⟨_, rfl, fun _ => GD.out, ?_⟩
      simp only [Act.put, List.setIfInBounds_toArray, List.set_cons_succ, List.set_cons_zero]
      refine E_take 5 rfl (some 27) rfl (by kernel_rfl) (by kernel_rfl) (by kernel_rfl) (by kernel_rfl) (by decide) (fun _ _ _ _ h => by cases h.1) rfl (.tuple #[.agg #[.int .i64 k0, .int .i64 m0, .string u0, .int .i64 rx, .slice B27 D.len d27], .bool ab]) (fun w' hw => run_mov (.tmp 32) rfl rfl) GD.out ?_
      simp only [Act.put, List.setIfInBounds_toArray, List.set_cons_succ, List.set_cons_zero]
      refine E_take 6 rfl (some 33) rfl (by kernel_rfl) (by kernel_rfl) (by kernel_rfl) (by kernel_rfl) (by decide) (fun _ _ _ _ h => by cases h.1) rfl (.agg #[.int .i64 k0, .int .i64 m0, .string u0, .int .i64 rx, .slice B27 D.len d27]) (fun w' hw => run_ext (.tmp 27) 0 rfl rfl rfl) GD.out ?_
      simp only [Act.put, List.setIfInBounds_toArray, List.set_cons_succ, List.set_cons_zero]
      refine E_take 7 rfl (some 34) rfl (by kernel_rfl) (by kernel_rfl) (by kernel_rfl) (by kernel_rfl) (by decide) (fun _ _ _ _ h => by cases h.1) rfl (.bool ab) (fun w' hw => run_ext (.tmp 27) 1 rfl rfl rfl) GD.out ?_
      simp only [Act.put, List.setIfInBounds_toArray, List.set_cons_succ, List.set_cons_zero]
      have s9 := gb_setCells (r := some (wd.heap.size)) (.inr rfl) [.int .i64 k0, .int .i64 m0, .string u0, .int .i64 rx, .slice B27 D.len d27] 0 (gb_refl wz28 (some (wd.heap.size)))
      have x9 := hid (show HoldsT (wz28.setCells (wd.heap.size) 0 [.int .i64 k0, .int .i64 m0, .string u0, .int .i64 rx, .slice B27 D.len d27]) (wd.heap.size) #[.int .i64 k0, .int .i64 m0, .string u0, .int .i64 rx, .slice B27 D.len d27] 31 by have h := X22.out.setCells [.int .i64 k0, .int .i64 m0, .string u0, .int .i64 rx, .slice B27 D.len d27] 0; simpa [setArr] using h)
      have gd9 := hid (gb_setCells (r := none) (.inl HGE22.out) [.int .i64 k0, .int .i64 m0, .string u0, .int .i64 rx, .slice B27 D.len d27] 0 GD.out)
      have m9 : MkI wz28 (wz28.setCells (wd.heap.size) 0 [.int .i64 k0, .int .i64 m0, .string u0, .int .i64 rx, .slice B27 D.len d27]) (wd.heap.size) (wd.heap.size + 1) := ⟨s9.os, s9.tape, s9.output, s9.size, fun k hk hb => s9.block k hk (by intro e; injection e; omega)⟩
      have t9 := hid (T27.out.mk' m9 (by have := OR22.out; have := OR23.out; have := OR25.out; have := OR27.out; have := HW0.out; omega))
      have HF := hid (Nat.le_trans HT.out m9.size)
      refine E_only 9 (by kernel_rfl) (E_store 9 rfl none rfl rfl 31 (.tmp 6) (.tmp 33) rfl (wd.heap.size) 0 [.int .i64 k0, .int .i64 m0, .string u0, .int .i64 rx, .slice B27 D.len d27] rfl rfl X22.out (by simp) Try.infoV rfl ⟨fun _ => gd9.out, ?_⟩)
      simp only [Act.put]
      clear GD s9 m9
      have GD := gd9
      refine E_only 10 (by kernel_rfl) (E_val 10 rfl (some 7) rfl rfl (.bool ab) _ (run_asg (.tmp 34) rfl rfl) ⟨fun _ => GD.out, ?_⟩)
      simp only [Act.put, List.setIfInBounds_toArray, List.set_cons_succ, List.set_cons_zero]
      refine E_done (by kernel_rfl) ?_ _
      exact ⟨rfl, ⟨wd.heap.size, .agg #[.int .i64 k0, .int .i64 m0, .string u0, .int .i64 x0, .slice B23 f0.len d23], .agg #[.int .i64 k1, .int .i64 m1, .string u1, .int .i64 x1, .slice B25 f1.len d25], .agg #[.int .i64 k0, .int .i64 m0, .string u0, .int .i64 rx, .slice B27 D.len d27]⟩, ⟨B27, d27, _, lo27, hi27, rfl, t9.out, x9.out, ⟨(by have := OR22.out; have := OR23.out; have := OR25.out; have := OR27.out; have := HW0.out; omega), (by have := OR22.out; have := OR23.out; have := OR25.out; have := OR27.out; have := HW0.out; omega), (by have := OR22.out; have := OR23.out; have := OR25.out; have := OR27.out; have := HW0.out; have := HF.out; omega)⟩, ⟨(by have := OR22.out; have := OR23.out; have := OR25.out; have := OR27.out; have := HW0.out; omega), x9.out.lt, (by have := OR22.out; have := OR23.out; have := OR25.out; have := OR27.out; have := HW0.out; omega)⟩, gb_trans GI.out GD.out⟩, by simp only [List.foldl, Act.put, List.setIfInBounds_toArray, List.set_cons_succ, List.set_cons_zero]⟩
  rintro ⟨bb29, vc29_0, vc29_1, vc29_2⟩ wz29 ⟨B29, d29, M29, lo29, hi29, hv29, hT29, hX29, ⟨ho29, hp29, hq29⟩, ⟨hr29, hs29, ht29⟩, hg⟩
  dsimp only at hv29 hX29 hr29 hs29 ht29
  subst hv29
  simp only [List.foldl, Act.put, List.setIfInBounds_toArray, List.set_cons_succ, List.set_cons_zero]
  obtain ⟨tp29, hu29, hv29⟩ : ∃ z, (hi29 ≤ z ∧ bb29 + 1 ≤ z) ∧ z ≤ wz29.heap.size := ⟨_, ⟨hq29, hs29⟩, Nat.le_refl _⟩
  have OR29 := hid (And.intro (And.intro ho29 hp29) (And.intro hr29 (And.intro ht29 hu29)))
  replace GW := hid (gb_trans GW.out hg)
  replace HT := hid (Nat.le_trans HT.out (hg).size)
  clear hg
  have T29 := hid hT29; have X29 := hid hX29; replace HT := hid hv29
  clear ho29 hp29 hq29 hr29 hs29 ht29 hu29 hv29 hT29 hX29
  obtain ⟨a30_0, a30_1, a30_2, a30_3, a30_4⟩ := (HB0.out.grow GW.out).cells5
  have la30 := (HB0.out.grow GW.out).lt
  go_wp2_with fail
  refine (toValue_any f0 (toEntryS_any f0) k0 m0 u0 x0 A0 c0 _ _ (RP0.out.grow GW.out) HO0.out.1 (by omega)).mono ?_
  rintro e wz32 ⟨B31, d31, M31, rfl, ha31, ho31, hg⟩
  clear a30_0 a30_1 a30_2 a30_3 a30_4 la30
  obtain ⟨lo31, hi31, hT31, hlo31, hlh31, hhi31⟩ := own_tr ho31 hg HT.out
  have OR31 := hid (And.intro hlo31 hlh31); have HA31 := hid ha31.2
  replace GW := hid (gb_trans GW.out hg)
  replace T29 := hid (T29.out.grow hg)
  replace X29 := hid (X29.out.grow hg)
  replace HT := hid (Nat.le_trans HT.out (hg).size)
  clear hg
  have T31 := hid hT31; replace HT := hid hhi31
  clear ho31 ha31 hT31 hlo31 hlh31 hhi31
  have X33 := hid (HoldsT.new wz32 #[.int .i64 k0, .int .i64 m0, .string u0, .int .i64 x0, .slice B31 f0.len d31] 31)
  replace GW := hid (gb_alloc GW.out (.cells #[.int .i64 k0, .int .i64 m0, .string u0, .int .i64 x0, .slice B31 f0.len d31] 31))
  replace T29 := hid (T29.out.grow (gb_alloc (gb_refl _ none) (.cells #[.int .i64 k0, .int .i64 m0, .string u0, .int .i64 x0, .slice B31 f0.len d31] 31)))
  replace X29 := hid (X29.out.grow (gb_alloc (gb_refl _ none) (.cells #[.int .i64 k0, .int .i64 m0, .string u0, .int .i64 x0, .slice B31 f0.len d31] 31)))
  replace T31 := hid (T31.out.grow (gb_alloc (gb_refl _ none) (.cells #[.int .i64 k0, .int .i64 m0, .string u0, .int .i64 x0, .slice B31 f0.len d31] 31)))
  have OR33 : Hid (hi31 ≤ wz32.heap.size) := HT; replace HT := hid (show wz32.heap.size + 1 ≤ (wz32.alloc (.cells #[.int .i64 k0, .int .i64 m0, .string u0, .int .i64 x0, .slice B31 f0.len d31] 31)).heap.size by simp)
  obtain ⟨a34_0, a34_1, a34_2, a34_3, a34_4⟩ := (HB1.out.grow GW.out).cells5
  have la34 := (HB1.out.grow GW.out).lt
  go_wp2_with fail
  refine (toValue_any f1 (toEntryS_any f1) k1 m1 u1 x1 A1 c1 _ _ (RP1.out.grow GW.out) HO1.out.1 (by omega)).mono ?_
  rintro e wz36 ⟨B35, d35, M35, rfl, ha35, ho35, hg⟩
  clear a34_0 a34_1 a34_2 a34_3 a34_4 la34
  obtain ⟨lo35, hi35, hT35, hlo35, hlh35, hhi35⟩ := own_tr ho35 hg HT.out
  have OR35 := hid (And.intro hlo35 hlh35); have HA35 := hid ha35.2
  replace GW := hid (gb_trans GW.out hg)
  replace T29 := hid (T29.out.grow hg)
  replace X29 := hid (X29.out.grow hg)
  replace T31 := hid (T31.out.grow hg)
  replace X33 := hid (X33.out.grow hg)
  replace HT := hid (Nat.le_trans HT.out (hg).size)
  clear hg
  have T35 := hid hT35; replace HT := hid hhi35
  clear ho35 ha35 hT35 hlo35 hlh35 hhi35
  have X37 := hid (HoldsT.new wz36 #[.int .i64 k1, .int .i64 m1, .string u1, .int .i64 x1, .slice B35 f1.len d35] 31)
  replace GW := hid (gb_alloc GW.out (.cells #[.int .i64 k1, .int .i64 m1, .string u1, .int .i64 x1, .slice B35 f1.len d35] 31))
  replace T29 := hid (T29.out.grow (gb_alloc (gb_refl _ none) (.cells #[.int .i64 k1, .int .i64 m1, .string u1, .int .i64 x1, .slice B35 f1.len d35] 31)))
  replace X29 := hid (X29.out.grow (gb_alloc (gb_refl _ none) (.cells #[.int .i64 k1, .int .i64 m1, .string u1, .int .i64 x1, .slice B35 f1.len d35] 31)))
  replace T31 := hid (T31.out.grow (gb_alloc (gb_refl _ none) (.cells #[.int .i64 k1, .int .i64 m1, .string u1, .int .i64 x1, .slice B35 f1.len d35] 31)))
  replace X33 := hid (X33.out.grow (gb_alloc (gb_refl _ none) (.cells #[.int .i64 k1, .int .i64 m1, .string u1, .int .i64 x1, .slice B35 f1.len d35] 31)))
  replace T35 := hid (T35.out.grow (gb_alloc (gb_refl _ none) (.cells #[.int .i64 k1, .int .i64 m1, .string u1, .int .i64 x1, .slice B35 f1.len d35] 31)))
  have OR37 : Hid (hi35 ≤ wz36.heap.size) := HT; replace HT := hid (show wz36.heap.size + 1 ≤ (wz36.alloc (.cells #[.int .i64 k1, .int .i64 m1, .string u1, .int .i64 x1, .slice B35 f1.len d35] 31)).heap.size by simp)
  obtain ⟨a38_0, a38_1, a38_2, a38_3, a38_4⟩ := X33.out.cells5
  have la38 := X33.out.lt
  obtain ⟨a39_0, a39_1, a39_2, a39_3, a39_4⟩ := X37.out.cells5
  have la39 := X37.out.lt
  go_wp2_with fail
  refine (implAppend_any f0 f1 _ k0 m0 u0 x0 B31 d31 _ k1 m1 u1 x1 B35 d35 _ ab rx D HAB.out HD.out T31.out.1.1 (by omega) T35.out.1.1 (by omega)).mono ?_
  rintro e wz41 ⟨B40, d40, M40, rfl, _, hR, hg⟩
  clear a38_0 a38_1 a38_2 a38_3 a38_4 la38 a39_0 a39_1 a39_2 a39_3 a39_4 la39
  obtain ⟨lo40, hi40, hT40, hlo40, hlh40, hhi40⟩ := own_tr hR.own hg HT.out
  have OR40 := hid (And.intro hlo40 hlh40)
  replace GW := hid (gb_trans GW.out hg)
  replace T29 := hid (T29.out.grow hg)
  replace X29 := hid (X29.out.grow hg)
  replace T31 := hid (T31.out.grow hg)
  replace X33 := hid (X33.out.grow hg)
  replace T35 := hid (T35.out.grow hg)
  replace X37 := hid (X37.out.grow hg)
  replace HT := hid (Nat.le_trans HT.out (hg).size)
  clear hg
  have T40 := hid hT40; replace HT := hid hhi40
  clear hR hT40 hlo40 hlh40 hhi40
  have X42 := hid (HoldsT.new wz41 #[.int .i64 k0, .int .i64 m0, .string u0, .int .i64 rx, .slice B40 D.len d40] 31)
  replace GW := hid (gb_alloc GW.out (.cells #[.int .i64 k0, .int .i64 m0, .string u0, .int .i64 rx, .slice B40 D.len d40] 31))
  replace T29 := hid (T29.out.grow (gb_alloc (gb_refl _ none) (.cells #[.int .i64 k0, .int .i64 m0, .string u0, .int .i64 rx, .slice B40 D.len d40] 31)))
  replace X29 := hid (X29.out.grow (gb_alloc (gb_refl _ none) (.cells #[.int .i64 k0, .int .i64 m0, .string u0, .int .i64 rx, .slice B40 D.len d40] 31)))
  replace T31 := hid (T31.out.grow (gb_alloc (gb_refl _ none) (.cells #[.int .i64 k0, .int .i64 m0, .string u0, .int .i64 rx, .slice B40 D.len d40] 31)))
  replace X33 := hid (X33.out.grow (gb_alloc (gb_refl _ none) (.cells #[.int .i64 k0, .int .i64 m0, .string u0, .int .i64 rx, .slice B40 D.len d40] 31)))
  replace T35 := hid (T35.out.grow (gb_alloc (gb_refl _ none) (.cells #[.int .i64 k0, .int .i64 m0, .string u0, .int .i64 rx, .slice B40 D.len d40] 31)))
  replace X37 := hid (X37.out.grow (gb_alloc (gb_refl _ none) (.cells #[.int .i64 k0, .int .i64 m0, .string u0, .int .i64 rx, .slice B40 D.len d40] 31)))
  replace T40 := hid (T40.out.grow (gb_alloc (gb_refl _ none) (.cells #[.int .i64 k0, .int .i64 m0, .string u0, .int .i64 rx, .slice B40 D.len d40] 31)))
  have OR42 : Hid (hi40 ≤ wz41.heap.size) := HT; replace HT := hid (show wz41.heap.size + 1 ≤ (wz41.alloc (.cells #[.int .i64 k0, .int .i64 m0, .string u0, .int .i64 rx, .slice B40 D.len d40] 31)).heap.size by simp)
  obtain ⟨a43_0, a43_1, a43_2, a43_3, a43_4⟩ := X42.out.cells5
  have la43 := X42.out.lt
  obtain ⟨a44_0, a44_1, a44_2, a44_3, a44_4⟩ := X29.out.cells5
  have la44 := X29.out.lt
  go_wp2_with fail
  refine (eqValue_any D (eqEntryS_any D) k0 m0 u0 rx B40 B29 d40 d29 _ _ _ T40.out.1.1 T29.out.1.1 (by omega)).mono ?_
  rintro e wz45 ⟨rfl, hg⟩
  clear a43_0 a43_1 a43_2 a43_3 a43_4 la43 a44_0 a44_1 a44_2 a44_3 a44_4 la44
  replace GW := hid (gb_trans GW.out hg)
  replace T29 := hid (T29.out.grow hg)
  replace X29 := hid (X29.out.grow hg)
  replace T31 := hid (T31.out.grow hg)
  replace X33 := hid (X33.out.grow hg)
  replace T35 := hid (T35.out.grow hg)
  replace X37 := hid (X37.out.grow hg)
  replace T40 := hid (T40.out.grow hg)
  replace X42 := hid (X42.out.grow hg)
  replace HT := hid (Nat.le_trans HT.out (hg).size)
  clear hg
  go_wp2_with fail
  refine wp_region_E 999 5 rfl (by kernel_rfl) (fun wd w' => wd.grownBy w' none) fun wd gd => ?_
  have g0 : wd.grownBy wd none := gb_refl _ _
  have GI := hid gd
  replace GW := hid (gb_trans GW.out gd)
  replace T29 := hid (T29.out.grow gd)
  replace X29 := hid (X29.out.grow gd)
  replace T31 := hid (T31.out.grow gd)
  replace X33 := hid (X33.out.grow gd)
  replace T35 := hid (T35.out.grow gd)
  replace X37 := hid (X37.out.grow gd)
  replace T40 := hid (T40.out.grow gd)
  replace X42 := hid (X42.out.grow gd)
  replace HT := hid (Nat.le_trans HT.out (gd).size)
  clear gd
  have GD := hid g0
  refine E_load 0 rfl (some 54) rfl (by kernel_rfl) (by kernel_rfl) (by kernel_rfl) (by kernel_rfl) (by decide) (fun _ _ _ _ h => h) rfl 31 (.tmp 8) rfl (wz32.heap.size) 0 rfl _ (fun w' hw => (X33.out.grow hw).rangeV) Try.underlying31 rfl Try.infoV g0 ?_
  simp only [Act.put, List.setIfInBounds_toArray, List.set_cons_succ, List.set_cons_zero]
  refine E_load 1 rfl (some 55) rfl (by kernel_rfl) (by kernel_rfl) (by kernel_rfl) (by kernel_rfl) (by decide) (fun _ _ _ _ h => h) rfl 24 (.tmp 2) rfl (w.heap.size) 0 rfl _ (fun w' hw => ((HB0.out.grow GW.out).grow hw).rangeV) Try.underlying24 rfl Try.infoVL g0 ?_
  simp only [Act.put, List.setIfInBounds_toArray, List.set_cons_succ, List.set_cons_zero]
  refine E_only 2 (by kernel_rfl) ?_
  refine E_call 2 rfl (some 56) rfl rfl 11 _ (run_call1 _ (by kernel_rfl) (.tmp 55) _ (.agg #[.int .i64 k0, .int .i64 m0, .string u0, .int .i64 x0, .slice A0 f0.len c0]) rfl rfl) (toValue_any f0 (toEntryS_any f0) k0 m0 u0 x0 A0 c0 _ _ (RP0.out.grow GW.out) HO0.out.1 (by omega)) ?_
  rintro e wz47 ⟨B46, d46, M46, rfl, ha46, ho46, hg⟩
  obtain ⟨lo46, hi46, hT46, hlo46, hlh46, hhi46⟩ := own_tr ho46 hg HT.out
  have OR46 := hid (And.intro hlo46 hlh46); have HA46 := hid ha46.2
  replace GW := hid (gb_trans GW.out hg)
  replace T29 := hid (T29.out.grow hg)
  replace X29 := hid (X29.out.grow hg)
  replace T31 := hid (T31.out.grow hg)
  replace X33 := hid (X33.out.grow hg)
  replace T35 := hid (T35.out.grow hg)
  replace X37 := hid (X37.out.grow hg)
  replace T40 := hid (T40.out.grow hg)
  replace X42 := hid (X42.out.grow hg)
  replace HT := hid (Nat.le_trans HT.out (hg).size)
  replace GD := hid (gb_trans GD.out hg)
  clear hg
  have T46 := hid hT46; replace HT := hid hhi46
  clear ho46 ha46 hT46 hlo46 hlh46 hhi46
  refine ⟨_, rfl, fun _ => GD.out, ?_⟩
  simp only [Act.put, List.setIfInBounds_toArray, List.set_cons_succ, List.set_cons_zero]
  refine E_only 3 (by kernel_rfl) ?_
  refine E_call 3 rfl (some 57) rfl rfl 14 _ (run_call2 _ (by kernel_rfl) (.tmp 54) (.tmp 56) _ (.agg #[.int .i64 k0, .int .i64 m0, .string u0, .int .i64 x0, .slice B31 f0.len d31]) (.agg #[.int .i64 k0, .int .i64 m0, .string u0, .int .i64 x0, .slice B46 f0.len d46]) rfl rfl rfl) (eqValue_any f0 (eqEntryS_any f0) k0 m0 u0 x0 B31 B46 d31 d46 _ _ _ T31.out.1.1 T46.out.1.1 (by omega)) ?_
  rintro e wz48 ⟨rfl, hg⟩
  replace GW := hid (gb_trans GW.out hg)
  replace T29 := hid (T29.out.grow hg)
  replace X29 := hid (X29.out.grow hg)
  replace T31 := hid (T31.out.grow hg)
  replace X33 := hid (X33.out.grow hg)
  replace T35 := hid (T35.out.grow hg)
  replace X37 := hid (X37.out.grow hg)
  replace T40 := hid (T40.out.grow hg)
  replace X42 := hid (X42.out.grow hg)
  replace T46 := hid (T46.out.grow hg)
  replace HT := hid (Nat.le_trans HT.out (hg).size)
  replace GD := hid (gb_trans GD.out hg)
  clear hg
  refine ⟨_, rfl, fun _ => GD.out, ?_⟩
  simp only [Act.put, List.setIfInBounds_toArray, List.set_cons_succ, List.set_cons_zero]
  refine E_only 4 (by kernel_rfl) (E_val 4 rfl (some 58) rfl rfl (.bool false) _ (run_not 4 57 rfl (b := true) rfl) ⟨fun _ => GD.out, ?_⟩)
  simp only [Act.put, List.setIfInBounds_toArray, List.set_cons_succ, List.set_cons_zero]
  refine E_done (by kernel_rfl) ?_ _
  replace GW := GW
  clear GD GI g0
  go_wp2_with fail
  refine wp_region_E 999 5 rfl (by kernel_rfl) (fun wd w' => wd.grownBy w' none) fun wd gd => ?_
  have g0 : wd.grownBy wd none := gb_refl _ _
  have GI := hid gd
  replace GW := hid (gb_trans GW.out gd)
  replace T29 := hid (T29.out.grow gd)
  replace X29 := hid (X29.out.grow gd)
  replace T31 := hid (T31.out.grow gd)
  replace X33 := hid (X33.out.grow gd)
  replace T35 := hid (T35.out.grow gd)
  replace X37 := hid (X37.out.grow gd)
  replace T40 := hid (T40.out.grow gd)
  replace X42 := hid (X42.out.grow gd)
  replace T46 := hid (T46.out.grow gd)
  replace HT := hid (Nat.le_trans HT.out (gd).size)
  clear gd
  have GD := hid g0
  refine E_load 0 rfl (some 59) rfl (by kernel_rfl) (by kernel_rfl) (by kernel_rfl) (by kernel_rfl) (by decide) (fun _ _ _ _ h => h) rfl 31 (.tmp 9) rfl (wz36.heap.size) 0 rfl _ (fun w' hw => (X37.out.grow hw).rangeV) Try.underlying31 rfl Try.infoV g0 ?_
  simp only [Act.put, List.setIfInBounds_toArray, List.set_cons_succ, List.set_cons_zero]
  refine E_load 1 rfl (some 60) rfl (by kernel_rfl) (by kernel_rfl) (by kernel_rfl) (by kernel_rfl) (by decide) (fun _ _ _ _ h => h) rfl 24 (.tmp 3) rfl (w.heap.size + 1) 0 rfl _ (fun w' hw => ((HB1.out.grow GW.out).grow hw).rangeV) Try.underlying24 rfl Try.infoVL g0 ?_
  simp only [Act.put, List.setIfInBounds_toArray, List.set_cons_succ, List.set_cons_zero]
  refine E_only 2 (by kernel_rfl) ?_
  refine E_call 2 rfl (some 61) rfl rfl 11 _ (run_call1 _ (by kernel_rfl) (.tmp 60) _ (.agg #[.int .i64 k1, .int .i64 m1, .string u1, .int .i64 x1, .slice A1 f1.len c1]) rfl rfl) (toValue_any f1 (toEntryS_any f1) k1 m1 u1 x1 A1 c1 _ _ (RP1.out.grow GW.out) HO1.out.1 (by omega)) ?_
  rintro e wz50 ⟨B49, d49, M49, rfl, ha49, ho49, hg⟩
  obtain ⟨lo49, hi49, hT49, hlo49, hlh49, hhi49⟩ := own_tr ho49 hg HT.out
  have OR49 := hid (And.intro hlo49 hlh49); have HA49 := hid ha49.2
  replace GW := hid (gb_trans GW.out hg)
  replace T29 := hid (T29.out.grow hg)
  replace X29 := hid (X29.out.grow hg)
  replace T31 := hid (T31.out.grow hg)
  replace X33 := hid (X33.out.grow hg)
  replace T35 := hid (T35.out.grow hg)
  replace X37 := hid (X37.out.grow hg)
  replace T40 := hid (T40.out.grow hg)
  replace X42 := hid (X42.out.grow hg)
  replace T46 := hid (T46.out.grow hg)
  replace HT := hid (Nat.le_trans HT.out (hg).size)
  replace GD := hid (gb_trans GD.out hg)
  clear hg
  have T49 := hid hT49; replace HT := hid hhi49
  clear ho49 ha49 hT49 hlo49 hlh49 hhi49
  refine ⟨_, rfl, fun _ => GD.out, ?_⟩
  simp only [Act.put, List.setIfInBounds_toArray, List.set_cons_succ, List.set_cons_zero]
  refine E_only 3 (by kernel_rfl) ?_
  refine E_call 3 rfl (some 62) rfl rfl 14 _ (run_call2 _ (by kernel_rfl) (.tmp 59) (.tmp 61) _ (.agg #[.int .i64 k1, .int .i64 m1, .string u1, .int .i64 x1, .slice B35 f1.len d35]) (.agg #[.int .i64 k1, .int .i64 m1, .string u1, .int .i64 x1, .slice B49 f1.len d49]) rfl rfl rfl) (eqValue_any f1 (eqEntryS_any f1) k1 m1 u1 x1 B35 B49 d35 d49 _ _ _ T35.out.1.1 T49.out.1.1 (by omega)) ?_
  rintro e wz51 ⟨rfl, hg⟩
  replace GW := hid (gb_trans GW.out hg)
  replace T29 := hid (T29.out.grow hg)
  replace X29 := hid (X29.out.grow hg)
  replace T31 := hid (T31.out.grow hg)
  replace X33 := hid (X33.out.grow hg)
  replace T35 := hid (T35.out.grow hg)
  replace X37 := hid (X37.out.grow hg)
  replace T40 := hid (T40.out.grow hg)
  replace X42 := hid (X42.out.grow hg)
  replace T46 := hid (T46.out.grow hg)
  replace T49 := hid (T49.out.grow hg)
  replace HT := hid (Nat.le_trans HT.out (hg).size)
  replace GD := hid (gb_trans GD.out hg)
  clear hg
  refine ⟨_, rfl, fun _ => GD.out, ?_⟩
  simp only [Act.put, List.setIfInBounds_toArray, List.set_cons_succ, List.set_cons_zero]
  refine E_only 4 (by kernel_rfl) (E_val 4 rfl (some 63) rfl rfl (.bool false) _ (run_not 4 62 rfl (b := true) rfl) ⟨fun _ => GD.out, ?_⟩)
  simp only [Act.put, List.setIfInBounds_toArray, List.set_cons_succ, List.set_cons_zero]
  refine E_done (by kernel_rfl) ?_ _
  replace GW := GW
  clear GD GI g0
  obtain ⟨a52_0, a52_1, a52_2, a52_3, a52_4⟩ := X33.out.cells5
  have la52 := X33.out.lt
  go_wp2_with fail
  refine (markValue_any f0 _ k0 m0 u0 x0 B31 d31 _ lo31 1 T31.out.1 (by omega) (by omega)).mono ?_
  rintro e wz54 ⟨rfl, hT, hM⟩
  clear a52_0 a52_1 a52_2 a52_3 a52_4 la52
  obtain ⟨z53, hz53⟩ : ∃ z : Nat, 1 + 7 * f0.size = z := ⟨_, rfl⟩
  have HZ53 := hid hz53
  have hzb53 : z53 ≤ 1 + 8388608 ∧ 1 ≤ z53 := by omega
  rw [hz53]
  clear hz53
  have hm := MkI.of hM T31.out.bounds
  replace GW := hid (gb_mk GW.out hm (by have := OR29.out; have := OR31.out; have := OR33.out; have := OR35.out; have := OR37.out; have := OR40.out; have := OR42.out; have := OR46.out; have := OR49.out; have := HW0.out; omega))
  replace T29 := hid (T29.out.mk' hm (by have := OR29.out; have := OR31.out; have := OR33.out; have := OR35.out; have := OR37.out; have := OR40.out; have := OR42.out; have := OR46.out; have := OR49.out; have := HW0.out; omega))
  replace X29 := hid (X29.out.mk' hm (by have := OR29.out; have := OR31.out; have := OR33.out; have := OR35.out; have := OR37.out; have := OR40.out; have := OR42.out; have := OR46.out; have := OR49.out; have := HW0.out; omega))
  replace X33 := hid (X33.out.mk' hm (by have := OR29.out; have := OR31.out; have := OR33.out; have := OR35.out; have := OR37.out; have := OR40.out; have := OR42.out; have := OR46.out; have := OR49.out; have := HW0.out; omega))
  replace T35 := hid (T35.out.mk' hm (by have := OR29.out; have := OR31.out; have := OR33.out; have := OR35.out; have := OR37.out; have := OR40.out; have := OR42.out; have := OR46.out; have := OR49.out; have := HW0.out; omega))
  replace X37 := hid (X37.out.mk' hm (by have := OR29.out; have := OR31.out; have := OR33.out; have := OR35.out; have := OR37.out; have := OR40.out; have := OR42.out; have := OR46.out; have := OR49.out; have := HW0.out; omega))
  replace T40 := hid (T40.out.mk' hm (by have := OR29.out; have := OR31.out; have := OR33.out; have := OR35.out; have := OR37.out; have := OR40.out; have := OR42.out; have := OR46.out; have := OR49.out; have := HW0.out; omega))
  replace X42 := hid (X42.out.mk' hm (by have := OR29.out; have := OR31.out; have := OR33.out; have := OR35.out; have := OR37.out; have := OR40.out; have := OR42.out; have := OR46.out; have := OR49.out; have := HW0.out; omega))
  replace T46 := hid (T46.out.mk' hm (by have := OR29.out; have := OR31.out; have := OR33.out; have := OR35.out; have := OR37.out; have := OR40.out; have := OR42.out; have := OR46.out; have := OR49.out; have := HW0.out; omega))
  replace T49 := hid (T49.out.mk' hm (by have := OR29.out; have := OR31.out; have := OR33.out; have := OR35.out; have := OR37.out; have := OR40.out; have := OR42.out; have := OR46.out; have := OR49.out; have := HW0.out; omega))
  replace T31 := hid (show Tr _ 61 lo31 hi31 (f0.mark 1) B31 _ from ⟨hT, T31.out.2⟩)
  replace HT := hid (Nat.le_trans HT.out hm.size)
  clear hm hM hT
  obtain ⟨a55_0, a55_1, a55_2, a55_3, a55_4⟩ := X37.out.cells5
  have la55 := X37.out.lt
  go_wp2_with fail
  refine (markValue_any f1 _ k1 m1 u1 x1 B35 d35 _ lo35 z53 T35.out.1 (by omega) (by omega)).mono ?_
  rintro e wz57 ⟨rfl, hT, hM⟩
  clear a55_0 a55_1 a55_2 a55_3 a55_4 la55
  obtain ⟨z56, hz56⟩ : ∃ z : Nat, z53 + 7 * f1.size = z := ⟨_, rfl⟩
  have HZ56 := hid hz56
  have hzb56 : z56 ≤ z53 + 8388608 ∧ 1 ≤ z56 := by omega
  rw [hz56]
  clear hz56
  have hm := MkI.of hM T35.out.bounds
  replace GW := hid (gb_mk GW.out hm (by have := OR29.out; have := OR31.out; have := OR33.out; have := OR35.out; have := OR37.out; have := OR40.out; have := OR42.out; have := OR46.out; have := OR49.out; have := HW0.out; omega))
  replace T29 := hid (T29.out.mk' hm (by have := OR29.out; have := OR31.out; have := OR33.out; have := OR35.out; have := OR37.out; have := OR40.out; have := OR42.out; have := OR46.out; have := OR49.out; have := HW0.out; omega))
  replace X29 := hid (X29.out.mk' hm (by have := OR29.out; have := OR31.out; have := OR33.out; have := OR35.out; have := OR37.out; have := OR40.out; have := OR42.out; have := OR46.out; have := OR49.out; have := HW0.out; omega))
  replace T31 := hid (T31.out.mk' hm (by have := OR29.out; have := OR31.out; have := OR33.out; have := OR35.out; have := OR37.out; have := OR40.out; have := OR42.out; have := OR46.out; have := OR49.out; have := HW0.out; omega))
  replace X33 := hid (X33.out.mk' hm (by have := OR29.out; have := OR31.out; have := OR33.out; have := OR35.out; have := OR37.out; have := OR40.out; have := OR42.out; have := OR46.out; have := OR49.out; have := HW0.out; omega))
  replace X37 := hid (X37.out.mk' hm (by have := OR29.out; have := OR31.out; have := OR33.out; have := OR35.out; have := OR37.out; have := OR40.out; have := OR42.out; have := OR46.out; have := OR49.out; have := HW0.out; omega))
  replace T40 := hid (T40.out.mk' hm (by have := OR29.out; have := OR31.out; have := OR33.out; have := OR35.out; have := OR37.out; have := OR40.out; have := OR42.out; have := OR46.out; have := OR49.out; have := HW0.out; omega))
  replace X42 := hid (X42.out.mk' hm (by have := OR29.out; have := OR31.out; have := OR33.out; have := OR35.out; have := OR37.out; have := OR40.out; have := OR42.out; have := OR46.out; have := OR49.out; have := HW0.out; omega))
  replace T46 := hid (T46.out.mk' hm (by have := OR29.out; have := OR31.out; have := OR33.out; have := OR35.out; have := OR37.out; have := OR40.out; have := OR42.out; have := OR46.out; have := OR49.out; have := HW0.out; omega))
  replace T49 := hid (T49.out.mk' hm (by have := OR29.out; have := OR31.out; have := OR33.out; have := OR35.out; have := OR37.out; have := OR40.out; have := OR42.out; have := OR46.out; have := OR49.out; have := HW0.out; omega))
  replace T35 := hid (show Tr _ 61 lo35 hi35 (f1.mark z53) B35 _ from ⟨hT, T35.out.2⟩)
  replace HT := hid (Nat.le_trans HT.out hm.size)
  clear hm hM hT
  obtain ⟨a58_0, a58_1, a58_2, a58_3, a58_4⟩ := X42.out.cells5
  have la58 := X42.out.lt
  obtain ⟨a59_0, a59_1, a59_2, a59_3, a59_4⟩ := X29.out.cells5
  have la59 := X29.out.lt
  go_wp2_with fail
  refine (eqValue_any D (eqEntryS_any D) k0 m0 u0 rx B40 B29 d40 d29 _ _ _ T40.out.1.1 T29.out.1.1 (by omega)).mono ?_
  rintro e wz60 ⟨rfl, hg⟩
  clear a58_0 a58_1 a58_2 a58_3 a58_4 la58 a59_0 a59_1 a59_2 a59_3 a59_4 la59
  replace GW := hid (gb_trans GW.out hg)
  replace T29 := hid (T29.out.grow hg)
  replace X29 := hid (X29.out.grow hg)
  replace T31 := hid (T31.out.grow hg)
  replace X33 := hid (X33.out.grow hg)
  replace T35 := hid (T35.out.grow hg)
  replace X37 := hid (X37.out.grow hg)
  replace T40 := hid (T40.out.grow hg)
  replace X42 := hid (X42.out.grow hg)
  replace T46 := hid (T46.out.grow hg)
  replace T49 := hid (T49.out.grow hg)
  replace HT := hid (Nat.le_trans HT.out (hg).size)
  clear hg
  obtain ⟨a61_0, a61_1, a61_2, a61_3, a61_4⟩ := X42.out.cells5
  have la61 := X42.out.lt
  go_wp2_with fail
  refine (markValue_any D _ k0 m0 u0 rx B40 d40 _ lo40 1 T40.out.1 (by omega) (by omega)).mono ?_
  rintro e wz63 ⟨rfl, hT, hM⟩
  clear a61_0 a61_1 a61_2 a61_3 a61_4 la61
  obtain ⟨z62, hz62⟩ : ∃ z : Nat, 1 + 7 * D.size = z := ⟨_, rfl⟩
  have HZ62 := hid hz62
  have hzb62 : z62 ≤ 1 + 8388608 ∧ 1 ≤ z62 := by omega
  rw [hz62]
  clear hz62
  have hm := MkI.of hM T40.out.bounds
  replace GW := hid (gb_mk GW.out hm (by have := OR29.out; have := OR31.out; have := OR33.out; have := OR35.out; have := OR37.out; have := OR40.out; have := OR42.out; have := OR46.out; have := OR49.out; have := HW0.out; omega))
  replace T29 := hid (T29.out.mk' hm (by have := OR29.out; have := OR31.out; have := OR33.out; have := OR35.out; have := OR37.out; have := OR40.out; have := OR42.out; have := OR46.out; have := OR49.out; have := HW0.out; omega))
  replace X29 := hid (X29.out.mk' hm (by have := OR29.out; have := OR31.out; have := OR33.out; have := OR35.out; have := OR37.out; have := OR40.out; have := OR42.out; have := OR46.out; have := OR49.out; have := HW0.out; omega))
  replace T31 := hid (T31.out.mk' hm (by have := OR29.out; have := OR31.out; have := OR33.out; have := OR35.out; have := OR37.out; have := OR40.out; have := OR42.out; have := OR46.out; have := OR49.out; have := HW0.out; omega))
  replace X33 := hid (X33.out.mk' hm (by have := OR29.out; have := OR31.out; have := OR33.out; have := OR35.out; have := OR37.out; have := OR40.out; have := OR42.out; have := OR46.out; have := OR49.out; have := HW0.out; omega))
  replace T35 := hid (T35.out.mk' hm (by have := OR29.out; have := OR31.out; have := OR33.out; have := OR35.out; have := OR37.out; have := OR40.out; have := OR42.out; have := OR46.out; have := OR49.out; have := HW0.out; omega))
  replace X37 := hid (X37.out.mk' hm (by have := OR29.out; have := OR31.out; have := OR33.out; have := OR35.out; have := OR37.out; have := OR40.out; have := OR42.out; have := OR46.out; have := OR49.out; have := HW0.out; omega))
  replace X42 := hid (X42.out.mk' hm (by have := OR29.out; have := OR31.out; have := OR33.out; have := OR35.out; have := OR37.out; have := OR40.out; have := OR42.out; have := OR46.out; have := OR49.out; have := HW0.out; omega))
  replace T46 := hid (T46.out.mk' hm (by have := OR29.out; have := OR31.out; have := OR33.out; have := OR35.out; have := OR37.out; have := OR40.out; have := OR42.out; have := OR46.out; have := OR49.out; have := HW0.out; omega))
  replace T49 := hid (T49.out.mk' hm (by have := OR29.out; have := OR31.out; have := OR33.out; have := OR35.out; have := OR37.out; have := OR40.out; have := OR42.out; have := OR46.out; have := OR49.out; have := HW0.out; omega))
  replace T40 := hid (show Tr _ 61 lo40 hi40 (D.mark 1) B40 _ from ⟨hT, T40.out.2⟩)
  replace HT := hid (Nat.le_trans HT.out hm.size)
  clear hm hM hT
  obtain ⟨a64_0, a64_1, a64_2, a64_3, a64_4⟩ := X42.out.cells5
  have la64 := X42.out.lt
  go_wp2_with fail
  refine (heldValue_any D _ k0 m0 u0 rx B40 d40 _ 1 (by have h := T40.out.1.1; rw [Forest.len_mark] at h; exact h) (by omega) (by omega)).mono ?_
  rintro e wz65 ⟨rfl, hg⟩
  clear a64_0 a64_1 a64_2 a64_3 a64_4 la64
  rw [HZ62.out]
  replace GW := hid (gb_trans GW.out hg)
  replace T29 := hid (T29.out.grow hg)
  replace X29 := hid (X29.out.grow hg)
  replace T31 := hid (T31.out.grow hg)
  replace X33 := hid (X33.out.grow hg)
  replace T35 := hid (T35.out.grow hg)
  replace X37 := hid (X37.out.grow hg)
  replace T40 := hid (T40.out.grow hg)
  replace X42 := hid (X42.out.grow hg)
  replace T46 := hid (T46.out.grow hg)
  replace T49 := hid (T49.out.grow hg)
  replace HT := hid (Nat.le_trans HT.out (hg).size)
  clear hg
  go_wp2_with fail
  refine wp_region_puts (X := Nat × Value × Value × Value) (fun x w' => ∃ A' c' L' lo hi, x.2.2.2 = .agg #[.int .i64 k0, .int .i64 m0, .string u0, .int .i64 rx, .slice A' D.len c'] ∧ Tr w' 61 lo hi D A' L' ∧ HoldsT w' x.1 #[.int .i64 k0, .int .i64 m0, .string u0, .int .i64 rx, .slice A' D.len c'] 31 ∧ (hi49 ≤ lo ∧ lo ≤ hi ∧ hi ≤ w'.heap.size) ∧ (hi49 ≤ x.1 ∧ x.1 + 1 ≤ w'.heap.size ∧ (x.1 + 1 ≤ lo ∨ hi ≤ x.1)) ∧ wz65.grownBy w' none) (fun x => [(some 95, .agg #[.int .i64 k0, .int .i64 m0, .string u0, .int .i64 x0, .slice A0 f0.len c0]), (some 96, x.2.1), (some 97, .agg #[.int .i64 k1, .int .i64 m1, .string u1, .int .i64 x1, .slice A1 f1.len c1]), (some 98, x.2.2.1), (some 99, .tuple #[x.2.2.2, .bool ab]), (some 94, .tuple #[x.2.2.2, .bool ab]), (some 100, x.2.2.2), (some 101, .bool ab), (some 15, .pointer (some ⟨x.1, 0, none⟩)), (some 16, .bool ab)]) ?_ ?_
  · skip
    refine wp_region_E 999 11 rfl (by kernel_rfl) (fun wd w' => wd.grownBy w' none) fun wd gd => ?_
    have g0 : wd.grownBy wd none := gb_refl _ _
    have GI := hid gd
    replace GW := hid (gb_trans GW.out gd)
    replace T29 := hid (T29.out.grow gd)
    replace X29 := hid (X29.out.grow gd)
    replace T31 := hid (T31.out.grow gd)
    replace X33 := hid (X33.out.grow gd)
    replace T35 := hid (T35.out.grow gd)
    replace X37 := hid (X37.out.grow gd)
    replace T40 := hid (T40.out.grow gd)
    replace X42 := hid (X42.out.grow gd)
    replace T46 := hid (T46.out.grow gd)
    replace T49 := hid (T49.out.grow gd)
    replace HT := hid (Nat.le_trans HT.out (gd).size)
    clear gd
    have GD := hid g0
    refine E_load 0 rfl (some 95) rfl (by kernel_rfl) (by kernel_rfl) (by kernel_rfl) (by kernel_rfl) (by decide) (fun _ _ _ _ h => by cases h.1) rfl 24 (.tmp 2) rfl (w.heap.size) 0 rfl _ (fun w' hw => ((HB0.out.grow GW.out).grow hw).rangeV) Try.underlying24 rfl Try.infoVL g0 ?_
    simp only [Act.put, List.setIfInBounds_toArray, List.set_cons_succ, List.set_cons_zero]
    refine E_load 2 rfl (some 97) rfl (by kernel_rfl) (by kernel_rfl) (by kernel_rfl) (by kernel_rfl) (by decide) (fun _ _ _ _ h => by cases h.1) rfl 24 (.tmp 3) rfl (w.heap.size + 1) 0 rfl _ (fun w' hw => ((HB1.out.grow GW.out).grow hw).rangeV) Try.underlying24 rfl Try.infoVL g0 ?_
    simp only [Act.put, List.setIfInBounds_toArray, List.set_cons_succ, List.set_cons_zero]
    refine E_two 1 8 (by kernel_rfl) ?_ ?_
    · skip
      refine E_call 1 rfl (some 96) rfl rfl 11 _ (run_call1 _ (by kernel_rfl) (.tmp 95) _ (.agg #[.int .i64 k0, .int .i64 m0, .string u0, .int .i64 x0, .slice A0 f0.len c0]) rfl rfl) (toValue_any f0 (toEntryS_any f0) k0 m0 u0 x0 A0 c0 _ _ (RP0.out.grow GW.out) HO0.out.1 (by omega)) ?_
      rintro e wz67 ⟨B66, d66, M66, rfl, ha66, ho66, hg⟩
      obtain ⟨lo66, hi66, hT66, hlo66, hlh66, hhi66⟩ := own_tr ho66 hg HT.out
      have OR66 := hid (And.intro hlo66 hlh66); have HA66 := hid ha66.2
      replace GW := hid (gb_trans GW.out hg)
      replace T29 := hid (T29.out.grow hg)
      replace X29 := hid (X29.out.grow hg)
      replace T31 := hid (T31.out.grow hg)
      replace X33 := hid (X33.out.grow hg)
      replace T35 := hid (T35.out.grow hg)
      replace X37 := hid (X37.out.grow hg)
      replace T40 := hid (T40.out.grow hg)
      replace X42 := hid (X42.out.grow hg)
      replace T46 := hid (T46.out.grow hg)
      replace T49 := hid (T49.out.grow hg)
      replace HT := hid (Nat.le_trans HT.out (hg).size)
      replace GD := hid (gb_trans GD.out hg)
      clear hg
      have T66 := hid hT66; replace HT := hid hhi66
      clear ho66 ha66 hT66 hlo66 hlh66 hhi66
      refine ⟨_, rfl, fun _ => GD.out, ?_⟩
      simp only [Act.put, List.setIfInBounds_toArray, List.set_cons_succ, List.set_cons_zero]
      refine E_two 3 8 (by kernel_rfl) ?_ ?_
      · skip
        refine E_call 3 rfl (some 98) rfl rfl 11 _ (run_call1 _ (by kernel_rfl) (.tmp 97) _ (.agg #[.int .i64 k1, .int .i64 m1, .string u1, .int .i64 x1, .slice A1 f1.len c1]) rfl rfl) (toValue_any f1 (toEntryS_any f1) k1 m1 u1 x1 A1 c1 _ _ (RP1.out.grow GW.out) HO1.out.1 (by omega)) ?_
        rintro e wz69 ⟨B68, d68, M68, rfl, ha68, ho68, hg⟩
        obtain ⟨lo68, hi68, hT68, hlo68, hlh68, hhi68⟩ := own_tr ho68 hg HT.out
        have OR68 := hid (And.intro hlo68 hlh68); have HA68 := hid ha68.2
        replace GW := hid (gb_trans GW.out hg)
        replace T29 := hid (T29.out.grow hg)
        replace X29 := hid (X29.out.grow hg)
        replace T31 := hid (T31.out.grow hg)
        replace X33 := hid (X33.out.grow hg)
        replace T35 := hid (T35.out.grow hg)
        replace X37 := hid (X37.out.grow hg)
        replace T40 := hid (T40.out.grow hg)
        replace X42 := hid (X42.out.grow hg)
        replace T46 := hid (T46.out.grow hg)
        replace T49 := hid (T49.out.grow hg)
        replace T66 := hid (T66.out.grow hg)
        replace HT := hid (Nat.le_trans HT.out (hg).size)
        replace GD := hid (gb_trans GD.out hg)
        clear hg
        have T68 := hid hT68; replace HT := hid hhi68
        clear ho68 ha68 hT68 hlo68 hlh68 hhi68
        refine ⟨_, rfl, fun _ => GD.out, ?_⟩
        simp only [Act.put, List.setIfInBounds_toArray, List.set_cons_succ, List.set_cons_zero]
        refine E_two 4 8 (by kernel_rfl) ?_ ?_
        · skip
          refine E_call 4 rfl (some 99) rfl rfl 29 _ (run_call2 _ (by kernel_rfl) (.tmp 96) (.tmp 98) _ (.agg #[.int .i64 k0, .int .i64 m0, .string u0, .int .i64 x0, .slice B66 f0.len d66]) (.agg #[.int .i64 k1, .int .i64 m1, .string u1, .int .i64 x1, .slice B68 f1.len d68]) rfl rfl rfl) (implAppend_any f0 f1 _ k0 m0 u0 x0 B66 d66 _ k1 m1 u1 x1 B68 d68 _ ab rx D HAB.out HD.out T66.out.1.1 (by omega) T68.out.1.1 (by omega)) ?_
          rintro e wz71 ⟨B70, d70, M70, rfl, _, hR, hg⟩
          obtain ⟨lo70, hi70, hT70, hlo70, hlh70, hhi70⟩ := own_tr hR.own hg HT.out
          have OR70 := hid (And.intro hlo70 hlh70)
          replace GW := hid (gb_trans GW.out hg)
          replace T29 := hid (T29.out.grow hg)
          replace X29 := hid (X29.out.grow hg)
          replace T31 := hid (T31.out.grow hg)
          replace X33 := hid (X33.out.grow hg)
          replace T35 := hid (T35.out.grow hg)
          replace X37 := hid (X37.out.grow hg)
          replace T40 := hid (T40.out.grow hg)
          replace X42 := hid (X42.out.grow hg)
          replace T46 := hid (T46.out.grow hg)
          replace T49 := hid (T49.out.grow hg)
          replace T66 := hid (T66.out.grow hg)
          replace T68 := hid (T68.out.grow hg)
          replace HT := hid (Nat.le_trans HT.out (hg).size)
          replace GD := hid (gb_trans GD.out hg)
          clear hg
          have T70 := hid hT70; replace HT := hid hhi70
          clear hR hT70 hlo70 hlh70 hhi70
          refine ⟨_, rfl, fun _ => GD.out, ?_⟩
          simp only [Act.put, List.setIfInBounds_toArray, List.set_cons_succ, List.set_cons_zero]
          refine E_take 5 rfl (some 94) rfl (by kernel_rfl) (by kernel_rfl) (by kernel_rfl) (by kernel_rfl) (by decide) (fun _ _ _ _ h => by cases h.1) rfl (.tuple #[.agg #[.int .i64 k0, .int .i64 m0, .string u0, .int .i64 rx, .slice B70 D.len d70], .bool ab]) (fun w' hw => run_mov (.tmp 99) rfl rfl) GD.out ?_
          simp only [Act.put, List.setIfInBounds_toArray, List.set_cons_succ, List.set_cons_zero]
          refine E_take 6 rfl (some 100) rfl (by kernel_rfl) (by kernel_rfl) (by kernel_rfl) (by kernel_rfl) (by decide) (fun _ _ _ _ h => by cases h.1) rfl (.agg #[.int .i64 k0, .int .i64 m0, .string u0, .int .i64 rx, .slice B70 D.len d70]) (fun w' hw => run_ext (.tmp 94) 0 rfl rfl rfl) GD.out ?_
          simp only [Act.put, List.setIfInBounds_toArray, List.set_cons_succ, List.set_cons_zero]
          refine E_take 7 rfl (some 101) rfl (by kernel_rfl) (by kernel_rfl) (by kernel_rfl) (by kernel_rfl) (by decide) (fun _ _ _ _ h => by cases h.1) rfl (.bool ab) (fun w' hw => run_ext (.tmp 94) 1 rfl rfl rfl) GD.out ?_
          simp only [Act.put, List.setIfInBounds_toArray, List.set_cons_succ, List.set_cons_zero]
          refine E_only 8 (by kernel_rfl) ?_
          have hge72 : wd.heap.size ≤ wz71.heap.size := GD.out.size
          have HGE72 := hid hge72
          clear hge72
          have X72 := hid (HoldsT.new wz71 #[.int .i64 0, .int .i64 0, .string { data := #[] }, .int .i64 0, .slice none 0 0] 31)
          have OR72 : Hid (hi70 ≤ wz71.heap.size) := HT
          replace GW := hid (gb_alloc GW.out (.cells #[.int .i64 0, .int .i64 0, .string { data := #[] }, .int .i64 0, .slice none 0 0] 31))
          replace T29 := hid (T29.out.grow (gb_alloc (gb_refl _ none) (.cells #[.int .i64 0, .int .i64 0, .string { data := #[] }, .int .i64 0, .slice none 0 0] 31)))
          replace X29 := hid (X29.out.grow (gb_alloc (gb_refl _ none) (.cells #[.int .i64 0, .int .i64 0, .string { data := #[] }, .int .i64 0, .slice none 0 0] 31)))
          replace T31 := hid (T31.out.grow (gb_alloc (gb_refl _ none) (.cells #[.int .i64 0, .int .i64 0, .string { data := #[] }, .int .i64 0, .slice none 0 0] 31)))
          replace X33 := hid (X33.out.grow (gb_alloc (gb_refl _ none) (.cells #[.int .i64 0, .int .i64 0, .string { data := #[] }, .int .i64 0, .slice none 0 0] 31)))
          replace T35 := hid (T35.out.grow (gb_alloc (gb_refl _ none) (.cells #[.int .i64 0, .int .i64 0, .string { data := #[] }, .int .i64 0, .slice none 0 0] 31)))
          replace X37 := hid (X37.out.grow (gb_alloc (gb_refl _ none) (.cells #[.int .i64 0, .int .i64 0, .string { data := #[] }, .int .i64 0, .slice none 0 0] 31)))
          replace T40 := hid (T40.out.grow (gb_alloc (gb_refl _ none) (.cells #[.int .i64 0, .int .i64 0, .string { data := #[] }, .int .i64 0, .slice none 0 0] 31)))
          replace X42 := hid (X42.out.grow (gb_alloc (gb_refl _ none) (.cells #[.int .i64 0, .int .i64 0, .string { data := #[] }, .int .i64 0, .slice none 0 0] 31)))
          replace T46 := hid (T46.out.grow (gb_alloc (gb_refl _ none) (.cells #[.int .i64 0, .int .i64 0, .string { data := #[] }, .int .i64 0, .slice none 0 0] 31)))
          replace T49 := hid (T49.out.grow (gb_alloc (gb_refl _ none) (.cells #[.int .i64 0, .int .i64 0, .string { data := #[] }, .int .i64 0, .slice none 0 0] 31)))
          replace T66 := hid (T66.out.grow (gb_alloc (gb_refl _ none) (.cells #[.int .i64 0, .int .i64 0, .string { data := #[] }, .int .i64 0, .slice none 0 0] 31)))
          replace T68 := hid (T68.out.grow (gb_alloc (gb_refl _ none) (.cells #[.int .i64 0, .int .i64 0, .string { data := #[] }, .int .i64 0, .slice none 0 0] 31)))
          replace T70 := hid (T70.out.grow (gb_alloc (gb_refl _ none) (.cells #[.int .i64 0, .int .i64 0, .string { data := #[] }, .int .i64 0, .slice none 0 0] 31)))
          replace GD := hid (gb_alloc GD.out (.cells #[.int .i64 0, .int .i64 0, .string { data := #[] }, .int .i64 0, .slice none 0 0] 31))
          refine E_val 8 rfl (some 15) rfl rfl (.pointer (some ⟨wz71.heap.size, 0, none⟩)) (wz71.alloc (.cells #[.int .i64 0, .int .i64 0, .string { data := #[] }, .int .i64 0, .slice none 0 0] 31)) (by go_simp) ⟨fun _ => GD.out, ?_⟩
          simp only [Act.put, List.setIfInBounds_toArray, List.set_cons_succ, List.set_cons_zero]
          replace HT := hid (show (wz71.heap.size + 1) ≤ (wz71.alloc (.cells #[.int .i64 0, .int .i64 0, .string { data := #[] }, .int .i64 0, .slice none 0 0] 31)).heap.size by simp)
          have s9 := gb_setCells (r := some (wz71.heap.size)) (.inr rfl) [.int .i64 k0, .int .i64 m0, .string u0, .int .i64 rx, .slice B70 D.len d70] 0 (gb_refl (wz71.alloc (.cells #[.int .i64 0, .int .i64 0, .string { data := #[] }, .int .i64 0, .slice none 0 0] 31)) (some (wz71.heap.size)))
          have x9 := hid (show HoldsT ((wz71.alloc (.cells #[.int .i64 0, .int .i64 0, .string { data := #[] }, .int .i64 0, .slice none 0 0] 31)).setCells (wz71.heap.size) 0 [.int .i64 k0, .int .i64 m0, .string u0, .int .i64 rx, .slice B70 D.len d70]) (wz71.heap.size) #[.int .i64 k0, .int .i64 m0, .string u0, .int .i64 rx, .slice B70 D.len d70] 31 by have h := X72.out.setCells [.int .i64 k0, .int .i64 m0, .string u0, .int .i64 rx, .slice B70 D.len d70] 0; simpa [setArr] using h)
          have gd9 := hid (gb_setCells (r := none) (.inl HGE72.out) [.int .i64 k0, .int .i64 m0, .string u0, .int .i64 rx, .slice B70 D.len d70] 0 GD.out)
          have m9 : MkI (wz71.alloc (.cells #[.int .i64 0, .int .i64 0, .string { data := #[] }, .int .i64 0, .slice none 0 0] 31)) ((wz71.alloc (.cells #[.int .i64 0, .int .i64 0, .string { data := #[] }, .int .i64 0, .slice none 0 0] 31)).setCells (wz71.heap.size) 0 [.int .i64 k0, .int .i64 m0, .string u0, .int .i64 rx, .slice B70 D.len d70]) (wz71.heap.size) (wz71.heap.size + 1) := ⟨s9.os, s9.tape, s9.output, s9.size, fun k hk hb => s9.block k hk (by intro e; injection e; omega)⟩
          have t9 := hid (T70.out.mk' m9 (by have := OR29.out; have := OR31.out; have := OR33.out; have := OR35.out; have := OR37.out; have := OR40.out; have := OR42.out; have := OR46.out; have := OR49.out; have := OR66.out; have := OR68.out; have := OR70.out; have := OR72.out; have := HW0.out; omega))
          have HF := hid (Nat.le_trans HT.out m9.size)
          refine E_only 9 (by kernel_rfl) (E_store 9 rfl none rfl rfl 31 (.tmp 15) (.tmp 100) rfl (wz71.heap.size) 0 [.int .i64 k0, .int .i64 m0, .string u0, .int .i64 rx, .slice B70 D.len d70] rfl rfl X72.out (by simp) Try.infoV rfl ⟨fun _ => gd9.out, ?_⟩)
          simp only [Act.put]
          clear GD s9 m9
          have GD := gd9
          refine E_only 10 (by kernel_rfl) (E_val 10 rfl (some 16) rfl rfl (.bool ab) _ (run_asg (.tmp 101) rfl rfl) ⟨fun _ => GD.out, ?_⟩)
          simp only [Act.put, List.setIfInBounds_toArray, List.set_cons_succ, List.set_cons_zero]
          refine E_done (by kernel_rfl) ?_ _
          exact ⟨rfl, ⟨wz71.heap.size, .agg #[.int .i64 k0, .int .i64 m0, .string u0, .int .i64 x0, .slice B66 f0.len d66], .agg #[.int .i64 k1, .int .i64 m1, .string u1, .int .i64 x1, .slice B68 f1.len d68], .agg #[.int .i64 k0, .int .i64 m0, .string u0, .int .i64 rx, .slice B70 D.len d70]⟩, ⟨B70, d70, _, lo70, hi70, rfl, t9.out, x9.out, ⟨(by have := OR29.out; have := OR31.out; have := OR33.out; have := OR35.out; have := OR37.out; have := OR40.out; have := OR42.out; have := OR46.out; have := OR49.out; have := OR66.out; have := OR68.out; have := OR70.out; have := OR72.out; have := HW0.out; omega), (by have := OR29.out; have := OR31.out; have := OR33.out; have := OR35.out; have := OR37.out; have := OR40.out; have := OR42.out; have := OR46.out; have := OR49.out; have := OR66.out; have := OR68.out; have := OR70.out; have := OR72.out; have := HW0.out; omega), (by have := OR29.out; have := OR31.out; have := OR33.out; have := OR35.out; have := OR37.out; have := OR40.out; have := OR42.out; have := OR46.out; have := OR49.out; have := OR66.out; have := OR68.out; have := OR70.out; have := OR72.out; have := HW0.out; have := HF.out; omega)⟩, ⟨(by have := OR29.out; have := OR31.out; have := OR33.out; have := OR35.out; have := OR37.out; have := OR40.out; have := OR42.out; have := OR46.out; have := OR49.out; have := OR66.out; have := OR68.out; have := OR70.out; have := OR72.out; have := HW0.out; omega), x9.out.lt, (by have := OR29.out; have := OR31.out; have := OR33.out; have := OR35.out; have := OR37.out; have := OR40.out; have := OR42.out; have := OR46.out; have := OR49.out; have := OR66.out; have := OR68.out; have := OR70.out; have := OR72.out; have := HW0.out; omega)⟩, gb_trans GI.out GD.out⟩, by simp only [List.foldl, Act.put, List.setIfInBounds_toArray, List.set_cons_succ, List.set_cons_zero]⟩
        · skip
          have hge73 : wd.heap.size ≤ wz69.heap.size := GD.out.size
          have HGE73 := hid hge73
          clear hge73
          have X73 := hid (HoldsT.new wz69 #[.int .i64 0, .int .i64 0, .string { data := #[] }, .int .i64 0, .slice none 0 0] 31)
          have OR73 : Hid (hi68 ≤ wz69.heap.size) := HT
          replace GW := hid (gb_alloc GW.out (.cells #[.int .i64 0, .int .i64 0, .string { data := #[] }, .int .i64 0, .slice none 0 0] 31))
          replace T29 := hid (T29.out.grow (gb_alloc (gb_refl _ none) (.cells #[.int .i64 0, .int .i64 0, .string { data := #[] }, .int .i64 0, .slice none 0 0] 31)))
          replace X29 := hid (X29.out.grow (gb_alloc (gb_refl _ none) (.cells #[.int .i64 0, .int .i64 0, .string { data := #[] }, .int .i64 0, .slice none 0 0] 31)))
          replace T31 := hid (T31.out.grow (gb_alloc (gb_refl _ none) (.cells #[.int .i64 0, .int .i64 0, .string { data := #[] }, .int .i64 0, .slice none 0 0] 31)))
          replace X33 := hid (X33.out.grow (gb_alloc (gb_refl _ none) (.cells #[.int .i64 0, .int .i64 0, .string { data := #[] }, .int .i64 0, .slice none 0 0] 31)))
          replace T35 := hid (T35.out.grow (gb_alloc (gb_refl _ none) (.cells #[.int .i64 0, .int .i64 0, .string { data := #[] }, .int .i64 0, .slice none 0 0] 31)))
          replace X37 := hid (X37.out.grow (gb_alloc (gb_refl _ none) (.cells #[.int .i64 0, .int .i64 0, .string { data := #[] }, .int .i64 0, .slice none 0 0] 31)))
          replace T40 := hid (T40.out.grow (gb_alloc (gb_refl _ none) (.cells #[.int .i64 0, .int .i64 0, .string { data := #[] }, .int .i64 0, .slice none 0 0] 31)))
          replace X42 := hid (X42.out.grow (gb_alloc (gb_refl _ none) (.cells #[.int .i64 0, .int .i64 0, .string { data := #[] }, .int .i64 0, .slice none 0 0] 31)))
          replace T46 := hid (T46.out.grow (gb_alloc (gb_refl _ none) (.cells #[.int .i64 0, .int .i64 0, .string { data := #[] }, .int .i64 0, .slice none 0 0] 31)))
          replace T49 := hid (T49.out.grow (gb_alloc (gb_refl _ none) (.cells #[.int .i64 0, .int .i64 0, .string { data := #[] }, .int .i64 0, .slice none 0 0] 31)))
          replace T66 := hid (T66.out.grow (gb_alloc (gb_refl _ none) (.cells #[.int .i64 0, .int .i64 0, .string { data := #[] }, .int .i64 0, .slice none 0 0] 31)))
          replace T68 := hid (T68.out.grow (gb_alloc (gb_refl _ none) (.cells #[.int .i64 0, .int .i64 0, .string { data := #[] }, .int .i64 0, .slice none 0 0] 31)))
          replace GD := hid (gb_alloc GD.out (.cells #[.int .i64 0, .int .i64 0, .string { data := #[] }, .int .i64 0, .slice none 0 0] 31))
          refine E_val 8 rfl (some 15) rfl rfl (.pointer (some ⟨wz69.heap.size, 0, none⟩)) (wz69.alloc (.cells #[.int .i64 0, .int .i64 0, .string { data := #[] }, .int .i64 0, .slice none 0 0] 31)) (by go_simp) ⟨fun _ => GD.out, ?_⟩
          simp only [Act.put, List.setIfInBounds_toArray, List.set_cons_succ, List.set_cons_zero]
          replace HT := hid (show (wz69.heap.size + 1) ≤ (wz69.alloc (.cells #[.int .i64 0, .int .i64 0, .string { data := #[] }, .int .i64 0, .slice none 0 0] 31)).heap.size by simp)
          refine E_only 4 (by kernel_rfl) ?_
          refine E_call 4 rfl (some 99) rfl rfl 29 _ (run_call2 _ (by kernel_rfl) (.tmp 96) (.tmp 98) _ (.agg #[.int .i64 k0, .int .i64 m0, .string u0, .int .i64 x0, .slice B66 f0.len d66]) (.agg #[.int .i64 k1, .int .i64 m1, .string u1, .int .i64 x1, .slice B68 f1.len d68]) rfl rfl rfl) (implAppend_any f0 f1 _ k0 m0 u0 x0 B66 d66 _ k1 m1 u1 x1 B68 d68 _ ab rx D HAB.out HD.out T66.out.1.1 (by omega) T68.out.1.1 (by omega)) ?_
          rintro e wz75 ⟨B74, d74, M74, rfl, _, hR, hg⟩
          obtain ⟨lo74, hi74, hT74, hlo74, hlh74, hhi74⟩ := own_tr hR.own hg X73.out.lt
          have OR74 := hid (And.intro hlo74 hlh74)
          replace GW := hid (gb_trans GW.out hg)
          replace T29 := hid (T29.out.grow hg)
          replace X29 := hid (X29.out.grow hg)
          replace T31 := hid (T31.out.grow hg)
          replace X33 := hid (X33.out.grow hg)
          replace T35 := hid (T35.out.grow hg)
          replace X37 := hid (X37.out.grow hg)
          replace T40 := hid (T40.out.grow hg)
          replace X42 := hid (X42.out.grow hg)
          replace T46 := hid (T46.out.grow hg)
          replace T49 := hid (T49.out.grow hg)
          replace T66 := hid (T66.out.grow hg)
          replace T68 := hid (T68.out.grow hg)
          replace X73 := hid (X73.out.grow hg)
          replace HT := hid (Nat.le_trans HT.out (hg).size)
          replace GD := hid (gb_trans GD.out hg)
          clear hg
          have T74 := hid hT74; replace HT := hid hhi74
          clear hR hT74 hlo74 hlh74 hhi74
          refine ⟨_, rfl, fun _ => GD.out, ?_⟩
          simp only [Act.put, List.setIfInBounds_toArray, List.set_cons_succ, List.set_cons_zero]
          refine E_take 5 rfl (some 94) rfl (by kernel_rfl) (by kernel_rfl) (by kernel_rfl) (by kernel_rfl) (by decide) (fun _ _ _ _ h => by cases h.1) rfl (.tuple #[.agg #[.int .i64 k0, .int .i64 m0, .string u0, .int .i64 rx, .slice B74 D.len d74], .bool ab]) (fun w' hw => run_mov (.tmp 99) rfl rfl) GD.out ?_
          simp only [Act.put, List.setIfInBounds_toArray, List.set_cons_succ, List.set_cons_zero]
          refine E_take 6 rfl (some 100) rfl (by kernel_rfl) (by kernel_rfl) (by kernel_rfl) (by kernel_rfl) (by decide) (fun _ _ _ _ h => by cases h.1) rfl (.agg #[.int .i64 k0, .int .i64 m0, .string u0, .int .i64 rx, .slice B74 D.len d74]) (fun w' hw => run_ext (.tmp 94) 0 rfl rfl rfl) GD.out ?_
          simp only [Act.put, List.setIfInBounds_toArray, List.set_cons_succ, List.set_cons_zero]
          refine E_take 7 rfl (some 101) rfl (by kernel_rfl) (by kernel_rfl) (by kernel_rfl) (by kernel_rfl) (by decide) (fun _ _ _ _ h => by cases h.1) rfl (.bool ab) (fun w' hw => run_ext (.tmp 94) 1 rfl rfl rfl) GD.out ?_
          simp only [Act.put, List.setIfInBounds_toArray, List.set_cons_succ, List.set_cons_zero]
          have s9 := gb_setCells (r := some (wz69.heap.size)) (.inr rfl) [.int .i64 k0, .int .i64 m0, .string u0, .int .i64 rx, .slice B74 D.len d74] 0 (gb_refl wz75 (some (wz69.heap.size)))
          have x9 := hid (show HoldsT (wz75.setCells (wz69.heap.size) 0 [.int .i64 k0, .int .i64 m0, .string u0, .int .i64 rx, .slice B74 D.len d74]) (wz69.heap.size) #[.int .i64 k0, .int .i64 m0, .string u0, .int .i64 rx, .slice B74 D.len d74] 31 by have h := X73.out.setCells [.int .i64 k0, .int .i64 m0, .string u0, .int .i64 rx, .slice B74 D.len d74] 0; simpa [setArr] using h)
          have gd9 := hid (gb_setCells (r := none) (.inl HGE73.out) [.int .i64 k0, .int .i64 m0, .string u0, .int .i64 rx, .slice B74 D.len d74] 0 GD.out)
          have m9 : MkI wz75 (wz75.setCells (wz69.heap.size) 0 [.int .i64 k0, .int .i64 m0, .string u0, .int .i64 rx, .slice B74 D.len d74]) (wz69.heap.size) (wz69.heap.size + 1) := ⟨s9.os, s9.tape, s9.output, s9.size, fun k hk hb => s9.block k hk (by intro e; injection e; omega)⟩
          have t9 := hid (T74.out.mk' m9 (by have := OR29.out; have := OR31.out; have := OR33.out; have := OR35.out; have := OR37.out; have := OR40.out; have := OR42.out; have := OR46.out; have := OR49.out; have := OR66.out; have := OR68.out; have := OR73.out; have := OR74.out; have := HW0.out; omega))
          have HF := hid (Nat.le_trans HT.out m9.size)
          refine E_only 9 (by kernel_rfl) (E_store 9 rfl none rfl rfl 31 (.tmp 15) (.tmp 100) rfl (wz69.heap.size) 0 [.int .i64 k0, .int .i64 m0, .string u0, .int .i64 rx, .slice B74 D.len d74] rfl rfl X73.out (by simp) Try.infoV rfl ⟨fun _ => gd9.out, ?_⟩)
          simp only [Act.put]
          clear GD s9 m9
          have GD := gd9
          refine E_only 10 (by kernel_rfl) (E_val 10 rfl (some 16) rfl rfl (.bool ab) _ (run_asg (.tmp 101) rfl rfl) ⟨fun _ => GD.out, ?_⟩)
          simp only [Act.put, List.setIfInBounds_toArray, List.set_cons_succ, List.set_cons_zero]
          refine E_done (by kernel_rfl) ?_ _
          exact ⟨rfl, ⟨wz69.heap.size, .agg #[.int .i64 k0, .int .i64 m0, .string u0, .int .i64 x0, .slice B66 f0.len d66], .agg #[.int .i64 k1, .int .i64 m1, .string u1, .int .i64 x1, .slice B68 f1.len d68], .agg #[.int .i64 k0, .int .i64 m0, .string u0, .int .i64 rx, .slice B74 D.len d74]⟩, ⟨B74, d74, _, lo74, hi74, rfl, t9.out, x9.out, ⟨(by have := OR29.out; have := OR31.out; have := OR33.out; have := OR35.out; have := OR37.out; have := OR40.out; have := OR42.out; have := OR46.out; have := OR49.out; have := OR66.out; have := OR68.out; have := OR73.out; have := OR74.out; have := HW0.out; omega), (by have := OR29.out; have := OR31.out; have := OR33.out; have := OR35.out; have := OR37.out; have := OR40.out; have := OR42.out; have := OR46.out; have := OR49.out; have := OR66.out; have := OR68.out; have := OR73.out; have := OR74.out; have := HW0.out; omega), (by have := OR29.out; have := OR31.out; have := OR33.out; have := OR35.out; have := OR37.out; have := OR40.out; have := OR42.out; have := OR46.out; have := OR49.out; have := OR66.out; have := OR68.out; have := OR73.out; have := OR74.out; have := HW0.out; have := HF.out; omega)⟩, ⟨(by have := OR29.out; have := OR31.out; have := OR33.out; have := OR35.out; have := OR37.out; have := OR40.out; have := OR42.out; have := OR46.out; have := OR49.out; have := OR66.out; have := OR68.out; have := OR73.out; have := OR74.out; have := HW0.out; omega), x9.out.lt, (by have := OR29.out; have := OR31.out; have := OR33.out; have := OR35.out; have := OR37.out; have := OR40.out; have := OR42.out; have := OR46.out; have := OR49.out; have := OR66.out; have := OR68.out; have := OR73.out; have := OR74.out; have := HW0.out; omega)⟩, gb_trans GI.out GD.out⟩, by simp only [List.foldl, Act.put, List.setIfInBounds_toArray, List.set_cons_succ, List.set_cons_zero]⟩
      · skip
        have hge76 : wd.heap.size ≤ wz67.heap.size := GD.out.size
        have HGE76 := hid hge76
        clear hge76
        have X76 := hid (HoldsT.new wz67 #[.int .i64 0, .int .i64 0, .string { data := #[] }, .int .i64 0, .slice none 0 0] 31)
        have OR76 : Hid (hi66 ≤ wz67.heap.size) := HT
        replace GW := hid (gb_alloc GW.out (.cells #[.int .i64 0, .int .i64 0, .string { data := #[] }, .int .i64 0, .slice none 0 0] 31))
        replace T29 := hid (T29.out.grow (gb_alloc (gb_refl _ none) (.cells #[.int .i64 0, .int .i64 0, .string { data := #[] }, .int .i64 0, .slice none 0 0] 31)))
        replace X29 := hid (X29.out.grow (gb_alloc (gb_refl _ none) (.cells #[.int .i64 0, .int .i64 0, .string { data := #[] }, .int .i64 0, .slice none 0 0] 31)))
        replace T31 := hid (T31.out.grow (gb_alloc (gb_refl _ none) (.cells #[.int .i64 0, .int .i64 0, .string { data := #[] }, .int .i64 0, .slice none 0 0] 31)))
        replace X33 := hid (X33.out.grow (gb_alloc (gb_refl _ none) (.cells #[.int .i64 0, .int .i64 0, .string { data := #[] }, .int .i64 0, .slice none 0 0] 31)))
        replace T35 := hid (T35.out.grow (gb_alloc (gb_refl _ none) (.cells #[.int .i64 0, .int .i64 0, .string { data := #[] }, .int .i64 0, .slice none 0 0] 31)))
        replace X37 := hid (X37.out.grow (gb_alloc (gb_refl _ none) (.cells #[.int .i64 0, .int .i64 0, .string { data := #[] }, .int .i64 0, .slice none 0 0] 31)))
        replace T40 := hid (T40.out.grow (gb_alloc (gb_refl _ none) (.cells #[.int .i64 0, .int .i64 0, .string { data := #[] }, .int .i64 0, .slice none 0 0] 31)))
        replace X42 := hid (X42.out.grow (gb_alloc (gb_refl _ none) (.cells #[.int .i64 0, .int .i64 0, .string { data := #[] }, .int .i64 0, .slice none 0 0] 31)))
        replace T46 := hid (T46.out.grow (gb_alloc (gb_refl _ none) (.cells #[.int .i64 0, .int .i64 0, .string { data := #[] }, .int .i64 0, .slice none 0 0] 31)))
        replace T49 := hid (T49.out.grow (gb_alloc (gb_refl _ none) (.cells #[.int .i64 0, .int .i64 0, .string { data := #[] }, .int .i64 0, .slice none 0 0] 31)))
        replace T66 := hid (T66.out.grow (gb_alloc (gb_refl _ none) (.cells #[.int .i64 0, .int .i64 0, .string { data := #[] }, .int .i64 0, .slice none 0 0] 31)))
        replace GD := hid (gb_alloc GD.out (.cells #[.int .i64 0, .int .i64 0, .string { data := #[] }, .int .i64 0, .slice none 0 0] 31))
        refine E_val 8 rfl (some 15) rfl rfl (.pointer (some ⟨wz67.heap.size, 0, none⟩)) (wz67.alloc (.cells #[.int .i64 0, .int .i64 0, .string { data := #[] }, .int .i64 0, .slice none 0 0] 31)) (by go_simp) ⟨fun _ => GD.out, ?_⟩
        simp only [Act.put, List.setIfInBounds_toArray, List.set_cons_succ, List.set_cons_zero]
        replace HT := hid (show (wz67.heap.size + 1) ≤ (wz67.alloc (.cells #[.int .i64 0, .int .i64 0, .string { data := #[] }, .int .i64 0, .slice none 0 0] 31)).heap.size by simp)
        refine E_only 3 (by kernel_rfl) ?_
        refine E_call 3 rfl (some 98) rfl rfl 11 _ (run_call1 _ (by kernel_rfl) (.tmp 97) _ (.agg #[.int .i64 k1, .int .i64 m1, .string u1, .int .i64 x1, .slice A1 f1.len c1]) rfl rfl) (toValue_any f1 (toEntryS_any f1) k1 m1 u1 x1 A1 c1 _ _ (RP1.out.grow GW.out) HO1.out.1 (by omega)) ?_
        rintro e wz78 ⟨B77, d77, M77, rfl, ha77, ho77, hg⟩
        obtain ⟨lo77, hi77, hT77, hlo77, hlh77, hhi77⟩ := own_tr ho77 hg HT.out
        have OR77 := hid (And.intro hlo77 hlh77); have HA77 := hid ha77.2
        replace GW := hid (gb_trans GW.out hg)
        replace T29 := hid (T29.out.grow hg)
        replace X29 := hid (X29.out.grow hg)
        replace T31 := hid (T31.out.grow hg)
        replace X33 := hid (X33.out.grow hg)
        replace T35 := hid (T35.out.grow hg)
        replace X37 := hid (X37.out.grow hg)
        replace T40 := hid (T40.out.grow hg)
        replace X42 := hid (X42.out.grow hg)
        replace T46 := hid (T46.out.grow hg)
        replace T49 := hid (T49.out.grow hg)
        replace T66 := hid (T66.out.grow hg)
        replace X76 := hid (X76.out.grow hg)
        replace HT := hid (Nat.le_trans HT.out (hg).size)
        replace GD := hid (gb_trans GD.out hg)
        clear hg
        have T77 := hid hT77; replace HT := hid hhi77
        clear ho77 ha77 hT77 hlo77 hlh77 hhi77
        refine ⟨_, rfl, fun _ => GD.out, ?_⟩
        simp only [Act.put, List.setIfInBounds_toArray, List.set_cons_succ, List.set_cons_zero]
        refine E_only 4 (by kernel_rfl) ?_
        refine E_call 4 rfl (some 99) rfl rfl 29 _ (run_call2 _ (by kernel_rfl) (.tmp 96) (.tmp 98) _ (.agg #[.int .i64 k0, .int .i64 m0, .string u0, .int .i64 x0, .slice B66 f0.len d66]) (.agg #[.int .i64 k1, .int .i64 m1, .string u1, .int .i64 x1, .slice B77 f1.len d77]) rfl rfl rfl) (implAppend_any f0 f1 _ k0 m0 u0 x0 B66 d66 _ k1 m1 u1 x1 B77 d77 _ ab rx D HAB.out HD.out T66.out.1.1 (by omega) T77.out.1.1 (by omega)) ?_
        rintro e wz80 ⟨B79, d79, M79, rfl, _, hR, hg⟩
        obtain ⟨lo79, hi79, hT79, hlo79, hlh79, hhi79⟩ := own_tr hR.own hg X76.out.lt
        have OR79 := hid (And.intro hlo79 hlh79)
        replace GW := hid (gb_trans GW.out hg)
        replace T29 := hid (T29.out.grow hg)
        replace X29 := hid (X29.out.grow hg)
        replace T31 := hid (T31.out.grow hg)
        replace X33 := hid (X33.out.grow hg)
        replace T35 := hid (T35.out.grow hg)
        replace X37 := hid (X37.out.grow hg)
        replace T40 := hid (T40.out.grow hg)
        replace X42 := hid (X42.out.grow hg)
        replace T46 := hid (T46.out.grow hg)
        replace T49 := hid (T49.out.grow hg)
        replace T66 := hid (T66.out.grow hg)
        replace X76 := hid (X76.out.grow hg)
        replace T77 := hid (T77.out.grow hg)
        replace HT := hid (Nat.le_trans HT.out (hg).size)
        replace GD := hid (gb_trans GD.out hg)
        clear hg
        have T79 := hid hT79; replace HT := hid hhi79
        clear hR hT79 hlo79 hlh79 hhi79
        refine ⟨_, rfl, fun _ => GD.out, ?_⟩
        simp only [Act.put, List.setIfInBounds_toArray, List.set_cons_succ, List.set_cons_zero]
        refine E_take 5 rfl (some 94) rfl (by kernel_rfl) (by kernel_rfl) (by kernel_rfl) (by kernel_rfl) (by decide) (fun _ _ _ _ h => by cases h.1) rfl (.tuple #[.agg #[.int .i64 k0, .int .i64 m0, .string u0, .int .i64 rx, .slice B79 D.len d79], .bool ab]) (fun w' hw => run_mov (.tmp 99) rfl rfl) GD.out ?_
        simp only [Act.put, List.setIfInBounds_toArray, List.set_cons_succ, List.set_cons_zero]
        refine E_take 6 rfl (some 100) rfl (by kernel_rfl) (by kernel_rfl) (by kernel_rfl) (by kernel_rfl) (by decide) (fun _ _ _ _ h => by cases h.1) rfl (.agg #[.int .i64 k0, .int .i64 m0, .string u0, .int .i64 rx, .slice B79 D.len d79]) (fun w' hw => run_ext (.tmp 94) 0 rfl rfl rfl) GD.out ?_
        simp only [Act.put, List.setIfInBounds_toArray, List.set_cons_succ, List.set_cons_zero]
        refine E_take 7 rfl (some 101) rfl (by kernel_rfl) (by kernel_rfl) (by kernel_rfl) (by kernel_rfl) (by decide) (fun _ _ _ _ h => by cases h.1) rfl (.bool ab) (fun w' hw => run_ext (.tmp 94) 1 rfl rfl rfl) GD.out ?_
        simp only [Act.put, List.setIfInBounds_toArray, List.set_cons_succ, List.set_cons_zero]
        have s9 := gb_setCells (r := some (wz67.heap.size)) (.inr rfl) [.int .i64 k0, .int .i64 m0, .string u0, .int .i64 rx, .slice B79 D.len d79] 0 (gb_refl wz80 (some (wz67.heap.size)))
        have x9 := hid (show HoldsT (wz80.setCells (wz67.heap.size) 0 [.int .i64 k0, .int .i64 m0, .string u0, .int .i64 rx, .slice B79 D.len d79]) (wz67.heap.size) #[.int .i64 k0, .int .i64 m0, .string u0, .int .i64 rx, .slice B79 D.len d79] 31 by have h := X76.out.setCells [.int .i64 k0, .int .i64 m0, .string u0, .int .i64 rx, .slice B79 D.len d79] 0; simpa [setArr] using h)
        have gd9 := hid (gb_setCells (r := none) (.inl HGE76.out) [.int .i64 k0, .int .i64 m0, .string u0, .int .i64 rx, .slice B79 D.len d79] 0 GD.out)
        have m9 : MkI wz80 (wz80.setCells (wz67.heap.size) 0 [.int .i64 k0, .int .i64 m0, .string u0, .int .i64 rx, .slice B79 D.len d79]) (wz67.heap.size) (wz67.heap.size + 1) := ⟨s9.os, s9.tape, s9.output, s9.size, fun k hk hb => s9.block k hk (by intro e; injection e; omega)⟩
        have t9 := hid (T79.out.mk' m9 (by have := OR29.out; have := OR31.out; have := OR33.out; have := OR35.out; have := OR37.out; have := OR40.out; have := OR42.out; have := OR46.out; have := OR49.out; have := OR66.out; have := OR76.out; have := OR77.out; have := OR79.out; have := HW0.out; omega))
        have HF := hid (Nat.le_trans HT.out m9.size)
        refine E_only 9 (by kernel_rfl) (E_store 9 rfl none rfl rfl 31 (.tmp 15) (.tmp 100) rfl (wz67.heap.size) 0 [.int .i64 k0, .int .i64 m0, .string u0, .int .i64 rx, .slice B79 D.len d79] rfl rfl X76.out (by simp) Try.infoV rfl ⟨fun _ => gd9.out, ?_⟩)
        simp only [Act.put]
        clear GD s9 m9
        have GD := gd9
        refine E_only 10 (by kernel_rfl) (E_val 10 rfl (some 16) rfl rfl (.bool ab) _ (run_asg (.tmp 101) rfl rfl) ⟨fun _ => GD.out, ?_⟩)
        simp only [Act.put, List.setIfInBounds_toArray, List.set_cons_succ, List.set_cons_zero]
        refine E_done (by kernel_rfl) ?_ _
        exact ⟨rfl, ⟨wz67.heap.size, .agg #[.int .i64 k0, .int .i64 m0, .string u0, .int .i64 x0, .slice B66 f0.len d66], .agg #[.int .i64 k1, .int .i64 m1, .string u1, .int .i64 x1, .slice B77 f1.len d77], .agg #[.int .i64 k0, .int .i64 m0, .string u0, .int .i64 rx, .slice B79 D.len d79]⟩, ⟨B79, d79, _, lo79, hi79, rfl, t9.out, x9.out, ⟨(by have := OR29.out; have := OR31.out; have := OR33.out; have := OR35.out; have := OR37.out; have := OR40.out; have := OR42.out; have := OR46.out; have := OR49.out; have := OR66.out; have := OR76.out; have := OR77.out; have := OR79.out; have := HW0.out; omega), (by have := OR29.out; have := OR31.out; have := OR33.out; have := OR35.out; have := OR37.out; have := OR40.out; have := OR42.out; have := OR46.out; have := OR49.out; have := OR66.out; have := OR76.out; have := OR77.out; have := OR79.out; have := HW0.out; omega), (by have := OR29.out; have := OR31.out; have := OR33.out; have := OR35.out; have := OR37.out; have := OR40.out; have := OR42.out; have := OR46.out; have := OR49.out; have := OR66.out; have := OR76.out; have := OR77.out; have := OR79.out; have := HW0.out; have := HF.out; omega)⟩, ⟨(by have := OR29.out; have := OR31.out; have := OR33.out; have := OR35.out; have := OR37.out; have := OR40.out; have := OR42.out; have := OR46.out; have := OR49.out; have := OR66.out; have := OR76.out; have := OR77.out; have := OR79.out; have := HW0.out; omega), x9.out.lt, (by have := OR29.out; have := OR31.out; have := OR33.out; have := OR35.out; have := OR37.out; have := OR40.out; have := OR42.out; have := OR46.out; have := OR49.out; have := OR66.out; have := OR76.out; have := OR77.out; have := OR79.out; have := HW0.out; omega)⟩, gb_trans GI.out GD.out⟩, by simp only [List.foldl, Act.put, List.setIfInBounds_toArray, List.set_cons_succ, List.set_cons_zero]⟩
    · skip
      have hge81 : wd.heap.size ≤ wd.heap.size := GD.out.size
      have HGE81 := hid hge81
      clear hge81
      have X81 := hid (HoldsT.new wd #[.int .i64 0, .int .i64 0, .string { data := #[] }, .int .i64 0, .slice none 0 0] 31)
      have OR81 : Hid (hi49 ≤ wd.heap.size) := HT
      replace GW := hid (gb_alloc GW.out (.cells #[.int .i64 0, .int .i64 0, .string { data := #[] }, .int .i64 0, .slice none 0 0] 31))
      replace T29 := hid (T29.out.grow (gb_alloc (gb_refl _ none) (.cells #[.int .i64 0, .int .i64 0, .string { data := #[] }, .int .i64 0, .slice none 0 0] 31)))
      replace X29 := hid (X29.out.grow (gb_alloc (gb_refl _ none) (.cells #[.int .i64 0, .int .i64 0, .string { data := #[] }, .int .i64 0, .slice none 0 0] 31)))
      replace T31 := hid (T31.out.grow (gb_alloc (gb_refl _ none) (.cells #[.int .i64 0, .int .i64 0, .string { data := #[] }, .int .i64 0, .slice none 0 0] 31)))
      replace X33 := hid (X33.out.grow (gb_alloc (gb_refl _ none) (.cells #[.int .i64 0, .int .i64 0, .string { data := #[] }, .int .i64 0, .slice none 0 0] 31)))
      replace T35 := hid (T35.out.grow (gb_alloc (gb_refl _ none) (.cells #[.int .i64 0, .int .i64 0, .string { data := #[] }, .int .i64 0, .slice none 0 0] 31)))
      replace X37 := hid (X37.out.grow (gb_alloc (gb_refl _ none) (.cells #[.int .i64 0, .int .i64 0, .string { data := #[] }, .int .i64 0, .slice none 0 0] 31)))
      replace T40 := hid (T40.out.grow (gb_alloc (gb_refl _ none) (.cells #[.int .i64 0, .int .i64 0, .string { data := #[] }, .int .i64 0, .slice none 0 0] 31)))
      replace X42 := hid (X42.out.grow (gb_alloc (gb_refl _ none) (.cells #[.int .i64 0, .int .i64 0, .string { data := #[] }, .int .i64 0, .slice none 0 0] 31)))
      replace T46 := hid (T46.out.grow (gb_alloc (gb_refl _ none) (.cells #[.int .i64 0, .int .i64 0, .string { data := #[] }, .int .i64 0, .slice none 0 0] 31)))
      replace T49 := hid (T49.out.grow (gb_alloc (gb_refl _ none) (.cells #[.int .i64 0, .int .i64 0, .string { data := #[] }, .int .i64 0, .slice none 0 0] 31)))
      replace GD := hid (gb_alloc GD.out (.cells #[.int .i64 0, .int .i64 0, .string { data := #[] }, .int .i64 0, .slice none 0 0] 31))
      refine E_val 8 rfl (some 15) rfl rfl (.pointer (some ⟨wd.heap.size, 0, none⟩)) (wd.alloc (.cells #[.int .i64 0, .int .i64 0, .string { data := #[] }, .int .i64 0, .slice none 0 0] 31)) (by go_simp) ⟨fun _ => GD.out, ?_⟩
      simp only [Act.put, List.setIfInBounds_toArray, List.set_cons_succ, List.set_cons_zero]
      replace HT := hid (show (wd.heap.size + 1) ≤ (wd.alloc (.cells #[.int .i64 0, .int .i64 0, .string { data := #[] }, .int .i64 0, .slice none 0 0] 31)).heap.size by simp)
      refine E_only 1 (by kernel_rfl) ?_
      refine E_call 1 rfl (some 96) rfl rfl 11 _ (run_call1 _ (by kernel_rfl) (.tmp 95) _ (.agg #[.int .i64 k0, .int .i64 m0, .string u0, .int .i64 x0, .slice A0 f0.len c0]) rfl rfl) (toValue_any f0 (toEntryS_any f0) k0 m0 u0 x0 A0 c0 _ _ (RP0.out.grow GW.out) HO0.out.1 (by omega)) ?_
      rintro e wz83 ⟨B82, d82, M82, rfl, ha82, ho82, hg⟩
      obtain ⟨lo82, hi82, hT82, hlo82, hlh82, hhi82⟩ := own_tr ho82 hg HT.out
      have OR82 := hid (And.intro hlo82 hlh82); have HA82 := hid ha82.2
      replace GW := hid (gb_trans GW.out hg)
      replace T29 := hid (T29.out.grow hg)
      replace X29 := hid (X29.out.grow hg)
      replace T31 := hid (T31.out.grow hg)
      replace X33 := hid (X33.out.grow hg)
      replace T35 := hid (T35.out.grow hg)
      replace X37 := hid (X37.out.grow hg)
      replace T40 := hid (T40.out.grow hg)
      replace X42 := hid (X42.out.grow hg)
      replace T46 := hid (T46.out.grow hg)
      replace T49 := hid (T49.out.grow hg)
      replace X81 := hid (X81.out.grow hg)
      replace HT := hid (Nat.le_trans HT.out (hg).size)
      replace GD := hid (gb_trans GD.out hg)
      clear hg
      have T82 := hid hT82; replace HT := hid hhi82
      clear ho82 ha82 hT82 hlo82 hlh82 hhi82
      refine ⟨_, rfl, fun _ => GD.out, ?_⟩
      simp only [Act.put, List.setIfInBounds_toArray, List.set_cons_succ, List.set_cons_zero]
      refine E_only 3 (by kernel_rfl) ?_
      refine E_call 3 rfl (some 98) rfl rfl 11 _ (run_call1 _ (by kernel_rfl) (.tmp 97) _ (.agg #[.int .i64 k1, .int .i64 m1, .string u1, .int .i64 x1, .slice A1 f1.len c1]) rfl rfl) (toValue_any f1 (toEntryS_any f1) k1 m1 u1 x1 A1 c1 _ _ (RP1.out.grow GW.out) HO1.out.1 (by omega)) ?_
      rintro e wz85 ⟨B84, d84, M84, rfl, ha84, ho84, hg⟩
      obtain ⟨lo84, hi84, hT84, hlo84, hlh84, hhi84⟩ := own_tr ho84 hg HT.out
      have OR84 := hid (And.intro hlo84 hlh84); have HA84 := hid ha84.2
      replace GW := hid (gb_trans GW.out hg)
      replace T29 := hid (T29.out.grow hg)
      replace X29 := hid (X29.out.grow hg)
      replace T31 := hid (T31.out.grow hg)
      replace X33 := hid (X33.out.grow hg)
      replace T35 := hid (T35.out.grow hg)
      replace X37 := hid (X37.out.grow hg)
      replace T40 := hid (T40.out.grow hg)
      replace X42 := hid (X42.out.grow hg)
      replace T46 := hid (T46.out.grow hg)
      replace T49 := hid (T49.out.grow hg)
      replace X81 := hid (X81.out.grow hg)
      replace T82 := hid (T82.out.grow hg)
      replace HT := hid (Nat.le_trans HT.out (hg).size)
      replace GD := hid (gb_trans GD.out hg)
      clear hg
      have T84 := hid hT84; replace HT := hid hhi84
      clear ho84 ha84 hT84 hlo84 hlh84 hhi84
      refine ⟨_, rfl, fun _ => GD.out, ?_⟩
      simp only [Act.put, List.setIfInBounds_toArray, List.set_cons_succ, List.set_cons_zero]
      refine E_only 4 (by kernel_rfl) ?_
      refine E_call 4 rfl (some 99) rfl rfl 29 _ (run_call2 _ (by kernel_rfl) (.tmp 96) (.tmp 98) _ (.agg #[.int .i64 k0, .int .i64 m0, .string u0, .int .i64 x0, .slice B82 f0.len d82]) (.agg #[.int .i64 k1, .int .i64 m1, .string u1, .int .i64 x1, .slice B84 f1.len d84]) rfl rfl rfl) (implAppend_any f0 f1 _ k0 m0 u0 x0 B82 d82 _ k1 m1 u1 x1 B84 d84 _ ab rx D HAB.out HD.out T82.out.1.1 (by omega) T84.out.1.1 (by omega)) ?_
      rintro e wz87 ⟨B86, d86, M86, rfl, _, hR, hg⟩
      obtain ⟨lo86, hi86, hT86, hlo86, hlh86, hhi86⟩ := own_tr hR.own hg X81.out.lt
      have OR86 := hid (And.intro hlo86 hlh86)
      replace GW := hid (gb_trans GW.out hg)
      replace T29 := hid (T29.out.grow hg)
      replace X29 := hid (X29.out.grow hg)
      replace T31 := hid (T31.out.grow hg)
      replace X33 := hid (X33.out.grow hg)
      replace T35 := hid (T35.out.grow hg)
      replace X37 := hid (X37.out.grow hg)
      replace T40 := hid (T40.out.grow hg)
      replace X42 := hid (X42.out.grow hg)
      replace T46 := hid (T46.out.grow hg)
      replace T49 := hid (T49.out.grow hg)
      replace X81 := hid (X81.out.grow hg)
      replace T82 := hid (T82.out.grow hg)
      replace T84 := hid (T84.out.grow hg)
      replace HT := hid (Nat.le_trans HT.out (hg).size)
      replace GD := hid (gb_trans GD.out hg)
      clear hg
      have T86 := hid hT86; replace HT := hid hhi86
      clear hR hT86 hlo86 hlh86 hhi86
      refine ⟨_, rfl, fun _ => GD.out, ?_⟩
      simp only [Act.put, List.setIfInBounds_toArray, List.set_cons_succ, List.set_cons_zero]
      refine E_take 5 rfl (some 94) rfl (by kernel_rfl) (by kernel_rfl) (by kernel_rfl) (by kernel_rfl) (by decide) (fun _ _ _ _ h => by cases h.1) rfl (.tuple #[.agg #[.int .i64 k0, .int .i64 m0, .string u0, .int .i64 rx, .slice B86 D.len d86], .bool ab]) (fun w' hw => run_mov (.tmp 99) rfl rfl) GD.out ?_
      simp only [Act.put, List.setIfInBounds_toArray, List.set_cons_succ, List.set_cons_zero]
      refine E_take 6 rfl (some 100) rfl (by kernel_rfl) (by kernel_rfl) (by kernel_rfl) (by kernel_rfl) (by decide) (fun _ _ _ _ h => by cases h.1) rfl (.agg #[.int .i64 k0, .int .i64 m0, .string u0, .int .i64 rx, .slice B86 D.len d86]) (fun w' hw => run_ext (.tmp 94) 0 rfl rfl rfl) GD.out ?_
      simp only [Act.put, List.setIfInBounds_toArray, List.set_cons_succ, List.set_cons_zero]
      refine E_take 7 rfl (some 101) rfl (by kernel_rfl) (by kernel_rfl) (by kernel_rfl) (by kernel_rfl) (by decide) (fun _ _ _ _ h => by cases h.1) rfl (.bool ab) (fun w' hw => run_ext (.tmp 94) 1 rfl rfl rfl) GD.out ?_
      simp only [Act.put, List.setIfInBounds_toArray, List.set_cons_succ, List.set_cons_zero]
      have s9 := gb_setCells (r := some (wd.heap.size)) (.inr rfl) [.int .i64 k0, .int .i64 m0, .string u0, .int .i64 rx, .slice B86 D.len d86] 0 (gb_refl wz87 (some (wd.heap.size)))
      have x9 := hid (show HoldsT (wz87.setCells (wd.heap.size) 0 [.int .i64 k0, .int .i64 m0, .string u0, .int .i64 rx, .slice B86 D.len d86]) (wd.heap.size) #[.int .i64 k0, .int .i64 m0, .string u0, .int .i64 rx, .slice B86 D.len d86] 31 by have h := X81.out.setCells [.int .i64 k0, .int .i64 m0, .string u0, .int .i64 rx, .slice B86 D.len d86] 0; simpa [setArr] using h)
      have gd9 := hid (gb_setCells (r := none) (.inl HGE81.out) [.int .i64 k0, .int .i64 m0, .string u0, .int .i64 rx, .slice B86 D.len d86] 0 GD.out)
      have m9 : MkI wz87 (wz87.setCells (wd.heap.size) 0 [.int .i64 k0, .int .i64 m0, .string u0, .int .i64 rx, .slice B86 D.len d86]) (wd.heap.size) (wd.heap.size + 1) := ⟨s9.os, s9.tape, s9.output, s9.size, fun k hk hb => s9.block k hk (by intro e; injection e; omega)⟩
      have t9 := hid (T86.out.mk' m9 (by have := OR29.out; have := OR31.out; have := OR33.out; have := OR35.out; have := OR37.out; have := OR40.out; have := OR42.out; have := OR46.out; have := OR49.out; have := OR81.out; have := OR82.out; have := OR84.out; have := OR86.out; have := HW0.out; omega))
      have HF := hid (Nat.le_trans HT.out m9.size)
      refine E_only 9 (by kernel_rfl) (E_store 9 rfl none rfl rfl 31 (.tmp 15) (.tmp 100) rfl (wd.heap.size) 0 [.int .i64 k0, .int .i64 m0, .string u0, .int .i64 rx, .slice B86 D.len d86] rfl rfl X81.out (by simp) Try.infoV rfl ⟨fun _ => gd9.out, ?_⟩)
      simp only [Act.put]
      clear GD s9 m9
      have GD := gd9
      refine E_only 10 (by kernel_rfl) (E_val 10 rfl (some 16) rfl rfl (.bool ab) _ (run_asg (.tmp 101) rfl rfl) ⟨fun _ => GD.out, ?_⟩)
      simp only [Act.put, List.setIfInBounds_toArray, List.set_cons_succ, List.set_cons_zero]
      refine E_done (by kernel_rfl) ?_ _
      exact ⟨rfl, ⟨wd.heap.size, .agg #[.int .i64 k0, .int .i64 m0, .string u0, .int .i64 x0, .slice B82 f0.len d82], .agg #[.int .i64 k1, .int .i64 m1, .string u1, .int .i64 x1, .slice B84 f1.len d84], .agg #[.int .i64 k0, .int .i64 m0, .string u0, .int .i64 rx, .slice B86 D.len d86]⟩, ⟨B86, d86, _, lo86, hi86, rfl, t9.out, x9.out, ⟨(by have := OR29.out; have := OR31.out; have := OR33.out; have := OR35.out; have := OR37.out; have := OR40.out; have := OR42.out; have := OR46.out; have := OR49.out; have := OR81.out; have := OR82.out; have := OR84.out; have := OR86.out; have := HW0.out; omega), (by have := OR29.out; have := OR31.out; have := OR33.out; have := OR35.out; have := OR37.out; have := OR40.out; have := OR42.out; have := OR46.out; have := OR49.out; have := OR81.out; have := OR82.out; have := OR84.out; have := OR86.out; have := HW0.out; omega), (by have := OR29.out; have := OR31.out; have := OR33.out; have := OR35.out; have := OR37.out; have := OR40.out; have := OR42.out; have := OR46.out; have := OR49.out; have := OR81.out; have := OR82.out; have := OR84.out; have := OR86.out; have := HW0.out; have := HF.out; omega)⟩, ⟨(by have := OR29.out; have := OR31.out; have := OR33.out; have := OR35.out; have := OR37.out; have := OR40.out; have := OR42.out; have := OR46.out; have := OR49.out; have := OR81.out; have := OR82.out; have := OR84.out; have := OR86.out; have := HW0.out; omega), x9.out.lt, (by have := OR29.out; have := OR31.out; have := OR33.out; have := OR35.out; have := OR37.out; have := OR40.out; have := OR42.out; have := OR46.out; have := OR49.out; have := OR81.out; have := OR82.out; have := OR84.out; have := OR86.out; have := HW0.out; omega)⟩, gb_trans GI.out GD.out⟩, by simp only [List.foldl, Act.put, List.setIfInBounds_toArray, List.set_cons_succ, List.set_cons_zero]⟩
  rintro ⟨bb88, vc88_0, vc88_1, vc88_2⟩ wz88 ⟨B88, d88, M88, lo88, hi88, hv88, hT88, hX88, ⟨ho88, hp88, hq88⟩, ⟨hr88, hs88, ht88⟩, hg⟩
  dsimp only at hv88 hX88 hr88 hs88 ht88
  subst hv88
  simp only [List.foldl, Act.put, List.setIfInBounds_toArray, List.set_cons_succ, List.set_cons_zero]
  obtain ⟨tp88, hu88, hv88⟩ : ∃ z, (hi88 ≤ z ∧ bb88 + 1 ≤ z) ∧ z ≤ wz88.heap.size := ⟨_, ⟨hq88, hs88⟩, Nat.le_refl _⟩
  have OR88 := hid (And.intro (And.intro ho88 hp88) (And.intro hr88 (And.intro ht88 hu88)))
  replace GW := hid (gb_trans GW.out hg)
  replace T29 := hid (T29.out.grow hg)
  replace X29 := hid (X29.out.grow hg)
  replace T31 := hid (T31.out.grow hg)
  replace X33 := hid (X33.out.grow hg)
  replace T35 := hid (T35.out.grow hg)
  replace X37 := hid (X37.out.grow hg)
  replace T40 := hid (T40.out.grow hg)
  replace X42 := hid (X42.out.grow hg)
  replace T46 := hid (T46.out.grow hg)
  replace T49 := hid (T49.out.grow hg)
  replace HT := hid (Nat.le_trans HT.out (hg).size)
  clear hg
  have T88 := hid hT88; have X88 := hid hX88; replace HT := hid hv88
  clear ho88 hp88 hq88 hr88 hs88 ht88 hu88 hv88 hT88 hX88
  obtain ⟨a89_0, a89_1, a89_2, a89_3, a89_4⟩ := X88.out.cells5
  have la89 := X88.out.lt
  obtain ⟨a90_0, a90_1, a90_2, a90_3, a90_4⟩ := X29.out.cells5
  have la90 := X29.out.lt
  go_wp2_with fail
  refine (eqValue_any D (eqEntryS_any D) k0 m0 u0 rx B88 B29 d88 d29 _ _ _ T88.out.1.1 T29.out.1.1 (by omega)).mono ?_
  rintro e wz91 ⟨rfl, hg⟩
  clear a89_0 a89_1 a89_2 a89_3 a89_4 la89 a90_0 a90_1 a90_2 a90_3 a90_4 la90
  replace GW := hid (gb_trans GW.out hg)
  replace T29 := hid (T29.out.grow hg)
  replace X29 := hid (X29.out.grow hg)
  replace T31 := hid (T31.out.grow hg)
  replace X33 := hid (X33.out.grow hg)
  replace T35 := hid (T35.out.grow hg)
  replace X37 := hid (X37.out.grow hg)
  replace T40 := hid (T40.out.grow hg)
  replace X42 := hid (X42.out.grow hg)
  replace T46 := hid (T46.out.grow hg)
  replace T49 := hid (T49.out.grow hg)
  replace T88 := hid (T88.out.grow hg)
  replace X88 := hid (X88.out.grow hg)
  replace HT := hid (Nat.le_trans HT.out (hg).size)
  clear hg
  obtain ⟨a92_0, a92_1, a92_2, a92_3, a92_4⟩ := X42.out.cells5
  have la92 := X42.out.lt
  go_wp2_with fail
  refine (heldValue_any D _ k0 m0 u0 rx B40 d40 _ 1 (by have h := T40.out.1.1; rw [Forest.len_mark] at h; exact h) (by omega) (by omega)).mono ?_
  rintro e wz93 ⟨rfl, hg⟩
  clear a92_0 a92_1 a92_2 a92_3 a92_4 la92
  rw [HZ62.out]
  replace GW := hid (gb_trans GW.out hg)
  replace T29 := hid (T29.out.grow hg)
  replace X29 := hid (X29.out.grow hg)
  replace T31 := hid (T31.out.grow hg)
  replace X33 := hid (X33.out.grow hg)
  replace T35 := hid (T35.out.grow hg)
  replace X37 := hid (X37.out.grow hg)
  replace T40 := hid (T40.out.grow hg)
  replace X42 := hid (X42.out.grow hg)
  replace T46 := hid (T46.out.grow hg)
  replace T49 := hid (T49.out.grow hg)
  replace T88 := hid (T88.out.grow hg)
  replace X88 := hid (X88.out.grow hg)
  replace HT := hid (Nat.le_trans HT.out (hg).size)
  clear hg
  go_wp2_with fail
  go_ret
  exact ⟨rfl, gb_below (gb_trans GP.out GW.out)⟩
end Go.Proofs.Ytlfigoboeogegaa
