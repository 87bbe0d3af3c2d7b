/- The law FnExactListOf, walked (printed by lawgen2.py). -/
import Derived.Test.YtlfigoboeogegaaListW
import Derived.Test.YtlfigoboeogegaaVTo
import Derived.Test.YtlfigoboeogegaaValsM
import Derived.Test.YtlfigoboeogegaaOpenVS
import Derived.Test.YtlfigoboeogegaaSz
import Derived.Test.YtlfigoboeogegaaTo
import Derived.Test.YtlfigoboeogegaaEq
import Derived.Test.YtlfigoboeogegaaMark
import Derived.Test.YtlfigoboeogegaaHeldE
import Derived.Test.YtlfigoboeogegaaLaw
import Derived.Test.YtlfigoboeogegaaHeldX
namespace Go.Proofs.Ytlfigoboeogegaa
open Go.RowKit
set_option linter.unusedVariables false
set_option linter.unusedSimpArgs false

set_option maxRecDepth 100000 in
set_option maxHeartbeats 8000000 in
theorem listOf_walk (A0 : Option Addr) (n0 c0 : Nat) (f0 : Forest) (L0 : List Nat) (w : World) (_ha0 : A0 = none → c0 = 0) (hb0 : n0 ≤ maxLen) (hc0 : RowV w f0 A0 0 n0 L0) (hd0 : f0.ok) :
    Calls Try.prog 6 #[.slice A0 n0 c0] w fun e w' => e = .returned (.bool true) ∧ Below w.heap.size w w' := by
  have hn0 : f0.len = n0 := by have := hc0.len; omega
  subst hn0
  have GP := hid (show w.grownBy w none from gb_refl w none)
  have RP0 := hid (hc0.grow GP.out)
  have HO0 := hid (And.intro hd0 hb0)
  clear _ha0 hb0 hc0 hd0
  have GW := hid (gb_refl w none)
  obtain ⟨tp0, htp0⟩ : ∃ z, z = (w).heap.size := ⟨_, rfl⟩
  have HT : Hid (tp0 ≤ (w).heap.size) := hid (Nat.le_of_eq htp0)
  have HW0 : Hid ((w).heap.size ≤ tp0) := hid (Nat.le_of_eq htp0.symm)
  clear htp0
  obtain ⟨D, hD⟩ : ∃ D, f0.listF 0 = D := ⟨_, rfl⟩
  have hDs : D.size = f0.size := by rw [← hD]; exact Forest.listF_size _ _
  have HD := hid hD
  clear hD
  go_enter Try.func6, Try.ntmps6
  go_wp2_with fail
  refine (szValueS_any f0 _ A0 c0 1048576 _ (RP0.out.grow GW.out) HO0.out.1 HO0.out.2 (by omega)).mono ?_
  rintro e wz2 ⟨rfl, hg⟩
  replace GW := hid (gb_trans GW.out hg)
  replace HT := hid (Nat.le_trans HT.out (hg).size)
  clear hg
  rcases leftI_cases 1048576 (f0.len + f0.szv) with ⟨e1, _⟩ | ⟨q1, e1, hq1⟩
  · rw [e1]
    clear e1
    go_wp2_with fail
    go_ret
    exact ⟨rfl, gb_below (gb_trans GP.out GW.out)⟩
  rw [e1]
  have hfs0 : f0.size + q1 ≤ 1048576 := by have := f0.size_szv; omega
  have hqb1 : q1 ≤ 1048576 := by omega
  clear e1 hq1
  go_wp2_with fail
  refine (toValueS_any f0 _ A0 c0 _ (RP0.out.grow GW.out) HO0.out.1 (by omega)).mono ?_
  rintro e wz4 ⟨B3, d3, M3, rfl, hR, hg⟩
  obtain ⟨lo3, hi3, hT3, hlo3, hlh3, hhi3⟩ := own_trv hR hg HT.out
  have OR3 := hid (And.intro hlo3 hlh3)
  replace GW := hid (gb_trans GW.out hg)
  replace HT := hid (Nat.le_trans HT.out (hg).size)
  clear hg
  have T3 := hid hT3; replace HT := hid hhi3
  clear hR hT3 hlo3 hlh3 hhi3
  go_wp2_with fail
  refine (specList_any f0 _ B3 d3 _ T3.out.1 (by omega)).mono ?_
  rintro e wz6 ⟨B5, d5, M5, rfl, _, hR, hg⟩
  rw [HD.out] at hR
  rw [HD.out]
  obtain ⟨lo5, hi5, hT5, hlo5, hlh5, hhi5⟩ := own_tr hR.own hg HT.out
  have OR5 := hid (And.intro hlo5 hlh5)
  replace GW := hid (gb_trans GW.out hg)
  replace T3 := hid (T3.out.grow hg)
  replace HT := hid (Nat.le_trans HT.out (hg).size)
  clear hg
  have T5 := hid hT5; replace HT := hid hhi5
  clear hR hT5 hlo5 hlh5 hhi5
  have X7 := hid (HoldsT.new wz6 #[.int .i64 4, .int .i64 0, .string { data := #[] }, .int .i64 (f0.len : Int), .slice B5 D.len d5] 31)
  replace GW := hid (gb_alloc GW.out (.cells #[.int .i64 4, .int .i64 0, .string { data := #[] }, .int .i64 (f0.len : Int), .slice B5 D.len d5] 31))
  replace T3 := hid (T3.out.grow (gb_alloc (gb_refl _ none) (.cells #[.int .i64 4, .int .i64 0, .string { data := #[] }, .int .i64 (f0.len : Int), .slice B5 D.len d5] 31)))
  replace T5 := hid (T5.out.grow (gb_alloc (gb_refl _ none) (.cells #[.int .i64 4, .int .i64 0, .string { data := #[] }, .int .i64 (f0.len : Int), .slice B5 D.len d5] 31)))
  have OR7 : Hid (hi5 ≤ wz6.heap.size) := HT; replace HT := hid (show wz6.heap.size + 1 ≤ (wz6.alloc (.cells #[.int .i64 4, .int .i64 0, .string { data := #[] }, .int .i64 (f0.len : Int), .slice B5 D.len d5] 31)).heap.size by simp)
  go_wp2_with fail
  refine (toValueS_any f0 _ A0 c0 _ (RP0.out.grow GW.out) HO0.out.1 (by omega)).mono ?_
  rintro e wz9 ⟨B8, d8, M8, rfl, hR, hg⟩
  obtain ⟨lo8, hi8, hT8, hlo8, hlh8, hhi8⟩ := own_trv hR hg HT.out
  have OR8 := hid (And.intro hlo8 hlh8)
  replace GW := hid (gb_trans GW.out hg)
  replace T3 := hid (T3.out.grow hg)
  replace T5 := hid (T5.out.grow hg)
  replace X7 := hid (X7.out.grow hg)
  replace HT := hid (Nat.le_trans HT.out (hg).size)
  clear hg
  have T8 := hid hT8; replace HT := hid hhi8
  clear hR hT8 hlo8 hlh8 hhi8
  go_wp2_with fail
  refine (implList_any f0 _ B8 d8 _ T8.out.1 (by omega)).mono ?_
  rintro e wz11 ⟨B10, d10, M10, rfl, _, hR, hg⟩
  rw [HD.out] at hR
  rw [HD.out]
  obtain ⟨lo10, hi10, hT10, hlo10, hlh10, hhi10⟩ := own_tr hR.own hg HT.out
  have OR10 := hid (And.intro hlo10 hlh10)
  replace GW := hid (gb_trans GW.out hg)
  replace T3 := hid (T3.out.grow hg)
  replace T5 := hid (T5.out.grow hg)
  replace X7 := hid (X7.out.grow hg)
  replace T8 := hid (T8.out.grow hg)
  replace HT := hid (Nat.le_trans HT.out (hg).size)
  clear hg
  have T10 := hid hT10; replace HT := hid hhi10
  clear hR hT10 hlo10 hlh10 hhi10
  have X12 := hid (HoldsT.new wz11 #[.int .i64 4, .int .i64 0, .string { data := #[] }, .int .i64 (f0.len : Int), .slice B10 D.len d10] 31)
  replace GW := hid (gb_alloc GW.out (.cells #[.int .i64 4, .int .i64 0, .string { data := #[] }, .int .i64 (f0.len : Int), .slice B10 D.len d10] 31))
  replace T3 := hid (T3.out.grow (gb_alloc (gb_refl _ none) (.cells #[.int .i64 4, .int .i64 0, .string { data := #[] }, .int .i64 (f0.len : Int), .slice B10 D.len d10] 31)))
  replace T5 := hid (T5.out.grow (gb_alloc (gb_refl _ none) (.cells #[.int .i64 4, .int .i64 0, .string { data := #[] }, .int .i64 (f0.len : Int), .slice B10 D.len d10] 31)))
  replace X7 := hid (X7.out.grow (gb_alloc (gb_refl _ none) (.cells #[.int .i64 4, .int .i64 0, .string { data := #[] }, .int .i64 (f0.len : Int), .slice B10 D.len d10] 31)))
  replace T8 := hid (T8.out.grow (gb_alloc (gb_refl _ none) (.cells #[.int .i64 4, .int .i64 0, .string { data := #[] }, .int .i64 (f0.len : Int), .slice B10 D.len d10] 31)))
  replace T10 := hid (T10.out.grow (gb_alloc (gb_refl _ none) (.cells #[.int .i64 4, .int .i64 0, .string { data := #[] }, .int .i64 (f0.len : Int), .slice B10 D.len d10] 31)))
  have OR12 : Hid (hi10 ≤ wz11.heap.size) := HT; replace HT := hid (show wz11.heap.size + 1 ≤ (wz11.alloc (.cells #[.int .i64 4, .int .i64 0, .string { data := #[] }, .int .i64 (f0.len : Int), .slice B10 D.len d10] 31)).heap.size by simp)
  obtain ⟨a13_0, a13_1, a13_2, a13_3, a13_4⟩ := X12.out.cells5
  have la13 := X12.out.lt
  obtain ⟨a14_0, a14_1, a14_2, a14_3, a14_4⟩ := X7.out.cells5
  have la14 := X7.out.lt
  go_wp2_with fail
  refine (eqValue_any D (eqEntryS_any D) 4 0 { data := #[] } (f0.len : Int) B10 B5 d10 d5 _ _ _ T10.out.1.1 T5.out.1.1 (by omega)).mono ?_
  rintro e wz15 ⟨rfl, hg⟩
  clear a13_0 a13_1 a13_2 a13_3 a13_4 la13 a14_0 a14_1 a14_2 a14_3 a14_4 la14
  replace GW := hid (gb_trans GW.out hg)
  replace T3 := hid (T3.out.grow hg)
  replace T5 := hid (T5.out.grow hg)
  replace X7 := hid (X7.out.grow hg)
  replace T8 := hid (T8.out.grow hg)
  replace T10 := hid (T10.out.grow hg)
  replace X12 := hid (X12.out.grow hg)
  replace HT := hid (Nat.le_trans HT.out (hg).size)
  clear hg
  go_wp2_with fail
  refine (toValueS_any f0 _ A0 c0 _ (RP0.out.grow GW.out) HO0.out.1 (by omega)).mono ?_
  rintro e wz17 ⟨B16, d16, M16, rfl, hR, hg⟩
  obtain ⟨lo16, hi16, hT16, hlo16, hlh16, hhi16⟩ := own_trv hR hg HT.out
  have OR16 := hid (And.intro hlo16 hlh16)
  replace GW := hid (gb_trans GW.out hg)
  replace T3 := hid (T3.out.grow hg)
  replace T5 := hid (T5.out.grow hg)
  replace X7 := hid (X7.out.grow hg)
  replace T8 := hid (T8.out.grow hg)
  replace T10 := hid (T10.out.grow hg)
  replace X12 := hid (X12.out.grow hg)
  replace HT := hid (Nat.le_trans HT.out (hg).size)
  clear hg
  have T16 := hid hT16; replace HT := hid hhi16
  clear hR hT16 hlo16 hlh16 hhi16
  go_wp2_with fail
  refine (eqValueS_any f0 _ B8 B16 d8 d16 _ _ T8.out.1 T16.out.1 (by omega)).mono ?_
  rintro e wz18 ⟨rfl, hg⟩
  replace GW := hid (gb_trans GW.out hg)
  replace T3 := hid (T3.out.grow hg)
  replace T5 := hid (T5.out.grow hg)
  replace X7 := hid (X7.out.grow hg)
  replace T8 := hid (T8.out.grow hg)
  replace T10 := hid (T10.out.grow hg)
  replace X12 := hid (X12.out.grow hg)
  replace T16 := hid (T16.out.grow hg)
  replace HT := hid (Nat.le_trans HT.out (hg).size)
  clear hg
  go_wp2_with fail
  refine (markValueS_any f0 _ B8 d8 _ lo8 1 T8.out.1 T8.out.2.1 (fun b hb => (T8.out.2.2.1 b hb).2.1) (fun b hb => (T8.out.2.2.1 b hb).2.2) (by omega) (by have := f0.vsz_le; omega) (by omega)).mono ?_
  rintro e wz20 ⟨rfl, hR, hO, hB, hM⟩
  obtain ⟨z19, hz19⟩ : ∃ z : Nat, 1 + f0.vsz = z := ⟨_, rfl⟩
  have HZ19 := hid hz19
  have hzb19 : z19 ≤ 1 + 8388608 ∧ 1 ≤ z19 := by have := f0.vsz_le; omega
  rw [hz19]
  clear hz19
  have hm := MkI.of hM T8.out.bounds
  replace GW := hid (gb_mk GW.out hm (by have := OR3.out; have := OR5.out; have := OR7.out; have := OR8.out; have := OR10.out; have := OR12.out; have := OR16.out; have := HW0.out; omega))
  replace T3 := hid (T3.out.mk' hm (by have := OR3.out; have := OR5.out; have := OR7.out; have := OR8.out; have := OR10.out; have := OR12.out; have := OR16.out; have := HW0.out; omega))
  replace T5 := hid (T5.out.mk' hm (by have := OR3.out; have := OR5.out; have := OR7.out; have := OR8.out; have := OR10.out; have := OR12.out; have := OR16.out; have := HW0.out; omega))
  replace X7 := hid (X7.out.mk' hm (by have := OR3.out; have := OR5.out; have := OR7.out; have := OR8.out; have := OR10.out; have := OR12.out; have := OR16.out; have := HW0.out; omega))
  replace T10 := hid (T10.out.mk' hm (by have := OR3.out; have := OR5.out; have := OR7.out; have := OR8.out; have := OR10.out; have := OR12.out; have := OR16.out; have := HW0.out; omega))
  replace X12 := hid (X12.out.mk' hm (by have := OR3.out; have := OR5.out; have := OR7.out; have := OR8.out; have := OR10.out; have := OR12.out; have := OR16.out; have := HW0.out; omega))
  replace T16 := hid (T16.out.mk' hm (by have := OR3.out; have := OR5.out; have := OR7.out; have := OR8.out; have := OR10.out; have := OR12.out; have := OR16.out; have := HW0.out; omega))
  replace T8 := hid (show TrV _ lo8 hi8 (f0.markV 1) B8 _ from ⟨by rw [Forest.len_markV]; exact hR, hO, fun b hb => ⟨(T8.out.2.2.1 b hb).1, hB b hb, (T8.out.2.2.1 b hb).2.2⟩, T8.out.2.2.2⟩)
  replace HT := hid (Nat.le_trans HT.out hm.size)
  clear hm hM hR hO hB
  obtain ⟨a21_0, a21_1, a21_2, a21_3, a21_4⟩ := X12.out.cells5
  have la21 := X12.out.lt
  obtain ⟨a22_0, a22_1, a22_2, a22_3, a22_4⟩ := X7.out.cells5
  have la22 := X7.out.lt
  go_wp2_with fail
  refine (eqValue_any D (eqEntryS_any D) 4 0 { data := #[] } (f0.len : Int) B10 B5 d10 d5 _ _ _ T10.out.1.1 T5.out.1.1 (by omega)).mono ?_
  rintro e wz23 ⟨rfl, hg⟩
  clear a21_0 a21_1 a21_2 a21_3 a21_4 la21 a22_0 a22_1 a22_2 a22_3 a22_4 la22
  replace GW := hid (gb_trans GW.out hg)
  replace T3 := hid (T3.out.grow hg)
  replace T5 := hid (T5.out.grow hg)
  replace X7 := hid (X7.out.grow hg)
  replace T8 := hid (T8.out.grow hg)
  replace T10 := hid (T10.out.grow hg)
  replace X12 := hid (X12.out.grow hg)
  replace T16 := hid (T16.out.grow hg)
  replace HT := hid (Nat.le_trans HT.out (hg).size)
  clear hg
  obtain ⟨a24_0, a24_1, a24_2, a24_3, a24_4⟩ := X12.out.cells5
  have la24 := X12.out.lt
  go_wp2_with fail
  refine (markValue_any D _ 4 0 { data := #[] } (f0.len : Int) B10 d10 _ lo10 1 T10.out.1 (by omega) (by omega)).mono ?_
  rintro e wz26 ⟨rfl, hT, hM⟩
  clear a24_0 a24_1 a24_2 a24_3 a24_4 la24
  obtain ⟨z25, hz25⟩ : ∃ z : Nat, 1 + 7 * D.size = z := ⟨_, rfl⟩
  have HZ25 := hid hz25
  have hzb25 : z25 ≤ 1 + 8388608 ∧ 1 ≤ z25 := by omega
  rw [hz25]
  clear hz25
  have hm := MkI.of hM T10.out.bounds
  replace GW := hid (gb_mk GW.out hm (by have := OR3.out; have := OR5.out; have := OR7.out; have := OR8.out; have := OR10.out; have := OR12.out; have := OR16.out; have := HW0.out; omega))
  replace T3 := hid (T3.out.mk' hm (by have := OR3.out; have := OR5.out; have := OR7.out; have := OR8.out; have := OR10.out; have := OR12.out; have := OR16.out; have := HW0.out; omega))
  replace T5 := hid (T5.out.mk' hm (by have := OR3.out; have := OR5.out; have := OR7.out; have := OR8.out; have := OR10.out; have := OR12.out; have := OR16.out; have := HW0.out; omega))
  replace X7 := hid (X7.out.mk' hm (by have := OR3.out; have := OR5.out; have := OR7.out; have := OR8.out; have := OR10.out; have := OR12.out; have := OR16.out; have := HW0.out; omega))
  replace T8 := hid (T8.out.mk' hm (by have := OR3.out; have := OR5.out; have := OR7.out; have := OR8.out; have := OR10.out; have := OR12.out; have := OR16.out; have := HW0.out; omega))
  replace X12 := hid (X12.out.mk' hm (by have := OR3.out; have := OR5.out; have := OR7.out; have := OR8.out; have := OR10.out; have := OR12.out; have := OR16.out; have := HW0.out; omega))
  replace T16 := hid (T16.out.mk' hm (by have := OR3.out; have := OR5.out; have := OR7.out; have := OR8.out; have := OR10.out; have := OR12.out; have := OR16.out; have := HW0.out; omega))
  replace T10 := hid (show Tr _ 61 lo10 hi10 (D.mark 1) B10 _ from ⟨hT, T10.out.2⟩)
  replace HT := hid (Nat.le_trans HT.out hm.size)
  clear hm hM hT
  obtain ⟨a27_0, a27_1, a27_2, a27_3, a27_4⟩ := X12.out.cells5
  have la27 := X12.out.lt
  go_wp2_with fail
  refine (heldValue_any D _ 4 0 { data := #[] } (f0.len : Int) B10 d10 _ 1 (by have h := T10.out.1.1; rw [Forest.len_mark] at h; exact h) (by omega) (by omega)).mono ?_
  rintro e wz28 ⟨rfl, hg⟩
  clear a27_0 a27_1 a27_2 a27_3 a27_4 la27
  rw [HZ25.out]
  replace GW := hid (gb_trans GW.out hg)
  replace T3 := hid (T3.out.grow hg)
  replace T5 := hid (T5.out.grow hg)
  replace X7 := hid (X7.out.grow hg)
  replace T8 := hid (T8.out.grow hg)
  replace T10 := hid (T10.out.grow hg)
  replace X12 := hid (X12.out.grow hg)
  replace T16 := hid (T16.out.grow hg)
  replace HT := hid (Nat.le_trans HT.out (hg).size)
  clear hg
  go_wp2_with fail
  refine (toValueS_any f0 _ A0 c0 _ (RP0.out.grow GW.out) HO0.out.1 (by omega)).mono ?_
  rintro e wz30 ⟨B29, d29, M29, rfl, hR, hg⟩
  obtain ⟨lo29, hi29, hT29, hlo29, hlh29, hhi29⟩ := own_trv hR hg HT.out
  have OR29 := hid (And.intro hlo29 hlh29)
  replace GW := hid (gb_trans GW.out hg)
  replace T3 := hid (T3.out.grow hg)
  replace T5 := hid (T5.out.grow hg)
  replace X7 := hid (X7.out.grow hg)
  replace T8 := hid (T8.out.grow hg)
  replace T10 := hid (T10.out.grow hg)
  replace X12 := hid (X12.out.grow hg)
  replace T16 := hid (T16.out.grow hg)
  replace HT := hid (Nat.le_trans HT.out (hg).size)
  clear hg
  have T29 := hid hT29; replace HT := hid hhi29
  clear hR hT29 hlo29 hlh29 hhi29
  go_wp2_with fail
  refine (implList_any f0 _ B29 d29 _ T29.out.1 (by omega)).mono ?_
  rintro e wz32 ⟨B31, d31, M31, rfl, _, hR, hg⟩
  rw [HD.out] at hR
  rw [HD.out]
  obtain ⟨lo31, hi31, hT31, hlo31, hlh31, hhi31⟩ := own_tr hR.own hg HT.out
  have OR31 := hid (And.intro hlo31 hlh31)
  replace GW := hid (gb_trans GW.out hg)
  replace T3 := hid (T3.out.grow hg)
  replace T5 := hid (T5.out.grow hg)
  replace X7 := hid (X7.out.grow hg)
  replace T8 := hid (T8.out.grow hg)
  replace T10 := hid (T10.out.grow hg)
  replace X12 := hid (X12.out.grow hg)
  replace T16 := hid (T16.out.grow hg)
  replace T29 := hid (T29.out.grow hg)
  replace HT := hid (Nat.le_trans HT.out (hg).size)
  clear hg
  have T31 := hid hT31; replace HT := hid hhi31
  clear hR hT31 hlo31 hlh31 hhi31
  have X33 := hid (HoldsT.new wz32 #[.int .i64 4, .int .i64 0, .string { data := #[] }, .int .i64 (f0.len : Int), .slice B31 D.len d31] 31)
  replace GW := hid (gb_alloc GW.out (.cells #[.int .i64 4, .int .i64 0, .string { data := #[] }, .int .i64 (f0.len : Int), .slice B31 D.len d31] 31))
  replace T3 := hid (T3.out.grow (gb_alloc (gb_refl _ none) (.cells #[.int .i64 4, .int .i64 0, .string { data := #[] }, .int .i64 (f0.len : Int), .slice B31 D.len d31] 31)))
  replace T5 := hid (T5.out.grow (gb_alloc (gb_refl _ none) (.cells #[.int .i64 4, .int .i64 0, .string { data := #[] }, .int .i64 (f0.len : Int), .slice B31 D.len d31] 31)))
  replace X7 := hid (X7.out.grow (gb_alloc (gb_refl _ none) (.cells #[.int .i64 4, .int .i64 0, .string { data := #[] }, .int .i64 (f0.len : Int), .slice B31 D.len d31] 31)))
  replace T8 := hid (T8.out.grow (gb_alloc (gb_refl _ none) (.cells #[.int .i64 4, .int .i64 0, .string { data := #[] }, .int .i64 (f0.len : Int), .slice B31 D.len d31] 31)))
  replace T10 := hid (T10.out.grow (gb_alloc (gb_refl _ none) (.cells #[.int .i64 4, .int .i64 0, .string { data := #[] }, .int .i64 (f0.len : Int), .slice B31 D.len d31] 31)))
  replace X12 := hid (X12.out.grow (gb_alloc (gb_refl _ none) (.cells #[.int .i64 4, .int .i64 0, .string { data := #[] }, .int .i64 (f0.len : Int), .slice B31 D.len d31] 31)))
  replace T16 := hid (T16.out.grow (gb_alloc (gb_refl _ none) (.cells #[.int .i64 4, .int .i64 0, .string { data := #[] }, .int .i64 (f0.len : Int), .slice B31 D.len d31] 31)))
  replace T29 := hid (T29.out.grow (gb_alloc (gb_refl _ none) (.cells #[.int .i64 4, .int .i64 0, .string { data := #[] }, .int .i64 (f0.len : Int), .slice B31 D.len d31] 31)))
  replace T31 := hid (T31.out.grow (gb_alloc (gb_refl _ none) (.cells #[.int .i64 4, .int .i64 0, .string { data := #[] }, .int .i64 (f0.len : Int), .slice B31 D.len d31] 31)))
  have OR33 : Hid (hi31 ≤ wz32.heap.size) := HT; replace HT := hid (show wz32.heap.size + 1 ≤ (wz32.alloc (.cells #[.int .i64 4, .int .i64 0, .string { data := #[] }, .int .i64 (f0.len : Int), .slice B31 D.len d31] 31)).heap.size by simp)
  obtain ⟨a34_0, a34_1, a34_2, a34_3, a34_4⟩ := X33.out.cells5
  have la34 := X33.out.lt
  obtain ⟨a35_0, a35_1, a35_2, a35_3, a35_4⟩ := X7.out.cells5
  have la35 := X7.out.lt
  go_wp2_with fail
  refine (eqValue_any D (eqEntryS_any D) 4 0 { data := #[] } (f0.len : Int) B31 B5 d31 d5 _ _ _ T31.out.1.1 T5.out.1.1 (by omega)).mono ?_
  rintro e wz36 ⟨rfl, hg⟩
  clear a34_0 a34_1 a34_2 a34_3 a34_4 la34 a35_0 a35_1 a35_2 a35_3 a35_4 la35
  replace GW := hid (gb_trans GW.out hg)
  replace T3 := hid (T3.out.grow hg)
  replace T5 := hid (T5.out.grow hg)
  replace X7 := hid (X7.out.grow hg)
  replace T8 := hid (T8.out.grow hg)
  replace T10 := hid (T10.out.grow hg)
  replace X12 := hid (X12.out.grow hg)
  replace T16 := hid (T16.out.grow hg)
  replace T29 := hid (T29.out.grow hg)
  replace T31 := hid (T31.out.grow hg)
  replace X33 := hid (X33.out.grow hg)
  replace HT := hid (Nat.le_trans HT.out (hg).size)
  clear hg
  obtain ⟨a37_0, a37_1, a37_2, a37_3, a37_4⟩ := X12.out.cells5
  have la37 := X12.out.lt
  go_wp2_with fail
  refine (heldValue_any D _ 4 0 { data := #[] } (f0.len : Int) B10 d10 _ 1 (by have h := T10.out.1.1; rw [Forest.len_mark] at h; exact h) (by omega) (by omega)).mono ?_
  rintro e wz38 ⟨rfl, hg⟩
  clear a37_0 a37_1 a37_2 a37_3 a37_4 la37
  rw [HZ25.out]
  replace GW := hid (gb_trans GW.out hg)
  replace T3 := hid (T3.out.grow hg)
  replace T5 := hid (T5.out.grow hg)
  replace X7 := hid (X7.out.grow hg)
  replace T8 := hid (T8.out.grow hg)
  replace T10 := hid (T10.out.grow hg)
  replace X12 := hid (X12.out.grow hg)
  replace T16 := hid (T16.out.grow hg)
  replace T29 := hid (T29.out.grow hg)
  replace T31 := hid (T31.out.grow hg)
  replace X33 := hid (X33.out.grow hg)
  replace HT := hid (Nat.le_trans HT.out (hg).size)
  clear hg
  go_wp2_with fail
  go_ret
  exact ⟨rfl, gb_below (gb_trans GP.out GW.out)⟩
end Go.Proofs.Ytlfigoboeogegaa
