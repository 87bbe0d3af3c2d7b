/- The law IsValue (printed by genisv.py). -/
import Derived.Test.YtmbochhmeojmfaaDoorIsV
import Derived.Test.YtmbochhmeojmfaaDoorSz
import Derived.Test.YtmbochhmeojmfaaDoorTo
import Derived.Test.YtmbochhmeojmfaaDoorEq
import Derived.Test.YtmbochhmeojmfaaDoorHeld
namespace Go.Proofs.YtmbochhmeojmfaaDoor
set_option maxRecDepth 20000
open Go.RowKit
set_option linter.unusedVariables false

theorem toValue_treeV (f : Forest) (k m : Int) (u : ByteArray) (x : Int) (A : Option Addr) (c : Nat) (L : List Nat) (w : World) (hr : RowF w f A 0 f.len L) (hok : f.ok) (hlen : f.size ≤ 1048576) :
    Calls Tryd.prog 20 #[.agg #[.int .i64 k, .int .i64 m, .string u, .int .i64 x, .slice A f.len c]] w fun e w' => ∃ A' c' L', e = .returned (.agg #[.int .i64 k, .int .i64 m, .string u, .int .i64 x, .slice A' f.len c']) ∧
      ((A' = none → c' = 0) ∧ c' = f.len) ∧ OwnT w' 35 w.heap.size f A' L' ∧ w.grownBy w' none := toValue_any f (toEntryS_any f) k m u x A c L w hr hok hlen
set_option maxHeartbeats 1000000 in
theorem isValue_walk (k m : Int) (u : ByteArray) (x : Int) (A : Option Addr) (n c : Nat) (f : Forest) (L : List Nat) (w : World) (_h0 : A = none → c = 0) (h1 : n ≤ maxLen) (h2 : RowF w f A 0 n L) (h3 : f.ok) (h4 : u.size ≤ maxLen)
    (_h5 : (Lit.int .i64 k).wf = true) (_h6 : (Lit.int .i64 m).wf = true) (_h7 : (Lit.int .i64 x).wf = true) (hL : LaidW w) :
    Calls Tryd.prog 4 #[.agg #[.int .i64 k, .int .i64 m, .string u, .int .i64 x, .slice A n c]] w fun e w' => e = .returned (.bool true) ∧ Below w.heap.size w w' := by
  have hn : f.len = n := by have := h2.len; omega
  subst hn
  have H0 := hid (HoldsT.new w #[.int .i64 k, .int .i64 m, .string u, .int .i64 x, .slice A f.len c] 40)
  have R0 := hid (h2.grow (gb_alloc (gb_refl w none) (.cells #[.int .i64 k, .int .i64 m, .string u, .int .i64 x, .slice A f.len c] 40)))
  have HO := hid (And.intro h3 (And.intro h1 h4))
  have HL := hid hL
  clear hL
  clear _h0 h2 h3 h1 h4 _h5 _h6 _h7
  go_enter Tryd.func4, Tryd.ntmps4
  go_wp2_with fail
  refine (szValue_any f (szEntryS_any f) k m u x A c 1048576 L _ R0.out HO.out.1 HO.out.2.1 (Nat.le_refl _) HO.out.2.2).mono ?_
  rintro e w1 ⟨rfl, hg⟩
  have H1 := hid (H0.out.grow hg)
  have R1 := hid (R0.out.grow hg)
  have G1 := hid (gb_trans (gb_alloc (gb_refl w none) _) hg)
  clear hg
  rcases leftI_cases 1048576 (u.size + (f.len + f.sz)) with ⟨e1, _⟩ | ⟨q, e1, hq⟩
  · rw [e1]
    clear e1
    go_wp2_with fail
    go_ret
    exact ⟨rfl, gb_below G1.out⟩
  · rw [e1]
    have hfs : f.size ≤ 1048576 := by have := f.size_sz; omega
    have hfz : f.sz ≤ 1048576 := by omega
    obtain ⟨a0, a1, a2, a3, a4⟩ := H1.out.cells5
    have la := H1.out.lt
    clear e1 hq
    go_wp2_with fail
    refine (toValue_treeV f k m u x A c L _ R1.out HO.out.1 hfs).mono ?_
    rintro e w2 ⟨A2, _, L2, rfl, ⟨_, rfl⟩, ho2, hg⟩
    have H2 := hid (H1.out.grow hg)
    have R2 := hid (R1.out.grow hg)
    have G2 := hid (gb_trans G1.out hg)
    have T2 := hid ho2.1
    clear hg ho2 a0 a1 a2 a3 a4 la
    go_wp2_with fail
    refine (specIsValue_any f _ k m u x A2 f.len L2 T2.out hfs hfz HO.out.1 (HL.out.grow G2.out)).mono ?_
    rintro e w3 ⟨bs, rfl, hbs, hg⟩
    have HBS := hid hbs
    clear hbs
    have H3 := hid (H2.out.grow hg)
    have R3 := hid (R2.out.grow hg)
    have G3 := hid (gb_trans G2.out hg)
    clear hg H2 R2 G2 T2
    obtain ⟨a0, a1, a2, a3, a4⟩ := H3.out.cells5
    have la := H3.out.lt
    go_wp2_with fail
    refine (toValue_treeV f k m u x A c L _ R3.out HO.out.1 hfs).mono ?_
    rintro e w4 ⟨A4, _, L4, rfl, ⟨_, rfl⟩, ho4, hg⟩
    have H4 := hid ((H3.out.grow hg).alloc (.cells #[.int .i64 k, .int .i64 m, .string u, .int .i64 x, .slice A4 f.len f.len] 26))
    have X4 := hid (HoldsT.new w4 #[.int .i64 k, .int .i64 m, .string u, .int .i64 x, .slice A4 f.len f.len] 26)
    have R4 := hid ((R3.out.grow hg).grow (gb_alloc (gb_refl _ none) (.cells #[.int .i64 k, .int .i64 m, .string u, .int .i64 x, .slice A4 f.len f.len] 26)))
    have G4 := hid (gb_alloc (gb_trans G3.out hg) (.cells #[.int .i64 k, .int .i64 m, .string u, .int .i64 x, .slice A4 f.len f.len] 26))
    have T4 := hid (ho4.1.grow (gb_alloc (gb_refl _ none) (.cells #[.int .i64 k, .int .i64 m, .string u, .int .i64 x, .slice A4 f.len f.len] 26)))
    clear hg ho4 a0 a1 a2 a3 a4 la H3 R3 G3
    go_wp2_with fail
    obtain ⟨b0, b1, b2, b3, b4⟩ := X4.out.cells5
    have lb := X4.out.lt
    refine (implIsValue_any f _ k m u x A4 f.len L4 T4.out hfs hfz HO.out.1 (HL.out.grow G4.out)).mono ?_
    rintro e w5 ⟨bi, rfl, hbi, hg⟩
    obtain rfl : bi = bs := Bool.eq_iff_iff.2 (hbi.trans HBS.out.symm)
    clear hbi
    clear b0 b1 b2 b3 b4 lb
    have H5 := hid (H4.out.grow hg)
    have X5 := hid (X4.out.grow hg)
    have R5 := hid (R4.out.grow hg)
    have T5 := hid (T4.out.grow hg)
    have G5 := hid (gb_trans G4.out hg)
    clear hg H4 X4 R4 T4 G4
    have nb : (bi != bi) = false := by cases bi <;> rfl
    go_wp2_with fail
    refine wp_region_grown 5 rfl (by kernel_rfl) fun wd gd => ?_
    refine held_load 0 rfl (some 22) rfl (by kernel_rfl) (by kernel_rfl) (by kernel_rfl) (fun _ _ _ _ h => h) 26 (.tmp 5) rfl rfl w4.heap.size 0 rfl _ X5.out.rangeV X5.out.lt Tryd.underlying26 rfl Tryd.infoV gd ?_
    refine held_load 1 rfl (some 23) rfl (by kernel_rfl) (by kernel_rfl) (by kernel_rfl) (fun _ _ _ _ h => h) 40 (.tmp 1) rfl rfl w.heap.size 0 rfl _ H5.out.rangeV H5.out.lt Tryd.underlying40 rfl Tryd.infoVL gd ?_
    refine held_call1 2 rfl (some 24) rfl (by kernel_rfl) rfl 20 (by kernel_rfl) (.tmp 23) _ (.agg #[.int .i64 k, .int .i64 m, .string u, .int .i64 x, .slice A f.len c]) rfl rfl (toValue_treeV f k m u x A c L _ (R5.out.grow gd) HO.out.1 (by omega)) ?_
    rintro e w6 ⟨A6, _, L6, rfl, ⟨_, rfl⟩, ho6, hg6⟩
    refine ⟨_, rfl, gb_trans gd hg6, ?_⟩
    refine held_call2 3 rfl (some 25) rfl (by kernel_rfl) rfl 21 (by kernel_rfl) (.tmp 22) (.tmp 24) _ (.agg #[.int .i64 k, .int .i64 m, .string u, .int .i64 x, .slice A4 f.len f.len]) (.agg #[.int .i64 k, .int .i64 m, .string u, .int .i64 x, .slice A6 f.len f.len]) rfl rfl rfl (eqValue_any f (eqEntryS_any f) k m u x A4 A6 f.len f.len L4 L6 _ ((T5.out.grow gd).grow hg6) ho6.1 (by omega)) ?_
    rintro e w7 ⟨rfl, hg7⟩
    refine ⟨_, rfl, gb_trans (gb_trans gd hg6) hg7, ?_⟩
    refine held_not 4 rfl (some 26) rfl (by kernel_rfl) rfl 4 25 rfl true rfl (gb_trans (gb_trans gd hg6) hg7) ?_
    refine wpAnyH_done (by kernel_rfl) ?_ _
    simp only [Act.put, List.setIfInBounds_toArray, List.set_cons_succ, List.set_cons_zero]
    have G7 := hid (gb_trans G5.out (gb_trans (gb_trans gd hg6) hg7))
    go_wp2_with fail
    go_ret
    exact ⟨rfl, gb_below G7.out⟩
theorem isValueLaid {w : World} (h : laidMetH Tryd.prog Rows.fnExactIsValueRow.laid w) : LaidW w := by
  rw [MakeChecks.laidMetH_plain _ _ _ (by kernel_rfl)] at h
  exact allOf h
end Go.Proofs.YtmbochhmeojmfaaDoor
