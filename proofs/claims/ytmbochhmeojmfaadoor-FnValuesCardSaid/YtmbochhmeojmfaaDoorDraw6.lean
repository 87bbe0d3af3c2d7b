/- The draw of a scalar value (printed by gendraw6.py). -/
import Derived.Test.YtmbochhmeojmfaaDoorDraw5
namespace Go.Proofs.YtmbochhmeojmfaaDoor
set_option maxRecDepth 20000
open Go.RowKit
set_option linter.unusedVariables false

theorem specIntValue_any (n : Int) (w : World) : Calls Tryd.prog 75 #[.int .i64 n] w fun e w' => e = .returned (.agg #[.int .i64 2, .int .i64 n, .string { data := #[] }, .int .i64 0, .slice none 0 0]) ∧ w.grownBy w' none := by
  go_enter Tryd.func75, Tryd.ntmps75
  go_wp2_with fail
  refine bodyPost_ret (results_cell_row rfl _ _ _ _ _ (0, 0) _ rfl (HoldsT.new _ _ _) Tryd.underlying26 rfl Tryd.infoV) rfl ?_
  exact ⟨rfl, gb_alloc (gb_refl _ _) _⟩
theorem specTextValue_any (s : ByteArray) (w : World) : Calls Tryd.prog 73 #[.string s] w fun e w' => e = .returned (.agg #[.int .i64 3, .int .i64 0, .string s, .int .i64 0, .slice none 0 0]) ∧ w.grownBy w' none := by
  go_enter Tryd.func73, Tryd.ntmps73
  go_wp2_with fail
  refine bodyPost_ret (results_cell_row rfl _ _ _ _ _ (0, 0) _ rfl (HoldsT.new _ _ _) Tryd.underlying26 rfl Tryd.infoV) rfl ?_
  exact ⟨rfl, gb_alloc (gb_refl _ _) _⟩
theorem specArrayValue_any (w : World) : Calls Tryd.prog 70 #[] w fun e w' => e = .returned (.agg #[.int .i64 4, .int .i64 0, .string { data := #[] }, .int .i64 0, .slice none 0 0]) ∧ w.grownBy w' none := by
  go_enter Tryd.func70, Tryd.ntmps70
  go_wp2_with fail
  refine bodyPost_ret (results_cell_row rfl _ _ _ _ _ (0, 0) _ rfl (HoldsT.new _ _ _) Tryd.underlying26 rfl Tryd.infoV) rfl ?_
  exact ⟨rfl, gb_alloc (gb_refl _ _) _⟩
theorem specBoolValue_t (w : World) : Calls Tryd.prog 72 #[.bool true] w fun e w' => e = .returned (.agg #[.int .i64 1, .int .i64 1, .string { data := #[] }, .int .i64 0, .slice none 0 0]) ∧ w.grownBy w' none := by
  go_enter Tryd.func72, Tryd.ntmps72
  go_wp2_with fail
  refine bodyPost_ret (results_cell_row rfl _ _ _ _ _ (0, 0) _ rfl (HoldsT.new _ _ _) Tryd.underlying26 rfl Tryd.infoV) rfl ?_
  exact ⟨rfl, gb_alloc (gb_refl _ _) _⟩
theorem specBoolValue_f (w : World) : Calls Tryd.prog 72 #[.bool false] w fun e w' => e = .returned (.agg #[.int .i64 1, .int .i64 0, .string { data := #[] }, .int .i64 0, .slice none 0 0]) ∧ w.grownBy w' none := by
  go_enter Tryd.func72, Tryd.ntmps72
  go_wp2_with fail
  refine bodyPost_ret (results_cell_row rfl _ _ _ _ _ (0, 0) _ rfl (HoldsT.new _ _ _) Tryd.underlying26 rfl Tryd.infoV) rfl ?_
  exact ⟨rfl, gb_alloc (gb_refl _ _) _⟩
theorem specBoolValue_any (b : Bool) (w : World) : Calls Tryd.prog 72 #[.bool b] w fun e w' => ∃ m, I64 m ∧ e = .returned (.agg #[.int .i64 1, .int .i64 m, .string { data := #[] }, .int .i64 0, .slice none 0 0]) ∧ w.grownBy w' none := by
  cases b
  · exact (specBoolValue_f w).mono fun e w' h => ⟨0, by unfold I64; omega, h⟩
  · exact (specBoolValue_t w).mono fun e w' h => ⟨1, by unfold I64; omega, h⟩
def DrawnS (g : Nat) (w : World) (e : Ending) (w' : World) : Prop := ∃ (k m : Int) (u : ByteArray) (x : Int), e = .returned (.agg #[.int .i64 k, .int .i64 m, .string u, .int .i64 x, .slice none 0 0]) ∧ (I64 k ∧ I64 m ∧ I64 x ∧ u.size ≤ 21) ∧ CurOk w' g ∧ w.grownBy w' (some g)
set_option maxHeartbeats 2000000 in
theorem l5Scalar_any (g : Nat) (w : World) (hcur : CurOk w g) : Calls Tryd.prog 58 #[.pointer (some ⟨g, 0, none⟩)] w (DrawnS g w) := by
  have hl := hcur.lt
  have HC := hid (hcur.alloc (.cells #[.int .i64 0, .int .i64 0, .string { data := #[] }, .int .i64 0, .slice none 0 0] 26))
  have HZ := hid (HoldsT.new w #[.int .i64 0, .int .i64 0, .string { data := #[] }, .int .i64 0, .slice none 0 0] 26)
  clear hcur
  go_enter Tryd.func58, Tryd.ntmps58
  go_wp2_with fail
  refine (l1Below_any _ _ _ HC.out).mono ?_
  rintro e w1 ⟨x, ⟨hx0, hx1⟩, rfl, hc1, hg1⟩
  have hne : (some g : Option Nat) ≠ some w.heap.size := by intro e; injection e; omega
  have HZ1 := hid (HZ.out.kept hg1 hne)
  have G1 := hid (gb_trans (gb_alloc (gb_refl w (some g)) _) hg1)
  have HC1 := hid hc1
  have hl1 : g < w1.heap.size := hc1.lt
  clear hc1 hg1
  by_cases h0 : x = 0
  · subst h0
    clear hx0 hx1
    obtain ⟨r0, r1, r2, r3, r4⟩ := HZ1.out.cells5
    have y0 := HZ1.out.frozen 0; have y1 := HZ1.out.frozen 1; have y2 := HZ1.out.frozen 2; have y3 := HZ1.out.frozen 3; have y4 := HZ1.out.frozen 4
    have lz := HZ1.out.lt
    go_wp2_with fail
    refine bodyPost_ret (results_cell_row rfl _ _ _ _ _ (0, 0) _ rfl (HZ1.out.set5 _ _ _ _ _) Tryd.underlying26 rfl Tryd.infoV) rfl ?_
    exact ⟨0, 0, { data := #[] }, 0, rfl, ⟨by unfold I64; omega, by unfold I64; omega, by unfold I64; omega, by decide⟩, HC1.out.kept (gb_set5 (gb_refl w1 (some w.heap.size)) (g := w.heap.size) (.inr rfl) _ _ _ _ _) (fun q hq => by have h : w.heap.size = q := Option.some.inj hq; omega), gb_set5 G1.out (.inl (Nat.le_refl _)) _ _ _ _ _⟩
  by_cases h1 : x = 1
  · subst h1
    clear hx0 hx1 h0
    go_wp2_with fail
    refine (once_any g 2 _ HC1.out).mono ?_
    rintro e w2 ⟨b, rfl, hc2, hg2⟩
    have HC2 := hid hc2
    have HZ2 := hid (HZ1.out.kept hg2 hne)
    have G2 := hid (gb_trans G1.out hg2)
    clear hc2 hg2
    go_wp2_with fail
    refine (specBoolValue_any b _).mono ?_
    rintro e w3 ⟨m, hm, rfl, hg3⟩
    have HM := hid hm
    have HC3 := hid (HC2.out.kept hg3 (by simp))
    have HZ3 := hid (HZ2.out.grow hg3)
    have G3 := hid (gb_trans G2.out (gb_any hg3))
    clear hm hg3
    obtain ⟨r0, r1, r2, r3, r4⟩ := HZ3.out.cells5
    have y0 := HZ3.out.frozen 0; have y1 := HZ3.out.frozen 1; have y2 := HZ3.out.frozen 2; have y3 := HZ3.out.frozen 3; have y4 := HZ3.out.frozen 4
    have lz := HZ3.out.lt
    go_wp2_with fail
    refine bodyPost_ret (results_cell_row rfl _ _ _ _ _ (0, 0) _ rfl (HZ3.out.set5 _ _ _ _ _) Tryd.underlying26 rfl Tryd.infoV) rfl ?_
    exact ⟨1, m, { data := #[] }, 0, rfl, ⟨by unfold I64; omega, HM.out, by unfold I64; omega, by decide⟩, HC3.out.kept (gb_set5 (gb_refl w3 (some w.heap.size)) (g := w.heap.size) (.inr rfl) _ _ _ _ _) (fun q hq => by have h : w.heap.size = q := Option.some.inj hq; omega), gb_set5 G3.out (.inl (Nat.le_refl _)) _ _ _ _ _⟩
  by_cases h2 : x = 2
  · subst h2
    clear hx0 hx1 h0 h1
    go_wp2_with fail
    refine (l5Word_any g _ HC1.out).mono ?_
    rintro e w2 ⟨s, hs, rfl, hc2, hg2⟩
    have HS := hid hs
    have HC2 := hid hc2
    have HZ2 := hid (HZ1.out.kept hg2 hne)
    have G2 := hid (gb_trans G1.out hg2)
    clear hc2 hg2 hs
    go_wp2_with fail
    refine (specTextValue_any s _).mono ?_
    rintro e w3 ⟨rfl, hg3⟩
    have HC3 := hid (HC2.out.kept hg3 (by simp))
    have HZ3 := hid (HZ2.out.grow hg3)
    have G3 := hid (gb_trans G2.out (gb_any hg3))
    clear hg3
    obtain ⟨r0, r1, r2, r3, r4⟩ := HZ3.out.cells5
    have y0 := HZ3.out.frozen 0; have y1 := HZ3.out.frozen 1; have y2 := HZ3.out.frozen 2; have y3 := HZ3.out.frozen 3; have y4 := HZ3.out.frozen 4
    have lz := HZ3.out.lt
    go_wp2_with fail
    refine bodyPost_ret (results_cell_row rfl _ _ _ _ _ (0, 0) _ rfl (HZ3.out.set5 _ _ _ _ _) Tryd.underlying26 rfl Tryd.infoV) rfl ?_
    exact ⟨3, 0, s, 0, rfl, ⟨by unfold I64; omega, by unfold I64; omega, by unfold I64; omega, HS.out⟩, HC3.out.kept (gb_set5 (gb_refl w3 (some w.heap.size)) (g := w.heap.size) (.inr rfl) _ _ _ _ _) (fun q hq => by have h : w.heap.size = q := Option.some.inj hq; omega), gb_set5 G3.out (.inl (Nat.le_refl _)) _ _ _ _ _⟩
  by_cases h3 : x = 3
  · subst h3
    clear hx0 hx1 h0 h1 h2
    go_wp2_with fail
    refine (l5Word_any g _ HC1.out).mono ?_
    rintro e w2 ⟨s, hs, rfl, hc2, hg2⟩
    have HS := hid hs
    have HC2 := hid hc2
    have HZ2 := hid (HZ1.out.kept hg2 hne)
    have G2 := hid (gb_trans G1.out hg2)
    clear hc2 hg2 hs
    go_wp2_with fail
    refine (specTextValue_any s _).mono ?_
    rintro e w3 ⟨rfl, hg3⟩
    have HC3 := hid (HC2.out.kept hg3 (by simp))
    have HZ3 := hid (HZ2.out.grow hg3)
    have G3 := hid (gb_trans G2.out (gb_any hg3))
    clear hg3
    obtain ⟨r0, r1, r2, r3, r4⟩ := HZ3.out.cells5
    have y0 := HZ3.out.frozen 0; have y1 := HZ3.out.frozen 1; have y2 := HZ3.out.frozen 2; have y3 := HZ3.out.frozen 3; have y4 := HZ3.out.frozen 4
    have lz := HZ3.out.lt
    go_wp2_with fail
    refine bodyPost_ret (results_cell_row rfl _ _ _ _ _ (0, 0) _ rfl (HZ3.out.set5 _ _ _ _ _) Tryd.underlying26 rfl Tryd.infoV) rfl ?_
    exact ⟨3, 0, s, 0, rfl, ⟨by unfold I64; omega, by unfold I64; omega, by unfold I64; omega, HS.out⟩, HC3.out.kept (gb_set5 (gb_refl w3 (some w.heap.size)) (g := w.heap.size) (.inr rfl) _ _ _ _ _) (fun q hq => by have h : w.heap.size = q := Option.some.inj hq; omega), gb_set5 G3.out (.inl (Nat.le_refl _)) _ _ _ _ _⟩
  by_cases h4 : x = 4
  · subst h4
    clear hx0 hx1 h0 h1 h2 h3
    have HC9 : Hid (CurOk (w1.alloc (.cells #[.int .i64 0, .int .i64 1, .int .i64 (-1), .int .i64 5, .int .i64 10, .int .i64 999999999, .int .i64 1000000000, .int .i64 (-1000000000)] 3)) g) := HC1.out.alloc _
    have HZQ := hid (HZ1.out.alloc (.cells #[.int .i64 0, .int .i64 1, .int .i64 (-1), .int .i64 5, .int .i64 10, .int .i64 999999999, .int .i64 1000000000, .int .i64 (-1000000000)] 3))
    have GQ := hid (gb_alloc G1.out (.cells #[.int .i64 0, .int .i64 1, .int .i64 (-1), .int .i64 5, .int .i64 10, .int .i64 999999999, .int .i64 1000000000, .int .i64 (-1000000000)] 3))
    go_wp2_with fail
    refine (l1Int_any g _ 8 8 [0, 1, -1, 5, 10, 999999999, 1000000000, -1000000000] _ HC9.out (Rd.lit w1 _ _) rfl (by omega) (by omega) (apart_new hl1)).mono ?_
    rintro e w2 ⟨y, hy, rfl, hc2, hg2⟩
    have HY : Hid (I64 y) := hid (by simp only [List.mem_cons, List.not_mem_nil, or_false] at hy; unfold I64; omega)
    clear hy
    have HC2 := hid hc2
    have HZ2 := hid (HZQ.out.kept hg2 hne)
    have G2 := hid (gb_trans GQ.out hg2)
    clear hc2 hg2
    go_wp2_with fail
    refine (specIntValue_any _ _).mono ?_
    rintro e w3 ⟨rfl, hg3⟩
    have HC3 := hid (HC2.out.kept hg3 (by simp))
    have HZ3 := hid (HZ2.out.grow hg3)
    have G3 := hid (gb_trans G2.out (gb_any hg3))
    clear hg3
    obtain ⟨r0, r1, r2, r3, r4⟩ := HZ3.out.cells5
    have y0 := HZ3.out.frozen 0; have y1 := HZ3.out.frozen 1; have y2 := HZ3.out.frozen 2; have y3 := HZ3.out.frozen 3; have y4 := HZ3.out.frozen 4
    have lz := HZ3.out.lt
    go_wp2_with fail
    refine bodyPost_ret (results_cell_row rfl _ _ _ _ _ (0, 0) _ rfl (HZ3.out.set5 _ _ _ _ _) Tryd.underlying26 rfl Tryd.infoV) rfl ?_
    exact ⟨2, y, { data := #[] }, 0, rfl, ⟨by unfold I64; omega, HY.out, by unfold I64; omega, by decide⟩, HC3.out.kept (gb_set5 (gb_refl w3 (some w.heap.size)) (g := w.heap.size) (.inr rfl) _ _ _ _ _) (fun q hq => by have h : w.heap.size = q := Option.some.inj hq; omega), gb_set5 G3.out (.inl (Nat.le_refl _)) _ _ _ _ _⟩
  · have e0 : (x == 0) = false := by simpa using h0
    have e1 : (x == 1) = false := by simpa using h1
    have e2 : (x == 2) = false := by simpa using h2
    have e3 : (x == 3) = false := by simpa using h3
    have e4 : (x == 4) = false := by simpa using h4
    have HZQ := HZ1
    have GQ := G1
    clear h0 h1 h2 h3 h4 hx0 hx1
    go_wp2_with fail
    refine (l1Below_any _ _ _ HC1.out).mono ?_
    rintro e w2 ⟨y, ⟨hy0, hy1⟩, rfl, hc2, hg2⟩
    have HY : Hid (I64 (y - 5)) := hid (by unfold I64; omega)
    have HC2 := hid hc2
    have HZ2 := hid (HZQ.out.kept hg2 hne)
    have G2 := hid (gb_trans GQ.out hg2)
    clear hc2 hg2
    go_wp2_with fail
    refine (specIntValue_any _ _).mono ?_
    rintro e w3 ⟨rfl, hg3⟩
    have HC3 := hid (HC2.out.kept hg3 (by simp))
    have HZ3 := hid (HZ2.out.grow hg3)
    have G3 := hid (gb_trans G2.out (gb_any hg3))
    clear hg3
    obtain ⟨r0, r1, r2, r3, r4⟩ := HZ3.out.cells5
    have y0 := HZ3.out.frozen 0; have y1 := HZ3.out.frozen 1; have y2 := HZ3.out.frozen 2; have y3 := HZ3.out.frozen 3; have y4 := HZ3.out.frozen 4
    have lz := HZ3.out.lt
    go_wp2_with fail
    refine bodyPost_ret (results_cell_row rfl _ _ _ _ _ (0, 0) _ rfl (HZ3.out.set5 _ _ _ _ _) Tryd.underlying26 rfl Tryd.infoV) rfl ?_
    exact ⟨2, _, { data := #[] }, 0, rfl, ⟨by unfold I64; omega, HY.out, by unfold I64; omega, by decide⟩, HC3.out.kept (gb_set5 (gb_refl w3 (some w.heap.size)) (g := w.heap.size) (.inr rfl) _ _ _ _ _) (fun q hq => by have h : w.heap.size = q := Option.some.inj hq; omega), gb_set5 G3.out (.inl (Nat.le_refl _)) _ _ _ _ _⟩
end Go.Proofs.YtmbochhmeojmfaaDoor
