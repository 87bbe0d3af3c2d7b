/- A key that came in, opened (of a seat that has no values). -/
import Derived.Test.YthamioapmfmljaaDoorIsKey
import Derived.OpenShut
import Derived.Lib.SmallJoins
namespace Go.Proofs.YthamioapmfmljaaDoor
open Go.ChangeShapes Go.WideShapes Go.RowKit
set_option linter.unusedVariables false

theorem Tryd.cI : Tryd.prog.cellsOf 3 = 1 := by kernel_rfl
theorem Tryd.cB : Tryd.prog.cellsOf 4 = 1 := by kernel_rfl
theorem Tryd.cS : Tryd.prog.cellsOf 9 = 1 := by kernel_rfl
theorem Tryd.cKL : Tryd.prog.cellsOf 31 = 3 := by kernel_rfl
theorem list3 {α : Type} {l : List α} (h : l.length = 3) : ∃ a b c, l = [a, b, c] := by
  match l, h with
  | [a, b, c], _ => exact ⟨a, b, c, rfl⟩
section
variable {H : Type} {enc : TypeId × Value → H} {w : World} {spare : Nat → Bool} {held : Bool}
theorem open_keyCells {fuel : Nat} {cs : List Value} {y : DataW H × List MemPlace} (h : DataW.trod enc Tryd.prog w 0 spare held fuel 31 cs = some y) :
    ∃ (t : Bool) (m : Int) (s : ByteArray), cs = [.bool t, .int .i64 m, .string s] ∧ s.size ≤ maxLen ∧ (Lit.int .i64 m).wf = true := by
  obtain ⟨xs, n, _, _, hl, hlen, hf⟩ := DataW.trod_struct Tryd.underlying31 h
  rw [Tryd.cKL] at hl
  obtain ⟨a, b, c, rfl⟩ := list3 hl
  obtain ⟨x0, x1, x2, rfl⟩ := list3 hlen
  have h0 := hf 0 _ rfl
  have h1 := hf 1 _ rfl
  have h2 := hf 2 _ rfl
  simp [Tryd.cI, Tryd.cB, Tryd.cS] at h0 h1 h2
  obtain ⟨t, e0, _⟩ := DataW.trod_bool Tryd.underlying4 h0
  obtain ⟨m, e1, _, w1⟩ := DataW.trod_int Tryd.underlying3 h1
  obtain ⟨s, e2, _, w2⟩ := DataW.trod_string Tryd.underlying9 h2
  simp at e0 e1 e2
  subst e0 e1 e2
  exact ⟨t, m, s, rfl, w2, w1⟩
theorem open_keyV {r : Reach} {b0 : Nat} {v : Value} {d : DataW H} {p : List MemPlace} (hv : Value.okWide Tryd.prog w r b0 31 v) (h : DataW.Trod enc Tryd.prog w 0 spare held 31 v d p) :
    ∃ (t : Bool) (m : Int) (s : ByteArray), v = .agg #[.bool t, .int .i64 m, .string s] ∧ s.size ≤ maxLen ∧ (Lit.int .i64 m).wf = true := by
  obtain ⟨cs, rfl, _⟩ := okWide_struct Tryd.underlying31 hv
  obtain ⟨fuel, hf⟩ := h
  obtain ⟨t, m, s, e, rest⟩ := open_keyCells hf
  refine ⟨t, m, s, ?_, rest⟩
  congr 1
  apply Array.toList_inj.1
  simpa [Value.cells] using e
end
theorem lawIsKey (t : Bool) (n : Int) (s : ByteArray) (w : World) (w0 : s.size ≤ maxLen) (_w1 : (Lit.int .i64 n).wf = true) (hL : LaidW w) :
    Calls Tryd.prog 7 #[.agg #[.bool t, .int .i64 n, .string s]] w fun e w' => e = .returned (.bool true) ∧ Below w.heap.size w w' := by
  have HL := hid hL
  clear hL
  by_cases h : s.size ≤ 1048576
  · have H0 := hid (HoldsT.new w #[.bool t, .int .i64 n, .string s] 31)
    go_enter Tryd.func7, Tryd.ntmps7
    go_wp2_with fail
    refine (szKey_any _ _ _ 1048576 _ w0 (Nat.le_refl _)).mono ?_
    rintro e w1 ⟨rfl, hg1⟩
    have H1 := hid (H0.out.grow hg1)
    have HG1 := hid hg1
    clear hg1
    obtain ⟨c0, c1, c2⟩ := H1.out.cells3
    have lt := H1.out.lt
    rw [if_pos h]
    have hge : (0 : Int) ≤ ((1048576 - s.size : Nat) : Int) := by omega
    generalize ((1048576 - s.size : Nat) : Int) = q at hge
    go_wp2_with fail
    refine (toKey_any _ _ _ _).mono ?_
    rintro e w2 ⟨rfl, hg2⟩
    have HG2 := hid hg2
    clear hg2
    go_wp2_with fail
    refine (specIsKey _ _ _ _ h).mono ?_
    rintro e w3 ⟨x, rfl, hx, hg3⟩
    have HG3 := hid hg3
    have HX := hid hx
    clear c0 c1 c2 lt hg3 hx
    have H3 := hid ((H1.out.grow HG2.out).grow HG3.out)
    obtain ⟨c0, c1, c2⟩ := H3.out.cells3
    have lt := H3.out.lt
    go_wp2_with fail
    refine (toKey_any _ _ _ _).mono ?_
    rintro e w4 ⟨rfl, hg4⟩
    have HG4 := hid hg4
    clear hg4
    have HZ := hid (gb_trans (gb_trans (gb_trans (gb_trans (gb_alloc (gb_refl w none) (.cells #[.bool t, .int .i64 n, .string s] 31)) HG1.out) HG2.out) HG3.out) HG4.out)
    go_wp2_with fail
    refine (implIsKey _ _ _ _ h (HL.out.grow HZ.out)).mono ?_
    rintro e w5 ⟨y, rfl, hy, hg5⟩
    have HG5 := hid hg5
    obtain rfl := HX.out.unique hy
    clear hy hg5 HX
    go_wp2_with fail
    go_ret
    exact ⟨rfl, gb_below (gb_trans HZ.out HG5.out)⟩
  · go_enter Tryd.func7, Tryd.ntmps7
    go_wp2_with fail
    refine (szKey_any _ _ _ 1048576 _ w0 (Nat.le_refl _)).mono ?_
    rintro e w1 ⟨rfl, hg1⟩
    rw [if_neg h]
    go_wp2_with fail
    go_ret
    exact ⟨rfl, gb_below (gb_trans (gb_alloc (gb_refl _ _) _) hg1)⟩
theorem isKeyLaid {w : World} (h : laidMetH Tryd.prog Rows.fnExactIsKeyRow.laid w) : LaidW w := by
  rw [MakeChecks.laidMetH_plain _ _ _ (by kernel_rfl)] at h
  exact allOf h
end Go.Proofs.YthamioapmfmljaaDoor
