/- The walks of TextKey, and of its law. -/
import Derived.Test.YtmbochhmeojmfaaDoorLSigned
import Derived.Test.YtmbochhmeojmfaaDoorKeys
namespace Go.Proofs.YtmbochhmeojmfaaDoor
set_option maxRecDepth 20000
open Go.RowKit
set_option linter.unusedVariables false

theorem HoldsT.setK {w : World} {g : Nat} {a b c : Value} {ty : TypeId} (h : HoldsT w g #[a, b, c] ty) (a' b' c' : Value) :
    HoldsT (((w.setCell ⟨g, 0, none⟩ a').setCell ⟨g, 1, none⟩ b').setCell ⟨g, 2, none⟩ c') g #[a', b', c'] ty := ((h.set 0 a').set 1 b').set 2 c'
theorem gb_setK {w w1 : World} {r : Option Nat} (h : w.grownBy w1 r) {g : Nat} (hg : w.heap.size ≤ g ∨ r = some g) (a b c : Value) : w.grownBy (((w1.setCell ⟨g, 0, none⟩ a).setCell ⟨g, 1, none⟩ b).setCell ⟨g, 2, none⟩ c) r :=
  gb_set (gb_set (gb_set h hg a) hg b) hg c
/-- A text's key: the number that it spells, or the text. -/
def keyT (s : ByteArray) (r : Int) (b : Bool) : Value := if b then .agg #[.bool false, .int .i64 r, .string ByteArray.empty] else .agg #[.bool true, .int .i64 0, .string s]
def KeyPost (s : ByteArray) (w : World) (e : Ending) (w' : World) : Prop :=
  ∃ r b, e = .returned (keyT s r b) ∧ Says s (-1000000000) 1000000000 r b ∧ w.grownBy w' none
theorem intKey_any (n : Int) (w : World) : Calls Tryd.prog 52 #[.int .i64 n] w fun e w' => e = .returned (.agg #[.bool false, .int .i64 n, .string ByteArray.empty]) ∧ w.grownBy w' none := by
  go_enter Tryd.func52, Tryd.ntmps52
  go_wp2_with fail
  refine bodyPost_ret (results_cell_row rfl _ _ _ _ _ (0, 0) _ rfl (HoldsT.new _ _ _) Tryd.underlying33 rfl Tryd.infoK) rfl ?_
  exact ⟨rfl, gb_alloc (gb_refl _ _) _⟩
theorem specTextKey (s : ByteArray) (w : World) (hs : s.size ≤ 1048576) :
    Calls Tryd.prog 51 #[.string s] w (KeyPost s w) := by
  go_enter Tryd.func51, Tryd.ntmps51
  go_wp2_with fail
  refine (specSigned s _ hs).mono ?_
  rintro e w1 ⟨n, ok, rfl, hS, hg⟩
  have HS := hid hS
  have HG := hid hg
  have H1 := hid ((HoldsT.new w #[.bool false, .int .i64 0, .string ByteArray.empty] 33).grow hg)
  obtain ⟨c0, c1, c2⟩ := H1.out.cells3
  have z0 := H1.out.frozen 0; have z1 := H1.out.frozen 1; have z2 := H1.out.frozen 2
  have lt := H1.out.lt
  clear hS hg
  cases ok
  · go_wp2_with fail
    refine bodyPost_ret (results_cell_row rfl _ _ _ _ _ (0, 0) _ rfl (H1.out.setK _ _ _) Tryd.underlying33 rfl Tryd.infoK) rfl ?_
    exact ⟨n, false, rfl, HS.out, gb_setK (gb_trans (gb_alloc (gb_refl _ _) _) HG.out) (.inl (Nat.le_refl _)) _ _ _⟩
  · go_wp2_with fail
    refine bodyPost_ret (results_cell_row rfl _ _ _ _ _ (0, 0) _ rfl (H1.out.setK _ _ _) Tryd.underlying33 rfl Tryd.infoK) rfl ?_
    exact ⟨n, true, rfl, HS.out, gb_setK (gb_trans (gb_alloc (gb_refl _ _) _) HG.out) (.inl (Nat.le_refl _)) _ _ _⟩
theorem implTextKey (s : ByteArray) (w : World) (hs : s.size ≤ 1048576) (hL : LaidW w) :
    Calls Tryd.prog 53 #[.string s] w (KeyPost s w) := by
  have HL := hid hL
  clear hL
  go_enter Tryd.func53, Tryd.ntmps53
  go_wp2_with fail
  refine (implSigned s _ hs (HL.out.grow (gb_alloc (gb_refl _ _) _))).mono ?_
  rintro e w1 ⟨n, ok, rfl, hS, hg⟩
  have HS := hid hS
  have HG := hid hg
  have H1 := hid ((HoldsT.new w #[.bool false, .int .i64 0, .string ByteArray.empty] 33).grow hg)
  clear hS hg
  cases ok
  · obtain ⟨c0, c1, c2⟩ := H1.out.cells3
    have z0 := H1.out.frozen 0; have z1 := H1.out.frozen 1; have z2 := H1.out.frozen 2
    have lt := H1.out.lt
    go_wp2_with fail
    refine bodyPost_ret (results_cell_row rfl _ _ _ _ _ (0, 0) _ rfl (H1.out.setK _ _ _) Tryd.underlying33 rfl Tryd.infoK) rfl ?_
    exact ⟨n, false, rfl, HS.out, gb_setK (gb_trans (gb_alloc (gb_refl _ _) _) HG.out) (.inl (Nat.le_refl _)) _ _ _⟩
  · go_wp2_with fail
    refine (intKey_any _ _).mono ?_
    rintro e w2 ⟨rfl, hg2⟩
    have HG2 := hid hg2
    have H2 := hid (H1.out.grow hg2)
    clear hg2
    obtain ⟨c0, c1, c2⟩ := H2.out.cells3
    have z0 := H2.out.frozen 0; have z1 := H2.out.frozen 1; have z2 := H2.out.frozen 2
    have lt := H2.out.lt
    go_wp2_with fail
    refine bodyPost_ret (results_cell_row rfl _ _ _ _ _ (0, 0) _ rfl (H2.out.setK _ _ _) Tryd.underlying33 rfl Tryd.infoK) rfl ?_
    exact ⟨n, true, rfl, HS.out, gb_setK (gb_trans (gb_trans (gb_alloc (gb_refl _ _) _) HG.out) HG2.out) (.inl (Nat.le_refl _)) _ _ _⟩
end Go.Proofs.YtmbochhmeojmfaaDoor
