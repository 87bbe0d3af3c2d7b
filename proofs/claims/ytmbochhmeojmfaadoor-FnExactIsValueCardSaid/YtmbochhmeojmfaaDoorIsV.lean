/- The walks of both IsValue (printed by genisv.py). -/
import Derived.Test.YtmbochhmeojmfaaDoorValS
import Derived.Test.YtmbochhmeojmfaaDoorValI
import Derived.Test.YtmbochhmeojmfaaDoorWeigh
namespace Go.Proofs.YtmbochhmeojmfaaDoor
set_option maxRecDepth 20000
open Go.RowKit
set_option linter.unusedVariables false

def isVal (k m : Int) (u : ByteArray) (x : Int) (f : Forest) : Prop := valWt k f ≤ 200 ∧ valV k m u x f
def IVPost (k m : Int) (u : ByteArray) (x : Int) (f : Forest) (w : World) (e : Ending) (w' : World) : Prop := ∃ b, e = .returned (.bool b) ∧ (b = true ↔ isVal k m u x f) ∧ w.grownBy w' none
set_option maxHeartbeats 2000000 in
theorem specIsValue_any (f : Forest) (w : World) (k m : Int) (u : ByteArray) (x : Int) (A : Option Addr) (c : Nat) (L : List Nat) (hr : RowF w f A 0 f.len L) (hfs : f.size ≤ 1048576) (hfz : f.sz ≤ 1048576) (hok : f.ok) (hL : LaidW w) :
    Calls Tryd.prog 19 #[.agg #[.int .i64 k, .int .i64 m, .string u, .int .i64 x, .slice A f.len c]] w (IVPost k m u x f w) := by
  have HR := hid hr
  have HOK := hid hok
  have HL := hid hL
  have H0 := hid (HoldsT.new w #[.int .i64 k, .int .i64 m, .string u, .int .i64 x, .slice A f.len c] 26)
  have G0 := hid (gb_alloc (gb_refl w none) (.cells #[.int .i64 k, .int .i64 m, .string u, .int .i64 x, .slice A f.len c] 26))
  clear hr hok hL
  go_enter Tryd.func19, Tryd.ntmps19
  go_wp2_with fail
  refine (weigh_any f _ k m u x A c L 200 (HR.out.grow G0.out) hfs (by omega)).mono ?_
  rintro e w1 ⟨r, rfl, e1, e2, e3, hg⟩
  have HW : Hid ((200 < valWt k f ∧ 200 < r) ∨ (valWt k f ≤ 200 ∧ r ≤ 200)) := hid (by omega)
  clear e1 e2 e3
  have H1 := hid (H0.out.grow hg)
  have G1 := hid (gb_trans G0.out hg)
  obtain ⟨a0, a1, a2, a3, a4⟩ := H1.out.cells5
  have la := H1.out.lt
  clear hg
  rcases Nat.lt_or_ge 200 r with hq | hq
  · go_wp2_with fail
    go_ret
    exact ⟨false, rfl, ⟨fun h => (by cases h), fun h => absurd h.1 (by have := HW.out; omega)⟩, G1.out⟩
  · go_wp2_with fail
    refine (specValid_any f _ k m u x A c L (HR.out.grow G1.out) hfs hfz HOK.out (HL.out.grow G1.out)).mono ?_
    rintro e w2 ⟨b, rfl, hV, hg⟩
    have HV := hid hV
    have G2 := hid (gb_trans G1.out hg)
    clear hV hg
    go_wp2_with fail
    go_ret
    exact ⟨b, rfl, ⟨fun h => ⟨by have := HW.out; omega, HV.out.1 h⟩, fun h => HV.out.2 h.2⟩, G2.out⟩
set_option maxHeartbeats 2000000 in
theorem implIsValue_any (f : Forest) (w : World) (k m : Int) (u : ByteArray) (x : Int) (A : Option Addr) (c : Nat) (L : List Nat) (hr : RowF w f A 0 f.len L) (hfs : f.size ≤ 1048576) (hfz : f.sz ≤ 1048576) (hok : f.ok) (hL : LaidW w) :
    Calls Tryd.prog 9 #[.agg #[.int .i64 k, .int .i64 m, .string u, .int .i64 x, .slice A f.len c]] w (IVPost k m u x f w) := by
  have HR := hid hr
  have HOK := hid hok
  have HL := hid hL
  have H0 := hid (HoldsT.new w #[.int .i64 k, .int .i64 m, .string u, .int .i64 x, .slice A f.len c] 26)
  have G0 := hid (gb_alloc (gb_refl w none) (.cells #[.int .i64 k, .int .i64 m, .string u, .int .i64 x, .slice A f.len c] 26))
  clear hr hok hL
  go_enter Tryd.func9, Tryd.ntmps9
  go_wp2_with fail
  refine (implWeight_any f _ k m u x A c L (HR.out.grow G0.out) hfs).mono ?_
  rintro e w1 ⟨rfl, hg⟩
  obtain ⟨r, hr0⟩ : ∃ r, valWt k f = r := ⟨_, rfl⟩
  rw [hr0]
  have HW := hid hr0
  clear hr0
  have H1 := hid (H0.out.grow hg)
  have G1 := hid (gb_trans G0.out hg)
  obtain ⟨a0, a1, a2, a3, a4⟩ := H1.out.cells5
  have la := H1.out.lt
  clear hg
  rcases Nat.lt_or_ge 200 r with hq | hq
  · go_wp2_with fail
    go_ret
    exact ⟨false, rfl, ⟨fun h => (by cases h), fun h => absurd h.1 (by have := HW.out; omega)⟩, G1.out⟩
  · go_wp2_with fail
    refine (implValid_any f _ k m u x A c L (HR.out.grow G1.out) hfs hfz HOK.out (HL.out.grow G1.out)).mono ?_
    rintro e w2 ⟨b, rfl, hV, hg⟩
    have HV := hid hV
    have G2 := hid (gb_trans G1.out hg)
    clear hV hg
    go_wp2_with fail
    go_ret
    exact ⟨b, rfl, ⟨fun h => ⟨by have := HW.out; omega, HV.out.1 h⟩, fun h => HV.out.2 h.2⟩, G2.out⟩
end Go.Proofs.YtmbochhmeojmfaaDoor
