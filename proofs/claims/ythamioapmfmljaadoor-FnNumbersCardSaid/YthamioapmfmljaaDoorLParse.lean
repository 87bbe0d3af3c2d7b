/- The walks of the laws of ParseInt and ParseSigned. -/
import Derived.Test.YthamioapmfmljaaDoorParseI
import Derived.Test.YthamioapmfmljaaDoorLaidP
namespace Go.Proofs.YthamioapmfmljaaDoor
open Go.RowKit
set_option linter.unusedVariables false

theorem implParse (s : ByteArray) (w : World) (hs : s.size ≤ 1048576) (hL : LaidW w) :
    Calls Tryd.prog 12 #[.string s] w (ParsePost s 0 1000000000000 w) := by
  have HL := hid hL
  clear hL
  go_enter Tryd.func12, Tryd.ntmps12
  go_wp2_with fail
  refine (within s 0 1000000000000 _ (by omega) (by omega) hs HL.out).mono ?_
  rintro e w1 ⟨r, b, rfl, hS, hg⟩
  have HS := hid hS
  have HG := hid hg
  clear hS hg
  go_wp2_with fail
  go_ret2
  exact ⟨r, b, rfl, HS.out, HG.out⟩
theorem implSigned (s : ByteArray) (w : World) (hs : s.size ≤ 1048576) (hL : LaidW w) :
    Calls Tryd.prog 14 #[.string s] w (ParsePost s (-1000000000) 1000000000 w) := by
  have HL := hid hL
  clear hL
  go_enter Tryd.func14, Tryd.ntmps14
  go_wp2_with fail
  refine (within s (-1000000000) 1000000000 _ (by omega) (by omega) hs HL.out).mono ?_
  rintro e w1 ⟨r, b, rfl, hS, hg⟩
  have HS := hid hS
  have HG := hid hg
  clear hS hg
  go_wp2_with fail
  go_ret2
  exact ⟨r, b, rfl, HS.out, HG.out⟩
theorem lawParse (s : ByteArray) (w : World) (hs0 : s.size ≤ maxLen) (hL : LaidW w) :
    Calls Tryd.prog 4 #[.string s] w fun e w' => e = .returned (.bool true) ∧ Below w.heap.size w w' := by
  have HL := hid hL
  clear hL
  rcases Nat.lt_or_ge 1048576 s.size with hb | hb
  · go_enter Tryd.func4, Tryd.ntmps4
    go_wp2_with fail
    go_ret
    exact ⟨rfl, gb_below (gb_refl _ _)⟩
  go_enter Tryd.func4, Tryd.ntmps4
  go_wp2_with fail
  refine (specParse s _ hb).mono ?_
  rintro e w1 ⟨r, b, rfl, hS, hg⟩
  have HS := hid hS
  have HG := hid hg
  clear hS hg
  go_wp2_with fail
  refine (implParse s _ hb (HL.out.grow HG.out)).mono ?_
  rintro e w2 ⟨r', b', rfl, hS, hg⟩
  have HG2 := hid hg
  obtain ⟨rfl, rfl⟩ := Says.unique (by omega) (by omega) HS.out hS
  clear hg hS HS
  go_wp2_with fail
  go_ret
  exact ⟨rfl, gb_below (gb_trans HG.out HG2.out)⟩
end Go.Proofs.YthamioapmfmljaaDoor
