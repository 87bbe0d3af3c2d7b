/- The walks of the laws of ParseInt and ParseSigned. -/
import Derived.Test.YtmbochhmeojmfaaDoorParseI
import Derived.Test.YtmbochhmeojmfaaDoorLaidP
namespace Go.Proofs.YtmbochhmeojmfaaDoor
set_option maxRecDepth 20000
open Go.RowKit
set_option linter.unusedVariables false

theorem implSigned (s : ByteArray) (w : World) (hs : s.size ≤ 1048576) (hL : LaidW w) :
    Calls Tryd.prog 67 #[.string s] w (ParsePost s (-1000000000) 1000000000 w) := by
  have HL := hid hL
  clear hL
  go_enter Tryd.func67, Tryd.ntmps67
  go_wp2_with fail
  refine (within s (-1000000000) 1000000000 _ (by omega) (by omega) hs HL.out).mono ?_
  rintro e w1 ⟨r, b, rfl, hS, hg⟩
  have HS := hid hS
  have HG := hid hg
  clear hS hg
  go_wp2_with fail
  go_ret2
  exact ⟨r, b, rfl, HS.out, HG.out⟩
end Go.Proofs.YtmbochhmeojmfaaDoor
