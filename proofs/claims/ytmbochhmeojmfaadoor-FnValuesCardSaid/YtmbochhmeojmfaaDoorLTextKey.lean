/- The law TextKey. -/
import Derived.Test.YtmbochhmeojmfaaDoorTextKey
namespace Go.Proofs.YtmbochhmeojmfaaDoor
set_option maxRecDepth 20000
open Go.RowKit
set_option linter.unusedVariables false

theorem eqKey_sameT (t : Bool) (n : Int) (s : ByteArray) (w : World) :
    Calls Tryd.prog 30 #[.agg #[.bool t, .int .i64 n, .string s], .agg #[.bool t, .int .i64 n, .string s]] w fun e w' => e = .returned (.bool true) ∧ w.grownBy w' none := by
  go_enter Tryd.func30, Tryd.ntmps30
  go_wp2_with fail
  go_ret
  exact ⟨rfl, gb_alloc (gb_alloc (gb_refl _ _) _) _⟩
theorem keyT_agg (s : ByteArray) (r : Int) (b : Bool) : ∃ t n u, keyT s r b = .agg #[.bool t, .int .i64 n, .string u] := by
  cases b
  · exact ⟨_, _, _, rfl⟩
  · exact ⟨_, _, _, rfl⟩
end Go.Proofs.YtmbochhmeojmfaaDoor
