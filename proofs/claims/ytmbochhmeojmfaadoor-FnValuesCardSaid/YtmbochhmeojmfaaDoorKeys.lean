/- Keys: szKey, toKey. -/
import Derived.Test.YtmbochhmeojmfaaDoorRows
import Derived.Test.YtmbochhmeojmfaaDoorHold
namespace Go.Proofs.YtmbochhmeojmfaaDoor
set_option maxRecDepth 20000
open Go.RowKit
set_option linter.unusedVariables false

theorem Tryd.infoK : (Tryd.prog.info? 33).map (·.size) = some 3 := by kernel_rfl
theorem szKey_any (t : Bool) (n : Int) (s : ByteArray) (l : Nat) (w : World) (hs : s.size ≤ maxLen) (hl : l ≤ 1048576) :
    Calls Tryd.prog 22 #[.agg #[.bool t, .int .i64 n, .string s], .int .i64 l] w fun e w' => e = .returned (.int .i64 (if s.size ≤ l then ((l - s.size : Nat) : Int) else -1)) ∧ w.grownBy w' none := by
  unfold maxLen at hs
  by_cases h : s.size ≤ l
  · have HC : Hid ((if s.size ≤ l then ((l - s.size : Nat) : Int) else -1) = (l : Int) - (s.size : Int)) := by show _ = _; rw [if_pos h]; omega
    rw [HC.out]
    go_enter Tryd.func22, Tryd.ntmps22
    go_wp2_with fail
    go_ret
    exact ⟨rfl, gb_alloc (gb_refl _ _) _⟩
  · have HC : Hid ((if s.size ≤ l then ((l - s.size : Nat) : Int) else -1) = -1) := by show _ = _; rw [if_neg h]
    rw [HC.out]
    go_enter Tryd.func22, Tryd.ntmps22
    go_wp2_with fail
    go_ret
    exact ⟨rfl, gb_alloc (gb_refl _ _) _⟩
theorem toKey_any (t : Bool) (n : Int) (s : ByteArray) (w : World) :
    Calls Tryd.prog 24 #[.agg #[.bool t, .int .i64 n, .string s]] w fun e w' => e = .returned (.agg #[.bool t, .int .i64 n, .string s]) ∧ w.grownBy w' none := by
  go_enter Tryd.func24, Tryd.ntmps24
  go_wp2_with fail
  refine bodyPost_ret (results_cell_row rfl _ _ _ _ _ (0, 0) _ rfl (HoldsT.pre1 _ _ _ _ _) Tryd.underlying33 rfl Tryd.infoK) rfl ?_
  exact ⟨rfl, gb_alloc (gb_alloc (gb_alloc (gb_refl _ _) _) _) _⟩
end Go.Proofs.YtmbochhmeojmfaaDoor
