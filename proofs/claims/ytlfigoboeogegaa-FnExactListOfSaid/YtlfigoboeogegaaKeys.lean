/- Keys: szKey, toKey. -/
import Derived.Test.YtlfigoboeogegaaRows
import Derived.Test.YtlfigoboeogegaaHold
namespace Go.Proofs.Ytlfigoboeogegaa
open Go.RowKit
set_option linter.unusedVariables false

theorem Try.infoK : (Try.prog.info? 34).map (·.size) = some 3 := by kernel_rfl
theorem szKey_any (t : Bool) (n : Int) (s : ByteArray) (l : Nat) (w : World) (hs : s.size ≤ maxLen) (hl : l ≤ 1048576) :
    Calls Try.prog 9 #[.agg #[.bool t, .int .i64 n, .string s], .int .i64 l] w fun e w' => e = .returned (.int .i64 (if s.size ≤ l then ((l - s.size : Nat) : Int) else -1)) ∧ w.grownBy w' none := by
  unfold maxLen at hs
  by_cases h : s.size ≤ l
  · have HC : Hid ((if s.size ≤ l then ((l - s.size : Nat) : Int) else -1) = (l : Int) - (s.size : Int)) := by show _ = _; rw [if_pos h]; omega
    rw [HC.out]
    go_enter Try.func9, Try.ntmps9
    go_wp2_with fail
    go_ret
    exact ⟨rfl, gb_alloc (gb_refl _ _) _⟩
  · have HC : Hid ((if s.size ≤ l then ((l - s.size : Nat) : Int) else -1) = -1) := by show _ = _; rw [if_neg h]
    rw [HC.out]
    go_enter Try.func9, Try.ntmps9
    go_wp2_with fail
    go_ret
    exact ⟨rfl, gb_alloc (gb_refl _ _) _⟩
theorem toKey_any (t : Bool) (n : Int) (s : ByteArray) (w : World) :
    Calls Try.prog 12 #[.agg #[.bool t, .int .i64 n, .string s]] w fun e w' => e = .returned (.agg #[.bool t, .int .i64 n, .string s]) ∧ w.grownBy w' none := by
  go_enter Try.func12, Try.ntmps12
  go_wp2_with fail
  refine bodyPost_ret (results_cell_row rfl _ _ _ _ _ (0, 0) _ rfl (HoldsT.pre1 _ _ _ _ _) Try.underlying34 rfl Try.infoK) rfl ?_
  exact ⟨rfl, gb_alloc (gb_alloc (gb_alloc (gb_refl _ _) _) _) _⟩
end Go.Proofs.Ytlfigoboeogegaa
