/- The walk of l1In. -/
import Derived.Test.YtlfigoboeogegaaRows
import Derived.Test.YtlfigoboeogegaaBase
namespace Go.Proofs.Ytlfigoboeogegaa
open Go.RowKit
theorem l1In_t (x a b : Int) (w : World) (h1 : a ≤ x) (h2 : x ≤ b) :
    Calls Try.prog 45 #[.int .i64 x, .int .i64 a, .int .i64 b] w fun e w' => e = .returned (.bool true) ∧ w = w' := by
  have hd1 : decide (a ≤ x) = true := by simpa using h1
  have hd2 : decide (x ≤ b) = true := by simpa using h2
  go_enter Try.func45, Try.ntmps45
  go_wp2
  go_ret
  exact ⟨rfl, rfl⟩
theorem l1In_f (x a b : Int) (w : World) (h : x < a ∨ b < x) :
    Calls Try.prog 45 #[.int .i64 x, .int .i64 a, .int .i64 b] w fun e w' => e = .returned (.bool false) ∧ w = w' := by
  by_cases h1 : a ≤ x
  · have hd1 : decide (a ≤ x) = true := by simpa using h1
    have hd2 : decide (x ≤ b) = false := by simp; omega
    go_enter Try.func45, Try.ntmps45
    go_wp2
    go_ret
    exact ⟨rfl, rfl⟩
  · have hd1 : decide (a ≤ x) = false := by simp; omega
    go_enter Try.func45, Try.ntmps45
    go_wp2
    go_ret
    exact ⟨rfl, rfl⟩
end Go.Proofs.Ytlfigoboeogegaa
