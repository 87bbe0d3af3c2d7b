/- The walk of KindName. -/
import Derived.Test.YtjmnoelochkblaaNumWalks
import Derived.Test.YtjmnoelochkblaaMem
namespace Go.Proofs.Ytjmnoelochkblaa
open Go.RowKit
theorem kindName_0 (w : World) : Calls Try.prog 10 #[.int .i64 0] w fun e w' => e = .returned (.bool true) ∧ Below w.heap.size w w' := by
  go_enter Try.func10, Try.ntmps10
  go_wp2
  go_ret
  exact ⟨rfl, gb_below (gb_alloc (gb_refl _ _) _)⟩
theorem kindName_1 (w : World) : Calls Try.prog 10 #[.int .i64 1] w fun e w' => e = .returned (.bool true) ∧ Below w.heap.size w w' := by
  go_enter Try.func10, Try.ntmps10
  go_wp2
  go_ret
  exact ⟨rfl, gb_below (gb_alloc (gb_refl _ _) _)⟩
theorem kindName_2 (w : World) : Calls Try.prog 10 #[.int .i64 2] w fun e w' => e = .returned (.bool true) ∧ Below w.heap.size w w' := by
  go_enter Try.func10, Try.ntmps10
  go_wp2
  go_ret
  exact ⟨rfl, gb_below (gb_alloc (gb_refl _ _) _)⟩
theorem kindName_3 (w : World) : Calls Try.prog 10 #[.int .i64 3] w fun e w' => e = .returned (.bool true) ∧ Below w.heap.size w w' := by
  go_enter Try.func10, Try.ntmps10
  go_wp2
  go_ret
  exact ⟨rfl, gb_below (gb_alloc (gb_refl _ _) _)⟩
theorem kindName_4 (w : World) : Calls Try.prog 10 #[.int .i64 4] w fun e w' => e = .returned (.bool true) ∧ Below w.heap.size w w' := by
  go_enter Try.func10, Try.ntmps10
  go_wp2
  go_ret
  exact ⟨rfl, gb_below (gb_alloc (gb_refl _ _) _)⟩
theorem kindName_5 (w : World) : Calls Try.prog 10 #[.int .i64 5] w fun e w' => e = .returned (.bool true) ∧ Below w.heap.size w w' := by
  go_enter Try.func10, Try.ntmps10
  go_wp2
  go_ret
  exact ⟨rfl, gb_below (gb_alloc (gb_refl _ _) _)⟩
theorem kindName_6 (w : World) : Calls Try.prog 10 #[.int .i64 6] w fun e w' => e = .returned (.bool true) ∧ Below w.heap.size w w' := by
  go_enter Try.func10, Try.ntmps10
  go_wp2
  go_ret
  exact ⟨rfl, gb_below (gb_alloc (gb_refl _ _) _)⟩
theorem kindName_7 (w : World) : Calls Try.prog 10 #[.int .i64 7] w fun e w' => e = .returned (.bool true) ∧ Below w.heap.size w w' := by
  go_enter Try.func10, Try.ntmps10
  go_wp2
  go_ret
  exact ⟨rfl, gb_below (gb_alloc (gb_refl _ _) _)⟩
theorem kindName_8 (w : World) : Calls Try.prog 10 #[.int .i64 8] w fun e w' => e = .returned (.bool true) ∧ Below w.heap.size w w' := by
  go_enter Try.func10, Try.ntmps10
  go_wp2
  go_ret
  exact ⟨rfl, gb_below (gb_alloc (gb_refl _ _) _)⟩
theorem kindName_out (a0 : Int) (w : World) (h' : a0 < 0 ∨ 8 < a0) : Calls Try.prog 10 #[.int .i64 a0] w fun e w' => e = .returned (.bool true) ∧ Below w.heap.size w w' := by
  rcases h' with h | h
  all_goals
    go_enter Try.func10, Try.ntmps10
    go_wp2_with (first | (go_at_call 37; refine (l1In_f _ _ _ _ (by omega)).mono ?_; rintro e w' ⟨rfl, rfl⟩) | go_in)
    go_ret
    exact ⟨rfl, gb_below (gb_refl _ _)⟩
theorem kindName_walk (a0 : Int) (w : World) (_w0 : (Lit.int .i64 a0).wf = true) : Calls Try.prog 10 #[.int .i64 a0] w fun e w' => e = .returned (.bool true) ∧ Below w.heap.size w w' := by
  by_cases h : 0 ≤ a0 ∧ a0 ≤ 8
  · have : a0 = 0 ∨ a0 = 1 ∨ a0 = 2 ∨ a0 = 3 ∨ a0 = 4 ∨ a0 = 5 ∨ a0 = 6 ∨ a0 = 7 ∨ a0 = 8 := by omega
    rcases this with rfl | rfl | rfl | rfl | rfl | rfl | rfl | rfl | rfl
    · exact kindName_0 w
    · exact kindName_1 w
    · exact kindName_2 w
    · exact kindName_3 w
    · exact kindName_4 w
    · exact kindName_5 w
    · exact kindName_6 w
    · exact kindName_7 w
    · exact kindName_8 w
  · exact kindName_out a0 w (by omega)
end Go.Proofs.Ytjmnoelochkblaa
