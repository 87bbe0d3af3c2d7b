/- The walks of Mod. -/
import Derived.Test.YtcgnepgfdipiiaaRows
import Derived.Test.YtcgnepgfdipiiaaNumMath
import Derived.Test.YtcgnepgfdipiiaaL1In
namespace Go.Proofs.Ytcgnepgfdipiiaa
open Go.RowKit

theorem specMod_in (n m : Int) (w : World) (h1 : 1 ≤ m) (h2 : m ≤ 1000000000000) :
    Calls Try.prog 50 #[.int .i64 n, .int .i64 m] w fun e w' => e = .returned (.int .i64 (modOf n m)) ∧ w = w' := by
  have hb := tmod_bd n m h1
  have HT := hid (mod_twice n m h1)
  go_enter Try.func50, Try.ntmps50
  go_wp2_with (go_at_call 59; refine (l1In_t _ _ _ _ h1 h2).mono ?_; rintro e w' ⟨rfl, rfl⟩)
  go_ret
  exact ⟨ret_int (by rw [← HT.out]), rfl⟩
theorem specMod_out (n m : Int) (w : World) (h : m < 1 ∨ 1000000000000 < m) :
    Calls Try.prog 50 #[.int .i64 n, .int .i64 m] w fun e w' => e = .returned (.int .i64 0) ∧ w = w' := by
  go_enter Try.func50, Try.ntmps50
  go_wp2_with (go_at_call 59; refine (l1In_f _ _ _ _ h).mono ?_; rintro e w' ⟨rfl, rfl⟩)
  go_ret
  exact ⟨rfl, rfl⟩
theorem implMod_in (n m : Int) (w : World) (h1 : 1 ≤ m) (h2 : m ≤ 1000000000000) :
    Calls Try.prog 52 #[.int .i64 n, .int .i64 m] w fun e w' => e = .returned (.int .i64 (modOf n m)) ∧ w = w' := by
  have hb := tmod_bd n m h1
  rcases Int.lt_or_le (n.tmod m) 0 with hn | hn
  · have HT := hid (mod_neg n m h1 hn)
    go_enter Try.func52, Try.ntmps52
    go_wp2
    go_ret
    exact ⟨ret_int (by rw [← HT.out]), rfl⟩
  · have HT := hid (mod_pos n m h1 hn)
    go_enter Try.func52, Try.ntmps52
    go_wp2
    go_ret
    exact ⟨ret_int (by rw [← HT.out]), rfl⟩
theorem implMod_out (n m : Int) (w : World) (h : m < 1 ∨ 1000000000000 < m) :
    Calls Try.prog 52 #[.int .i64 n, .int .i64 m] w fun e w' => e = .returned (.int .i64 0) ∧ w = w' := by
  rcases h with h | h
  all_goals
    go_enter Try.func52, Try.ntmps52
    go_wp2
    go_ret
    exact ⟨rfl, rfl⟩
end Go.Proofs.Ytcgnepgfdipiiaa
