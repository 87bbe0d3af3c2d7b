/- Values without items: eqValue, markValue, heldValue; the laws IntValue, TextValue, ArrayValue, BoolValue. -/
import Derived.Test.YtcgnepgfdipiiaaRows
import Derived.Test.YtcgnepgfdipiiaaMem
namespace Go.Proofs.Ytcgnepgfdipiiaa
open Go.RowKit
set_option linter.unusedVariables false

theorem eqEntryS_nil (w : World) : Calls Try.prog 53 #[.slice none 0 0, .slice none 0 0] w fun e w' => e = .returned (.bool true) ∧ w = w' := by
  go_enter Try.func53, Try.ntmps53
  go_wp2_with fail
  go_loop [5] (fun i => i = .int .i64 0) (fun _ => 0)
  case atStart => rfl
  case round =>
    subst hrel
    go_wp2_with fail
    go_ret
    exact ⟨rfl, rfl⟩
theorem markEntryS_nil (k : Int) (w : World) : Calls Try.prog 54 #[.slice none 0 0, .int .i64 k] w fun e w' => e = .returned (.int .i64 k) ∧ w = w' := by
  go_enter Try.func54, Try.ntmps54
  go_wp2_with fail
  go_loop [1, 5] (fun q i => q = .int .i64 k ∧ i = .int .i64 0) (fun _ _ => 0)
  case atStart => exact ⟨rfl, rfl⟩
  case round =>
    obtain ⟨rfl, rfl⟩ := hrel
    go_wp2_with fail
    go_ret
    exact ⟨rfl, rfl⟩
theorem heldEntryS_nil (k : Int) (w : World) : Calls Try.prog 55 #[.slice none 0 0, .int .i64 k] w fun e w' => e = .returned (.int .i64 k) ∧ w = w' := by
  go_enter Try.func55, Try.ntmps55
  go_wp2_with fail
  go_loop [1, 5] (fun q i => q = .int .i64 k ∧ i = .int .i64 0) (fun _ _ => 0)
  case atStart => exact ⟨rfl, rfl⟩
  case round =>
    obtain ⟨rfl, rfl⟩ := hrel
    go_wp2_with fail
    go_ret
    exact ⟨rfl, rfl⟩
/-- A value without items. -/
def val0 (k n : Int) (s : ByteArray) (x : Int) : Value := .agg #[.int .i64 k, .int .i64 n, .string s, .int .i64 x, .slice none 0 0]
theorem eqValue_nil (k n : Int) (s : ByteArray) (x : Int) (w : World) (hs : s.size ≤ 1048576) : Calls Try.prog 21 #[.agg #[.int .i64 k, .int .i64 n, .string s, .int .i64 x, .slice none 0 0], .agg #[.int .i64 k, .int .i64 n, .string s, .int .i64 x, .slice none 0 0]] w fun e w' => e = .returned (.bool true) ∧ w.grownBy w' none := by
  go_enter Try.func21, Try.ntmps21
  go_wp2_with fail
  refine (eqEntryS_nil _).mono ?_
  rintro e w1 ⟨rfl, rfl⟩
  go_wp2_with fail
  go_ret
  exact ⟨rfl, gb_alloc (gb_alloc (gb_refl _ _) _) _⟩
theorem markValue_nil (k n : Int) (s : ByteArray) (x q : Int) (w : World) (hq : q = 1) : Calls Try.prog 22 #[.agg #[.int .i64 k, .int .i64 n, .string s, .int .i64 x, .slice none 0 0], .int .i64 q] w fun e w' => e = .returned (.int .i64 q) ∧ w.grownBy w' none := by
  subst hq
  go_enter Try.func22, Try.ntmps22
  go_wp2_with fail
  refine (markEntryS_nil _ _).mono ?_
  rintro e w1 ⟨rfl, rfl⟩
  go_wp2_with fail
  go_ret
  exact ⟨rfl, gb_alloc (gb_refl _ _) _⟩
theorem heldValue_nil (k n : Int) (s : ByteArray) (x q : Int) (w : World) (hq : q = 1) : Calls Try.prog 23 #[.agg #[.int .i64 k, .int .i64 n, .string s, .int .i64 x, .slice none 0 0], .int .i64 q] w fun e w' => e = .returned (.int .i64 q) ∧ w.grownBy w' none := by
  subst hq
  go_enter Try.func23, Try.ntmps23
  go_wp2_with fail
  refine (heldEntryS_nil _ _).mono ?_
  rintro e w1 ⟨rfl, rfl⟩
  go_wp2_with fail
  go_ret
  exact ⟨rfl, gb_alloc (gb_refl _ _) _⟩
end Go.Proofs.Ytcgnepgfdipiiaa
