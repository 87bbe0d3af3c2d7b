/- The law KeyHash. -/
import Derived.Test.YtcgnepgfdipiiaaKeys
import Derived.Test.YtcgnepgfdipiiaaHashT
namespace Go.Proofs.Ytcgnepgfdipiiaa
open Go.RowKit
set_option linter.unusedVariables false

/-- The digest of a key. -/
def keyHash (t : Bool) (n : Int) (s : ByteArray) : Int := if t = true then hashL (bytesI s) else modOf n 2147483647
theorem specKeyHash_any (t : Bool) (n : Int) (s : ByteArray) (w : World) (hs : s.size ≤ 1048576) :
    Calls Try.prog 16 #[.agg #[.bool t, .int .i64 n, .string s]] w fun e w' => e = .returned (.int .i64 (keyHash t n s)) ∧ w.grownBy w' none := by
  cases t with
  | true =>
    go_enter Try.func16, Try.ntmps16
    go_wp2_with (go_at_call 49; refine (specHashText_any _ _ hs).mono ?_; rintro e w' ⟨rfl, rfl⟩)
    go_ret
    exact ⟨rfl, gb_alloc (gb_refl _ _) _⟩
  | false =>
    go_enter Try.func16, Try.ntmps16
    go_wp2_with (go_at_call 50; refine (specMod_in _ _ _ (by omega) (by omega)).mono ?_; rintro e w' ⟨rfl, rfl⟩)
    go_ret
    exact ⟨rfl, gb_alloc (gb_refl _ _) _⟩
theorem implKeyHash_any (t : Bool) (n : Int) (s : ByteArray) (w : World) (hs : s.size ≤ 1048576) :
    Calls Try.prog 18 #[.agg #[.bool t, .int .i64 n, .string s]] w fun e w' => e = .returned (.int .i64 (keyHash t n s)) ∧ w.grownBy w' none := by
  cases t with
  | true =>
    go_enter Try.func18, Try.ntmps18
    go_wp2_with (go_at_call 51; refine (implHashText_any _ _ hs).mono ?_; rintro e w' ⟨rfl, rfl⟩)
    go_ret
    exact ⟨rfl, gb_alloc (gb_refl _ _) _⟩
  | false =>
    go_enter Try.func18, Try.ntmps18
    go_wp2_with (go_at_call 52; refine (implMod_in _ _ _ (by omega) (by omega)).mono ?_; rintro e w' ⟨rfl, rfl⟩)
    go_ret
    exact ⟨rfl, gb_alloc (gb_refl _ _) _⟩
theorem keyHash_walk (t : Bool) (n : Int) (s : ByteArray) (w : World) (w0 : s.size ≤ maxLen) (_w1 : (Lit.int .i64 n).wf = true) :
    Calls Try.prog 3 #[.agg #[.bool t, .int .i64 n, .string s]] w fun e w' => e = .returned (.bool true) ∧ Below w.heap.size w w' := by
  by_cases h : s.size ≤ 1048576
  · have H0 := hid (HoldsT.new w #[.bool t, .int .i64 n, .string s] 23)
    go_enter Try.func3, Try.ntmps3
    go_wp2_with fail
    refine (szKey_any _ _ _ 1048576 _ w0 (Nat.le_refl _)).mono ?_
    rintro e w1 ⟨rfl, hg1⟩
    have H1 := hid (H0.out.grow hg1)
    obtain ⟨c0, c1, c2⟩ := H1.out.cells3
    have lt := H1.out.lt
    rw [if_pos h]
    have hge : (0 : Int) ≤ ((1048576 - s.size : Nat) : Int) := by omega
    generalize ((1048576 - s.size : Nat) : Int) = q at hge
    go_wp2_with fail
    refine (toKey_any _ _ _ _).mono ?_
    rintro e w2 ⟨rfl, hg2⟩
    go_wp2_with fail
    refine (specKeyHash_any _ _ _ _ h).mono ?_
    rintro e w3 ⟨rfl, hg3⟩
    clear c0 c1 c2 lt
    have H3 := hid ((H1.out.grow hg2).grow hg3)
    obtain ⟨c0, c1, c2⟩ := H3.out.cells3
    have lt := H3.out.lt
    go_wp2_with fail
    refine (toKey_any _ _ _ _).mono ?_
    rintro e w4 ⟨rfl, hg4⟩
    go_wp2_with fail
    refine (implKeyHash_any _ _ _ _ h).mono ?_
    rintro e w5 ⟨rfl, hg5⟩
    go_wp2_with fail
    go_ret
    exact ⟨rfl, gb_below (gb_trans (gb_trans (gb_trans (gb_trans (gb_trans (gb_alloc (gb_refl _ _) _) hg1) hg2) hg3) hg4) hg5)⟩
  · go_enter Try.func3, Try.ntmps3
    go_wp2_with fail
    refine (szKey_any _ _ _ 1048576 _ w0 (Nat.le_refl _)).mono ?_
    rintro e w1 ⟨rfl, hg1⟩
    rw [if_neg h]
    go_wp2_with fail
    go_ret
    exact ⟨rfl, gb_below (gb_trans (gb_alloc (gb_refl _ _) _) hg1)⟩
end Go.Proofs.Ytcgnepgfdipiiaa
