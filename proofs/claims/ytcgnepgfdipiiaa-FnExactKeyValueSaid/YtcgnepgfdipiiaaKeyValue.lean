/- The law KeyValue. -/
import Derived.Test.YtcgnepgfdipiiaaKeys
import Derived.Test.YtcgnepgfdipiiaaVal1
namespace Go.Proofs.Ytcgnepgfdipiiaa
open Go.RowKit
set_option linter.unusedVariables false

theorem specKeyValue_t (n : Int) (s : ByteArray) (w : World) : Calls Try.prog 42 #[.agg #[.bool true, .int .i64 n, .string s]] w (Makes 3 0 s 0 w) := by
  go_enter Try.func42, Try.ntmps42
  go_wp2_with fail
  refine (specTextValue_any _ _).mono ?_
  rintro e w1 ⟨rfl, hg1⟩
  have H1 := hid ((HoldsT.new (w.alloc (.cells #[.bool true, .int .i64 n, .string s] 26)) _ _).grow hg1)
  obtain ⟨c0, c1, c2, c3, c4⟩ := H1.out.cells5
  have z0 := H1.out.frozen 0; have z1 := H1.out.frozen 1; have z2 := H1.out.frozen 2; have z3 := H1.out.frozen 3; have z4 := H1.out.frozen 4
  have lt := H1.out.lt
  simp only [World.size_alloc] at c0 c1 c2 c3 c4 z0 z1 z2 z3 z4 lt
  go_wp2_with fail
  have H2 := H1.out
  simp only [World.size_alloc] at H2
  refine bodyPost_ret (results_cell_row rfl _ _ _ _ _ (0, 0) _ rfl (H2.set5 _ _ _ _ _) Try.underlying31 rfl Try.info31) rfl ?_
  exact ⟨rfl, gb_set5 (gb_trans (gb_alloc (gb_alloc (gb_refl _ _) _) _) hg1) (.inl (Nat.le_succ _)) _ _ _ _ _⟩
theorem specKeyValue_f (n : Int) (s : ByteArray) (w : World) : Calls Try.prog 42 #[.agg #[.bool false, .int .i64 n, .string s]] w (Makes 2 n ByteArray.empty 0 w) := by
  go_enter Try.func42, Try.ntmps42
  go_wp2_with fail
  refine (specIntValue_any _ _).mono ?_
  rintro e w1 ⟨rfl, hg1⟩
  have H1 := hid ((HoldsT.new (w.alloc (.cells #[.bool false, .int .i64 n, .string s] 26)) _ _).grow hg1)
  obtain ⟨c0, c1, c2, c3, c4⟩ := H1.out.cells5
  have z0 := H1.out.frozen 0; have z1 := H1.out.frozen 1; have z2 := H1.out.frozen 2; have z3 := H1.out.frozen 3; have z4 := H1.out.frozen 4
  have lt := H1.out.lt
  simp only [World.size_alloc] at c0 c1 c2 c3 c4 z0 z1 z2 z3 z4 lt
  go_wp2_with fail
  have H2 := H1.out
  simp only [World.size_alloc] at H2
  refine bodyPost_ret (results_cell_row rfl _ _ _ _ _ (0, 0) _ rfl (H2.set5 _ _ _ _ _) Try.underlying31 rfl Try.info31) rfl ?_
  exact ⟨rfl, gb_set5 (gb_trans (gb_alloc (gb_alloc (gb_refl _ _) _) _) hg1) (.inl (Nat.le_succ _)) _ _ _ _ _⟩
theorem implKeyValue_t (n : Int) (s : ByteArray) (w : World) : Calls Try.prog 43 #[.agg #[.bool true, .int .i64 n, .string s]] w (Makes 3 0 s 0 w) := by
  go_enter Try.func43, Try.ntmps43
  go_wp2_with fail
  refine (implTextValue_any _ _).mono ?_
  rintro e w1 ⟨rfl, hg1⟩
  have H1 := hid ((HoldsT.new (w.alloc (.cells #[.bool true, .int .i64 n, .string s] 26)) _ _).grow hg1)
  obtain ⟨c0, c1, c2, c3, c4⟩ := H1.out.cells5
  have z0 := H1.out.frozen 0; have z1 := H1.out.frozen 1; have z2 := H1.out.frozen 2; have z3 := H1.out.frozen 3; have z4 := H1.out.frozen 4
  have lt := H1.out.lt
  simp only [World.size_alloc] at c0 c1 c2 c3 c4 z0 z1 z2 z3 z4 lt
  go_wp2_with fail
  have H2 := H1.out
  simp only [World.size_alloc] at H2
  refine bodyPost_ret (results_cell_row rfl _ _ _ _ _ (0, 0) _ rfl (H2.set5 _ _ _ _ _) Try.underlying31 rfl Try.info31) rfl ?_
  exact ⟨rfl, gb_set5 (gb_trans (gb_alloc (gb_alloc (gb_refl _ _) _) _) hg1) (.inl (Nat.le_succ _)) _ _ _ _ _⟩
theorem implKeyValue_f (n : Int) (s : ByteArray) (w : World) : Calls Try.prog 43 #[.agg #[.bool false, .int .i64 n, .string s]] w (Makes 2 n ByteArray.empty 0 w) := by
  go_enter Try.func43, Try.ntmps43
  go_wp2_with fail
  refine (implIntValue_any _ _).mono ?_
  rintro e w1 ⟨rfl, hg1⟩
  have H1 := hid ((HoldsT.new (w.alloc (.cells #[.bool false, .int .i64 n, .string s] 26)) _ _).grow hg1)
  obtain ⟨c0, c1, c2, c3, c4⟩ := H1.out.cells5
  have z0 := H1.out.frozen 0; have z1 := H1.out.frozen 1; have z2 := H1.out.frozen 2; have z3 := H1.out.frozen 3; have z4 := H1.out.frozen 4
  have lt := H1.out.lt
  simp only [World.size_alloc] at c0 c1 c2 c3 c4 z0 z1 z2 z3 z4 lt
  go_wp2_with fail
  have H2 := H1.out
  simp only [World.size_alloc] at H2
  refine bodyPost_ret (results_cell_row rfl _ _ _ _ _ (0, 0) _ rfl (H2.set5 _ _ _ _ _) Try.underlying31 rfl Try.info31) rfl ?_
  exact ⟨rfl, gb_set5 (gb_trans (gb_alloc (gb_alloc (gb_refl _ _) _) _) hg1) (.inl (Nat.le_succ _)) _ _ _ _ _⟩
/-- What KeyValue makes of a key. -/
def kvK (t : Bool) : Int := if t = true then 3 else 2
def kvN (t : Bool) (n : Int) : Int := if t = true then 0 else n
def kvS (t : Bool) (s : ByteArray) : ByteArray := if t = true then s else ByteArray.empty
theorem specKeyValue_any (t : Bool) (n : Int) (s : ByteArray) (w : World) : Calls Try.prog 42 #[.agg #[.bool t, .int .i64 n, .string s]] w (Makes (kvK t) (kvN t n) (kvS t s) 0 w) := by
  cases t with
  | true => exact specKeyValue_t n s w
  | false => exact specKeyValue_f n s w
theorem implKeyValue_any (t : Bool) (n : Int) (s : ByteArray) (w : World) : Calls Try.prog 43 #[.agg #[.bool t, .int .i64 n, .string s]] w (Makes (kvK t) (kvN t n) (kvS t s) 0 w) := by
  cases t with
  | true => exact implKeyValue_t n s w
  | false => exact implKeyValue_f n s w
set_option maxHeartbeats 1000000 in
theorem keyValue_walk (t : Bool) (n : Int) (s : ByteArray) (w : World) (w0 : s.size ≤ maxLen) (_w1 : (Lit.int .i64 n).wf = true) :
    Calls Try.prog 13 #[.agg #[.bool t, .int .i64 n, .string s]] w fun e w' => e = .returned (.bool true) ∧ Below w.heap.size w w' := by
  by_cases h : s.size ≤ 1048576
  · have hU0 : (kvS t s).size ≤ 1048576 := by unfold kvS; split; exact h; simp
    obtain ⟨K, hK⟩ : ∃ K, kvK t = K := ⟨_, rfl⟩
    obtain ⟨M, hM⟩ : ∃ K, kvN t n = K := ⟨_, rfl⟩
    obtain ⟨U, hU⟩ : ∃ K, kvS t s = K := ⟨_, rfl⟩
    have C1 := hid (fun w => specKeyValue_any t n s w)
    have C2 := hid (fun w => implKeyValue_any t n s w)
    rw [hK, hM, hU] at C1 C2
    rw [hU] at hU0
    clear hK hM hU
    have H0 := hid (HoldsT.new w #[.bool t, .int .i64 n, .string s] 23)
    go_enter Try.func13, Try.ntmps13
    go_wp2_with fail
    refine (szKey_any _ _ _ 1048576 _ w0 (Nat.le_refl _)).mono ?_
    rintro e wa ⟨rfl, ga⟩
    have Ka := hid (H0.out.grow ga)
    obtain ⟨k0, k1, k2⟩ := Ka.out.cells3
    have lk := Ka.out.lt
    rw [if_pos h]
    have hge : (0 : Int) ≤ ((1048576 - s.size : Nat) : Int) := by omega
    generalize ((1048576 - s.size : Nat) : Int) = q at hge
    go_wp2_with fail
    refine (toKey_any _ _ _ _).mono ?_
    rintro e wb ⟨rfl, gb⟩
    go_wp2_with fail
    refine (C1.out _).mono ?_
    rintro e w1 ⟨rfl, hg1⟩
    clear k0 k1 k2 lk
    have K1 := hid ((Ka.out.grow gb).grow hg1)
    obtain ⟨k0, k1, k2⟩ := K1.out.cells3
    have lk := K1.out.lt
    go_wp2_with fail
    refine (toKey_any _ _ _ _).mono ?_
    rintro e wc ⟨rfl, gc⟩
    go_wp2_with fail
    refine (C2.out _).mono ?_
    rintro e w2 ⟨rfl, hg2⟩
    clear k0 k1 k2 lk
    have K2 := hid (((K1.out.alloc _).grow gc).grow hg2)
    have A2 := hid (((HoldsT.new w1 _ 31).grow gc).grow hg2)
    obtain ⟨fa0, fa1, fa2, fa3, fa4⟩ := A2.out.cells5
    have la := A2.out.lt
    go_wp2_with fail
    refine (eqValue_nil _ _ _ _ _ hU0).mono ?_
    rintro e w3 ⟨rfl, hg3⟩
    clear fa0 fa1 fa2 fa3 fa4 la
    have G3 := hid (gb_trans (gb_trans (gb_trans (gb_trans (gb_alloc (gb_refl w none) _) ga) gb) (gb_trans hg1 (gb_alloc (gb_refl _ none) _))) (gb_trans (gb_trans gc hg2) (gb_trans (gb_alloc (gb_refl _ none) _) hg3)))
    have A3 := hid ((A2.out.alloc _).grow hg3)
    have B3 := hid ((HoldsT.new w2 _ 31).grow hg3)
    have K3 := hid ((K2.out.alloc _).grow hg3)
    obtain ⟨fb0, fb1, fb2, fb3, fb4⟩ := B3.out.cells5
    have lb := B3.out.lt
    clear hg1 hg2 hg3 A2
    go_wp2_with fail
    refine (markValue_nil _ _ _ _ _ _ rfl).mono ?_
    rintro e w4 ⟨rfl, hg4⟩
    clear fb0 fb1 fb2 fb3 fb4 lb
    have B4 := hid (B3.out.grow hg4)
    obtain ⟨fb0, fb1, fb2, fb3, fb4⟩ := B4.out.cells5
    have lb := B4.out.lt
    go_wp2_with fail
    refine (heldValue_nil _ _ _ _ _ _ rfl).mono ?_
    rintro e w5 ⟨rfl, hg5⟩
    clear fb0 fb1 fb2 fb3 fb4 lb
    have K5 := hid ((K3.out.grow hg4).grow hg5)
    obtain ⟨k0, k1, k2⟩ := K5.out.cells3
    have lk := K5.out.lt
    go_wp2_with fail
    refine (toKey_any _ _ _ _).mono ?_
    rintro e wd ⟨rfl, gd⟩
    go_wp2_with fail
    refine (C2.out _).mono ?_
    rintro e w6 ⟨rfl, hg6⟩
    have A6 := hid ((((A3.out.grow hg4).grow hg5).grow gd).grow hg6)
    obtain ⟨fa0, fa1, fa2, fa3, fa4⟩ := A6.out.cells5
    have la := A6.out.lt
    go_wp2_with fail
    refine (eqValue_nil _ _ _ _ _ hU0).mono ?_
    rintro e w7 ⟨rfl, hg7⟩
    clear fa0 fa1 fa2 fa3 fa4 la
    have B7 := hid (((((B4.out.grow hg5).grow gd).grow hg6).alloc _).grow hg7)
    obtain ⟨fb0, fb1, fb2, fb3, fb4⟩ := B7.out.cells5
    have lb := B7.out.lt
    go_wp2_with fail
    refine (heldValue_nil _ _ _ _ _ _ rfl).mono ?_
    rintro e w8 ⟨rfl, hg8⟩
    go_wp2_with fail
    go_ret
    exact ⟨rfl, gb_below (gb_trans (gb_trans (gb_trans (gb_trans (gb_trans G3.out hg4) hg5) (gb_trans gd hg6)) (gb_trans (gb_alloc (gb_refl _ none) _) hg7)) hg8)⟩
  · go_enter Try.func13, Try.ntmps13
    go_wp2_with fail
    refine (szKey_any _ _ _ 1048576 _ w0 (Nat.le_refl _)).mono ?_
    rintro e w1 ⟨rfl, hg1⟩
    rw [if_neg h]
    go_wp2_with fail
    go_ret
    exact ⟨rfl, gb_below (gb_trans (gb_alloc (gb_refl _ _) _) hg1)⟩
end Go.Proofs.Ytcgnepgfdipiiaa
