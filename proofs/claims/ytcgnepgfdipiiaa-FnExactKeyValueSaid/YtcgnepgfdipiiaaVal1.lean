/- The laws IntValue, TextValue, ArrayValue, BoolValue. -/
import Derived.Test.YtcgnepgfdipiiaaVal0
namespace Go.Proofs.Ytcgnepgfdipiiaa
open Go.RowKit
set_option linter.unusedVariables false

theorem Try.info31 : (Try.prog.info? 31).map (·.size) = some 5 := by kernel_rfl
/-- A call that makes a value without items. -/
def Makes (k n : Int) (s : ByteArray) (x : Int) (w : World) (e : Ending) (w' : World) : Prop := e = .returned (.agg #[.int .i64 k, .int .i64 n, .string s, .int .i64 x, .slice none 0 0]) ∧ w.grownBy w' none
/-- A block holds a value. -/
def Holds (w : World) (g : Nat) (cs : Array Value) : Prop := w.heap[g]? = some (.cells cs 31 (0, 0))
theorem Holds.grow {w w1 : World} {g : Nat} {cs : Array Value} (h : Holds w g cs) (hg : w.grownBy w1 none) : Holds w1 g cs := (hg.block g (Array.getElem?_eq_some_iff.1 h).1 (by simp)).trans h
theorem Holds.new (w : World) (cs : Array Value) : Holds (w.alloc (.cells cs 31)) w.heap.size cs := heap_alloc_new w _
theorem Holds.cells {w : World} {g : Nat} {a b c d e : Value} (h : Holds w g #[a, b, c, d, e]) : w.cell? ⟨g, 0, none⟩ = some a ∧ w.cell? ⟨g, 1, none⟩ = some b ∧ w.cell? ⟨g, 2, none⟩ = some c ∧ w.cell? ⟨g, 3, none⟩ = some d ∧ w.cell? ⟨g, 4, none⟩ = some e :=
  ⟨cell_of_row w g 0 _ _ _ h, cell_of_row w g 1 _ _ _ h, cell_of_row w g 2 _ _ _ h, cell_of_row w g 3 _ _ _ h, cell_of_row w g 4 _ _ _ h⟩
theorem Holds.lt {w : World} {g : Nat} {cs : Array Value} (h : Holds w g cs) : g < w.heap.size := (Array.getElem?_eq_some_iff.1 h).1
theorem specIntValue_any (n : Int) (w : World) : Calls Try.prog 24 #[.int .i64 n] w (Makes 2 n ByteArray.empty 0 w) := by
  go_enter Try.func24, Try.ntmps24
  go_wp2_with fail
  ((try simp only [Exit.inBlock, Exit.then]); refine bodyPost_ret (results_cell_row rfl _ _ _ _ _ (0, 0) _ rfl (heap_alloc_new _ _) Try.underlying31 rfl Try.info31) rfl ?_)
  exact ⟨rfl, gb_alloc (gb_refl _ _) _⟩
theorem implIntValue_any (n : Int) (w : World) : Calls Try.prog 25 #[.int .i64 n] w (Makes 2 n ByteArray.empty 0 w) := by
  go_enter Try.func25, Try.ntmps25
  go_wp2_with fail
  ((try simp only [Exit.inBlock, Exit.then]); refine bodyPost_ret (results_cell_row rfl _ _ _ _ _ (0, 0) _ rfl (heap_alloc_new _ _) Try.underlying31 rfl Try.info31) rfl ?_)
  exact ⟨rfl, gb_alloc (gb_refl _ _) _⟩
set_option maxHeartbeats 1000000 in
theorem intValue_walk (a0 : Int) (w : World) (_w0 : (Lit.int .i64 a0).wf = true) : Calls Try.prog 5 #[.int .i64 a0] w fun e w' => e = .returned (.bool true) ∧ Below w.heap.size w w' := by
  have C1 := hid (fun w => specIntValue_any a0 w)
  have C2 := hid (fun w => implIntValue_any a0 w)
  go_enter Try.func5, Try.ntmps5
  go_wp2_with fail
  refine (C1.out _).mono ?_
  rintro e w1 ⟨rfl, hg1⟩
  go_wp2_with fail
  refine (C2.out _).mono ?_
  rintro e w2 ⟨rfl, hg2⟩
  have A2 := hid ((Holds.new w1 _).grow hg2)
  obtain ⟨fa0, fa1, fa2, fa3, fa4⟩ := A2.out.cells
  have la := A2.out.lt
  go_wp2_with fail
  refine (eqValue_nil _ _ _ _ _ (by simp)).mono ?_
  rintro e w3 ⟨rfl, hg3⟩
  clear fa0 fa1 fa2 fa3 fa4 la
  have G3 := hid (gb_trans (gb_trans hg1 (gb_alloc (gb_refl _ none) _)) (gb_trans hg2 (gb_trans (gb_alloc (gb_refl _ none) _) hg3)))
  have A3 := hid ((A2.out.grow (gb_alloc (gb_refl _ _) _)).grow hg3)
  have B3 := hid ((Holds.new w2 _).grow hg3)
  obtain ⟨fb0, fb1, fb2, fb3, fb4⟩ := B3.out.cells
  have lb := B3.out.lt
  clear hg1 hg2 hg3 A2
  go_wp2_with fail
  refine (markValue_nil _ _ _ _ _ _ rfl).mono ?_
  rintro e w4 ⟨rfl, hg4⟩
  clear fb0 fb1 fb2 fb3 fb4 lb
  have B4 := hid (B3.out.grow hg4)
  obtain ⟨fb0, fb1, fb2, fb3, fb4⟩ := B4.out.cells
  have lb := B4.out.lt
  go_wp2_with fail
  refine (heldValue_nil _ _ _ _ _ _ rfl).mono ?_
  rintro e w5 ⟨rfl, hg5⟩
  clear fb0 fb1 fb2 fb3 fb4 lb
  go_wp2_with fail
  refine (C2.out _).mono ?_
  rintro e w6 ⟨rfl, hg6⟩
  have A6 := hid (((A3.out.grow hg4).grow hg5).grow hg6)
  obtain ⟨fa0, fa1, fa2, fa3, fa4⟩ := A6.out.cells
  have la := A6.out.lt
  go_wp2_with fail
  refine (eqValue_nil _ _ _ _ _ (by simp)).mono ?_
  rintro e w7 ⟨rfl, hg7⟩
  clear fa0 fa1 fa2 fa3 fa4 la
  have B7 := hid ((((B4.out.grow hg5).grow hg6).grow (gb_alloc (gb_refl _ _) _)).grow hg7)
  obtain ⟨fb0, fb1, fb2, fb3, fb4⟩ := B7.out.cells
  have lb := B7.out.lt
  go_wp2_with fail
  refine (heldValue_nil _ _ _ _ _ _ rfl).mono ?_
  rintro e w8 ⟨rfl, hg8⟩
  go_wp2_with fail
  go_ret
  exact ⟨rfl, gb_below (gb_trans (gb_trans (gb_trans (gb_trans (gb_trans G3.out hg4) hg5) hg6) (gb_trans (gb_alloc (gb_refl _ none) _) hg7)) hg8)⟩
theorem specTextValue_any (n : ByteArray) (w : World) : Calls Try.prog 26 #[.string n] w (Makes 3 0 n 0 w) := by
  go_enter Try.func26, Try.ntmps26
  go_wp2_with fail
  ((try simp only [Exit.inBlock, Exit.then]); refine bodyPost_ret (results_cell_row rfl _ _ _ _ _ (0, 0) _ rfl (heap_alloc_new _ _) Try.underlying31 rfl Try.info31) rfl ?_)
  exact ⟨rfl, gb_alloc (gb_refl _ _) _⟩
theorem implTextValue_any (n : ByteArray) (w : World) : Calls Try.prog 27 #[.string n] w (Makes 3 0 n 0 w) := by
  go_enter Try.func27, Try.ntmps27
  go_wp2_with fail
  ((try simp only [Exit.inBlock, Exit.then]); refine bodyPost_ret (results_cell_row rfl _ _ _ _ _ (0, 0) _ rfl (heap_alloc_new _ _) Try.underlying31 rfl Try.info31) rfl ?_)
  exact ⟨rfl, gb_alloc (gb_refl _ _) _⟩
set_option maxHeartbeats 1000000 in
theorem textValue_walk (a0 : ByteArray) (w : World) (_w0 : a0.size ≤ maxLen) : Calls Try.prog 6 #[.string a0] w fun e w' => e = .returned (.bool true) ∧ Below w.heap.size w w' := by
  unfold maxLen at _w0
  by_cases h : a0.size ≤ 1048576
  · have C1 := hid (fun w => specTextValue_any a0 w)
    have C2 := hid (fun w => implTextValue_any a0 w)
    go_enter Try.func6, Try.ntmps6
    go_wp2_with fail
    refine (C1.out _).mono ?_
    rintro e w1 ⟨rfl, hg1⟩
    go_wp2_with fail
    refine (C2.out _).mono ?_
    rintro e w2 ⟨rfl, hg2⟩
    have A2 := hid ((Holds.new w1 _).grow hg2)
    obtain ⟨fa0, fa1, fa2, fa3, fa4⟩ := A2.out.cells
    have la := A2.out.lt
    go_wp2_with fail
    refine (eqValue_nil _ _ _ _ _ (by omega)).mono ?_
    rintro e w3 ⟨rfl, hg3⟩
    clear fa0 fa1 fa2 fa3 fa4 la
    have G3 := hid (gb_trans (gb_trans hg1 (gb_alloc (gb_refl _ none) _)) (gb_trans hg2 (gb_trans (gb_alloc (gb_refl _ none) _) hg3)))
    have A3 := hid ((A2.out.grow (gb_alloc (gb_refl _ _) _)).grow hg3)
    have B3 := hid ((Holds.new w2 _).grow hg3)
    obtain ⟨fb0, fb1, fb2, fb3, fb4⟩ := B3.out.cells
    have lb := B3.out.lt
    clear hg1 hg2 hg3 A2
    go_wp2_with fail
    refine (markValue_nil _ _ _ _ _ _ rfl).mono ?_
    rintro e w4 ⟨rfl, hg4⟩
    clear fb0 fb1 fb2 fb3 fb4 lb
    have B4 := hid (B3.out.grow hg4)
    obtain ⟨fb0, fb1, fb2, fb3, fb4⟩ := B4.out.cells
    have lb := B4.out.lt
    go_wp2_with fail
    refine (heldValue_nil _ _ _ _ _ _ rfl).mono ?_
    rintro e w5 ⟨rfl, hg5⟩
    clear fb0 fb1 fb2 fb3 fb4 lb
    go_wp2_with fail
    refine (C2.out _).mono ?_
    rintro e w6 ⟨rfl, hg6⟩
    have A6 := hid (((A3.out.grow hg4).grow hg5).grow hg6)
    obtain ⟨fa0, fa1, fa2, fa3, fa4⟩ := A6.out.cells
    have la := A6.out.lt
    go_wp2_with fail
    refine (eqValue_nil _ _ _ _ _ (by omega)).mono ?_
    rintro e w7 ⟨rfl, hg7⟩
    clear fa0 fa1 fa2 fa3 fa4 la
    have B7 := hid ((((B4.out.grow hg5).grow hg6).grow (gb_alloc (gb_refl _ _) _)).grow hg7)
    obtain ⟨fb0, fb1, fb2, fb3, fb4⟩ := B7.out.cells
    have lb := B7.out.lt
    go_wp2_with fail
    refine (heldValue_nil _ _ _ _ _ _ rfl).mono ?_
    rintro e w8 ⟨rfl, hg8⟩
    go_wp2_with fail
    go_ret
    exact ⟨rfl, gb_below (gb_trans (gb_trans (gb_trans (gb_trans (gb_trans G3.out hg4) hg5) hg6) (gb_trans (gb_alloc (gb_refl _ none) _) hg7)) hg8)⟩
  · go_enter Try.func6, Try.ntmps6
    go_wp2_with fail
    go_ret
    exact ⟨rfl, Below.refl _ _⟩
theorem specArrayValue_any  (w : World) : Calls Try.prog 19 #[] w (Makes 4 0 ByteArray.empty 0 w) := by
  go_enter Try.func19, Try.ntmps19
  go_wp2_with fail
  ((try simp only [Exit.inBlock, Exit.then]); refine bodyPost_ret (results_cell_row rfl _ _ _ _ _ (0, 0) _ rfl (heap_alloc_new _ _) Try.underlying31 rfl Try.info31) rfl ?_)
  exact ⟨rfl, gb_alloc (gb_refl _ _) _⟩
theorem implArrayValue_any  (w : World) : Calls Try.prog 20 #[] w (Makes 4 0 ByteArray.empty 0 w) := by
  go_enter Try.func20, Try.ntmps20
  go_wp2_with fail
  ((try simp only [Exit.inBlock, Exit.then]); refine bodyPost_ret (results_cell_row rfl _ _ _ _ _ (0, 0) _ rfl (heap_alloc_new _ _) Try.underlying31 rfl Try.info31) rfl ?_)
  exact ⟨rfl, gb_alloc (gb_refl _ _) _⟩
set_option maxHeartbeats 1000000 in
theorem arrayValue_walk  (w : World)  : Calls Try.prog 4 #[] w fun e w' => e = .returned (.bool true) ∧ Below w.heap.size w w' := by
  have C1 := hid (fun w => specArrayValue_any  w)
  have C2 := hid (fun w => implArrayValue_any  w)
  go_enter Try.func4, Try.ntmps4
  go_wp2_with fail
  refine (C1.out _).mono ?_
  rintro e w1 ⟨rfl, hg1⟩
  go_wp2_with fail
  refine (C2.out _).mono ?_
  rintro e w2 ⟨rfl, hg2⟩
  have A2 := hid ((Holds.new w1 _).grow hg2)
  obtain ⟨fa0, fa1, fa2, fa3, fa4⟩ := A2.out.cells
  have la := A2.out.lt
  go_wp2_with fail
  refine (eqValue_nil _ _ _ _ _ (by simp)).mono ?_
  rintro e w3 ⟨rfl, hg3⟩
  clear fa0 fa1 fa2 fa3 fa4 la
  have G3 := hid (gb_trans (gb_trans hg1 (gb_alloc (gb_refl _ none) _)) (gb_trans hg2 (gb_trans (gb_alloc (gb_refl _ none) _) hg3)))
  have A3 := hid ((A2.out.grow (gb_alloc (gb_refl _ _) _)).grow hg3)
  have B3 := hid ((Holds.new w2 _).grow hg3)
  obtain ⟨fb0, fb1, fb2, fb3, fb4⟩ := B3.out.cells
  have lb := B3.out.lt
  clear hg1 hg2 hg3 A2
  go_wp2_with fail
  refine (markValue_nil _ _ _ _ _ _ rfl).mono ?_
  rintro e w4 ⟨rfl, hg4⟩
  clear fb0 fb1 fb2 fb3 fb4 lb
  have B4 := hid (B3.out.grow hg4)
  obtain ⟨fb0, fb1, fb2, fb3, fb4⟩ := B4.out.cells
  have lb := B4.out.lt
  go_wp2_with fail
  refine (heldValue_nil _ _ _ _ _ _ rfl).mono ?_
  rintro e w5 ⟨rfl, hg5⟩
  clear fb0 fb1 fb2 fb3 fb4 lb
  go_wp2_with fail
  refine (C2.out _).mono ?_
  rintro e w6 ⟨rfl, hg6⟩
  have A6 := hid (((A3.out.grow hg4).grow hg5).grow hg6)
  obtain ⟨fa0, fa1, fa2, fa3, fa4⟩ := A6.out.cells
  have la := A6.out.lt
  go_wp2_with fail
  refine (eqValue_nil _ _ _ _ _ (by simp)).mono ?_
  rintro e w7 ⟨rfl, hg7⟩
  clear fa0 fa1 fa2 fa3 fa4 la
  have B7 := hid ((((B4.out.grow hg5).grow hg6).grow (gb_alloc (gb_refl _ _) _)).grow hg7)
  obtain ⟨fb0, fb1, fb2, fb3, fb4⟩ := B7.out.cells
  have lb := B7.out.lt
  go_wp2_with fail
  refine (heldValue_nil _ _ _ _ _ _ rfl).mono ?_
  rintro e w8 ⟨rfl, hg8⟩
  go_wp2_with fail
  go_ret
  exact ⟨rfl, gb_below (gb_trans (gb_trans (gb_trans (gb_trans (gb_trans G3.out hg4) hg5) hg6) (gb_trans (gb_alloc (gb_refl _ none) _) hg7)) hg8)⟩
theorem specBoolValue_any (n : Bool) (w : World) : Calls Try.prog 32 #[.bool n] w (Makes 1 (if n = true then 1 else 0) ByteArray.empty 0 w) := by
  cases n
  all_goals
    go_enter Try.func32, Try.ntmps32
    go_wp2_with fail
    ((try simp only [Exit.inBlock, Exit.then]); refine bodyPost_ret (results_cell_row rfl _ _ _ _ _ (0, 0) _ rfl (heap_alloc_new _ _) Try.underlying31 rfl Try.info31) rfl ?_)
    exact ⟨rfl, gb_alloc (gb_refl _ _) _⟩
theorem implBoolValue_any (n : Bool) (w : World) : Calls Try.prog 33 #[.bool n] w (Makes 1 (if n = true then 1 else 0) ByteArray.empty 0 w) := by
  cases n
  all_goals
    go_enter Try.func33, Try.ntmps33
    go_wp2_with fail
    ((try simp only [Exit.inBlock, Exit.then]); refine bodyPost_ret (results_cell_row rfl _ _ _ _ _ (0, 0) _ rfl (heap_alloc_new _ _) Try.underlying31 rfl Try.info31) rfl ?_)
    exact ⟨rfl, gb_alloc (gb_refl _ _) _⟩
set_option maxHeartbeats 1000000 in
theorem boolValue_walk (a0 : Bool) (w : World)  : Calls Try.prog 8 #[.bool a0] w fun e w' => e = .returned (.bool true) ∧ Below w.heap.size w w' := by
  obtain ⟨N, hN⟩ : ∃ N : Int, (if a0 = true then 1 else 0) = N := ⟨_, rfl⟩
  have c1 := fun w => specBoolValue_any a0 w
  have c2 := fun w => implBoolValue_any a0 w
  rw [hN] at c1 c2
  have C1 := hid c1
  have C2 := hid c2
  clear hN c1 c2
  go_enter Try.func8, Try.ntmps8
  go_wp2_with fail
  refine (C1.out _).mono ?_
  rintro e w1 ⟨rfl, hg1⟩
  go_wp2_with fail
  refine (C2.out _).mono ?_
  rintro e w2 ⟨rfl, hg2⟩
  have A2 := hid ((Holds.new w1 _).grow hg2)
  obtain ⟨fa0, fa1, fa2, fa3, fa4⟩ := A2.out.cells
  have la := A2.out.lt
  go_wp2_with fail
  refine (eqValue_nil _ _ _ _ _ (by simp)).mono ?_
  rintro e w3 ⟨rfl, hg3⟩
  clear fa0 fa1 fa2 fa3 fa4 la
  have G3 := hid (gb_trans (gb_trans hg1 (gb_alloc (gb_refl _ none) _)) (gb_trans hg2 (gb_trans (gb_alloc (gb_refl _ none) _) hg3)))
  have A3 := hid ((A2.out.grow (gb_alloc (gb_refl _ _) _)).grow hg3)
  have B3 := hid ((Holds.new w2 _).grow hg3)
  obtain ⟨fb0, fb1, fb2, fb3, fb4⟩ := B3.out.cells
  have lb := B3.out.lt
  clear hg1 hg2 hg3 A2
  go_wp2_with fail
  refine (markValue_nil _ _ _ _ _ _ rfl).mono ?_
  rintro e w4 ⟨rfl, hg4⟩
  clear fb0 fb1 fb2 fb3 fb4 lb
  have B4 := hid (B3.out.grow hg4)
  obtain ⟨fb0, fb1, fb2, fb3, fb4⟩ := B4.out.cells
  have lb := B4.out.lt
  go_wp2_with fail
  refine (heldValue_nil _ _ _ _ _ _ rfl).mono ?_
  rintro e w5 ⟨rfl, hg5⟩
  clear fb0 fb1 fb2 fb3 fb4 lb
  go_wp2_with fail
  refine (C2.out _).mono ?_
  rintro e w6 ⟨rfl, hg6⟩
  have A6 := hid (((A3.out.grow hg4).grow hg5).grow hg6)
  obtain ⟨fa0, fa1, fa2, fa3, fa4⟩ := A6.out.cells
  have la := A6.out.lt
  go_wp2_with fail
  refine (eqValue_nil _ _ _ _ _ (by simp)).mono ?_
  rintro e w7 ⟨rfl, hg7⟩
  clear fa0 fa1 fa2 fa3 fa4 la
  have B7 := hid ((((B4.out.grow hg5).grow hg6).grow (gb_alloc (gb_refl _ _) _)).grow hg7)
  obtain ⟨fb0, fb1, fb2, fb3, fb4⟩ := B7.out.cells
  have lb := B7.out.lt
  go_wp2_with fail
  refine (heldValue_nil _ _ _ _ _ _ rfl).mono ?_
  rintro e w8 ⟨rfl, hg8⟩
  go_wp2_with fail
  go_ret
  exact ⟨rfl, gb_below (gb_trans (gb_trans (gb_trans (gb_trans (gb_trans G3.out hg4) hg5) hg6) (gb_trans (gb_alloc (gb_refl _ none) _) hg7)) hg8)⟩
end Go.Proofs.Ytcgnepgfdipiiaa
