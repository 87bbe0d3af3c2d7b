/- The program's makers of values, KindName (printed by genmake.py). -/
import Derived.Test.YtmbochhmeojmfaaDoorValid
import Derived.Test.YtmbochhmeojmfaaDoorCopy
import Derived.Test.YtmbochhmeojmfaaDoorHeldF
namespace Go.Proofs.YtmbochhmeojmfaaDoor
set_option maxRecDepth 20000
open Go.RowKit
set_option linter.unusedVariables false

theorem implTextValue_any (s : ByteArray) (w : World) : Calls Tryd.prog 14 #[.string s] w fun e w' => e = .returned (.agg #[.int .i64 3, .int .i64 0, .string s, .int .i64 0, .slice none 0 0]) ∧ w.grownBy w' none := by
  go_enter Tryd.func14, Tryd.ntmps14
  go_wp2_with fail
  refine bodyPost_ret (results_cell_row rfl _ _ _ _ _ (0, 0) _ rfl (HoldsT.new _ _ _) Tryd.underlying26 rfl Tryd.infoV) rfl ?_
  exact ⟨rfl, gb_alloc (gb_refl _ _) _⟩
theorem implArrayValue_any (w : World) : Calls Tryd.prog 13 #[] w fun e w' => e = .returned (.agg #[.int .i64 4, .int .i64 0, .string { data := #[] }, .int .i64 0, .slice none 0 0]) ∧ w.grownBy w' none := by
  go_enter Tryd.func13, Tryd.ntmps13
  go_wp2_with fail
  refine bodyPost_ret (results_cell_row rfl _ _ _ _ _ (0, 0) _ rfl (HoldsT.new _ _ _) Tryd.underlying26 rfl Tryd.infoV) rfl ?_
  exact ⟨rfl, gb_alloc (gb_refl _ _) _⟩
theorem implNullValue_any (w : World) : Calls Tryd.prog 16 #[] w fun e w' => e = .returned (.agg #[.int .i64 0, .int .i64 0, .string { data := #[] }, .int .i64 0, .slice none 0 0]) ∧ w.grownBy w' none := by
  go_enter Tryd.func16, Tryd.ntmps16
  go_wp2_with fail
  refine bodyPost_ret (results_cell_row rfl _ _ _ _ _ (0, 0) _ rfl (HoldsT.new _ _ _) Tryd.underlying26 rfl Tryd.infoV) rfl ?_
  exact ⟨rfl, gb_alloc (gb_refl _ _) _⟩
theorem implBoolValue_t (w : World) : Calls Tryd.prog 17 #[.bool true] w fun e w' => e = .returned (.agg #[.int .i64 1, .int .i64 1, .string { data := #[] }, .int .i64 0, .slice none 0 0]) ∧ w.grownBy w' none := by
  go_enter Tryd.func17, Tryd.ntmps17
  go_wp2_with fail
  refine bodyPost_ret (results_cell_row rfl _ _ _ _ _ (0, 0) _ rfl (HoldsT.new _ _ _) Tryd.underlying26 rfl Tryd.infoV) rfl ?_
  exact ⟨rfl, gb_alloc (gb_refl _ _) _⟩
theorem implKind_any (k m x : Int) (us n : Nat) (hk : scalV k m x us n) (w : World) : Calls Tryd.prog 12 #[.int .i64 k] w fun e w' => ∃ s : ByteArray, e = .returned (.string s) ∧ s.toList.isEmpty = false ∧ w.grownBy w' none := by
  have hk2 : k = 0 ∨ k = 1 ∨ k = 2 ∨ k = 3 ∨ k = 4 ∨ k = 6 ∨ k = 7 ∨ k = 8 := by unfold scalV at hk; omega
  clear hk
  rcases hk2 with rfl | rfl | rfl | rfl | rfl | rfl | rfl | rfl
  all_goals
    go_enter Tryd.func12, Tryd.ntmps12
    go_wp2
    go_ret
    exact ⟨_, rfl, str_full (fun e => absurd (congrArg ByteArray.size e) (by decide)), gb_refl _ _⟩
section
variable {P : Program} {md : Region.Mode} {ops : Array Oper} {Q : Exit → Act → World → Prop} {S : World → Prop} {n fuel : Nat} {listed : Array Bool} {a : Act} {w : World}
theorem G_take (i : Nat) {oi : Oper} (hi : ops[i]? = some oi) (dd : Option Tmp) (hdd : oi.dst = dd) (hs : Region.noSelect ops = true) (hf : Region.free md ops listed i = true) (hr : (Region.ready md ops listed).contains i = true) (hcl : closedB md ops listed = true) (hwt : waitF md ops n i = true)
    (hQ : ∀ v c a w, Q (.panic c) (a.put oi.dst v) w → Q (.panic c) a w) (hw : Region.wanted oi (yielded ops a.tmps) = true) (v : Value) (hrun : ∀ w', S w' → (execOp a.eval oi).run P w' = .ok (.value v) w') (hS : S w)
    (h : wpAnyF P md ops Q S n fuel (listed.setIfInBounds i true) (a.put dd v) w) : wpAnyF P md ops Q S n (fuel + 1) listed a w := by
  subst hdd
  exact wpAnyF_first (T := S) hi (Region.noSelect_spec hs) (fun j oj hj hno w' h' => h' (waitF_spec hwt hj hno)) (hQ _) fuel listed a w (Region.free_spec hi hf) (closedB_spec hcl) (by simpa using hr) (.inl ⟨hw, hrun⟩) hS (fun w' h' _ => h') h
theorem G_load (i : Nat) {oi : Oper} (hi : ops[i]? = some oi) (dd : Option Tmp) (hdd : oi.dst = dd) (hs : Region.noSelect ops = true) (hf : Region.free md ops listed i = true) (hr : (Region.ready md ops listed).contains i = true) (hcl : closedB md ops listed = true) (hwt : waitF md ops n i = true)
    (hQ : ∀ v c a w, Q (.panic c) (a.put oi.dst v) w → Q (.panic c) a w) (hw : Region.wanted oi (yielded ops a.tmps) = true) (ty : TypeId) (x : Operand) (ho : oi.op = .load ty x) (g o : Nat) (hx : a.eval x = .pointer (some ⟨g, o, none⟩))
    (vs : List Value) (hh : ∀ w', S w' → w'.rangeAt g o vs) {d : TypeDesc} (hu : P.underlying ty = some d) (hd : d.isRow = true) (hsz : (P.info? ty).map (·.size) = some vs.length) (hS : S w)
    (h : wpAnyF P md ops Q S n fuel (listed.setIfInBounds i true) (a.put dd (.agg vs.toArray)) w) : wpAnyF P md ops Q S n (fuel + 1) listed a w := by
  subst hdd
  exact wpAnyF_first (T := S) hi (Region.noSelect_spec hs) (fun j oj hj hno w' h' => h' (waitF_spec hwt hj hno)) (hQ _) fuel listed a w (Region.free_spec hi hf) (closedB_spec hcl) (by simpa using hr) (yieldsIf_load_mid hw ty x ho g o hx vs d hh hu hd hsz) hS (fun w' h' _ => h') h
/-- An operation whose guard says no. -/
theorem G_skip (i : Nat) {oi : Oper} (hi : ops[i]? = some oi) (dd : Option Tmp) (hdd : oi.dst = dd) (hs : Region.noSelect ops = true) (hf : Region.free md ops listed i = true) (hr : (Region.ready md ops listed).contains i = true) (hcl : closedB md ops listed = true) (hwt : waitF md ops n i = true)
    (hQ : ∀ v c a w, Q (.panic c) (a.put oi.dst v) w → Q (.panic c) a w) (hw : Region.wanted oi (yielded ops a.tmps) = false) (hS : S w)
    (h : wpAnyF P md ops Q S n fuel (listed.setIfInBounds i true) (a.put dd undef) w) : wpAnyF P md ops Q S n (fuel + 1) listed a w := by
  subst hdd
  exact wpAnyF_first (T := S) hi (Region.noSelect_spec hs) (fun j oj hj hno w' h' => h' (waitF_spec hwt hj hno)) (hQ _) fuel listed a w (Region.free_spec hi hf) (closedB_spec hcl) (by simpa using hr) (.inr ⟨hw, rfl⟩) hS (fun w' h' _ => h') h
theorem G_call (i : Nat) {oi : Oper} (hi : ops[i]? = some oi) (dd : Option Tmp) (hdd : oi.dst = dd) (hw : Region.wanted oi (yielded ops a.tmps) = true) (F : FuncId) (args : Array Value) (hrun : (execOp a.eval oi).run P w = .ok (.enter F args) w) {R : Ending → World → Prop} (hc : Calls P F args w R) {K : Act → World → Prop}
    (h : ∀ e w', R e w' → ∃ v, e = .returned v ∧ K (a.put dd v) w') : wpOp P ops Q i K a w := by
  subst hdd
  unfold wpOp
  simp only [hi, hw, if_true]
  left
  unfold Oper.wp
  rw [hrun, Oper.upon_enter]
  refine hc.mono fun e w' hR => ?_
  obtain ⟨v, rfl, h2⟩ := h e w' hR
  exact h2
theorem run_call0 {o : Oper} {a : Act} {w : World} (F : FuncId) (h : callable P F = true) (ts : Array TypeId) (ho : o.op = .call { callee := .value (.func F), args := #[], argTypes := ts }) : (execOp a.eval o).run P w = .ok (.enter F #[]) w := by
  unfold execOp
  simp only [ho]
  simp [go_sem, run_callF h]
end
end Go.Proofs.YtmbochhmeojmfaaDoor
