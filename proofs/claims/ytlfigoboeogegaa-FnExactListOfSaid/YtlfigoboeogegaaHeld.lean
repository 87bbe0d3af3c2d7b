/- A region that draws its order and holds calls that make memory: its loads taken first, then its calls one behind the other. No program in sight. -/
import Derived.Test.YtlfigoboeogegaaStill
import Derived.OrdersHeld
namespace Go.Proofs.Ytlfigoboeogegaa
open Go.RowKit
set_option linter.unusedVariables false
variable {P : Program}
theorem wp_region_grown {id : Nat} {ops : Array Oper} {Q : Exit → Act → World → Prop} {a : Act} {w : World} (n : Nat) (hn : ops.size = n) (hm : P.follows .mixedOrders = true)
    (h : ∀ wd, w.grownBy wd none → wpAnyH P .any ops Q (fun w' => w.grownBy w' none) n (Array.replicate n false) a wd) : (Code.region id ops true).wp P Q a w := by
  subst hn
  exact wp_region_held hm (h _ (gb_drew (gb_refl w none)))
section
variable {md : Region.Mode} {ops : Array Oper} {Q : Exit → Act → World → Prop} {fuel : Nat} {listed : Array Bool} {a : Act} {w wd : World}
/-- A load of a struct, taken first. -/
theorem held_load (i : Nat) {oi : Oper} (hi : ops[i]? = some oi) (dd : Option Tmp) (hdd : oi.dst = dd) (hs : Region.noSelect ops = true) (hf : Region.free md ops listed i = true) (hr : (Region.ready md ops listed).contains i = true)
    (hQ : ∀ v c a w, Q (.panic c) (a.put dd v) w → Q (.panic c) a w) (ty : TypeId) (x : Operand) (ho : oi.op = .load ty x) (hgd : oi.guard = none) (g o : Nat) (hx : a.eval x = .pointer (some ⟨g, o, none⟩))
    (vs : List Value) (hh : w.rangeAt g o vs) (hb : g < w.heap.size) {d : TypeDesc} (hu : P.underlying ty = some d) (hd : d.isRow = true) (hsz : (P.info? ty).map (·.size) = some vs.length) (hS : w.grownBy wd none)
    (h : wpAnyH P md ops Q (fun w' => w.grownBy w' none) fuel (listed.setIfInBounds i true) (a.put dd (.agg vs.toArray)) wd) : wpAnyH P md ops Q (fun w' => w.grownBy w' none) (fuel + 1) listed a wd := by
  subst hdd
  exact wpAnyH_take hi hs hf hr (hQ _) (yieldsIf_load_mid (by simp only [Region.wanted, hgd]) ty x ho g o hx vs d (fun w' hw => rangeAt_grow hh hw hb) hu hd hsz) hS h
/-- A load of one cell, taken first. -/
theorem held_load1 (i : Nat) {oi : Oper} (hi : ops[i]? = some oi) (dd : Option Tmp) (hdd : oi.dst = dd) (hs : Region.noSelect ops = true) (hf : Region.free md ops listed i = true) (hr : (Region.ready md ops listed).contains i = true)
    (hQ : ∀ v c a w, Q (.panic c) (a.put dd v) w → Q (.panic c) a w) (v : Value) (hgd : oi.guard = none) (hrun : ∀ w', w.grownBy w' none → (execOp a.eval oi).run P w' = .ok (.value v) w') (hS : w.grownBy wd none)
    (h : wpAnyH P md ops Q (fun w' => w.grownBy w' none) fuel (listed.setIfInBounds i true) (a.put dd v) wd) : wpAnyH P md ops Q (fun w' => w.grownBy w' none) (fuel + 1) listed a wd := by
  subst hdd
  exact wpAnyH_take hi hs hf hr (hQ _) (.inl ⟨by simp only [Region.wanted, hgd], hrun⟩) hS h
/-- A call, the one operation that may come up. -/
theorem held_call (i : Nat) {oi : Oper} (hi : ops[i]? = some oi) (dd : Option Tmp) (hdd : oi.dst = dd) (hr : Region.ready md ops listed = [i]) (hgd : oi.guard = none) (F : FuncId) (args : Array Value)
    (hrun : (execOp a.eval oi).run P wd = .ok (.enter F args) wd) {R : Ending → World → Prop} (hc : Calls P F args wd R)
    (h : ∀ e w', R e w' → ∃ v, e = .returned v ∧ w.grownBy w' none ∧ wpAnyH P md ops Q (fun w' => w.grownBy w' none) fuel (listed.setIfInBounds i true) (a.put dd v) w') :
    wpAnyH P md ops Q (fun w' => w.grownBy w' none) (fuel + 1) listed a wd := by
  subst hdd
  refine wpAnyH_all hr (by simp) fun j hj => ?_
  obtain rfl : j = i := by simpa using hj
  unfold wpOp
  simp only [hi, Region.wanted, hgd, if_true]
  left
  unfold Oper.wp
  rw [hrun, Oper.upon_enter]
  refine hc.mono fun e w' hR => ?_
  obtain ⟨v, rfl, h1, h2⟩ := h e w' hR
  exact ⟨h1, h2⟩
/-- A pure operation, the one that may come up. -/
theorem held_val (i : Nat) {oi : Oper} (hi : ops[i]? = some oi) (dd : Option Tmp) (hdd : oi.dst = dd) (hr : Region.ready md ops listed = [i]) (hgd : oi.guard = none) (v : Value) (hrun : (execOp a.eval oi).run P wd = .ok (.value v) wd) (hS : w.grownBy wd none)
    (h : wpAnyH P md ops Q (fun w' => w.grownBy w' none) fuel (listed.setIfInBounds i true) (a.put dd v) wd) :
    wpAnyH P md ops Q (fun w' => w.grownBy w' none) (fuel + 1) listed a wd := by
  subst hdd
  refine wpAnyH_all hr (by simp) fun j hj => ?_
  obtain rfl : j = i := by simpa using hj
  unfold wpOp
  simp only [hi, Region.wanted, hgd, if_true]
  left
  unfold Oper.wp
  rw [hrun, Oper.upon_value]
  exact ⟨hS, h⟩
end
def callable (P : Program) (F : FuncId) : Bool := match P.funcs[F]? with
  | some fn => !(fn.name == "runtime.NumGoroutine") && !fn.body.isNone
  | none => false
theorem run_callF {F : FuncId} (h : callable P F = true) (args : Array Value) (w : World) : (callFunc F args).run P w = .ok (.enter F args) w := by
  unfold callable at h
  unfold callFunc
  simp only [Sem.run_bind, run_program, Result.andThen_ok]
  split at h
  · rename_i fn hf
    simp only [hf]
    simp only [Bool.and_eq_true, Bool.not_eq_true'] at h
    rw [if_neg (by simp [h.1]), if_neg (by simp [h.2])]
    rfl
  · cases h
theorem run_call1 {o : Oper} {a : Act} {w : World} (F : FuncId) (h : callable P F = true) (x : Operand) (ts : Array TypeId) (v : Value) (ho : o.op = .call { callee := .value (.func F), args := #[x], argTypes := ts }) (hx : a.eval x = v) : (execOp a.eval o).run P w = .ok (.enter F #[v]) w := by
  unfold execOp
  simp only [ho]
  subst hx
  simp [go_sem, run_callF h]
theorem run_call2 {o : Oper} {a : Act} {w : World} (F : FuncId) (h : callable P F = true) (x y : Operand) (ts : Array TypeId) (v u : Value) (ho : o.op = .call { callee := .value (.func F), args := #[x, y], argTypes := ts }) (hx : a.eval x = v) (hy : a.eval y = u) : (execOp a.eval o).run P w = .ok (.enter F #[v, u]) w := by
  unfold execOp
  simp only [ho]
  subst hx hy
  simp [go_sem, run_callF h]
theorem run_asg {o : Oper} {a : Act} {w : World} (x : Operand) (ho : o.op = .assign x) {v : Value} (hx : a.eval x = v) : (execOp a.eval o).run P w = .ok (.value v) w := by
  unfold execOp
  simp only [ho, hx]
  rfl
theorem run_mov {o : Oper} {a : Act} {w : World} (x : Operand) (ho : o.op = .move x) {v : Value} (hx : a.eval x = v) : (execOp a.eval o).run P w = .ok (.value v) w := by
  unfold execOp
  simp only [ho, hx]
  rfl
theorem run_not {o : Oper} {a : Act} {w : World} (t d : Nat) (ho : o.op = .unOp .not t (.tmp d)) {b : Bool} (hx : a.eval (.tmp d) = .bool b) : (execOp a.eval o).run P w = .ok (.value (.bool !b)) w := by
  unfold execOp
  simp only [ho, hx]
  simp [go_sem]
section
variable {md : Region.Mode} {ops : Array Oper} {Q : Exit → Act → World → Prop} {fuel : Nat} {listed : Array Bool} {a : Act} {w wd : World}
theorem held_call1 (i : Nat) {oi : Oper} (hi : ops[i]? = some oi) (dd : Option Tmp) (hdd : oi.dst = dd) (hr : Region.ready md ops listed = [i]) (hgd : oi.guard = none) (F : FuncId) (hcl : callable P F = true) (x : Operand) (ts : Array TypeId) (v : Value)
    (ho : oi.op = .call { callee := .value (.func F), args := #[x], argTypes := ts }) (hx : a.eval x = v) {R : Ending → World → Prop} (hc : Calls P F #[v] wd R)
    (h : ∀ e w', R e w' → ∃ v, e = .returned v ∧ w.grownBy w' none ∧ wpAnyH P md ops Q (fun w' => w.grownBy w' none) fuel (listed.setIfInBounds i true) (a.put dd v) w') :
    wpAnyH P md ops Q (fun w' => w.grownBy w' none) (fuel + 1) listed a wd := held_call i hi dd hdd hr hgd F _ (run_call1 F hcl x ts v ho hx) hc h
theorem held_call2 (i : Nat) {oi : Oper} (hi : ops[i]? = some oi) (dd : Option Tmp) (hdd : oi.dst = dd) (hr : Region.ready md ops listed = [i]) (hgd : oi.guard = none) (F : FuncId) (hcl : callable P F = true) (x y : Operand) (ts : Array TypeId) (v u : Value)
    (ho : oi.op = .call { callee := .value (.func F), args := #[x, y], argTypes := ts }) (hx : a.eval x = v) (hy : a.eval y = u) {R : Ending → World → Prop} (hc : Calls P F #[v, u] wd R)
    (h : ∀ e w', R e w' → ∃ v, e = .returned v ∧ w.grownBy w' none ∧ wpAnyH P md ops Q (fun w' => w.grownBy w' none) fuel (listed.setIfInBounds i true) (a.put dd v) w') :
    wpAnyH P md ops Q (fun w' => w.grownBy w' none) (fuel + 1) listed a wd := held_call i hi dd hdd hr hgd F _ (run_call2 F hcl x y ts v u ho hx hy) hc h
theorem held_not (i : Nat) {oi : Oper} (hi : ops[i]? = some oi) (dd : Option Tmp) (hdd : oi.dst = dd) (hr : Region.ready md ops listed = [i]) (hgd : oi.guard = none) (t : TypeId) (d : Tmp) (ho : oi.op = .unOp .not t (.tmp d)) (b : Bool) (hx : a.eval (.tmp d) = .bool b) (hS : w.grownBy wd none)
    (h : wpAnyH P md ops Q (fun w' => w.grownBy w' none) fuel (listed.setIfInBounds i true) (a.put dd (.bool !b)) wd) :
    wpAnyH P md ops Q (fun w' => w.grownBy w' none) (fuel + 1) listed a wd := held_val i hi dd hdd hr hgd _ (run_not t d ho hx) hS h
end
section
variable {md : Region.Mode} {ops : Array Oper} {Q : Exit → Act → World → Prop} {fuel : Nat} {listed : Array Bool} {a : Act} {w wd : World}
theorem held_assign (i : Nat) {oi : Oper} (hi : ops[i]? = some oi) (dd : Option Tmp) (hdd : oi.dst = dd) (hr : Region.ready md ops listed = [i]) (hgd : oi.guard = none) (x : Operand) (ho : oi.op = .assign x) (v : Value) (hx : a.eval x = v) (hS : w.grownBy wd none)
    (h : wpAnyH P md ops Q (fun w' => w.grownBy w' none) fuel (listed.setIfInBounds i true) (a.put dd v) wd) :
    wpAnyH P md ops Q (fun w' => w.grownBy w' none) (fuel + 1) listed a wd := held_val i hi dd hdd hr hgd v (run_asg x ho hx) hS h
theorem run_call3 {o : Oper} {a : Act} {w : World} (F : FuncId) (h : callable P F = true) (x y z : Operand) (ts : Array TypeId) (v u r : Value) (ho : o.op = .call { callee := .value (.func F), args := #[x, y, z], argTypes := ts }) (hx : a.eval x = v) (hy : a.eval y = u) (hz : a.eval z = r) : (execOp a.eval o).run P w = .ok (.enter F #[v, u, r]) w := by
  unfold execOp
  simp only [ho]
  subst hx hy hz
  simp [go_sem, run_callF h]
theorem held_call3 (i : Nat) {oi : Oper} (hi : ops[i]? = some oi) (dd : Option Tmp) (hdd : oi.dst = dd) (hr : Region.ready md ops listed = [i]) (hgd : oi.guard = none) (F : FuncId) (hcl : callable P F = true) (x y z : Operand) (ts : Array TypeId) (v u r : Value)
    (ho : oi.op = .call { callee := .value (.func F), args := #[x, y, z], argTypes := ts }) (hx : a.eval x = v) (hy : a.eval y = u) (hz : a.eval z = r) {R : Ending → World → Prop} (hc : Calls P F #[v, u, r] wd R)
    (h : ∀ e w', R e w' → ∃ v, e = .returned v ∧ w.grownBy w' none ∧ wpAnyH P md ops Q (fun w' => w.grownBy w' none) fuel (listed.setIfInBounds i true) (a.put dd v) w') :
    wpAnyH P md ops Q (fun w' => w.grownBy w' none) (fuel + 1) listed a wd := held_call i hi dd hdd hr hgd F _ (run_call3 F hcl x y z ts v u r ho hx hy hz) hc h
end
theorem HoldsT.rangeV {w : World} {g : Nat} {cs : Array Value} {ty : TypeId} (h : HoldsT w g cs ty) : w.rangeAt g 0 cs.toList := h.range 0 cs.toList (by rw [List.drop_zero]; exact List.take_length)
end Go.Proofs.Ytlfigoboeogegaa
