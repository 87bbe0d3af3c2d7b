/- A region that draws its order, of which all but the last operations only read: passed in the order of the text, loads of structs in one step. No program in sight. -/
import Derived.Test.YtlfigoboeogegaaRows8
import Derived.StillTailTactics
namespace Go.Proofs.Ytlfigoboeogegaa
open Go.RowKit
set_option linter.unusedVariables false
variable {P : Program}
theorem wp_region_tail {id : Nat} {Q : Exit → Act → World → Prop} {a : Act} {w : World} {l : List Oper} (n : Nat) (hm : P.follows .mixedOrders = true) (hB : Region.lexTailB .any l.toArray n = true)
    (h : ∀ wd, w.grownBy wd none → wpStill P l.toArray wd (fun a' => wpList P l.toArray Q (l.drop n) a' wd) (l.take n) a) : (Code.region id l.toArray true).wp P Q a w :=
  wp_region_still_tail n hm hB (h _ (gb_drew (gb_refl w none)))
theorem wpStill_loadR {ops : Array Oper} {w : World} {rest : List Oper} {op : Oper} {a : Act} {Q : Act → Prop} (hgd : op.guard = none) (ty : TypeId) (x : Operand) (ho : op.op = .load ty x)
    (b o : Nat) (hx : a.eval x = .pointer (some ⟨b, o, none⟩)) (cs : List Value) (hc : w.rangeAt b o cs) {d : TypeDesc} (hu : P.underlying ty = some d) (hd : d.isRow = true) (hi : (P.info? ty).map (·.size) = some cs.length)
    (h : wpStill P ops w Q rest (a.put op.dst (.agg cs.toArray))) : wpStill P ops w Q (op :: rest) a := by
  refine wpStill_step fun K hK => ?_
  simp only [Region.wanted, hgd, if_true, Oper.still]
  unfold execOp
  simp only [ho, hx, Instr.loadAt, Instr.sureAddr, Sem.run_bind, Sem.run_pure, Result.andThen_ok, run_loadVar_mid w b o ty cs d hc hu hd hi]
  rw [Oper.stillUpon_value]
  exact hK _ h
/-- The same at a load under a guard that says yes. -/
theorem wpStill_loadW {ops : Array Oper} {w : World} {rest : List Oper} {op : Oper} {a : Act} {Q : Act → Prop} (hw : Region.wanted op (yielded ops a.tmps) = true) (ty : TypeId) (x : Operand) (ho : op.op = .load ty x)
    (b o : Nat) (hx : a.eval x = .pointer (some ⟨b, o, none⟩)) (cs : List Value) (hc : w.rangeAt b o cs) {d : TypeDesc} (hu : P.underlying ty = some d) (hd : d.isRow = true) (hi : (P.info? ty).map (·.size) = some cs.length)
    (h : wpStill P ops w Q rest (a.put op.dst (.agg cs.toArray))) : wpStill P ops w Q (op :: rest) a := by
  refine wpStill_step fun K hK => ?_
  rw [if_pos hw]
  simp only [Oper.still]
  unfold execOp
  simp only [ho, hx, Instr.loadAt, Instr.sureAddr, Sem.run_bind, Sem.run_pure, Result.andThen_ok, run_loadVar_mid w b o ty cs d hc hu hd hi]
  rw [Oper.stillUpon_value]
  exact hK _ h
/-- The same walk with the goal's head hidden: an operation under a guard would else be reckoned out by every tactic. -/
theorem hs_step {ops : Array Oper} {w : World} {Q : Act → Prop} {a : Act} {o : Oper} {rest : List Oper}
    (h : ∀ K : Act → Prop, (∀ a, Hid (wpStill P ops w Q rest a) → K a) → if Region.wanted o (yielded ops a.tmps) then o.still P a w K else K (a.put o.dst undef)) : Hid (wpStill P ops w Q (o :: rest) a) :=
  hid (wpStill_step fun K hK => h K fun a ha => hK a ha.out)
theorem hs_nil {ops : Array Oper} {w : World} {Q : Act → Prop} {a : Act} (h : Q a) : Hid (wpStill P ops w Q [] a) := hid (wpStill_nil h)
theorem hs_out {p : Prop} (h : Hid p) : p := h.out
theorem hs_load {ops : Array Oper} {w : World} {rest : List Oper} {op : Oper} {a : Act} {Q : Act → Prop} (hw : Region.wanted op (yielded ops a.tmps) = true) (ty : TypeId) (x : Operand) (ho : op.op = .load ty x)
    (b o : Nat) (hx : a.eval x = .pointer (some ⟨b, o, none⟩)) (cs : List Value) (hc : w.rangeAt b o cs) {d : TypeDesc} (hu : P.underlying ty = some d) (hd : d.isRow = true) (hi : (P.info? ty).map (·.size) = some cs.length)
    (h : Hid (wpStill P ops w Q rest (a.put op.dst (.agg cs.toArray)))) : Hid (wpStill P ops w Q (op :: rest) a) :=
  hid (wpStill_loadW hw ty x ho b o hx cs hc hu hd hi h.out)
/-- The cells of an entry in a row. -/
theorem RowF.range {w : World} {t : Bool} {m : Int} {s : ByteArray} {kd nm : Int} {u : ByteArray} {x : Int} {sub rest : Forest} {A : Option Addr} {k n : Nat} {L : List Nat} (h : RowF w (.cons t m s kd nm u x sub rest) A k n L) :
    ∃ b o SA sc Ls Lr, A = some ⟨b, o, none⟩ ∧ b < w.heap.size ∧ w.rangeAt b (o + k * 8) [.bool t, .int .i64 m, .string s, .int .i64 kd, .int .i64 nm, .string u, .int .i64 x, .slice SA sub.len sc] ∧ (SA = none → sc = 0) ∧ RowF w sub SA 0 sub.len Ls ∧ RowF w rest A (k + 1) n Lr ∧ L = blk SA ++ (Ls ++ Lr) := by
  obtain ⟨b, o, SA, sn, sc, Ls, Lr, rfl, hb, ⟨c0, c1, c2, c3, c4, c5, c6, c7⟩, h0, h1, h2, hL⟩ := h
  have hsn : sub.len = sn := by have := h1.len; omega
  subst hsn
  refine ⟨b, o, SA, sc, Ls, Lr, rfl, hb, fun j v hv => ?_, h0, h1, h2, hL⟩
  match j, hv with
  | 0, hv => cases hv; exact c0
  | 1, hv => cases hv; exact c1
  | 2, hv => cases hv; exact c2
  | 3, hv => cases hv; exact c3
  | 4, hv => cases hv; exact c4
  | 5, hv => cases hv; exact c5
  | 6, hv => cases hv; exact c6
  | 7, hv => cases hv; exact c7
  | j + 8, hv => simp at hv
theorem RowF.rest {w : World} {t : Bool} {m : Int} {s : ByteArray} {kd nm : Int} {u : ByteArray} {x : Int} {sub rest : Forest} {A : Option Addr} {k n : Nat} {L : List Nat} (h : RowF w (.cons t m s kd nm u x sub rest) A k n L) : ∃ Lr, RowF w rest A (k + 1) n Lr := by
  obtain ⟨b, o, SA, sn, sc, Ls, Lr, _, _, _, _, _, h2, _⟩ := h
  exact ⟨Lr, h2⟩
theorem rangeAt_grow {w w1 : World} {b o : Nat} {cs : List Value} (h : w.rangeAt b o cs) (hg : w.grownBy w1 none) (hb : b < w.heap.size) : w1.rangeAt b o cs := fun j v hv => (World.cell?_of_block (a := ⟨b, o + j, none⟩) (hg.block b hb (by simp))).trans (h j v hv)
/-- The part of a range from i on. -/
theorem rangeAt_part {w : World} {b o : Nat} {cs : List Value} (h : w.rangeAt b o cs) (i n : Nat) : w.rangeAt b (o + i) ((cs.drop i).take n) := fun j v hv => by
  have hj : j < n := by
    have := (List.getElem?_eq_some_iff.1 hv).1
    simp only [List.length_take] at this; omega
  rw [List.getElem?_take_of_lt hj, List.getElem?_drop] at hv
  rw [Nat.add_assoc]
  exact h _ _ hv
theorem wpList_loadR {ops : Array Oper} {rest : List Oper} {op : Oper} {a : Act} {w : World} {Q : Exit → Act → World → Prop} (hgd : op.guard = none) (ty : TypeId) (x : Operand) (ho : op.op = .load ty x)
    (b o : Nat) (hx : a.eval x = .pointer (some ⟨b, o, none⟩)) (cs : List Value) (hc : w.rangeAt b o cs) {d : TypeDesc} (hu : P.underlying ty = some d) (hd : d.isRow = true) (hi : (P.info? ty).map (·.size) = some cs.length)
    (h : wpList P ops Q rest (a.put op.dst (.agg cs.toArray)) w) : wpList P ops Q (op :: rest) a w :=
  wpList_load_mid hgd ty x ho b o hx cs d hc hu hd hi h
theorem range8 {w : World} {b o : Nat} {c0 c1 c2 c3 c4 c5 c6 c7 : Value} (h : w.rangeAt b o [c0, c1, c2, c3, c4, c5, c6, c7]) : w.cell? ⟨b, o, none⟩ = some c0 ∧ w.cell? ⟨b, o + 1, none⟩ = some c1 ∧ w.cell? ⟨b, o + 2, none⟩ = some c2 ∧ w.cell? ⟨b, o + 3, none⟩ = some c3 ∧
    w.cell? ⟨b, o + 4, none⟩ = some c4 ∧ w.cell? ⟨b, o + 5, none⟩ = some c5 ∧ w.cell? ⟨b, o + 6, none⟩ = some c6 ∧ w.cell? ⟨b, o + 7, none⟩ = some c7 :=
  ⟨h 0 _ rfl, h 1 _ rfl, h 2 _ rfl, h 3 _ rfl, h 4 _ rfl, h 5 _ rfl, h 6 _ rfl, h 7 _ rfl⟩
theorem range_val {w : World} {b o : Nat} {c0 c1 c2 c3 c4 c5 c6 c7 : Value} (h : w.rangeAt b o [c0, c1, c2, c3, c4, c5, c6, c7]) : w.rangeAt b (o + 3) [c3, c4, c5, c6, c7] := rangeAt_part h 3 5
theorem range_key {w : World} {b o : Nat} {c0 c1 c2 c3 c4 c5 c6 c7 : Value} (h : w.rangeAt b o [c0, c1, c2, c3, c4, c5, c6, c7]) : w.rangeAt b o [c0, c1, c2] := rangeAt_part h 0 3
end Go.Proofs.Ytlfigoboeogegaa
