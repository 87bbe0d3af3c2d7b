/- A struct stored into, loaded out of a block that holds so many cells: the laws by which a walk passes them in one step. No program in sight. -/
import Derived.Test.YtlfigoboeogegaaOwnT
import Derived.Deep.MidRow
namespace Go.Proofs.Ytlfigoboeogegaa
open Go.RowKit
set_option linter.unusedVariables false

def setArr (cs : Array Value) : Nat → List Value → Array Value
  | _, [] => cs
  | o, v :: r => setArr (cs.setIfInBounds o v) (o + 1) r
@[simp] theorem setArr_size : ∀ (vs : List Value) (o : Nat) (cs : Array Value), (setArr cs o vs).size = cs.size
  | [], _, _ => rfl
  | v :: r, o, cs => by rw [setArr, setArr_size r]; simp
theorem HoldsT.setCells {g : Nat} {ty : TypeId} : ∀ (vs : List Value) (o : Nat) {w : World} {cs : Array Value}, HoldsT w g cs ty → HoldsT (w.setCells g o vs) g (setArr cs o vs) ty
  | [], _, _, _, h => h
  | v :: r, o, _, _, h => HoldsT.setCells r (o + 1) (h.set o v)
theorem gb_setCells {w : World} {r : Option Nat} {g : Nat} (ha : w.heap.size ≤ g ∨ r = some g) : ∀ (vs : List Value) (o : Nat) {w1 : World}, w.grownBy w1 r → w.grownBy (w1.setCells g o vs) r
  | [], _, _, h => h
  | v :: q, o, _, h => gb_setCells ha q (o + 1) (gb_set h ha v)
theorem HoldsT.apart {w : World} {g g' : Nat} {cs : Array Value} {ty : TypeId} (h : HoldsT w g cs ty) (hne : g' ≠ g) (o : Nat) (vs : List Value) : HoldsT (w.setCells g' o vs) g cs ty :=
  h.kept (gb_setCells (.inr rfl) vs o (gb_refl w (some g'))) (by simpa using hne)
theorem HoldsT.there {w : World} {g : Nat} {cs : Array Value} {ty : TypeId} (h : HoldsT w g cs ty) (o n : Nat) (hn : o + n ≤ cs.size) : w.there g o n := fun j hj =>
  ⟨by rw [h.cell (o + j), Array.getElem?_eq_getElem (by omega)]; rfl, h.frozen _⟩
theorem HoldsT.range {w : World} {g : Nat} {cs : Array Value} {ty : TypeId} (h : HoldsT w g cs ty) (o : Nat) (vs : List Value) (hv : (cs.toList.drop o).take vs.length = vs) : w.rangeAt g o vs := fun j v hj => by
  rw [h.cell (o + j)]
  have hl : j < vs.length := (List.getElem?_eq_some_iff.1 hj).1
  rw [← hv, List.getElem?_take_of_lt hl, List.getElem?_drop] at hj
  simpa using hj
def setL (xs : List Value) : Nat → List Value → List Value
  | _, [] => xs
  | o, v :: r => setL (xs.set o v) (o + 1) r
theorem setL_app : ∀ (vs cs rs : List Value), vs.length ≤ rs.length → setL (cs ++ rs) cs.length vs = cs ++ vs ++ rs.drop vs.length
  | [], cs, rs, _ => by simp [setL]
  | v :: r, cs, [], h => by simp at h
  | v :: r, cs, x :: rs, h => by
    have ih := setL_app r (cs ++ [v]) rs (by simpa using h)
    have e : (cs ++ x :: rs).set cs.length v = (cs ++ [v]) ++ rs := by simp
    rw [setL, e]
    rw [List.length_append] at ih
    simp only [List.length_cons, List.length_nil, Nat.zero_add] at ih
    rw [ih]
    simp
theorem own_setCells {base : Nat} {e : TypeId} {size g n cap : Nat} : ∀ (vs : List Value) (o : Nat) {w : World} {xs : List Value}, w.ownsRow base e size (.slice (some ⟨g, 0, none⟩) n cap) n xs → (w.setCells g o vs).ownsRow base e size (.slice (some ⟨g, 0, none⟩) n cap) n (setL xs o vs)
  | [], _, _, _, h => h
  | v :: r, o, _, _, h => own_setCells r (o + 1) (h.stored o v).1
theorem own_there {w : World} {base : Nat} {e : TypeId} {size g n cap : Nat} {xs : List Value} (h : w.ownsRow base e size (.slice (some ⟨g, 0, none⟩) n cap) n xs) (o k : Nat) (hk : o + k ≤ n * size) : w.there g o k := fun j hj =>
  ⟨by rw [h.cellAt (o + j) (by omega), List.getElem?_eq_getElem (by rw [h.1]; omega)]; rfl, h.frozenAt _⟩
theorem cut8 (a b c d e f g h : Value) : ((#[a, b, c, d, e, f, g, h] : Array Value).toList.drop 0).take [a, b, c, d, e, f, g, h].length = [a, b, c, d, e, f, g, h] := rfl
theorem cut3 (a b c d e f g h : Value) : ((#[a, b, c, d, e, f, g, h] : Array Value).toList.drop 0).take [a, b, c].length = [a, b, c] := rfl
theorem cut35 (a b c d e f g h : Value) : ((#[a, b, c, d, e, f, g, h] : Array Value).toList.drop 3).take [d, e, f, g, h].length = [d, e, f, g, h] := rfl
theorem cut5 (a b c d e : Value) : ((#[a, b, c, d, e] : Array Value).toList.drop 0).take [a, b, c, d, e].length = [a, b, c, d, e] := rfl
variable {P : Program}
theorem wpList_storeT {ops : Array Oper} {rest : List Oper} {op : Oper} {a : Act} {w : World} {Q : Exit → Act → World → Prop} (hgd : op.guard = none) (ty : TypeId) (x y : Operand) (ho : op.op = .store ty x y)
    (g o : Nat) (vs : List Value) (hx : a.eval x = .pointer (some ⟨g, o, none⟩)) (hy : a.eval y = .agg vs.toArray) {cs : Array Value} {t : TypeId} (hh : HoldsT w g cs t) (hn : o + vs.length ≤ cs.size)
    (hi : (P.info? ty).map (·.size) = some vs.length) (h1 : vs.all (·.oneCell') = true)
    (h : wpList P ops Q rest (a.put op.dst undef) (w.setCells g o vs)) : wpList P ops Q (op :: rest) a w :=
  wpList_store_mid hgd ty x y ho g o vs.toArray hx hy (by simpa using hh.there o vs.length hn) (by simpa using hi) (all_oneCell_toArray (by simpa using h1)) (by simpa using h)
theorem wpList_storeO {ops : Array Oper} {rest : List Oper} {op : Oper} {a : Act} {w : World} {Q : Exit → Act → World → Prop} (hgd : op.guard = none) (ty : TypeId) (x y : Operand) (ho : op.op = .store ty x y)
    (g o : Nat) (vs : List Value) (hx : a.eval x = .pointer (some ⟨g, o, none⟩)) (hy : a.eval y = .agg vs.toArray) {base : Nat} {e : TypeId} {size n cap : Nat} {xs : List Value} (hh : w.ownsRow base e size (.slice (some ⟨g, 0, none⟩) n cap) n xs) (hn : o + vs.length ≤ n * size)
    (hi : (P.info? ty).map (·.size) = some vs.length) (h1 : vs.all (·.oneCell') = true)
    (h : wpList P ops Q rest (a.put op.dst undef) (w.setCells g o vs)) : wpList P ops Q (op :: rest) a w :=
  wpList_store_mid hgd ty x y ho g o vs.toArray hx hy (by simpa using own_there hh o vs.length hn) (by simpa using hi) (all_oneCell_toArray (by simpa using h1)) (by simpa using h)
theorem wpList_loadT {ops : Array Oper} {rest : List Oper} {op : Oper} {a : Act} {w : World} {Q : Exit → Act → World → Prop} (hgd : op.guard = none) (ty : TypeId) (x : Operand) (ho : op.op = .load ty x)
    (g o : Nat) (hx : a.eval x = .pointer (some ⟨g, o, none⟩)) {cs : Array Value} {t : TypeId} (hh : HoldsT w g cs t) (vs : List Value) (hv : (cs.toList.drop o).take vs.length = vs) {d : TypeDesc}
    (hu : P.underlying ty = some d) (hd : d.isRow = true) (hi : (P.info? ty).map (·.size) = some vs.length)
    (h : wpList P ops Q rest (a.put op.dst (.agg vs.toArray)) w) : wpList P ops Q (op :: rest) a w :=
  wpList_load_mid hgd ty x ho g o hx vs d (hh.range o vs hv) hu hd hi h
end Go.Proofs.Ytlfigoboeogegaa
