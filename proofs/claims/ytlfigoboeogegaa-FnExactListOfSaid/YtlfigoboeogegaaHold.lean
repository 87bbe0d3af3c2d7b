/- A block that holds so many cells of a type. No program in sight. -/
import Derived.Test.YtlfigoboeogegaaMem
namespace Go.Proofs.Ytlfigoboeogegaa
open Go.RowKit

/-- Block g is a row of these cells, none of them frozen. -/
def HoldsT (w : World) (g : Nat) (cs : Array Value) (ty : TypeId) : Prop := w.heap[g]? = some (.cells cs ty (0, 0))
theorem HoldsT.kept {w w1 : World} {g : Nat} {cs : Array Value} {ty : TypeId} {r : Option Nat} (h : HoldsT w g cs ty) (hg : w.grownBy w1 r) (hr : r ≠ some g) : HoldsT w1 g cs ty := (hg.block g (Array.getElem?_eq_some_iff.1 h).1 (fun e => hr e.symm)).trans h
theorem HoldsT.grow {w w1 : World} {g : Nat} {cs : Array Value} {ty : TypeId} (h : HoldsT w g cs ty) (hg : w.grownBy w1 none) : HoldsT w1 g cs ty := h.kept hg (by simp)
theorem HoldsT.new (w : World) (cs : Array Value) (ty : TypeId) : HoldsT (w.alloc (.cells cs ty)) w.heap.size cs ty := heap_alloc_new w _
theorem HoldsT.alloc {w : World} {g : Nat} {cs : Array Value} {ty : TypeId} (h : HoldsT w g cs ty) (o : Obj) : HoldsT (w.alloc o) g cs ty := h.grow (gb_alloc (gb_refl _ _) _)
theorem HoldsT.lt {w : World} {g : Nat} {cs : Array Value} {ty : TypeId} (h : HoldsT w g cs ty) : g < w.heap.size := (Array.getElem?_eq_some_iff.1 h).1
theorem HoldsT.frozen {w : World} {g : Nat} {cs : Array Value} {ty : TypeId} (h : HoldsT w g cs ty) (j : Nat) : w.frozen? ⟨g, j, none⟩ = false := frozen_of_row w g j cs ty h
theorem HoldsT.cell {w : World} {g : Nat} {cs : Array Value} {ty : TypeId} (h : HoldsT w g cs ty) (j : Nat) : w.cell? ⟨g, j, none⟩ = cs[j]? := cell_of_row w g j _ _ _ h
theorem HoldsT.cells3 {w : World} {g : Nat} {a b c : Value} {ty : TypeId} (h : HoldsT w g #[a, b, c] ty) : w.cell? ⟨g, 0, none⟩ = some a ∧ w.cell? ⟨g, 1, none⟩ = some b ∧ w.cell? ⟨g, 2, none⟩ = some c :=
  ⟨h.cell 0, h.cell 1, h.cell 2⟩
theorem HoldsT.cells5 {w : World} {g : Nat} {a b c d e : Value} {ty : TypeId} (h : HoldsT w g #[a, b, c, d, e] ty) : w.cell? ⟨g, 0, none⟩ = some a ∧ w.cell? ⟨g, 1, none⟩ = some b ∧ w.cell? ⟨g, 2, none⟩ = some c ∧ w.cell? ⟨g, 3, none⟩ = some d ∧ w.cell? ⟨g, 4, none⟩ = some e :=
  ⟨h.cell 0, h.cell 1, h.cell 2, h.cell 3, h.cell 4⟩
theorem HoldsT.cells8 {w : World} {g : Nat} {a b c d e f i j : Value} {ty : TypeId} (h : HoldsT w g #[a, b, c, d, e, f, i, j] ty) : w.cell? ⟨g, 0, none⟩ = some a ∧ w.cell? ⟨g, 1, none⟩ = some b ∧ w.cell? ⟨g, 2, none⟩ = some c ∧ w.cell? ⟨g, 3, none⟩ = some d ∧
    w.cell? ⟨g, 4, none⟩ = some e ∧ w.cell? ⟨g, 5, none⟩ = some f ∧ w.cell? ⟨g, 6, none⟩ = some i ∧ w.cell? ⟨g, 7, none⟩ = some j :=
  ⟨h.cell 0, h.cell 1, h.cell 2, h.cell 3, h.cell 4, h.cell 5, h.cell 6, h.cell 7⟩
theorem HoldsT.pre (w : World) (cs : Array Value) (ty : TypeId) (o : Obj) : HoldsT ((w.alloc (.cells cs ty)).alloc o) w.heap.size cs ty := (HoldsT.new w cs ty).alloc o
/-- The block before the last of three. -/
theorem HoldsT.pre1 (w : World) (cs : Array Value) (ty : TypeId) (a o : Obj) : HoldsT (((w.alloc a).alloc (.cells cs ty)).alloc o) (w.heap.size + 1) cs ty := by
  have := HoldsT.pre (w.alloc a) cs ty o
  simpa using this
theorem HoldsT.pre2 (w : World) (cs : Array Value) (ty : TypeId) (a b : Obj) : HoldsT (((w.alloc a).alloc b).alloc (.cells cs ty)) (w.heap.size + 1 + 1) cs ty := by
  have := HoldsT.new ((w.alloc a).alloc b) cs ty
  simpa using this
theorem HoldsT.set {w : World} {g : Nat} {cs : Array Value} {ty : TypeId} (h : HoldsT w g cs ty) (j : Nat) (u : Value) : HoldsT (w.setCell ⟨g, j, none⟩ u) g (cs.setIfInBounds j u) ty := heap_setCell_same w g j cs ty u h
theorem HoldsT.set5 {w : World} {g : Nat} {a b c d e : Value} {ty : TypeId} (h : HoldsT w g #[a, b, c, d, e] ty) (a' b' c' d' e' : Value) :
    HoldsT (((((w.setCell ⟨g, 0, none⟩ a').setCell ⟨g, 1, none⟩ b').setCell ⟨g, 2, none⟩ c').setCell ⟨g, 3, none⟩ d').setCell ⟨g, 4, none⟩ e') g #[a', b', c', d', e'] ty :=
  ((((h.set 0 a').set 1 b').set 2 c').set 3 d').set 4 e'
theorem gb_set5 {w w1 : World} {r : Option Nat} (h : w.grownBy w1 r) {g : Nat} (ha : w.heap.size ≤ g ∨ r = some g) (a b c d e : Value) :
    w.grownBy (((((w1.setCell ⟨g, 0, none⟩ a).setCell ⟨g, 1, none⟩ b).setCell ⟨g, 2, none⟩ c).setCell ⟨g, 3, none⟩ d).setCell ⟨g, 4, none⟩ e) r :=
  gb_set (gb_set (gb_set (gb_set (gb_set h ha _) ha _) ha _) ha _) ha _
theorem HoldsT.setOther {w : World} {g : Nat} {cs : Array Value} {ty : TypeId} (h : HoldsT w g cs ty) {a : Addr} (ha : a.block ≠ g) (u : Value) : HoldsT (w.setCell a u) g cs ty :=
  (Below.heap_setCell _ _ _ _ (fun e => ha e.symm)).trans h
theorem HoldsT.set3 {w : World} {g : Nat} {a b c d e f i j : Value} {ty : TypeId} (h : HoldsT w g #[a, b, c, d, e, f, i, j] ty) (a' b' c' : Value) :
    HoldsT (((w.setCell ⟨g, 0, none⟩ a').setCell ⟨g, 1, none⟩ b').setCell ⟨g, 2, none⟩ c') g #[a', b', c', d, e, f, i, j] ty :=
  ((h.set 0 a').set 1 b').set 2 c'
theorem HoldsT.set35 {w : World} {g : Nat} {a b c d e f i j : Value} {ty : TypeId} (h : HoldsT w g #[a, b, c, d, e, f, i, j] ty) (d' e' f' i' j' : Value) :
    HoldsT (((((w.setCell ⟨g, 3, none⟩ d').setCell ⟨g, 4, none⟩ e').setCell ⟨g, 5, none⟩ f').setCell ⟨g, 6, none⟩ i').setCell ⟨g, 7, none⟩ j') g #[a, b, c, d', e', f', i', j'] ty := by
  have := ((((h.set 3 d').set 4 e').set 5 f').set 6 i').set 7 j'
  simpa using this
theorem HoldsT.set8 {w : World} {g : Nat} {a b c d e f i j : Value} {ty : TypeId} (h : HoldsT w g #[a, b, c, d, e, f, i, j] ty) (a' b' c' d' e' f' i' j' : Value) :
    HoldsT ((((((((w.setCell ⟨g, 0, none⟩ a').setCell ⟨g, 1, none⟩ b').setCell ⟨g, 2, none⟩ c').setCell ⟨g, 3, none⟩ d').setCell ⟨g, 4, none⟩ e').setCell ⟨g, 5, none⟩ f').setCell ⟨g, 6, none⟩ i').setCell ⟨g, 7, none⟩ j') g #[a', b', c', d', e', f', i', j'] ty := by
  have := (((((((h.set 0 a').set 1 b').set 2 c').set 3 d').set 4 e').set 5 f').set 6 i').set 7 j'
  simpa using this
theorem gb_set35 {w w1 : World} {r : Option Nat} (h : w.grownBy w1 r) {g : Nat} (ha : w.heap.size ≤ g ∨ r = some g) (a b c d e : Value) :
    w.grownBy (((((w1.setCell ⟨g, 3, none⟩ a).setCell ⟨g, 4, none⟩ b).setCell ⟨g, 5, none⟩ c).setCell ⟨g, 6, none⟩ d).setCell ⟨g, 7, none⟩ e) r :=
  gb_set (gb_set (gb_set (gb_set (gb_set h ha _) ha _) ha _) ha _) ha _
theorem gb_set3 {w w1 : World} {r : Option Nat} (h : w.grownBy w1 r) {g : Nat} (ha : w.heap.size ≤ g ∨ r = some g) (a b c : Value) :
    w.grownBy (((w1.setCell ⟨g, 0, none⟩ a).setCell ⟨g, 1, none⟩ b).setCell ⟨g, 2, none⟩ c) r :=
  gb_set (gb_set (gb_set h ha _) ha _) ha _
theorem gb_set8 {w w1 : World} {r : Option Nat} (h : w.grownBy w1 r) {g : Nat} (ha : w.heap.size ≤ g ∨ r = some g) (a b c d e f i j : Value) :
    w.grownBy ((((((((w1.setCell ⟨g, 0, none⟩ a).setCell ⟨g, 1, none⟩ b).setCell ⟨g, 2, none⟩ c).setCell ⟨g, 3, none⟩ d).setCell ⟨g, 4, none⟩ e).setCell ⟨g, 5, none⟩ f).setCell ⟨g, 6, none⟩ i).setCell ⟨g, 7, none⟩ j) r :=
  gb_set (gb_set (gb_set (gb_set5 h ha _ _ _ _ _) ha _) ha _) ha _
end Go.Proofs.Ytlfigoboeogegaa
