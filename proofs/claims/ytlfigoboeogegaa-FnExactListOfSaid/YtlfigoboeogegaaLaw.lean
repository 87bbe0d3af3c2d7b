/- Trees side by side, each between two bounds: what stays where one is written over. No program in sight. -/
import Derived.Test.YtlfigoboeogegaaMarkS
namespace Go.Proofs.Ytlfigoboeogegaa
open Go.RowKit
set_option linter.unusedVariables false

/-- A tree of the call's own in blocks from lo to hi. -/
def Tr (w : World) (e : TypeId) (lo hi : Nat) (f : Forest) (A : Option Addr) (L : List Nat) : Prop := OwnT w e lo f A L ∧ ∀ b ∈ blk A ++ L, b < hi
theorem Tr.grow {w w1 : World} {e : TypeId} {lo hi : Nat} {f : Forest} {A : Option Addr} {L : List Nat} (h : Tr w e lo hi f A L) (hg : w.grownBy w1 none) : Tr w1 e lo hi f A L := ⟨h.1.grow hg, h.2⟩
theorem own_tr {w w1 : World} {e : TypeId} {f : Forest} {A : Option Addr} {L : List Nat} {top : Nat} (h : OwnT w1 e w.heap.size f A L) (hg : w.grownBy w1 none) (ht : top ≤ w.heap.size) :
    ∃ lo hi, Tr w1 e lo hi f A L ∧ top ≤ lo ∧ lo ≤ hi ∧ hi ≤ w1.heap.size := ⟨w.heap.size, w1.heap.size, ⟨h, h.2.lt⟩, ht, hg.size, Nat.le_refl _⟩
/-- w' is w but for blocks from lo to hi, and new ones. -/
structure MkI (w w' : World) (lo hi : Nat) : Prop where
  os : w'.os = w.os
  tape : w'.tape = w.tape
  output : w'.output = w.output
  size : w.heap.size ≤ w'.heap.size
  block : ∀ k, k < w.heap.size → (k < lo ∨ hi ≤ k) → w'.heap[k]? = w.heap[k]?
theorem MkI.of {w w' : World} {S : List Nat} {lo hi : Nat} (h : MarkS w w' S) (hs : ∀ b ∈ S, lo ≤ b ∧ b < hi) : MkI w w' lo hi :=
  ⟨h.os, h.tape, h.output, h.size, fun k hk hb => h.block k hk (fun hm => by have := hs k hm; omega)⟩
theorem Tr.bounds {w : World} {e : TypeId} {lo hi : Nat} {f : Forest} {A : Option Addr} {L : List Nat} (h : Tr w e lo hi f A L) : ∀ b ∈ blk A ++ L, lo ≤ b ∧ b < hi := fun b hb => ⟨(h.1.2.2 b hb).1, h.2 b hb⟩
theorem Tr.mk' {w w' : World} {e : TypeId} {lo hi lo' hi' : Nat} {f : Forest} {A : Option Addr} {L : List Nat} (h : Tr w e lo' hi' f A L) (hm : MkI w w' lo hi) (hd : hi' ≤ lo ∨ hi ≤ lo') : Tr w' e lo' hi' f A L := by
  have hb : ∀ b ∈ blk A ++ L, b < lo ∨ hi ≤ b := fun b hb => by have := h.bounds b hb; omega
  exact ⟨⟨h.1.1.same hm.size (fun b hb2 hl => hm.block b hl (hb b hb2)), h.1.2.1, fun b hb2 => ⟨(h.1.2.2 b hb2).1, (h.1.2.2 b hb2).2.same (hm.block b (h.1.2.2 b hb2).2.lt (hb b hb2))⟩⟩, h.2⟩
theorem HoldsT.mk' {w w' : World} {g : Nat} {cs : Array Value} {ty : TypeId} {lo hi : Nat} (h : HoldsT w g cs ty) (hm : MkI w w' lo hi) (hd : g < lo ∨ hi ≤ g) : HoldsT w' g cs ty := (hm.block g h.lt hd).trans h
theorem gb_mk {W w w' : World} {lo hi : Nat} (h : W.grownBy w none) (hm : MkI w w' lo hi) (hl : W.heap.size ≤ lo) : W.grownBy w' none :=
  ⟨hm.os.trans h.os, hm.tape.trans h.tape, hm.output.trans h.output, Nat.le_trans h.size hm.size, fun k hk _ => (hm.block k (Nat.lt_of_lt_of_le hk h.size) (.inl (by omega))).trans (h.block k hk (by simp))⟩
end Go.Proofs.Ytlfigoboeogegaa
