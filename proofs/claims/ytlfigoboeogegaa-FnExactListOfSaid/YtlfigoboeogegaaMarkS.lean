/- Trees that are written over: what stays. No program in sight. -/
import Derived.Test.YtlfigoboeogegaaOwnT
import Derived.Test.YtlfigoboeogegaaStill
import Derived.Test.YtlfigoboeogegaaMarkT
namespace Go.Proofs.Ytlfigoboeogegaa
open Go.RowKit
set_option linter.unusedVariables false

/-- w' is w but for the blocks of S, and new ones. -/
structure MarkS (w w' : World) (S : List Nat) : Prop where
  os : w'.os = w.os
  tape : w'.tape = w.tape
  output : w'.output = w.output
  size : w.heap.size ≤ w'.heap.size
  block : ∀ k, k < w.heap.size → k ∉ S → w'.heap[k]? = w.heap[k]?
theorem MarkS.refl (w : World) (S : List Nat) : MarkS w w S := ⟨rfl, rfl, rfl, Nat.le_refl _, fun _ _ _ => rfl⟩
theorem MarkS.trans {w w1 w2 : World} {S : List Nat} (h : MarkS w w1 S) (k : MarkS w1 w2 S) : MarkS w w2 S :=
  ⟨k.os.trans h.os, k.tape.trans h.tape, k.output.trans h.output, Nat.le_trans h.size k.size, fun i hi hs => (k.block i (Nat.lt_of_lt_of_le hi h.size) hs).trans (h.block i hi hs)⟩
theorem MarkS.grow {w w1 w2 : World} {S : List Nat} (h : MarkS w w1 S) (k : w1.grownBy w2 none) : MarkS w w2 S :=
  ⟨k.os.trans h.os, k.tape.trans h.tape, k.output.trans h.output, Nat.le_trans h.size k.size, fun i hi hs => (k.block i (Nat.lt_of_lt_of_le hi h.size) (by simp)).trans (h.block i hi hs)⟩
theorem MarkS.of_grow {w w1 : World} {S : List Nat} (k : w.grownBy w1 none) : MarkS w w1 S := (MarkS.refl w S).grow k
/-- One entry is written over: n cells of block b from p on, and the blocks of S. -/
structure EntW (n : Nat) (w w' : World) (b p : Nat) (S : List Nat) : Prop where
  os : w'.os = w.os
  tape : w'.tape = w.tape
  output : w'.output = w.output
  size : w.heap.size ≤ w'.heap.size
  block : ∀ k, k < w.heap.size → k ≠ b → k ∉ S → w'.heap[k]? = w.heap[k]?
  cell : ∀ j, j < p ∨ p + n ≤ j → w'.cell? ⟨b, j, none⟩ = w.cell? ⟨b, j, none⟩
theorem EntW.refl (n : Nat) (w : World) (b p : Nat) (S : List Nat) : EntW n w w b p S := ⟨rfl, rfl, rfl, Nat.le_refl _, fun _ _ _ _ => rfl, fun _ _ => rfl⟩
theorem EntW.set {n : Nat} {w w1 : World} {b p : Nat} {S : List Nat} (h : EntW n w w1 b p S) (q : Nat) (hq : p ≤ q ∧ q < p + n) (v : Value) : EntW n w (w1.setCell ⟨b, q, none⟩ v) b p S :=
  ⟨h.os, h.tape, h.output, by simpa using h.size, fun k hk hb hs => by
    rw [Below.heap_setCell _ _ _ _ (by exact hb)]
    exact h.block k hk hb hs, fun j hj => by
    rw [World.cell?_setCell_other _ _ _ _ (by intro e; injection e; omega)]
    exact h.cell j hj⟩
theorem EntW.grow {n : Nat} {w w1 w2 : World} {b p : Nat} {S : List Nat} (h : EntW n w w1 b p S) (k : w1.grownBy w2 none) (hb : b < w1.heap.size) : EntW n w w2 b p S :=
  ⟨k.os.trans h.os, k.tape.trans h.tape, k.output.trans h.output, Nat.le_trans h.size k.size, fun i hi hn hs => (k.block i (Nat.lt_of_lt_of_le hi h.size) (by simp)).trans (h.block i hi hn hs),
    fun j hj => (World.cell?_of_block (a := ⟨b, j, none⟩) (k.block b hb (by simp))).trans (h.cell j hj)⟩
theorem EntW.mark {n : Nat} {w w1 w2 : World} {b p : Nat} {S : List Nat} (h : EntW n w w1 b p S) (k : MarkS w1 w2 S) (hb : b < w1.heap.size) (hbs : b ∉ S) : EntW n w w2 b p S :=
  ⟨k.os.trans h.os, k.tape.trans h.tape, k.output.trans h.output, Nat.le_trans h.size k.size, fun i hi hn hs => (k.block i (Nat.lt_of_lt_of_le hi h.size) hs).trans (h.block i hi hn hs),
    fun j hj => (World.cell?_of_block (a := ⟨b, j, none⟩) (k.block b hb hbs)).trans (h.cell j hj)⟩
theorem EntW.markS {n : Nat} {w w1 w2 : World} {b p : Nat} {S T : List Nat} (h0 : MarkS w w1 T) (h : EntW n w1 w2 b p S) (hb : b ∈ T) (hs : ∀ x ∈ S, x ∈ T) : MarkS w w2 T :=
  ⟨h.os.trans h0.os, h.tape.trans h0.tape, h.output.trans h0.output, Nat.le_trans h0.size h.size, fun i hi hn => (h.block i (Nat.lt_of_lt_of_le hi h0.size) (fun e => hn (e ▸ hb)) (fun e => hn (hs i e))).trans (h0.block i hi hn)⟩
theorem rangeAt_set {w : World} {b o : Nat} {cs : List Value} (h : w.rangeAt b o cs) (q j : Nat) (hq : q = o + j) (v : Value) : (w.setCell ⟨b, q, none⟩ v).rangeAt b o (cs.set j v) := fun i u hu => by
  subst hq
  by_cases e : j = i
  · subst e
    have hl : j < cs.length := by
      have := (List.getElem?_eq_some_iff.1 hu).1
      simpa using this
    rw [List.getElem?_set_self hl] at hu
    injection hu with hu
    subst hu
    exact World.cell?_setCell_same _ _ _ (h j _ (List.getElem?_eq_getElem hl))
  · rw [List.getElem?_set_ne e] at hu
    rw [World.cell?_setCell_other _ _ _ _ (by intro h; injection h; omega)]
    exact h i u hu
theorem rangeAt_grow' {w w1 : World} {b o : Nat} {cs : List Value} (h : w.rangeAt b o cs) (hg : w.grownBy w1 none) (hb : b < w.heap.size) : w1.rangeAt b o cs := rangeAt_grow h hg hb
theorem IsE.set {w : World} {e : TypeId} {b : Nat} (h : IsE w e b) (q : Nat) (v : Value) : IsE (w.setCell ⟨b, q, none⟩ v) e b := by
  obtain ⟨cur, h⟩ := h
  exact ⟨_, HoldsT.set h q v⟩
theorem IsE.frozen {w : World} {e : TypeId} {b : Nat} (h : IsE w e b) (q : Nat) : w.frozen? ⟨b, q, none⟩ = false := by
  obtain ⟨cur, h⟩ := h
  exact HoldsT.frozen h q
theorem IsE.markS {w w1 : World} {e : TypeId} {b : Nat} {S : List Nat} (h : IsE w e b) (hm : MarkS w w1 S) (hb : b ∉ S) : IsE w1 e b := h.same (hm.block b h.lt hb)
theorem RowF.part {w w' : World} (hsz : w.heap.size ≤ w'.heap.size) : ∀ {f : Forest} {A : Option Addr} {k n : Nat} {L : List Nat}, RowF w f A k n L → (∀ b o, A = some ⟨b, o, none⟩ → ∀ j, o + k * 8 ≤ j → j < o + n * 8 → w'.cell? ⟨b, j, none⟩ = w.cell? ⟨b, j, none⟩) →
    (∀ b ∈ L, b < w.heap.size → w'.heap[b]? = w.heap[b]?) → RowF w' f A k n L := by
  intro f
  induction f with
  | nil => intro A k n L h _ _; exact h
  | cons t m s kd nm u x sub rest _ ih =>
    rintro A k n L ⟨b, o, SA, sn, sc, Ls, Lr, rfl, hb, ⟨c0, c1, c2, c3, c4, c5, c6, c7⟩, h0, h1, h2, rfl⟩ hc hs
    have hn := h2.len
    have g : ∀ j v, j < 8 → w.cell? ⟨b, o + k * 8 + j, none⟩ = some v → w'.cell? ⟨b, o + k * 8 + j, none⟩ = some v := fun j v hj h => (hc b o rfl _ (by omega) (by omega)).trans h
    exact ⟨b, o, SA, sn, sc, Ls, Lr, rfl, Nat.lt_of_lt_of_le hb hsz, ⟨g 0 _ (by omega) c0, g 1 _ (by omega) c1, g 2 _ (by omega) c2, g 3 _ (by omega) c3, g 4 _ (by omega) c4, g 5 _ (by omega) c5, g 6 _ (by omega) c6, g 7 _ (by omega) c7⟩, h0,
      h1.same hsz (fun i hi hl => hs i (by rw [List.mem_append] at hi ⊢; rcases hi with h | h; exact .inl h; exact .inr (List.mem_append.2 (.inl h))) hl),
      ih h2 (fun b' o' e j h1 h2 => hc b' o' e j (by omega) h2) (fun i hi => hs i (List.mem_append.2 (.inr (List.mem_append.2 (.inr hi))))), rfl⟩
/-- What the marks make of a tree. -/
def Forest.mark : Forest → Nat → Forest
  | .nil, _ => .nil
  | .cons _ _ _ _ _ _ _ b r, q => .cons ((q : Int) % 3 == 0) ((q + 1 : Nat) : Int) (markT (q + 2)) ((q + 3 : Nat) : Int) ((q + 4 : Nat) : Int) (markT (q + 5)) ((q + 6 : Nat) : Int) (b.mark (q + 7)) (r.mark (q + 7 + 7 * b.size))
theorem Forest.len_mark : ∀ (f : Forest) (q : Nat), (f.mark q).len = f.len
  | .nil, _ => rfl
  | .cons _ _ _ _ _ _ _ b r, q => by simp only [Forest.mark, Forest.len, Forest.len_mark r]
theorem Forest.size_mark : ∀ (f : Forest) (q : Nat), (f.mark q).size = f.size
  | .nil, _ => rfl
  | .cons _ _ _ _ _ _ _ b r, q => by simp only [Forest.mark, Forest.size, Forest.size_mark b, Forest.size_mark r]
theorem EntW.mono {n : Nat} {w w1 : World} {b p : Nat} {S T : List Nat} (h : EntW n w w1 b p S) (hs : ∀ x ∈ S, x ∈ T) : EntW n w w1 b p T :=
  ⟨h.os, h.tape, h.output, h.size, fun k hk hb ht => h.block k hk hb (fun e => ht (hs k e)), h.cell⟩
theorem OwnL.ent {n : Nat} {w w1 : World} {e : TypeId} {lo b p : Nat} {L : List Nat} (h : OwnL w e lo L) (he : EntW n w w1 b p []) (hb : b ∉ L) : OwnL w1 e lo L :=
  ⟨h.1, fun x hx => ⟨(h.2 x hx).1, (h.2 x hx).2.same (he.block x (h.2 x hx).2.lt (fun e => hb (e ▸ hx)) (by simp))⟩⟩
theorem OwnT.ent {n : Nat} {w w1 : World} {e : TypeId} {lo b p : Nat} {f : Forest} {A : Option Addr} {L : List Nat} (h : OwnT w e lo f A L) (he : EntW n w w1 b p []) (hb : b ∉ blk A ++ L) : OwnT w1 e lo f A L :=
  ⟨h.1.same he.size (fun x hx hl => he.block x hl (fun e => hb (e ▸ hx)) (by simp)), h.2.ent he hb⟩
theorem RowF.one {w : World} {b o k : Nat} {t : Bool} {m : Int} {s : ByteArray} {kd nm : Int} {u : ByteArray} {x : Int} {sub : Forest} {SA : Option Addr} {sc : Nat} {Ls : List Nat} (hr : w.rangeAt b (o + k * 8) [.bool t, .int .i64 m, .string s, .int .i64 kd, .int .i64 nm, .string u, .int .i64 x, .slice SA sub.len sc]) (hb : b < w.heap.size) (h0 : SA = none → sc = 0)
    (h1 : RowF w sub SA 0 sub.len Ls) : RowF w (.cons t m s kd nm u x sub .nil) (some ⟨b, o, none⟩) k (k + 1) (blk SA ++ (Ls ++ [])) :=
  ⟨b, o, SA, sub.len, sc, Ls, [], rfl, hb, range8 hr, h0, h1, ⟨rfl, rfl⟩, rfl⟩
end Go.Proofs.Ytlfigoboeogegaa
