/- Trees of values that the call itself has laid: every row a block of its own. No program in sight. -/
import Derived.Test.YtlfigoboeogegaaTreeMath
import Derived.Test.YtlfigoboeogegaaHold
namespace Go.Proofs.Ytlfigoboeogegaa
open Go.RowKit
set_option linter.unusedVariables false

/-- A block that is a row of type e, with no cell frozen. -/
def IsE (w : World) (e : TypeId) (b : Nat) : Prop := ∃ cur, w.heap[b]? = some (.cells cur e (0, 0))
theorem IsE.lt {w : World} {e : TypeId} {b : Nat} (h : IsE w e b) : b < w.heap.size := by obtain ⟨cur, h⟩ := h; exact (Array.getElem?_eq_some_iff.1 h).1
theorem IsE.same {w w1 : World} {e : TypeId} {b : Nat} (h : IsE w e b) (hs : w1.heap[b]? = w.heap[b]?) : IsE w1 e b := by obtain ⟨cur, h⟩ := h; exact ⟨cur, hs.trans h⟩
theorem IsE.kept {w w1 : World} {e : TypeId} {b : Nat} {r : Option Nat} (h : IsE w e b) (hg : w.grownBy w1 r) (hr : r ≠ some b) : IsE w1 e b := h.same (hg.block b h.lt (fun e => hr e.symm))
theorem IsE.grow {w w1 : World} {e : TypeId} {b : Nat} (h : IsE w e b) (hg : w.grownBy w1 none) : IsE w1 e b := h.kept hg (by simp)

/-- The blocks are all different, at least lo, and rows of type e. -/
def OwnL (w : World) (e : TypeId) (lo : Nat) (L : List Nat) : Prop := L.Nodup ∧ ∀ b ∈ L, lo ≤ b ∧ IsE w e b
theorem OwnL.nil (w : World) (e : TypeId) (lo : Nat) : OwnL w e lo [] := ⟨List.nodup_nil, fun b hb => by cases hb⟩
theorem OwnL.kept {w w1 : World} {e : TypeId} {lo : Nat} {L : List Nat} {r : Option Nat} (h : OwnL w e lo L) (hg : w.grownBy w1 r) (hr : ∀ g, r = some g → g ∉ L) : OwnL w1 e lo L :=
  ⟨h.1, fun b hb => ⟨(h.2 b hb).1, (h.2 b hb).2.kept hg (fun e => hr b e hb)⟩⟩
theorem OwnL.grow {w w1 : World} {e : TypeId} {lo : Nat} {L : List Nat} (h : OwnL w e lo L) (hg : w.grownBy w1 none) : OwnL w1 e lo L := h.kept hg (by simp)
theorem OwnL.mono {w : World} {e : TypeId} {lo lo' : Nat} {L : List Nat} (h : OwnL w e lo L) (hl : lo' ≤ lo) : OwnL w e lo' L := ⟨h.1, fun b hb => ⟨Nat.le_trans hl (h.2 b hb).1, (h.2 b hb).2⟩⟩
theorem OwnL.lt {w : World} {e : TypeId} {lo : Nat} {L : List Nat} (h : OwnL w e lo L) : ∀ b ∈ L, b < w.heap.size := fun b hb => (h.2 b hb).2.lt
theorem OwnL.sub {w : World} {e : TypeId} {lo : Nat} {L M : List Nat} (h : OwnL w e lo (L ++ M)) : OwnL w e lo L ∧ OwnL w e lo M := by
  obtain ⟨h1, h2⟩ := h
  obtain ⟨n1, n2, n3⟩ := List.nodup_append.1 h1
  exact ⟨⟨n1, fun b hb => h2 b (List.mem_append.2 (.inl hb))⟩, ⟨n2, fun b hb => h2 b (List.mem_append.2 (.inr hb))⟩⟩
/-- Blocks laid later lie apart from those before. -/
theorem OwnL.app {w w1 : World} {e : TypeId} {lo : Nat} {L M : List Nat} (hlo : lo ≤ w.heap.size) (h : OwnL w e lo L) (hg : w.grownBy w1 none) (h2 : OwnL w1 e w.heap.size M) : OwnL w1 e lo (L ++ M) := by
  refine ⟨List.nodup_append.2 ⟨h.1, h2.1, fun a ha b hb e => ?_⟩, fun b hb => ?_⟩
  · subst e
    have := h.lt a ha
    have := (h2.2 a hb).1
    omega
  · rcases List.mem_append.1 hb with hb | hb
    · exact (h.grow hg).2 b hb
    · exact ⟨Nat.le_trans hlo (h2.2 b hb).1, (h2.2 b hb).2⟩

/-- Cells of entries, in a row's order, that read as the forest. -/
def SubF (w : World) : Forest → List Value → List Nat → Prop
  | .nil, cs, L => cs = [] ∧ L = []
  | .cons t m s kd nm u x sub rest, cs, L => ∃ SA sc cs' Ls Lr, cs = [.bool t, .int .i64 m, .string s, .int .i64 kd, .int .i64 nm, .string u, .int .i64 x, .slice SA sub.len sc] ++ cs' ∧
      (SA = none → sc = 0) ∧ RowF w sub SA 0 sub.len Ls ∧ SubF w rest cs' Lr ∧ L = blk SA ++ (Ls ++ Lr)
theorem SubF.length {w : World} : ∀ {f : Forest} {cs : List Value} {L : List Nat}, SubF w f cs L → cs.length = f.len * 8 := by
  intro f
  induction f with
  | nil => rintro cs L ⟨rfl, _⟩; rfl
  | cons t m s kd nm u x sub rest _ ih =>
    rintro cs L ⟨SA, sc, cs', Ls, Lr, rfl, _, _, h, _⟩
    have := ih h
    simp only [Forest.len, List.length_append, List.length_cons, List.length_nil, this]
    omega
theorem SubF.same {w w' : World} (hsz : w.heap.size ≤ w'.heap.size) : ∀ {f : Forest} {cs : List Value} {L : List Nat}, SubF w f cs L → (∀ b, b ∈ L → b < w.heap.size → w'.heap[b]? = w.heap[b]?) → SubF w' f cs L := by
  intro f
  induction f with
  | nil => intro cs L h _; exact h
  | cons t m s kd nm u x sub rest _ ih =>
    rintro cs L ⟨SA, sc, cs', Ls, Lr, rfl, h0, h1, h2, rfl⟩ hs
    refine ⟨SA, sc, cs', Ls, Lr, rfl, h0, h1.same hsz fun b hb => hs b ?_, ih h2 fun b hb => hs b ?_, rfl⟩
    · simp only [List.mem_append] at hb ⊢
      rcases hb with hb | hb
      · exact .inl hb
      · exact .inr (.inl hb)
    · simp only [List.mem_append]
      exact .inr (.inr hb)
theorem SubF.kept {w w' : World} {f : Forest} {cs : List Value} {L : List Nat} {r : Option Nat} (h : SubF w f cs L) (hg : w.grownBy w' r) (hr : ∀ g, r = some g → g ∉ L) : SubF w' f cs L :=
  h.same hg.size fun b hb hlt => hg.block b hlt (fun e => hr b e.symm hb)
theorem SubF.grow {w w' : World} {f : Forest} {cs : List Value} {L : List Nat} (h : SubF w f cs L) (hg : w.grownBy w' none) : SubF w' f cs L := h.kept hg (by simp)
theorem SubF.app {w : World} : ∀ {f g : Forest} {cs ds : List Value} {L M : List Nat}, SubF w f cs L → SubF w g ds M → SubF w (f.app g) (cs ++ ds) (L ++ M) := by
  intro f
  induction f with
  | nil => rintro g cs ds L M ⟨rfl, rfl⟩ h; exact h
  | cons t m s kd nm u x sub rest _ ih =>
    rintro g cs ds L M ⟨SA, sc, cs', Ls, Lr, rfl, h0, h1, h2, rfl⟩ h
    exact ⟨SA, sc, cs' ++ ds, Ls, Lr ++ M, by simp only [List.append_assoc], h0, h1, ih h2 h, by simp only [List.append_assoc]⟩
theorem SubF.one {w : World} (t : Bool) (m : Int) (s : ByteArray) (kd nm : Int) (u : ByteArray) (x : Int) {sub : Forest} {SA : Option Addr} {sc : Nat} {L : List Nat} (h0 : SA = none → sc = 0) (h : RowF w sub SA 0 sub.len L) :
    SubF w (.cons t m s kd nm u x sub .nil) [.bool t, .int .i64 m, .string s, .int .i64 kd, .int .i64 nm, .string u, .int .i64 x, .slice SA sub.len sc] (blk SA ++ L) :=
  ⟨SA, sc, [], L, [], by simp, h0, h, ⟨rfl, rfl⟩, by simp⟩
theorem SubF.row {w : World} {b o : Nat} (hb : b < w.heap.size) : ∀ {f : Forest} {cs : List Value} {L : List Nat} (k : Nat), SubF w f cs L → (∀ j, j < cs.length → w.cell? ⟨b, o + k * 8 + j, none⟩ = cs[j]?) → RowF w f (some ⟨b, o, none⟩) k (k + f.len) L := by
  intro f
  induction f with
  | nil => rintro cs L k ⟨rfl, rfl⟩ _; exact ⟨rfl, rfl⟩
  | cons t m s kd nm u x sub rest _ ih =>
    rintro cs L k ⟨SA, sc, cs', Ls, Lr, rfl, h0, h1, h2, rfl⟩ hc
    refine ⟨b, o, SA, sub.len, sc, Ls, Lr, rfl, hb, ⟨?_, ?_, ?_, ?_, ?_, ?_, ?_, ?_⟩, h0, h1, ?_, rfl⟩
    · exact hc 0 (by simp)
    · exact hc 1 (by simp)
    · exact hc 2 (by simp)
    · exact hc 3 (by simp)
    · exact hc 4 (by simp)
    · exact hc 5 (by simp)
    · exact hc 6 (by simp)
    · exact hc 7 (by simp)
    · have := ih (k + 1) h2 fun j hj => by
        have h := hc (8 + j) (by simp only [List.length_append, List.length_cons, List.length_nil]; omega)
        rw [show o + (k + 1) * 8 + j = o + k * 8 + (8 + j) by omega, h, List.getElem?_append_right (by simp)]
        simp
      rw [show k + 1 + rest.len = k + (Forest.cons t m s kd nm u x sub rest).len by simp only [Forest.len]; omega] at this
      exact this
/-- A tree that is the call's own, in blocks of type e from lo on. -/
def OwnT (w : World) (e : TypeId) (lo : Nat) (f : Forest) (A : Option Addr) (L : List Nat) : Prop := RowF w f A 0 f.len L ∧ OwnL w e lo (blk A ++ L)
theorem OwnT.grow {w w1 : World} {e : TypeId} {lo : Nat} {f : Forest} {A : Option Addr} {L : List Nat} (h : OwnT w e lo f A L) (hg : w.grownBy w1 none) : OwnT w1 e lo f A L := ⟨h.1.grow hg, h.2.grow hg⟩
theorem OwnT.mono {w : World} {e : TypeId} {lo lo' : Nat} {f : Forest} {A : Option Addr} {L : List Nat} (h : OwnT w e lo f A L) (hl : lo' ≤ lo) : OwnT w e lo' f A L := ⟨h.1, h.2.mono hl⟩
theorem OwnT.nil (w : World) (e : TypeId) (lo : Nat) : OwnT w e lo .nil none [] := ⟨⟨rfl, rfl⟩, OwnL.nil _ _ _⟩
theorem own_tree {w : World} {e : TypeId} {lo : Nat} {f : Forest} {A : Option Addr} {n c : Nat} {cs ds : List Value} {L : List Nat} (h : w.ownsRow lo e 8 (.slice A n c) f.len (cs ++ ds)) (hs : SubF w f cs L) (ho : OwnL w e lo L) (hn : ∀ b ∈ blk A, b ∉ L) :
    n = f.len ∧ OwnT w e lo f A L := by
  have hl := hs.length
  rcases h.2 with ⟨hv, h0⟩ | ⟨g, cap, cur, hv, hlo, hh, hcap, _, hsz, htk⟩
  · injection hv with h1 h2 h3
    subst h1 h2
    have hf : f = .nil := by
      cases f with
      | nil => rfl
      | cons => simp [Forest.len] at h0
    subst hf
    obtain ⟨rfl, rfl⟩ := hs
    exact ⟨rfl, ⟨rfl, rfl⟩, OwnL.nil _ _ _⟩
  · injection hv with h1 h2 h3
    subst h1 h2 h3
    refine ⟨rfl, ?_, ?_⟩
    · have := SubF.row (o := 0) (Array.getElem?_eq_some_iff.1 hh).1 0 hs fun j hj => by
        rw [show 0 + 0 * 8 + j = j by omega, h.cellAt j (by omega), List.getElem?_append_left hj]
      rw [Nat.zero_add] at this
      exact this
    · refine ⟨?_, fun b hb => ?_⟩
      · show (g :: L).Nodup
        exact List.nodup_cons.2 ⟨hn g (by simp [blk]), ho.1⟩
      · rcases List.mem_append.1 hb with hb | hb
        · obtain rfl : b = g := by simpa [blk] using hb
          exact ⟨hlo, cur, hh⟩
        · exact ho.2 b hb
theorem OwnT.kept {w w1 : World} {e : TypeId} {lo : Nat} {f : Forest} {A : Option Addr} {L : List Nat} {r : Option Nat} (h : OwnT w e lo f A L) (hg : w.grownBy w1 r) (hr : ∀ g, r = some g → g ∉ blk A ++ L) : OwnT w1 e lo f A L :=
  ⟨h.1.same hg.size fun b hb hlt => hg.block b hlt (fun e => hr b e.symm hb), h.2.kept hg hr⟩
/-- A write below the tree's blocks. -/
theorem OwnT.low {w w1 : World} {e : TypeId} {lo : Nat} {f : Forest} {A : Option Addr} {L : List Nat} {g : Nat} (h : OwnT w e lo f A L) (hg : w.grownBy w1 (some g)) (hr : g < lo) : OwnT w1 e lo f A L :=
  h.kept hg fun b hb hm => by
    obtain rfl : g = b := by injection hb
    have := (h.2.2 g hm).1
    omega
theorem set8 (cs rs : List Value) (k : Nat) (hk : cs.length = k) (hr : 8 ≤ rs.length) (a b c d e f g h : Value) :
    ((((((((cs ++ rs).set k a).set (k + 1) b).set (k + 2) c).set (k + 3) d).set (k + 4) e).set (k + 5) f).set (k + 6) g).set (k + 7) h = cs ++ [a, b, c, d, e, f, g, h] ++ rs.drop 8 := by
  subst hk
  match rs, hr with
  | _ :: _ :: _ :: _ :: _ :: _ :: _ :: _ :: r, _ => simp
  | [], h | [_], h | [_, _], h | [_, _, _], h | [_, _, _, _], h | [_, _, _, _, _], h | [_, _, _, _, _, _], h | [_, _, _, _, _, _, _], h => simp at h
end Go.Proofs.Ytlfigoboeogegaa
