/- Rows of values: five cells each, a tree behind each (a forest whose keys do not lie there). No program in sight. -/
import Derived.Test.YtlfigoboeogegaaCopy
import Derived.Test.YtlfigoboeogegaaLaw
import Derived.Maps.AppendAt
namespace Go.Proofs.Ytlfigoboeogegaa
open Go.RowKit
set_option linter.unusedVariables false

def RowV (w : World) : Forest → Option Addr → Nat → Nat → List Nat → Prop
  | .nil, _, k, n, L => k = n ∧ L = []
  | .cons t m s kd nm u x sub rest, A, k, n, L => ∃ b o SA sc Ls Lr, A = some ⟨b, o, none⟩ ∧ b < w.heap.size ∧ w.rangeAt b (o + k * 5) [.int .i64 kd, .int .i64 nm, .string u, .int .i64 x, .slice SA sub.len sc] ∧
      (SA = none → sc = 0) ∧ RowF w sub SA 0 sub.len Ls ∧ RowV w rest A (k + 1) n Lr ∧ L = blk SA ++ (Ls ++ Lr)
theorem range5 {w : World} {b o : Nat} {c0 c1 c2 c3 c4 : Value} (h : w.rangeAt b o [c0, c1, c2, c3, c4]) : w.cell? ⟨b, o, none⟩ = some c0 ∧ w.cell? ⟨b, o + 1, none⟩ = some c1 ∧ w.cell? ⟨b, o + 2, none⟩ = some c2 ∧ w.cell? ⟨b, o + 3, none⟩ = some c3 ∧ w.cell? ⟨b, o + 4, none⟩ = some c4 :=
  ⟨h 0 _ rfl, h 1 _ rfl, h 2 _ rfl, h 3 _ rfl, h 4 _ rfl⟩
theorem RowV.len {w : World} : ∀ {f : Forest} {A : Option Addr} {k n : Nat} {L : List Nat}, RowV w f A k n L → k + f.len = n := by
  intro f
  induction f with
  | nil => intro A k n L h; exact h.1
  | cons t m s kd nm u x sub rest _ ih =>
    rintro A k n L ⟨b, o, SA, sc, Ls, Lr, rfl, hb, hc, h0, h1, h2, hL⟩
    have := ih h2
    simp only [Forest.len]; omega
theorem RowV.same {w w' : World} (hsz : w.heap.size ≤ w'.heap.size) : ∀ {f : Forest} {A : Option Addr} {k n : Nat} {L : List Nat}, RowV w f A k n L → (∀ b, b ∈ blk A ++ L → b < w.heap.size → w'.heap[b]? = w.heap[b]?) → RowV w' f A k n L := by
  intro f
  induction f with
  | nil => intro A k n L h _; exact h
  | cons t m s kd nm u x sub rest ih1 ih2 =>
    rintro A k n L ⟨b, o, SA, sc, Ls, Lr, rfl, hb, hr, h0, h1, h2, rfl⟩ hs
    have e : w'.heap[b]? = w.heap[b]? := hs b (by simp [blk]) hb
    exact ⟨b, o, SA, sc, Ls, Lr, rfl, Nat.lt_of_lt_of_le hb hsz, fun j v hv => (World.cell?_of_block (a := ⟨b, o + k * 5 + j, none⟩) e).trans (hr j v hv), h0,
      h1.same hsz (fun i hi => hs i (by simp only [List.mem_append] at hi ⊢; rcases hi with h | h; exact .inr (.inl h); exact .inr (.inr (.inl h)))),
      ih2 h2 (fun i hi => hs i (by simp only [List.mem_append] at hi ⊢; rcases hi with h | h; exact .inl h; exact .inr (.inr (.inr h)))), rfl⟩
theorem RowV.grow {w w' : World} {f : Forest} {A : Option Addr} {k n : Nat} {L : List Nat} (h : RowV w f A k n L) (hg : w.grownBy w' none) : RowV w' f A k n L := h.same hg.size fun b _ hb => hg.block b hb (by simp)
theorem RowV.rest {w : World} {t : Bool} {m : Int} {s : ByteArray} {kd nm : Int} {u : ByteArray} {x : Int} {sub rest : Forest} {A : Option Addr} {k n : Nat} {L : List Nat} (h : RowV w (.cons t m s kd nm u x sub rest) A k n L) : ∃ Lr, RowV w rest A (k + 1) n Lr := by
  obtain ⟨b, o, SA, sc, Ls, Lr, _, _, _, _, _, h2, _⟩ := h
  exact ⟨Lr, h2⟩
theorem RowV.app {w : World} : ∀ {f g : Forest} {A : Option Addr} {k i n : Nat} {L M : List Nat}, RowV w f A k i L → RowV w g A i n M → RowV w (f.app g) A k n (L ++ M) := by
  intro f
  induction f with
  | nil => rintro g A k i n L M ⟨rfl, rfl⟩ h; exact h
  | cons t m s kd nm u x sub rest _ ih =>
    rintro g A k i n L M ⟨b, o, SA, sc, Ls, Lr, hA, hb, hc, h0, h1, h2, rfl⟩ h
    exact ⟨b, o, SA, sc, Ls, Lr ++ M, hA, hb, hc, h0, h1, ih h2 h, by simp only [List.append_assoc]⟩
theorem RowV.one {w : World} {b o k : Nat} {t : Bool} {m : Int} {s : ByteArray} {kd nm : Int} {u : ByteArray} {x : Int} {sub : Forest} {SA : Option Addr} {sc : Nat} {Ls : List Nat} (hr : w.rangeAt b (o + k * 5) [.int .i64 kd, .int .i64 nm, .string u, .int .i64 x, .slice SA sub.len sc]) (hb : b < w.heap.size) (h0 : SA = none → sc = 0)
    (h1 : RowF w sub SA 0 sub.len Ls) : RowV w (.cons t m s kd nm u x sub .nil) (some ⟨b, o, none⟩) k (k + 1) (blk SA ++ (Ls ++ [])) :=
  ⟨b, o, SA, sc, Ls, [], rfl, hb, hr, h0, h1, ⟨rfl, rfl⟩, rfl⟩
theorem RowV.part {w w' : World} (hsz : w.heap.size ≤ w'.heap.size) : ∀ {f : Forest} {A : Option Addr} {k n : Nat} {L : List Nat}, RowV w f A k n L → (∀ b o, A = some ⟨b, o, none⟩ → ∀ j, o + k * 5 ≤ j → j < o + n * 5 → w'.cell? ⟨b, j, none⟩ = w.cell? ⟨b, j, none⟩) →
    (∀ b ∈ L, b < w.heap.size → w'.heap[b]? = w.heap[b]?) → RowV w' f A k n L := by
  intro f
  induction f with
  | nil => intro A k n L h _ _; exact h
  | cons t m s kd nm u x sub rest _ ih =>
    rintro A k n L ⟨b, o, SA, sc, Ls, Lr, rfl, hb, hr, h0, h1, h2, rfl⟩ hc hs
    have hn := h2.len
    refine ⟨b, o, SA, sc, Ls, Lr, rfl, Nat.lt_of_lt_of_le hb hsz, fun j v hv => ?_, h0,
      h1.same hsz (fun i hi hl => hs i (by rw [List.mem_append] at hi ⊢; rcases hi with h | h; exact .inl h; exact .inr (List.mem_append.2 (.inl h))) hl),
      ih h2 (fun b' o' e j h1 h2 => hc b' o' e j (by omega) h2) (fun i hi => hs i (List.mem_append.2 (.inr (List.mem_append.2 (.inr hi))))), rfl⟩
    have hj : j < 5 := by
      have := (List.getElem?_eq_some_iff.1 hv).1
      simpa using this
    exact (hc b o rfl _ (by omega) (by omega)).trans (hr j v hv)
/-- Cells of values, in a row's order. -/
def SubV (w : World) : Forest → List Value → List Nat → Prop
  | .nil, cs, L => cs = [] ∧ L = []
  | .cons t m s kd nm u x sub rest, cs, L => ∃ SA sc cs' Ls Lr, cs = [.int .i64 kd, .int .i64 nm, .string u, .int .i64 x, .slice SA sub.len sc] ++ cs' ∧ (SA = none → sc = 0) ∧ RowF w sub SA 0 sub.len Ls ∧ SubV w rest cs' Lr ∧ L = blk SA ++ (Ls ++ Lr)
theorem SubV.length {w : World} : ∀ {f : Forest} {cs : List Value} {L : List Nat}, SubV w f cs L → cs.length = f.len * 5 := by
  intro f
  induction f with
  | nil => rintro cs L ⟨rfl, _⟩; rfl
  | cons t m s kd nm u x sub rest _ ih =>
    rintro cs L ⟨SA, sc, cs', Ls, Lr, rfl, _, _, h, _⟩
    have := ih h
    simp only [Forest.len, List.length_append, List.length_cons, List.length_nil, this]
    omega
theorem SubV.same {w w' : World} (hsz : w.heap.size ≤ w'.heap.size) : ∀ {f : Forest} {cs : List Value} {L : List Nat}, SubV w f cs L → (∀ b, b ∈ L → b < w.heap.size → w'.heap[b]? = w.heap[b]?) → SubV w' f cs L := by
  intro f
  induction f with
  | nil => intro cs L h _; exact h
  | cons t m s kd nm u x sub rest _ ih =>
    rintro cs L ⟨SA, sc, cs', Ls, Lr, rfl, h0, h1, h2, rfl⟩ hs
    refine ⟨SA, sc, cs', Ls, Lr, rfl, h0, h1.same hsz fun b hb => hs b ?_, ih h2 fun b hb => hs b ?_, rfl⟩
    · simp only [List.mem_append] at hb ⊢
      rcases hb with hb | hb
      · exact .inl hb
      · exact .inr (.inl hb)
    · simp only [List.mem_append]
      exact .inr (.inr hb)
theorem SubV.kept {w w' : World} {f : Forest} {cs : List Value} {L : List Nat} {r : Option Nat} (h : SubV w f cs L) (hg : w.grownBy w' r) (hr : ∀ g, r = some g → g ∉ L) : SubV w' f cs L :=
  h.same hg.size fun b hb hlt => hg.block b hlt (fun e => hr b e.symm hb)
theorem SubV.grow {w w' : World} {f : Forest} {cs : List Value} {L : List Nat} (h : SubV w f cs L) (hg : w.grownBy w' none) : SubV w' f cs L := h.kept hg (by simp)
theorem SubV.app {w : World} : ∀ {f g : Forest} {cs ds : List Value} {L M : List Nat}, SubV w f cs L → SubV w g ds M → SubV w (f.app g) (cs ++ ds) (L ++ M) := by
  intro f
  induction f with
  | nil => rintro g cs ds L M ⟨rfl, rfl⟩ h; exact h
  | cons t m s kd nm u x sub rest _ ih =>
    rintro g cs ds L M ⟨SA, sc, cs', Ls, Lr, rfl, h0, h1, h2, rfl⟩ h
    exact ⟨SA, sc, cs' ++ ds, Ls, Lr ++ M, by simp only [List.append_assoc], h0, h1, ih h2 h, by simp only [List.append_assoc]⟩
theorem SubV.one {w : World} (t : Bool) (m : Int) (s : ByteArray) (kd nm : Int) (u : ByteArray) (x : Int) {sub : Forest} {SA : Option Addr} {sc : Nat} {L : List Nat} (h0 : SA = none → sc = 0) (h : RowF w sub SA 0 sub.len L) :
    SubV w (.cons t m s kd nm u x sub .nil) [.int .i64 kd, .int .i64 nm, .string u, .int .i64 x, .slice SA sub.len sc] (blk SA ++ L) :=
  ⟨SA, sc, [], L, [], by simp, h0, h, ⟨rfl, rfl⟩, by simp⟩
theorem SubV.row {w : World} {b o : Nat} (hb : b < w.heap.size) : ∀ {f : Forest} {cs : List Value} {L : List Nat} (k : Nat), SubV w f cs L → (∀ j, j < cs.length → w.cell? ⟨b, o + k * 5 + j, none⟩ = cs[j]?) → RowV w f (some ⟨b, o, none⟩) k (k + f.len) L := by
  intro f
  induction f with
  | nil => rintro cs L k ⟨rfl, rfl⟩ _; exact ⟨rfl, rfl⟩
  | cons t m s kd nm u x sub rest _ ih =>
    rintro cs L k ⟨SA, sc, cs', Ls, Lr, rfl, h0, h1, h2, rfl⟩ hc
    refine ⟨b, o, SA, sc, Ls, Lr, rfl, hb, fun j v hv => ?_, h0, h1, ?_, rfl⟩
    · have hj := (List.getElem?_eq_some_iff.1 hv).1
      rw [hc j (by simp only [List.length_append]; omega), List.getElem?_append_left hj, hv]
    · have := ih (k + 1) h2 fun j hj => by
        have h := hc (5 + j) (by simp only [List.length_append, List.length_cons, List.length_nil]; omega)
        rw [show o + (k + 1) * 5 + j = o + k * 5 + (5 + j) by omega, h, List.getElem?_append_right (by simp)]
        simp
      rw [show k + 1 + rest.len = k + (Forest.cons t m s kd nm u x sub rest).len by simp only [Forest.len]; omega] at this
      exact this
/-- A row of values of the call's own. -/
def Rv (w : World) (lo : Nat) (f : Forest) (A : Option Addr) (c : Nat) (L : List Nat) : Prop := ∃ cs, w.ownsRow lo 31 5 (.slice A f.len c) f.len cs ∧ SubV w f cs L ∧ OwnL w 61 lo L ∧ ∀ b ∈ blk A, b ∉ L
/-- A row of values, its blocks from lo to hi. -/
def TrV (w : World) (lo hi : Nat) (f : Forest) (A : Option Addr) (L : List Nat) : Prop := RowV w f A 0 f.len L ∧ OwnL w 61 lo L ∧ (∀ b ∈ blk A, lo ≤ b ∧ IsE w 31 b ∧ b ∉ L) ∧ ∀ b ∈ blk A ++ L, b < hi
theorem TrV.grow {w w1 : World} {lo hi : Nat} {f : Forest} {A : Option Addr} {L : List Nat} (h : TrV w lo hi f A L) (hg : w.grownBy w1 none) : TrV w1 lo hi f A L := ⟨h.1.grow hg, h.2.1.grow hg, fun b hb => ⟨(h.2.2.1 b hb).1, (h.2.2.1 b hb).2.1.grow hg, (h.2.2.1 b hb).2.2⟩, h.2.2.2⟩
theorem TrV.bounds {w : World} {lo hi : Nat} {f : Forest} {A : Option Addr} {L : List Nat} (h : TrV w lo hi f A L) : ∀ b ∈ blk A ++ L, lo ≤ b ∧ b < hi := fun b hb => ⟨by
  rcases List.mem_append.1 hb with hb | hb
  · exact (h.2.2.1 b hb).1
  · exact (h.2.1.2 b hb).1, h.2.2.2 b hb⟩
theorem TrV.mk' {w w' : World} {lo hi lo' hi' : Nat} {f : Forest} {A : Option Addr} {L : List Nat} (h : TrV w lo' hi' f A L) (hm : MkI w w' lo hi) (hd : hi' ≤ lo ∨ hi ≤ lo') : TrV w' lo' hi' f A L := by
  have hb : ∀ b ∈ blk A ++ L, b < lo ∨ hi ≤ b := fun b hb => by have := h.bounds b hb; omega
  refine ⟨h.1.same hm.size (fun b hb2 hl => hm.block b hl (hb b hb2)), ⟨h.2.1.1, fun b hb2 => ⟨(h.2.1.2 b hb2).1, (h.2.1.2 b hb2).2.same (hm.block b (h.2.1.2 b hb2).2.lt (hb b (List.mem_append.2 (.inr hb2))))⟩⟩, fun b hb2 => ?_, h.2.2.2⟩
  obtain ⟨h1, h2, h3⟩ := h.2.2.1 b hb2
  exact ⟨h1, h2.same (hm.block b h2.lt (hb b (List.mem_append.2 (.inl hb2)))), h3⟩
theorem Rv.trv {w w1 : World} {f : Forest} {A : Option Addr} {c : Nat} {L : List Nat} (h : Rv w1 w.heap.size f A c L) : TrV w1 w.heap.size w1.heap.size f A L ∧ (A = none → c = 0) := by
  obtain ⟨cs, hown, hsub, hol, hnb⟩ := h
  rcases hown.2 with ⟨hv, h0⟩ | ⟨g, cap, cur, hv, hlo, hh, hcap, _, hsz, htk⟩
  · injection hv with h1 h2 h3
    subst h1 h3
    have hf : f = .nil := by
      cases f with
      | nil => rfl
      | cons => simp [Forest.len] at h0
    subst hf
    obtain ⟨rfl, rfl⟩ := hsub
    exact ⟨⟨⟨rfl, rfl⟩, OwnL.nil _ _ _, (fun b hb => by cases hb), (fun b hb => by simp [blk] at hb)⟩, fun _ => rfl⟩
  · injection hv with h1 h2 h3
    subst h1 h3
    have hg1 : g < w1.heap.size := (Array.getElem?_eq_some_iff.1 hh).1
    have hl := hsub.length
    refine ⟨⟨?_, hol, fun b hb => ?_, fun b hb => ?_⟩, fun h => by cases h⟩
    · have := SubV.row (o := 0) hg1 0 hsub fun j hj => by
        rw [show 0 + 0 * 5 + j = j by omega, hown.cellAt j (by omega)]
      rw [Nat.zero_add] at this
      exact this
    · obtain rfl : b = g := by simpa [blk] using hb
      exact ⟨hlo, ⟨cur, hh⟩, hnb b (by simp [blk])⟩
    · rcases List.mem_append.1 hb with hb | hb
      · obtain rfl : b = g := by simpa [blk] using hb
        exact hg1
      · exact hol.lt b hb
theorem own_trv {w w1 : World} {f : Forest} {A : Option Addr} {c : Nat} {L : List Nat} {top : Nat} (h : Rv w1 w.heap.size f A c L) (hg : w.grownBy w1 none) (ht : top ≤ w.heap.size) :
    ∃ lo hi, TrV w1 lo hi f A L ∧ top ≤ lo ∧ lo ≤ hi ∧ hi ≤ w1.heap.size := ⟨w.heap.size, w1.heap.size, h.trv.1, ht, hg.size, Nat.le_refl _⟩
def valVals (k : Int) (f : Forest) : Forest := if k = 4 then f else .nil
theorem valVals_size (k : Int) (f : Forest) : (valVals k f).size ≤ f.size := by
  unfold valVals
  split
  · exact Nat.le_refl _
  · exact Nat.zero_le _
def ValsPost (w : World) (f : Forest) (e : Ending) (w' : World) : Prop := ∃ A' c' L', e = .returned (.slice A' f.len c') ∧ Rv w' w.heap.size f A' c' L' ∧ w.grownBy w' none
def valueZ : Value := .agg #[.int .i64 0, .int .i64 0, .string ByteArray.empty, .int .i64 0, .slice none 0 0]
theorem Try.infoV3 : (Try.prog.info? 31).map (fun i => (i.zero, i.size, i.bytes)) = some (some valueZ, 5, 64) := by kernel_rfl
theorem rv_snoc {wa w3 : World} {lo : Nat} {f f2 : Forest} {A3 A2 : Option Addr} {c3 c2 : Nat} {cs : List Value} {L L2 : List Nat} {RB : Option Nat} {t : Bool} {n : Int} {s : ByteArray} {k m : Int} {u : ByteArray} {x : Int}
    (hown : w3.ownsRow lo 31 5 (.slice A3 (f.len + 1) c3) (f.len + 1) (cs ++ [.int .i64 k, .int .i64 m, .string u, .int .i64 x, .slice A2 f2.len c2])) (hsub : SubV wa f cs L) (h2 : RowF wa f2 A2 0 f2.len L2) (hz : A2 = none → c2 = 0)
    (hol : OwnL wa 61 lo (L ++ (blk A2 ++ L2))) (hg : wa.grownBy w3 RB) (hRB : ∀ q, RB = some q → q ∉ L ++ (blk A2 ++ L2)) (hat : (Value.slice A3 (f.len + 1) c3).ownBlock = RB ∨ (Value.slice A3 (f.len + 1) c3).ownBlock = some wa.heap.size) :
    Rv w3 lo (f.app (.cons t n s k m u x f2 .nil)) A3 c3 (L ++ (blk A2 ++ L2)) := by
  have hl : (f.app (.cons t n s k m u x f2 .nil)).len = f.len + 1 := by rw [Forest.len_app]; rfl
  refine ⟨cs ++ [.int .i64 k, .int .i64 m, .string u, .int .i64 x, .slice A2 f2.len c2], by rw [hl]; exact hown, ((hsub.app (SubV.one t n s k m u x hz h2)).kept hg hRB), hol.kept hg hRB, fun b hb hm => ?_⟩
  have h1 := (blk_own (n := f.len + 1) (c := c3)).2 hb
  rcases hat with h | h
  · exact hRB b (h.symm.trans h1) hm
  · have h3 := Option.some.inj (h.symm.trans h1)
    have := hol.lt b hm
    omega
theorem Rv.mono {w : World} {lo lo' : Nat} {f : Forest} {A : Option Addr} {c : Nat} {L : List Nat} (h : Rv w lo f A c L) (hl : lo' ≤ lo) : Rv w lo' f A c L := by
  obtain ⟨cs, h1, h2, h3, h4⟩ := h
  exact ⟨cs, own_mono h1 hl, h2, h3.mono hl, h4⟩
theorem Rv.grow {w w1 : World} {lo : Nat} {f : Forest} {A : Option Addr} {c : Nat} {L : List Nat} (h : Rv w lo f A c L) (hg : w.grownBy w1 none) : Rv w1 lo f A c L := by
  obtain ⟨cs, h1, h2, h3, h4⟩ := h
  exact ⟨cs, own_grow h1 hg, h2.grow hg, h3.grow hg, h4⟩
end Go.Proofs.Ytlfigoboeogegaa
