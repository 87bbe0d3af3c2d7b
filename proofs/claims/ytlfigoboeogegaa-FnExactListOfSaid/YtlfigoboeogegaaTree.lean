/- Trees of values as they lie in memory: entries of eight cells, a slice of entries behind each value. No program in sight. -/
import Derived.Test.YtlfigoboeogegaaMem
namespace Go.Proofs.Ytlfigoboeogegaa
open Go.RowKit
set_option linter.unusedVariables false

/-- The entries behind a value: a key's three fields, a value's four scalars, the entries behind it; the entries that follow. -/
inductive Forest where
  | nil
  | cons (t : Bool) (n : Int) (s : ByteArray) (k m : Int) (u : ByteArray) (x : Int) (sub rest : Forest)

def Forest.len : Forest → Nat
  | .nil => 0
  | .cons _ _ _ _ _ _ _ _ r => r.len + 1
/-- All entries, at every depth. -/
def Forest.size : Forest → Nat
  | .nil => 0
  | .cons _ _ _ _ _ _ _ b r => b.size + r.size + 1
/-- What a reading grants of texts and numbers. -/
def Forest.ok : Forest → Prop
  | .nil => True
  | .cons _ n s k m u x b r => (s.size ≤ maxLen ∧ u.size ≤ maxLen ∧ (Lit.int .i64 n).wf = true ∧ (Lit.int .i64 k).wf = true ∧ (Lit.int .i64 m).wf = true ∧ (Lit.int .i64 x).wf = true ∧ b.len ≤ maxLen) ∧ b.ok ∧ r.ok
def Forest.app : Forest → Forest → Forest
  | .nil, g => g
  | .cons t n s k m u x b r, g => .cons t n s k m u x b (r.app g)
theorem Forest.app_nil (f : Forest) : f.app .nil = f := by
  induction f with
  | nil => rfl
  | cons t n s k m u x b r _ ih => simp only [Forest.app, ih]
theorem Forest.app_assoc (f g h : Forest) : (f.app g).app h = f.app (g.app h) := by
  induction f with
  | nil => rfl
  | cons t n s k m u x b r _ ih => simp only [Forest.app, ih]
theorem Forest.len_app (f g : Forest) : (f.app g).len = f.len + g.len := by
  induction f with
  | nil => simp [Forest.app, Forest.len]
  | cons t n s k m u x b r _ ih => simp only [Forest.app, Forest.len, ih]; omega
theorem Forest.size_app (f g : Forest) : (f.app g).size = f.size + g.size := by
  induction f with
  | nil => simp [Forest.app, Forest.size]
  | cons t n s k m u x b r _ ih => simp only [Forest.app, Forest.size, ih]; omega
theorem Forest.len_le (f : Forest) : f.len ≤ f.size := by
  induction f with
  | nil => exact Nat.le_refl _
  | cons t n s k m u x b r _ ih => simp only [Forest.len, Forest.size]; omega

def blk : Option Addr → List Nat
  | some a => [a.block]
  | none => []

/-- The entries from number k on, up to number n, of the slice at A read as the forest; the blocks of the slices behind them. -/
def RowF (w : World) : Forest → Option Addr → Nat → Nat → List Nat → Prop
  | .nil, _, k, n, L => k = n ∧ L = []
  | .cons t m s kd nm u x sub rest, A, k, n, L => ∃ b o SA sn sc Ls Lr, A = some ⟨b, o, none⟩ ∧ b < w.heap.size ∧
      (w.cell? ⟨b, o + k * 8, none⟩ = some (.bool t) ∧ w.cell? ⟨b, o + k * 8 + 1, none⟩ = some (.int .i64 m) ∧ w.cell? ⟨b, o + k * 8 + 2, none⟩ = some (.string s) ∧
       w.cell? ⟨b, o + k * 8 + 3, none⟩ = some (.int .i64 kd) ∧ w.cell? ⟨b, o + k * 8 + 4, none⟩ = some (.int .i64 nm) ∧ w.cell? ⟨b, o + k * 8 + 5, none⟩ = some (.string u) ∧
       w.cell? ⟨b, o + k * 8 + 6, none⟩ = some (.int .i64 x) ∧ w.cell? ⟨b, o + k * 8 + 7, none⟩ = some (.slice SA sn sc)) ∧
      (SA = none → sc = 0) ∧ RowF w sub SA 0 sn Ls ∧ RowF w rest A (k + 1) n Lr ∧ L = blk SA ++ (Ls ++ Lr)

theorem RowF.len {w : World} : ∀ {f : Forest} {A : Option Addr} {k n : Nat} {L : List Nat}, RowF w f A k n L → k + f.len = n := by
  intro f
  induction f with
  | nil => intro A k n L h; exact h.1
  | cons t m s kd nm u x sub rest _ ih =>
    rintro A k n L ⟨b, o, SA, sn, sc, Ls, Lr, rfl, hb, hc, h0, h1, h2, hL⟩
    have := ih h2
    simp only [Forest.len]; omega
theorem RowF.same {w w' : World} (hsz : w.heap.size ≤ w'.heap.size) : ∀ {f : Forest} {A : Option Addr} {k n : Nat} {L : List Nat}, RowF w f A k n L → (∀ b, b ∈ blk A ++ L → b < w.heap.size → w'.heap[b]? = w.heap[b]?) → RowF w' f A k n L := by
  intro f
  induction f with
  | nil => intro A k n L h _; exact h
  | cons t m s kd nm u x sub rest ih1 ih2 =>
    rintro A k n L ⟨b, o, SA, sn, sc, Ls, Lr, rfl, hb, ⟨c0, c1, c2, c3, c4, c5, c6, c7⟩, h0, h1, h2, rfl⟩ hs
    have e : w'.heap[b]? = w.heap[b]? := hs b (by simp [blk]) hb
    have g : ∀ j v, w.cell? ⟨b, j, none⟩ = some v → w'.cell? ⟨b, j, none⟩ = some v := fun j v hj => (World.cell?_of_block (a := ⟨b, j, none⟩) e).trans hj
    exact ⟨b, o, SA, sn, sc, Ls, Lr, rfl, Nat.lt_of_lt_of_le hb hsz, ⟨g _ _ c0, g _ _ c1, g _ _ c2, g _ _ c3, g _ _ c4, g _ _ c5, g _ _ c6, g _ _ c7⟩, h0,
      ih1 h1 (fun i hi => hs i (by simp only [List.mem_append] at hi ⊢; rcases hi with h | h; exact .inr (.inl h); exact .inr (.inr (.inl h)))),
      ih2 h2 (fun i hi => hs i (by simp only [List.mem_append] at hi ⊢; rcases hi with h | h; exact .inl h; exact .inr (.inr (.inr h)))), rfl⟩
theorem RowF.grow {w w' : World} {f : Forest} {A : Option Addr} {k n : Nat} {L : List Nat} (h : RowF w f A k n L) (hg : w.grownBy w' none) : RowF w' f A k n L :=
  h.same hg.size fun b _ hb => hg.block b hb (by simp)
/-- An entry more at the end. -/
theorem RowF.app {w : World} : ∀ {f g : Forest} {A : Option Addr} {k i n : Nat} {L M : List Nat}, RowF w f A k i L → RowF w g A i n M → RowF w (f.app g) A k n (L ++ M) := by
  intro f
  induction f with
  | nil => rintro g A k i n L M ⟨rfl, rfl⟩ h; exact h
  | cons t m s kd nm u x sub rest _ ih =>
    rintro g A k i n L M ⟨b, o, SA, sn, sc, Ls, Lr, hA, hb, hc, h0, h1, h2, rfl⟩ h
    exact ⟨b, o, SA, sn, sc, Ls, Lr ++ M, hA, hb, hc, h0, h1, ih h2 h, by simp only [List.append_assoc]⟩
end Go.Proofs.Ytlfigoboeogegaa
