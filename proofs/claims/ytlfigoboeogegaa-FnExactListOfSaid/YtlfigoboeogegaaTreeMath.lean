/- What the functions reckon over a tree of values. No program in sight. -/
import Derived.Test.YtlfigoboeogegaaTree
namespace Go.Proofs.Ytlfigoboeogegaa
open Go.RowKit
set_option linter.unusedVariables false

/-- What is taken off the bound for the entries, beside their number. -/
def Forest.sz : Forest → Nat
  | .nil => 0
  | .cons _ _ s _ _ u _ b r => (s.size + (u.size + (b.len + b.sz))) + r.sz
theorem Forest.size_sz (f : Forest) : f.size ≤ f.len + f.sz := by
  induction f with
  | nil => simp [Forest.size]
  | cons t n s k m u x b r ih1 ih2 => simp only [Forest.size, Forest.len, Forest.sz]; omega
/-- What is left of a bound. -/
def leftI (l e : Nat) : Int := if e ≤ l then ((l - e : Nat) : Int) else -1
theorem leftI_yes {l e : Nat} (h : e ≤ l) : leftI l e = (l : Int) - e := by unfold leftI; rw [if_pos h]; omega
theorem leftI_no {l e : Nat} (h : l < e) : leftI l e = -1 := by unfold leftI; rw [if_neg (by omega)]
theorem leftI_step {l a b : Nat} (h : a ≤ l) : leftI (l - a) b = leftI l (a + b) := by
  unfold leftI
  by_cases hb : a + b ≤ l
  · rw [if_pos hb, if_pos (by omega)]; congr 1; omega
  · rw [if_neg hb, if_neg (by omega)]
theorem leftI_cases (l e : Nat) : (leftI l e = -1 ∧ l < e) ∨ ∃ r : Nat, leftI l e = (r : Int) ∧ r + e = l := by
  rcases Nat.lt_or_ge l e with h | h
  · exact .inl ⟨leftI_no h, h⟩
  · exact .inr ⟨l - e, by unfold leftI; rw [if_pos h], by omega⟩
/-- The weights of the entries' values. -/
def Forest.wt : Forest → Nat
  | .nil => 0
  | .cons _ _ _ k _ _ _ b r => (1 + if k = 4 then b.wt else 0) + r.wt
theorem Forest.wt_le (f : Forest) : f.wt ≤ f.size := by
  induction f with
  | nil => exact Nat.le_refl _
  | cons t n s k m u x b r ih1 ih2 => simp only [Forest.wt, Forest.size]; split <;> omega
/-- The greatest nest of the entries' values. -/
def Forest.nest : Forest → Nat
  | .nil => 0
  | .cons _ _ _ k _ _ _ b r => max (if k = 4 then b.nest + 1 else 0) r.nest
theorem Forest.nest_le (f : Forest) : f.nest ≤ f.wt := by
  induction f with
  | nil => exact Nat.le_refl _
  | cons t n s k m u x b r ih1 ih2 => simp only [Forest.nest, Forest.wt]; split <;> omega
def Forest.plain : Forest → Bool
  | .nil => true
  | .cons _ _ _ k _ _ _ b r => (if k = 4 then b.plain else decide (0 ≤ k ∧ k ≤ 3)) && r.plain
/-- The place of the first entry with a key, from place i on. -/
def Forest.find (t : Bool) (n : Int) (s : ByteArray) : Forest → Nat → Int
  | .nil, _ => -1
  | .cons t' n' s' _ _ _ _ _ r, i => if t' = t ∧ n' = n ∧ s' = s then (i : Int) else r.find t n s (i + 1)
/-- Alike but for Next. -/
def Forest.alike : Forest → Forest → Bool
  | .nil, .nil => true
  | .cons t n s k m u x b r, .cons t' n' s' k' m' u' x' b' r' => decide (t = t' ∧ n = n' ∧ s = s' ∧ k = k' ∧ m = m' ∧ u = u' ∧ b.len = b'.len) && b.alike b' && r.alike r'
  | _, _ => false
end Go.Proofs.Ytlfigoboeogegaa
