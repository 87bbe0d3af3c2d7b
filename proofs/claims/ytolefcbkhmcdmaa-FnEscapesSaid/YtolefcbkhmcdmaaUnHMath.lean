/- Plain mathematics of UnescapeHTML, and the walk of strings.HasPrefix. -/
import Derived.Test.YtolefcbkhmcdmaaUnURL
namespace Go.Proofs.Ytolefcbkhmcdmaa
open Go.RowKit
set_option linter.unusedVariables false
set_option linter.unusedSimpArgs false

/-- Does the entity of c lie in s at k? -/
def mt (s : ByteArray) (k : Nat) (c : Int) : Bool := decide (k + (ent c).length ≤ s.size) && ((s.extract k (k + (ent c).length)).toList == (strOf (ent c)).toList)
def five : List Int := [38, 60, 62, 34, 39]
def entAt (s : ByteArray) (k : Nat) : Option Int := five.find? (mt s k)
def unH (s : ByteArray) : Nat → Nat → List Int → Option (List Int)
  | 0, _, acc => some acc
  | f + 1, i, acc =>
    if s.size ≤ i then some acc
    else if (bytesI s).getD i 0 = 38 then
      match entAt s i with
      | some c => unH s f (i + (ent c).length) (acc ++ [c])
      | none => none
    else unH s f (i + 1) (acc ++ [(bytesI s).getD i 0])
theorem unH_end (s : ByteArray) (f i : Nat) (acc : List Int) (h : s.size ≤ i) : unH s f i acc = some acc := by
  cases f with
  | zero => rfl
  | succ f => rw [unH, if_pos h]
theorem unH_ent (s : ByteArray) (f i : Nat) (acc : List Int) (c : Int) (h : i < s.size) (hc : (bytesI s).getD i 0 = 38) (h2 : entAt s i = some c) : unH s (f + 1) i acc = unH s f (i + (ent c).length) (acc ++ [c]) := by
  rw [unH, if_neg (by omega), if_pos hc, h2]
theorem unH_bad (s : ByteArray) (f i : Nat) (acc : List Int) (h : i < s.size) (hc : (bytesI s).getD i 0 = 38) (h2 : entAt s i = none) : unH s (f + 1) i acc = none := by
  rw [unH, if_neg (by omega), if_pos hc, h2]
theorem unH_other (s : ByteArray) (f i : Nat) (acc : List Int) (h : i < s.size) (h1 : (bytesI s).getD i 0 ≠ 38) : unH s (f + 1) i acc = unH s f (i + 1) (acc ++ [(bytesI s).getD i 0]) := by
  rw [unH, if_neg (by omega), if_neg h1]
def unHtml (s : ByteArray) : Option (List Int) := unH s (s.size + 1) 0 []
def spec5 (q : Nat) : Int := five.getD q 0
theorem spec5_mem (q : Nat) (h : q < 5) : Special (spec5 q) := by
  have : q = 0 ∨ q = 1 ∨ q = 2 ∨ q = 3 ∨ q = 4 := by omega
  rcases this with rfl | rfl | rfl | rfl | rfl <;> simp [spec5, five, Special]
theorem ent_size (c : Int) (h : Special c) : 4 ≤ (ent c).length ∧ (ent c).length ≤ 6 := by
  rcases h with rfl | rfl | rfl | rfl | rfl <;> decide
/-- The first q of the five do not match. -/
def noneTo (s : ByteArray) (k q : Nat) : Prop := ∀ j, j < q → mt s k (spec5 j) = false
theorem noneTo_succ {s : ByteArray} {k q : Nat} (h : noneTo s k q) (hm : mt s k (spec5 q) = false) : noneTo s k (q + 1) := fun j hj => by
  by_cases e : j = q
  · subst e; exact hm
  · exact h j (by omega)
theorem entAt_none {s : ByteArray} {k : Nat} (h : noneTo s k 5) : entAt s k = none := by
  unfold entAt
  rw [List.find?_eq_none]
  intro c hc
  have h0 := h 0 (by omega)
  have h1 := h 1 (by omega)
  have h2 := h 2 (by omega)
  have h3 := h 3 (by omega)
  have h4 := h 4 (by omega)
  simp only [spec5, five, List.getD_cons_zero, List.getD_cons_succ] at h0 h1 h2 h3 h4
  simp only [five, List.mem_cons, List.not_mem_nil, or_false] at hc
  rcases hc with rfl | rfl | rfl | rfl | rfl <;> simp [*]
theorem entAt_some {s : ByteArray} {k q : Nat} (hq : q < 5) (h : noneTo s k q) (hm : mt s k (spec5 q) = true) : entAt s k = some (spec5 q) := by
  unfold entAt
  have : q = 0 ∨ q = 1 ∨ q = 2 ∨ q = 3 ∨ q = 4 := by omega
  rcases this with rfl | rfl | rfl | rfl | rfl
  · simp only [spec5, five, List.getD_cons_zero, List.getD_cons_succ] at hm ⊢
    simp [List.find?, hm]
  · have h0 := h 0 (by omega)
    simp only [spec5, five, List.getD_cons_zero, List.getD_cons_succ] at hm h0 ⊢
    simp [List.find?, hm, h0]
  · have h0 := h 0 (by omega)
    have h1 := h 1 (by omega)
    simp only [spec5, five, List.getD_cons_zero, List.getD_cons_succ] at hm h0 h1 ⊢
    simp [List.find?, hm, h0, h1]
  · have h0 := h 0 (by omega)
    have h1 := h 1 (by omega)
    have h2 := h 2 (by omega)
    simp only [spec5, five, List.getD_cons_zero, List.getD_cons_succ] at hm h0 h1 h2 ⊢
    simp [List.find?, hm, h0, h1, h2]
  · have h0 := h 0 (by omega)
    have h1 := h 1 (by omega)
    have h2 := h 2 (by omega)
    have h3 := h 3 (by omega)
    simp only [spec5, five, List.getD_cons_zero, List.getD_cons_succ] at hm h0 h1 h2 h3 ⊢
    simp [List.find?, hm, h0, h1, h2, h3]

def pre (s e : ByteArray) : Bool := decide (e.size ≤ s.size) && ((s.extract 0 e.size).toList == e.toList)
theorem slPrefix_any (s e : ByteArray) (w : World) (hs : s.size ≤ 1048576) (he : e.size ≤ 1048576) :
    Calls Try.prog 49 #[.string s, .string e] w fun o w' => o = .returned (.bool (pre s e)) ∧ w = w' := by
  by_cases h : e.size ≤ s.size
  · have HP : Hid (pre s e = ((s.extract 0 e.size).toList == e.toList)) := by show _ = _; unfold pre; rw [decide_eq_true h]; rfl
    go_enter Try.func49, Try.ntmps49
    go_wp2
    go_ret
    exact ⟨ret_bool (by rw [HP.out]), rfl⟩
  · have HP : Hid (pre s e = false) := by show _ = _; unfold pre; rw [decide_eq_false h]; rfl
    go_enter Try.func49, Try.ntmps49
    go_wp2
    go_ret
    exact ⟨ret_bool (by rw [HP.out]), rfl⟩
theorem prefix_any (s e : ByteArray) (w : World) (hs : s.size ≤ 1048576) (he : e.size ≤ 1048576) (b : Bool) (hb : pre s e = b) :
    Calls Try.prog 42 #[.string s, .string e] w fun o w' => o = .returned (.bool b) ∧ w = w' := by
  have H := hid hb
  subst hb
  go_enter Try.func42, Try.ntmps42
  go_wp2_with fail
  refine (slPrefix_any _ _ _ hs he).mono ?_
  rintro o w' ⟨rfl, rfl⟩
  go_wp2
  go_ret
  exact ⟨rfl, rfl⟩
theorem pre_mt (s : ByteArray) (k : Nat) (c : Int) (hk : k ≤ s.size) : pre (s.extract k s.size) (strOf (ent c)) = mt s k c := by
  have hsz : (s.extract k s.size).size = s.size - k := by rw [ByteArray.size_extract]; omega
  unfold pre mt
  rw [hsz, strOf_size]
  by_cases h : k + (ent c).length ≤ s.size
  · have e1 : (s.extract k s.size).extract 0 (ent c).length = s.extract k (k + (ent c).length) := by
      rw [ByteArray.extract_extract]
      congr 1 <;> omega
    rw [e1, decide_eq_true (by omega : (ent c).length ≤ s.size - k), decide_eq_true h]
  · rw [decide_eq_false (by omega : ¬ (ent c).length ≤ s.size - k), decide_eq_false h]
    rfl
end Go.Proofs.Ytolefcbkhmcdmaa
