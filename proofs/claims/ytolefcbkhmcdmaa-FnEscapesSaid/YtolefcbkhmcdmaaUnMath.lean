/- Plain mathematics of the unescapings. No program in sight. -/
import Derived.Test.YtolefcbkhmcdmaaEscMath
namespace Go.Proofs.Ytolefcbkhmcdmaa
open Go.RowKit
set_option linter.unusedVariables false

def hexV (c : Int) (small : Bool) : Option Int :=
  if 48 ≤ c ∧ c ≤ 57 then some (c - 48) else if 65 ≤ c ∧ c ≤ 70 then some (c - 55) else if small = true ∧ 97 ≤ c ∧ c ≤ 102 then some (c - 87) else none
theorem hexV_bd {c d : Int} {small : Bool} (h : hexV c small = some d) : 0 ≤ d ∧ d ≤ 15 := by
  unfold hexV at h
  split at h
  · injection h with h; omega
  · split at h
    · injection h with h; omega
    · split at h
      · injection h with h; omega
      · cases h
def two (l : List Int) (p : Nat) (small : Bool) : Option Int :=
  if p + 2 ≤ l.length then
    match hexV (l.getD p 0) small, hexV (l.getD (p + 1) 0) small with
    | some a, some b => some (16 * a + b)
    | _, _ => none
  else none
theorem two_out {l : List Int} {p : Nat} {small : Bool} (h : l.length < p + 2) : two l p small = none := by unfold two; rw [if_neg (by omega)]
theorem two_some {l : List Int} {p : Nat} {small : Bool} {a b : Int} (h : p + 2 ≤ l.length) (ha : hexV (l.getD p 0) small = some a) (hb : hexV (l.getD (p + 1) 0) small = some b) : two l p small = some (16 * a + b) := by
  unfold two; rw [if_pos h, ha, hb]
theorem two_none1 {l : List Int} {p : Nat} {small : Bool} (h : p + 2 ≤ l.length) (ha : hexV (l.getD p 0) small = none) : two l p small = none := by
  unfold two; rw [if_pos h, ha]
theorem two_none2 {l : List Int} {p : Nat} {small : Bool} {a : Int} (h : p + 2 ≤ l.length) (ha : hexV (l.getD p 0) small = some a) (hb : hexV (l.getD (p + 1) 0) small = none) : two l p small = none := by
  unfold two; rw [if_pos h, ha, hb]
theorem two_bd {l : List Int} {p : Nat} {small : Bool} {n : Int} (h : two l p small = some n) : 0 ≤ n ∧ n ≤ 255 ∧ p + 2 ≤ l.length := by
  by_cases hl : p + 2 ≤ l.length
  · cases ha : hexV (l.getD p 0) small with
    | none => rw [two_none1 hl ha] at h; cases h
    | some a =>
      cases hb : hexV (l.getD (p + 1) 0) small with
      | none => rw [two_none2 hl ha hb] at h; cases h
      | some b =>
        rw [two_some hl ha hb] at h
        injection h with h
        have := hexV_bd ha
        have := hexV_bd hb
        omega
  · rw [two_out (by omega)] at h; cases h

def unU (l : List Int) : Nat → Nat → List Int → Option (List Int)
  | 0, _, acc => some acc
  | f + 1, i, acc =>
    if l.length ≤ i then some acc
    else if l.getD i 0 = 43 then unU l f (i + 1) (acc ++ [32])
    else if l.getD i 0 = 37 then
      match two l (i + 1) true with
      | some n => unU l f (i + 3) (acc ++ [n])
      | none => none
    else unU l f (i + 1) (acc ++ [l.getD i 0])
theorem unU_end (l : List Int) (f i : Nat) (acc : List Int) (h : l.length ≤ i) : unU l f i acc = some acc := by
  cases f with
  | zero => rfl
  | succ f => rw [unU, if_pos h]
theorem unU_plus (l : List Int) (f i : Nat) (acc : List Int) (h : i < l.length) (hc : l.getD i 0 = 43) : unU l (f + 1) i acc = unU l f (i + 1) (acc ++ [32]) := by
  rw [unU, if_neg (by omega), if_pos hc]
theorem unU_hex (l : List Int) (f i : Nat) (acc : List Int) (n : Int) (h : i < l.length) (hc : l.getD i 0 = 37) (h2 : two l (i + 1) true = some n) : unU l (f + 1) i acc = unU l f (i + 3) (acc ++ [n]) := by
  rw [unU, if_neg (by omega), if_neg (by omega), if_pos hc, h2]
theorem unU_bad (l : List Int) (f i : Nat) (acc : List Int) (h : i < l.length) (hc : l.getD i 0 = 37) (h2 : two l (i + 1) true = none) : unU l (f + 1) i acc = none := by
  rw [unU, if_neg (by omega), if_neg (by omega), if_pos hc, h2]
theorem unU_other (l : List Int) (f i : Nat) (acc : List Int) (h : i < l.length) (h1 : l.getD i 0 ≠ 43) (h2 : l.getD i 0 ≠ 37) : unU l (f + 1) i acc = unU l f (i + 1) (acc ++ [l.getD i 0]) := by
  rw [unU, if_neg (by omega), if_neg h1, if_neg h2]
def unUrl (l : List Int) : Option (List Int) := unU l (l.length + 1) 0 []

def unS (l : List Int) : Nat → Nat → List Int → Option (List Int)
  | 0, _, acc => some acc
  | f + 1, i, acc =>
    if l.length ≤ i then some acc
    else if l.getD i 0 = 92 then
      if i + 1 < l.length ∧ l.getD (i + 1) 0 = 120 then
        match two l (i + 2) false with
        | some n => unS l f (i + 4) (acc ++ [n])
        | none => none
      else none
    else unS l f (i + 1) (acc ++ [l.getD i 0])
theorem unS_end (l : List Int) (f i : Nat) (acc : List Int) (h : l.length ≤ i) : unS l f i acc = some acc := by
  cases f with
  | zero => rfl
  | succ f => rw [unS, if_pos h]
theorem unS_hex (l : List Int) (f i : Nat) (acc : List Int) (n : Int) (h : i < l.length) (hc : l.getD i 0 = 92) (hx : i + 1 < l.length ∧ l.getD (i + 1) 0 = 120) (h2 : two l (i + 2) false = some n) : unS l (f + 1) i acc = unS l f (i + 4) (acc ++ [n]) := by
  rw [unS, if_neg (by omega), if_pos hc, if_pos hx, h2]
theorem unS_bad1 (l : List Int) (f i : Nat) (acc : List Int) (h : i < l.length) (hc : l.getD i 0 = 92) (hx : ¬ (i + 1 < l.length ∧ l.getD (i + 1) 0 = 120)) : unS l (f + 1) i acc = none := by
  rw [unS, if_neg (by omega), if_pos hc, if_neg hx]
theorem unS_bad2 (l : List Int) (f i : Nat) (acc : List Int) (h : i < l.length) (hc : l.getD i 0 = 92) (hx : i + 1 < l.length ∧ l.getD (i + 1) 0 = 120) (h2 : two l (i + 2) false = none) : unS l (f + 1) i acc = none := by
  rw [unS, if_neg (by omega), if_pos hc, if_pos hx, h2]
theorem unS_other (l : List Int) (f i : Nat) (acc : List Int) (h : i < l.length) (h1 : l.getD i 0 ≠ 92) : unS l (f + 1) i acc = unS l f (i + 1) (acc ++ [l.getD i 0]) := by
  rw [unS, if_neg (by omega), if_neg h1]
def unScript (l : List Int) : Option (List Int) := unS l (l.length + 1) 0 []
theorem bytesI_getD (s : ByteArray) (k : Nat) (h : k < s.size) : (bytesI s).getD k 0 = (s[k].toNat : Int) := by
  rw [List.getD_eq_getElem?_getD, List.getElem?_eq_getElem (by rw [bytesI_length]; exact h)]
  simp [bytesI]
  rfl
end Go.Proofs.Ytolefcbkhmcdmaa
