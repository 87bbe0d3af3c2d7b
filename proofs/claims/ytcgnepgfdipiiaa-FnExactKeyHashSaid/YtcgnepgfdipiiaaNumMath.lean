/- Plain mathematics of the number and digest chapters. No program in sight. -/
import Derived.Test.YtcgnepgfdipiiaaBase
import Derived.Test.YtcgnepgfdipiiaaBytesI
namespace Go.Proofs.Ytcgnepgfdipiiaa
open Go.RowKit

/-- The residue that Mod returns. -/
def modOf (n m : Int) : Int := n.emod m
theorem modOf_bd (n m : Int) (h : 1 ≤ m) : 0 ≤ modOf n m ∧ modOf n m < m := ⟨Int.emod_nonneg _ (by omega), Int.emod_lt_of_pos _ (by omega)⟩
theorem tmod_bd (n m : Int) (h : 1 ≤ m) : -m < n.tmod m ∧ n.tmod m < m := by
  rw [Int.tmod_eq_emod]
  have h1 := Int.emod_nonneg n (show m ≠ 0 by omega)
  have h2 := Int.emod_lt_of_pos n (show 0 < m by omega)
  split
  · omega
  · rename_i hh
    have : n % m ≠ 0 := fun h0 => hh (Or.inr (Int.dvd_of_emod_eq_zero h0))
    omega
theorem mod_neg (n m : Int) (h : 1 ≤ m) (hn : n.tmod m < 0) : n.tmod m + m = modOf n m := by
  rw [Int.tmod_eq_emod] at hn ⊢
  unfold modOf
  have h1 := Int.emod_nonneg n (show m ≠ 0 by omega)
  split at hn
  · omega
  · rename_i hh
    rw [if_neg hh]
    show n % m - _ + m = n % m
    omega
theorem mod_pos (n m : Int) (h : 1 ≤ m) (hn : 0 ≤ n.tmod m) : n.tmod m = modOf n m := by
  rw [Int.tmod_eq_emod] at hn ⊢
  unfold modOf
  have h2 := Int.emod_lt_of_pos n (show 0 < m by omega)
  split at hn
  · rename_i hh
    rw [if_pos hh]
    show n % m - 0 = n % m
    omega
  · exfalso
    omega
theorem mod_twice (n m : Int) (h : 1 ≤ m) : (n.tmod m + m) % m = modOf n m := by
  rcases Int.lt_or_le (n.tmod m) 0 with hn | hn
  · rw [mod_neg n m h hn]
    exact Int.emod_eq_of_lt (modOf_bd n m h).1 (modOf_bd n m h).2
  · rw [mod_pos n m h hn, Int.add_emod_right]
    exact Int.emod_eq_of_lt (modOf_bd n m h).1 (modOf_bd n m h).2

def hstep (acc v : Int) : Int := (acc * 1000003 + v + 13) % 2147483647
def hashL (l : List Int) : Int := l.foldl hstep 11
theorem hashL_snoc (l : List Int) (v : Int) : hashL (l ++ [v]) = hstep (hashL l) v := by unfold hashL; rw [List.foldl_append, List.foldl_cons, List.foldl_nil]
theorem hstep_bd (a v : Int) : 0 ≤ hstep a v ∧ hstep a v < 2147483647 := by unfold hstep; omega
theorem foldl_hstep_bd : ∀ (l : List Int) (a : Int), 0 ≤ a → a < 2147483647 → 0 ≤ l.foldl hstep a ∧ l.foldl hstep a < 2147483647
  | [], _, h1, h2 => ⟨h1, h2⟩
  | v :: l, a, _, _ => by
    rw [List.foldl_cons]
    exact foldl_hstep_bd l _ (hstep_bd a v).1 (hstep_bd a v).2
theorem hashL_bd (l : List Int) : 0 ≤ hashL l ∧ hashL l < 2147483647 := foldl_hstep_bd l 11 (by omega) (by omega)

end Go.Proofs.Ytcgnepgfdipiiaa
