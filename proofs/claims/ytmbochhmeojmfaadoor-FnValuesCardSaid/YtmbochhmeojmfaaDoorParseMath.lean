/- Plain: what a decimal numeral is read as; that a numeral names one number. No program in sight. -/
import Derived.Lib.ItoaNum
import Derived.Lib.AtoiAll
import Derived.Lib.AtoiAllCases
namespace Go.Proofs.YtmbochhmeojmfaaDoor
set_option maxRecDepth 20000
open Go.Lib (decDigits itoa nDigits atoiAll parseMag parseUint10)

def itoaB (v : Int) : ByteArray := ⟨(itoa v).toArray⟩
/-- What digits spell, behind acc. -/
def valD (acc : Nat) : List UInt8 → Nat
  | [] => acc
  | c :: r => valD (acc * 10 + (c.toNat - 48)) r
theorem valD_app (a b : List UInt8) : ∀ acc, valD acc (a ++ b) = valD (valD acc a) b := by
  induction a with
  | nil => intro acc; rfl
  | cons c r ih => intro acc; exact ih _
theorem valD_ge : ∀ (l : List UInt8) (acc : Nat), acc ≤ valD acc l
  | [], acc => Nat.le_refl _
  | c :: r, acc => by have := valD_ge r (acc * 10 + (c.toNat - 48)); show acc ≤ valD (acc * 10 + (c.toNat - 48)) r; omega
def DigC (c : UInt8) : Prop := 48 ≤ c.toNat ∧ c.toNat ≤ 57
theorem digC_of {k : Nat} (h : k < 10) : DigC (UInt8.ofNat (48 + k)) ∧ (UInt8.ofNat (48 + k)).toNat - 48 = k := by
  have e : (UInt8.ofNat (48 + k)).toNat = 48 + k := by rw [UInt8.toNat_ofNat']; omega
  refine ⟨?_, by omega⟩
  unfold DigC
  omega
theorem decDigits_digC (u : Nat) : ∀ c ∈ decDigits u, DigC c := by
  induction u using Nat.strongRecOn with
  | _ u ih =>
    rw [decDigits]
    by_cases h : u < 10
    · rw [dif_pos h]
      intro c hc
      rw [List.mem_singleton] at hc
      subst hc
      exact (digC_of h).1
    · rw [dif_neg h]
      intro c hc
      rcases List.mem_append.1 hc with hc | hc
      · exact ih _ (by omega) c hc
      · rw [List.mem_singleton] at hc
        subst hc
        exact (digC_of (Nat.mod_lt _ (by decide))).1
theorem valD_dec (u : Nat) : valD 0 (decDigits u) = u := by
  induction u using Nat.strongRecOn with
  | _ u ih =>
    rw [decDigits]
    by_cases h : u < 10
    · rw [dif_pos h]
      show 0 * 10 + _ = u
      rw [(digC_of h).2]
      omega
    · rw [dif_neg h, valD_app, ih _ (by omega)]
      show u / 10 * 10 + _ = u
      rw [(digC_of (Nat.mod_lt _ (by decide))).2]
      omega
theorem decDigits_ne (u : Nat) : decDigits u ≠ [] := by
  rw [decDigits]
  by_cases h : u < 10
  · rw [dif_pos h]; simp
  · rw [dif_neg h]; simp
theorem parse_val : ∀ (l : List UInt8) (acc : Nat), (∀ c ∈ l, DigC c) → valD acc l < 18446744073709551616 → parseUint10 acc l = .ok (valD acc l)
  | [], acc, _, _ => rfl
  | c :: r, acc, hd, hv => by
    have h1 := hd c (List.mem_cons_self ..)
    have h2 := valD_ge r (acc * 10 + (c.toNat - 48))
    have h3 : valD (acc * 10 + (c.toNat - 48)) r < 18446744073709551616 := hv
    unfold DigC at h1
    unfold parseUint10
    rw [if_pos h1, if_neg (by omega), if_neg (by omega)]
    exact parse_val r _ (fun x hx => hd x (List.mem_cons_of_mem _ hx)) hv
theorem parseMag_dec (u : Nat) (h : u < 18446744073709551616) : parseMag (decDigits u) = .ok u := by
  unfold parseMag
  rw [if_neg (decDigits_ne u), parse_val _ _ (decDigits_digC u) (by rw [valD_dec]; exact h), valD_dec]
theorem atoi_itoa (v : Int) (h0 : -9223372036854775808 ≤ v) (h1 : v ≤ 9223372036854775807) : atoiAll (itoa v) = .ok v := by
  unfold itoa
  by_cases h : v < 0
  · rw [if_pos h, Lib.atoiAll_minus, parseMag_dec _ (by omega)]
    simp only [Lib.signed]
    rw [if_neg (by omega)]
    congr 1
    omega
  · rw [if_neg h]
    obtain ⟨c, r, hcr⟩ : ∃ c r, decDigits v.toNat = c :: r := List.exists_cons_of_ne_nil (decDigits_ne _)
    have hc := decDigits_digC v.toNat c (by rw [hcr]; exact List.mem_cons_self ..)
    unfold DigC at hc
    rw [hcr, Lib.atoiAll_plain c r (by omega) (by omega), ← hcr, parseMag_dec _ (by omega)]
    simp only [Lib.signless]
    rw [if_neg (by omega)]
    congr 1
    omega
theorem itoaB_inj {v u : Int} (h0 : -9223372036854775808 ≤ v) (h1 : v ≤ 9223372036854775807) (g0 : -9223372036854775808 ≤ u) (g1 : u ≤ 9223372036854775807) (h : itoaB v = itoaB u) : v = u := by
  have e : itoa v = itoa u := by
    have := congrArg (fun b => b.data.toList) h
    simpa [itoaB] using this
  have h2 := atoi_itoa v h0 h1
  rw [e, atoi_itoa u g0 g1] at h2
  injection h2 with h2
  exact h2.symm
theorem nDigits_le : ∀ (k u : Nat), u < 10 ^ (k + 1) → nDigits u ≤ k + 1
  | 0, u, h => by rw [Lib.nDigits_small (by simpa using h)]; omega
  | k + 1, u, h => by
    by_cases h10 : u < 10
    · rw [Lib.nDigits_small h10]; omega
    · rw [Lib.nDigits_big h10]
      have := nDigits_le k (u / 10) (by rw [Nat.pow_succ] at h; omega)
      omega
theorem itoaB_size_pos (v : Int) (h : 0 ≤ v) : itoaB v = ⟨(decDigits v.toNat).toArray⟩ := by
  unfold itoaB itoa
  rw [if_neg (by omega)]
theorem size13 (v : Int) (h0 : 0 ≤ v) (h1 : v ≤ 1000000000000) : 1 ≤ (itoaB v).size ∧ (itoaB v).size ≤ 13 := by
  rw [itoaB_size_pos v h0]
  have e : (⟨(decDigits v.toNat).toArray⟩ : ByteArray).size = nDigits v.toNat := by rw [← Lib.decDigits_length]; simp [ByteArray.size]
  rw [e]
  exact ⟨Lib.nDigits_pos _, nDigits_le 12 _ (by omega)⟩
theorem size20 (v : Int) (h0 : -1000000000 ≤ v) (h1 : v ≤ 1000000000000) : (itoaB v).size ≤ 20 := by
  by_cases h : v < 0
  · have e : (itoaB v).size = nDigits v.natAbs + 1 := by unfold itoaB itoa; rw [if_pos h, ← Lib.decDigits_length]; simp [ByteArray.size]
    rw [e]
    have := nDigits_le 18 v.natAbs (by omega)
    omega
  · have := (size13 v (by omega) h1).2
    omega

/-- What a parse within bounds answers. -/
def Says (s : ByteArray) (lo hi r : Int) (b : Bool) : Prop :=
  (b = true ∧ lo ≤ r ∧ r ≤ hi ∧ s = itoaB r) ∨ (b = false ∧ r = 0 ∧ ∀ v, lo ≤ v → v ≤ hi → s ≠ itoaB v)
theorem Says.unique {s : ByteArray} {lo hi r r' : Int} {b b' : Bool} (hlo : -9223372036854775808 ≤ lo) (hhi : hi ≤ 9223372036854775807) (h : Says s lo hi r b) (h' : Says s lo hi r' b') : r = r' ∧ b = b' := by
  rcases h with ⟨rfl, h1, h2, h3⟩ | ⟨rfl, rfl, h1⟩ <;> rcases h' with ⟨rfl, g1, g2, g3⟩ | ⟨rfl, rfl, g1⟩
  · exact ⟨itoaB_inj (by omega) (by omega) (by omega) (by omega) (h3 ▸ g3), rfl⟩
  · exact absurd h3 (g1 _ h1 h2)
  · exact absurd g3 (h1 _ g1 g2)
  · exact ⟨rfl, rfl⟩
theorem Says.no {s : ByteArray} {lo hi : Int} (h : ∀ v, lo ≤ v → v ≤ hi → s ≠ itoaB v) : Says s lo hi 0 false := .inr ⟨rfl, rfl, h⟩
theorem Says.yes {s : ByteArray} {lo hi r : Int} (h0 : lo ≤ r) (h1 : r ≤ hi) (h : s = itoaB r) : Says s lo hi r true := .inl ⟨rfl, h0, h1, h⟩
end Go.Proofs.YtmbochhmeojmfaaDoor
