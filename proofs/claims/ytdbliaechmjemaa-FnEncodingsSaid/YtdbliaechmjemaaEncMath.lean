/- Plain mathematics of the encodings: unsigned and signed variable-length numbers. No program in sight. -/
import Derived.Test.YtdbliaechmjemaaDraw3
namespace Go.Proofs.Ytdbliaechmjemaa
open Go.RowKit

/-- The bytes of a number: seven bits each, the least first. -/
def uvF : Nat → Int → List Int
  | 0, n => [n]
  | f + 1, n => if n < 128 then [n] else (n % 128 + 128) :: uvF f (n / 128)
theorem uvF_small (f : Nat) (n : Int) (h : n < 128) : uvF f n = [n] := by
  cases f with
  | zero => rfl
  | succ f => rw [uvF, if_pos h]
theorem uvF_big (f : Nat) (n : Int) (h : ¬ n < 128) : uvF (f + 1) n = (n % 128 + 128) :: uvF f (n / 128) := by rw [uvF, if_neg h]
theorem pow_next (f : Nat) (n : Int) (hn : n < 128 ^ (f + 2)) : n / 128 < 128 ^ (f + 1) := by
  apply Int.ediv_lt_of_lt_mul (by omega)
  rw [← Int.pow_succ]
  exact hn
theorem uvF_length : ∀ (f : Nat) (n : Int), (uvF f n).length ≤ f + 1
  | 0, _ => by simp [uvF]
  | f + 1, n => by
    by_cases h : n < 128
    · rw [uvF_small _ _ h]; simp
    · rw [uvF_big _ _ h, List.length_cons]; have := uvF_length f (n / 128); omega
theorem uvF_bytes : ∀ (f : Nat) (n : Int), 0 ≤ n → n < 128 ^ (f + 1) → IsBytes (uvF f n)
  | 0, n, h0, h1 => by
    intro x hx
    simp only [uvF, List.mem_singleton] at hx
    subst hx
    simp at h1
    unfold Byte
    omega
  | f + 1, n, h0, h1 => by
    by_cases h : n < 128
    · rw [uvF_small _ _ h]
      intro x hx
      simp only [List.mem_singleton] at hx
      subst hx
      unfold Byte
      omega
    · rw [uvF_big _ _ h]
      intro x hx
      rcases List.mem_cons.1 hx with rfl | hx
      · unfold Byte; omega
      · exact uvF_bytes f (n / 128) (by omega) (pow_next f n h1) x hx
def uv (n : Int) : List Int := uvF 5 n
/-- What AppendUvarint returns. -/
def appU (bs : List Int) (n : Int) : List Int := if 0 ≤ n ∧ n ≤ 1000000000000 then bs ++ uv n else bs

/-- Reading: r rounds are left. -/
def rdU (bs : List Int) (pos acc : Int) : Nat → Int × Int × Bool
  | 0 => (0, 0, false)
  | r + 1 =>
    if pos < 0 ∨ (bs.length : Int) ≤ pos then (0, 0, false)
    else if bs.getD pos.toNat 0 < 128 then
      if (bs.getD pos.toNat 0 = 0 ∧ r < 5) ∨ 1000000000000 < acc + bs.getD pos.toNat 0 % 128 * 128 ^ (5 - r) then (0, 0, false)
      else (acc + bs.getD pos.toNat 0 % 128 * 128 ^ (5 - r), pos + 1, true)
    else rdU bs (pos + 1) (acc + bs.getD pos.toNat 0 % 128 * 128 ^ (5 - r)) r
def readU (bs : List Int) (pos : Int) : Int × Int × Bool := rdU bs pos 0 6

theorem rdU_out (bs : List Int) (pos acc : Int) (r : Nat) (h : pos < 0 ∨ (bs.length : Int) ≤ pos) : rdU bs pos acc r = (0, 0, false) := by
  cases r with
  | zero => rfl
  | succ r => rw [rdU, if_pos h]
theorem rdU_more (bs : List Int) (pos acc c : Int) (r : Nat) (h0 : 0 ≤ pos) (h1 : pos < bs.length) (hc : bs.getD pos.toNat 0 = c) (h : ¬ c < 128) : rdU bs pos acc (r + 1) = rdU bs (pos + 1) (acc + c % 128 * 128 ^ (5 - r)) r := by
  rw [rdU, if_neg (by omega), hc, if_neg h]
theorem rdU_bad (bs : List Int) (pos acc c : Int) (r : Nat) (h0 : 0 ≤ pos) (h1 : pos < bs.length) (hc : bs.getD pos.toNat 0 = c) (h : c < 128) (hb : (c = 0 ∧ r < 5) ∨ 1000000000000 < acc + c % 128 * 128 ^ (5 - r)) : rdU bs pos acc (r + 1) = (0, 0, false) := by
  rw [rdU, if_neg (by omega), hc, if_pos h, if_pos hb]
theorem rdU_good (bs : List Int) (pos acc c : Int) (r : Nat) (h0 : 0 ≤ pos) (h1 : pos < bs.length) (hc : bs.getD pos.toNat 0 = c) (h : c < 128) (hb : ¬ ((c = 0 ∧ r < 5) ∨ 1000000000000 < acc + c % 128 * 128 ^ (5 - r))) : rdU bs pos acc (r + 1) = (acc + c % 128 * 128 ^ (5 - r), pos + 1, true) := by
  rw [rdU, if_neg (by omega), hc, if_pos h, if_neg hb]

theorem getD_mid (pre suf : List Int) (c : Int) : (pre ++ c :: suf).getD (pre.length : Int).toNat 0 = c := by
  simp [List.getD]
/-- What is written is read, and what stands behind it stays. -/
theorem rdU_uvF : ∀ (f : Nat) (pre suf : List Int) (m acc : Int) (r : Nat), f ≤ r → r ≤ 5 → 0 ≤ m → m < 128 ^ (f + 1) → (0 < m ∨ r = 5) → acc + m * 128 ^ (5 - r) ≤ 1000000000000 →
    rdU (pre ++ uvF f m ++ suf) pre.length acc (r + 1) = (acc + m * 128 ^ (5 - r), (pre.length : Int) + (uvF f m).length, true)
  | f, pre, suf, m, acc, r, hf, hr, h0, h1, hz, hb => by
    by_cases h : m < 128
    · rw [uvF_small _ _ h]
      have hc : (pre ++ [m] ++ suf).getD (pre.length : Int).toNat 0 = m := by rw [List.append_assoc]; exact getD_mid pre suf m
      have hmm : m % 128 = m := by omega
      rw [rdU_good _ _ _ m r (by omega) (by simp; omega) hc h (by rw [hmm]; omega), hmm]
      simp
    · cases f with
      | zero => simp at h1; omega
      | succ f =>
        rw [uvF_big _ _ h]
        have hc : (pre ++ (m % 128 + 128) :: uvF f (m / 128) ++ suf).getD (pre.length : Int).toNat 0 = m % 128 + 128 := by rw [List.append_assoc, List.cons_append]; exact getD_mid pre _ _
        cases r with
        | zero => omega
        | succ r =>
          rw [rdU_more _ _ _ (m % 128 + 128) _ (by omega) (by simp; omega) hc (by omega)]
          have e1 : (m % 128 + 128) % 128 = m % 128 := by omega
          have e2 : 5 - r = 5 - (r + 1) + 1 := by omega
          have e3 : m % 128 * 128 ^ (5 - (r + 1)) + m / 128 * 128 ^ (5 - r) = m * 128 ^ (5 - (r + 1)) := by
            rw [e2, Int.pow_succ]
            generalize (128 : Int) ^ (5 - (r + 1)) = p
            have : m = 128 * (m / 128) + m % 128 := by omega
            conv => rhs; rw [this]
            rw [Int.add_mul, Int.mul_comm 128 (m / 128), Int.mul_assoc, Int.mul_comm 128 p, Int.add_comm]
          have hl : pre ++ (m % 128 + 128) :: uvF f (m / 128) ++ suf = (pre ++ [m % 128 + 128]) ++ uvF f (m / 128) ++ suf := by simp
          have hp : (pre.length : Int) + 1 = ((pre ++ [m % 128 + 128]).length : Int) := by simp
          rw [hl, e1, hp, rdU_uvF f (pre ++ [m % 128 + 128]) suf (m / 128) _ r (by omega) (by omega) (by omega) (pow_next f m h1) (Or.inl (by omega)) (by rw [Int.add_assoc, e3]; exact hb), Int.add_assoc, e3]
          simp only [List.length_append, List.length_cons, List.length_nil, Prod.mk.injEq, and_true, true_and]
          omega
theorem readU_uv (pre suf : List Int) (n : Int) (h0 : 0 ≤ n) (h1 : n ≤ 1000000000000) : readU (pre ++ uv n ++ suf) pre.length = (n, (pre.length : Int) + (uv n).length, true) := by
  have h := rdU_uvF 5 pre suf n 0 5 (by omega) (by omega) h0 (by simp; omega) (Or.inr rfl) (by simp; omega)
  unfold readU uv
  simpa using h

/-- The signed numbers. -/
def zig (n : Int) : Int := if n < 0 then -2 * n - 1 else 2 * n
def appS (bs : List Int) (n : Int) : List Int := if -1000000000 ≤ n ∧ n ≤ 1000000000 then bs ++ uv (zig n) else bs
def unzig (m : Int) : Int := if m % 2 = 1 then -((m + 1) / 2) else m / 2
def signed (r : Int × Int × Bool) : Int × Int × Bool := if r.2.2 = false ∨ 2000000000 < r.1 then (0, 0, false) else (unzig r.1, r.2.1, true)
theorem unzig_zig (n : Int) : unzig (zig n) = n := by
  unfold unzig zig
  split <;> split <;> omega
theorem zig_bd (n : Int) (h0 : -1000000000 ≤ n) (h1 : n ≤ 1000000000) : 0 ≤ zig n ∧ zig n ≤ 2000000000 := by
  unfold zig
  split <;> omega

theorem pow7 (i : Nat) : (2 : Int) ^ (7 * i) = 128 ^ i := by rw [Int.pow_mul]; rfl
theorem pow128_le (i : Nat) (hi : i ≤ 6) : (128 : Int) ^ i ≤ 4398046511104 := by
  have : i = 0 ∨ i = 1 ∨ i = 2 ∨ i = 3 ∨ i = 4 ∨ i = 5 ∨ i = 6 := by omega
  rcases this with rfl | rfl | rfl | rfl | rfl | rfl | rfl <;> decide
theorem shl_part (c : Int) (i : Nat) (hi : i < 6) : wrap64 (c % 128 * 2 ^ (7 * i)) = c % 128 * 128 ^ i ∧ 0 ≤ c % 128 * 128 ^ i ∧ c % 128 * 128 ^ i < 4398046511104 := by
  have hp := pow128_le i (by omega)
  have hp6 := pow128_le (i + 1) (by omega)
  have hp0 : (0 : Int) < 128 ^ i := Int.pow_pos (by omega)
  have h0 : 0 ≤ c % 128 * 128 ^ i := Int.mul_nonneg (by omega) (by omega)
  have h1 : c % 128 * 128 ^ i ≤ 127 * 128 ^ i := Int.mul_le_mul_of_nonneg_right (by omega) (by omega)
  rw [Int.pow_succ] at hp6
  rw [pow7]
  exact ⟨IntWalk.wrap64_in _ ⟨by omega, by omega⟩, h0, by omega⟩
theorem acc_next (acc c : Int) (i : Nat) (h1 : acc < 128 ^ i) : acc + c % 128 * 128 ^ i < 128 ^ (i + 1) := by
  have hp0 : (0 : Int) < 128 ^ i := Int.pow_pos (by omega)
  have h2 : c % 128 * 128 ^ i ≤ 127 * 128 ^ i := Int.mul_le_mul_of_nonneg_right (by omega) (by omega)
  rw [Int.pow_succ]
  omega
theorem or_part (acc c : Int) (i : Nat) (hi : i < 6) (h0 : 0 ≤ acc) (h1 : acc < 128 ^ i) : bits .or .i64 acc (wrap64 (c % 128 * 2 ^ (7 * i))) = acc + c % 128 * 128 ^ i := by
  have hs := shl_part c i hi
  have hp := pow128_le i (by omega)
  rw [hs.1]
  have hc : bits .or .i64 acc (c % 128 * 128 ^ i) = bits .or .i64 (c % 128 * 128 ^ i) acc := by simp only [bits, BitVec.or_comm]
  rw [hc, bits_join .i64 42 (by decide) (fun n h1 h2 => by rw [IntKind.wrap_i64]; omega) (7 * i) (c % 128 * 128 ^ i) acc hs.2.1 (by rw [pow7]; exact Int.mul_emod_left _ _) (by omega) h0 (by rw [pow7]; exact h1) (by omega)]
  omega

theorem rdU_bd (bs : List Int) (hb : IsBytes bs) : ∀ (r : Nat) (p acc x y : Int), 0 ≤ acc → rdU bs p acc r = (x, y, true) → 0 ≤ x ∧ 0 ≤ y ∧ y ≤ bs.length
  | 0, p, acc, x, y, _, h => by simp [rdU] at h
  | r + 1, p, acc, x, y, ha, h => by
    by_cases ho : p < 0 ∨ (bs.length : Int) ≤ p
    · rw [rdU_out _ _ _ _ ho] at h; simp at h
    · have hp : (0 : Int) < 128 ^ (5 - r) := Int.pow_pos (by omega)
      have hm : 0 ≤ bs.getD p.toNat 0 % 128 * 128 ^ (5 - r) := Int.mul_nonneg (by omega) (by omega)
      by_cases hc : bs.getD p.toNat 0 < 128
      · by_cases hbad : (bs.getD p.toNat 0 = 0 ∧ r < 5) ∨ 1000000000000 < acc + bs.getD p.toNat 0 % 128 * 128 ^ (5 - r)
        · rw [rdU_bad _ _ _ _ _ (by omega) (by omega) rfl hc hbad] at h; simp at h
        · rw [rdU_good _ _ _ _ _ (by omega) (by omega) rfl hc hbad] at h
          simp only [Prod.mk.injEq, and_true] at h
          omega
      · rw [rdU_more _ _ _ _ _ (by omega) (by omega) rfl hc] at h
        exact rdU_bd bs hb r _ _ _ _ (by omega) h
theorem rdU_false (bs : List Int) : ∀ (r : Nat) (p acc x y : Int), rdU bs p acc r = (x, y, false) → x = 0 ∧ y = 0
  | 0, p, acc, x, y, h => by simp [rdU] at h; omega
  | r + 1, p, acc, x, y, h => by
    by_cases ho : p < 0 ∨ (bs.length : Int) ≤ p
    · rw [rdU_out _ _ _ _ ho] at h; simp at h; omega
    · by_cases hc : bs.getD p.toNat 0 < 128
      · by_cases hbad : (bs.getD p.toNat 0 = 0 ∧ r < 5) ∨ 1000000000000 < acc + bs.getD p.toNat 0 % 128 * 128 ^ (5 - r)
        · rw [rdU_bad _ _ _ _ _ (by omega) (by omega) rfl hc hbad] at h; simp at h; omega
        · rw [rdU_good _ _ _ _ _ (by omega) (by omega) rfl hc hbad] at h; simp at h
      · rw [rdU_more _ _ _ _ _ (by omega) (by omega) rfl hc] at h
        exact rdU_false bs r _ _ _ _ h
/-- What ReadText returns. -/
def textOf (bs : List Int) (r : Int × Int × Bool) (most : Int) : List Int × Int × Bool :=
  if r.2.2 = false ∨ most < r.1 ∨ (bs.length : Int) - r.2.1 < r.1 then ([], 0, false) else ((bs.drop r.2.1.toNat).take r.1.toNat, r.2.1 + r.1, true)
end Go.Proofs.Ytdbliaechmjemaa
