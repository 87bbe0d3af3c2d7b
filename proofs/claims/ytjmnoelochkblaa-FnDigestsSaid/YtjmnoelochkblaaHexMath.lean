/- Plain mathematics of HexText. No program in sight. -/
import Derived.Test.YtjmnoelochkblaaMem
namespace Go.Proofs.Ytjmnoelochkblaa
open Go.RowKit

def hexDig (d : Int) : Int := if d < 10 then 48 + d else 97 + d - 10
def nib (n : Int) (k : Nat) : Int := n / 16 ^ k % 16
def hexI (n : Int) : Nat → List Int
  | 0 => []
  | k + 1 => hexDig (nib n k) :: hexI n k
theorem hexI_length (n : Int) : ∀ k, (hexI n k).length = k
  | 0 => rfl
  | k + 1 => by rw [hexI, List.length_cons, hexI_length n k]
theorem nib_bd (n : Int) (k : Nat) : 0 ≤ nib n k ∧ nib n k < 16 := by unfold nib; omega
theorem strOf_cons (c : Int) (l : List Int) : byteStr c ++ strOf l = strOf (c :: l) := by
  apply ByteArray.ext
  simp [byteStr, strOf, ByteArray.data_append]
theorem byteStr_size (c : Int) : (byteStr c).size = 1 := rfl
theorem i64_and15 (n : Int) : bits .and .i64 n 15 = n % 16 := by
  have h15 : (BitVec.ofInt 64 15).toNat = 2 ^ 4 - 1 := by decide
  have key : (BitVec.ofInt 64 n &&& BitVec.ofInt 64 15).toNat = (n % ((2 ^ 64 : Nat) : Int)).toNat % 2 ^ 4 := by
    rw [BitVec.toNat_and, BitVec.toNat_ofInt, h15, Nat.and_two_pow_sub_one_eq_mod]
  show IntKind.i64.wrap ((BitVec.ofInt 64 n &&& BitVec.ofInt 64 15).toNat : Nat) = n % 16
  rw [key, IntKind.wrap_i64]
  omega
theorem pow4 (k : Nat) : (2 : Int) ^ (4 * k) = 16 ^ k := by rw [Int.pow_mul]; rfl
theorem nib_spec (n : Int) (k : Nat) : bits .and .i64 (n / 2 ^ (4 * k)) 15 = nib n k := by rw [i64_and15, pow4]; rfl
theorem nib_div (n : Int) (k : Nat) : n / 16 ^ k / 16 = n / 16 ^ (k + 1) := by
  rw [Int.pow_succ, ← Int.ediv_ediv_of_nonneg (Int.pow_nonneg (by omega))]
def hexChars : ByteArray := { data := #[48, 49, 50, 51, 52, 53, 54, 55, 56, 57, 97, 98, 99, 100, 101, 102] }
theorem hex_at (d : Int) (h0 : 0 ≤ d) (h1 : d < 16) (h : d.toNat < hexChars.size) : ((hexChars[d.toNat]'h).toNat : Int) = hexDig d := by
  have : d = 0 ∨ d = 1 ∨ d = 2 ∨ d = 3 ∨ d = 4 ∨ d = 5 ∨ d = 6 ∨ d = 7 ∨ d = 8 ∨ d = 9 ∨ d = 10 ∨ d = 11 ∨ d = 12 ∨ d = 13 ∨ d = 14 ∨ d = 15 := by omega
  rcases this with rfl | rfl | rfl | rfl | rfl | rfl | rfl | rfl | rfl | rfl | rfl | rfl | rfl | rfl | rfl | rfl <;> rfl
theorem hex_set (n : Int) (k : Nat) (hk : k < 8) : ((List.replicate (8 - k) (0 : Int) ++ hexI n k).map (Value.int .u8)).set (7 - k) (.int .u8 (hexDig (nib n k))) = (List.replicate (8 - (k + 1)) (0 : Int) ++ hexI n (k + 1)).map (Value.int .u8) := by
  have e : 8 - k = (7 - k) + 1 := by omega
  have e2 : 8 - (k + 1) = 7 - k := by omega
  rw [e, e2, List.replicate_succ', hexI, List.append_assoc, List.map_append, List.map_append, List.set_append, if_neg (by simp)]
  simp
theorem hex_start (n : Int) : (madeCells (Value.int .u8 0).cells (8 * 1)).toList = (List.replicate (8 - 0) (0 : Int) ++ hexI n 0).map (Value.int .u8) :=
  (toList_madeCells_one (.int .u8 0) 8).trans (by simp [hexI])
end Go.Proofs.Ytjmnoelochkblaa
