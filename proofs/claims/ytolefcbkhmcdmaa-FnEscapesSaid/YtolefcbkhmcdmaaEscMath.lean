/- Plain mathematics of the escapes: bytes as numbers. No program in sight. -/
import Derived.Test.YtolefcbkhmcdmaaBytesI
import Derived.Lib.Strings
namespace Go.Proofs.Ytolefcbkhmcdmaa
open Go.RowKit

def ent (c : Int) : List Int :=
  if c = 38 then [38, 97, 109, 112, 59] else if c = 60 then [38, 108, 116, 59] else if c = 62 then [38, 103, 116, 59] else if c = 34 then [38, 113, 117, 111, 116, 59] else if c = 39 then [38, 35, 51, 57, 59] else [c]
def hexU (d : Int) : Int := if d < 10 then 48 + d else 55 + d
def plainU (c : Int) : Bool := decide ((97 ≤ c ∧ c ≤ 122) ∨ (65 ≤ c ∧ c ≤ 90) ∨ (48 ≤ c ∧ c ≤ 57) ∨ c = 45 ∨ c = 95 ∨ c = 46 ∨ c = 126)
def bareS (c : Int) : Bool := decide (32 ≤ c ∧ c ≤ 126 ∧ c ≠ 92 ∧ c ≠ 39 ∧ c ≠ 34 ∧ c ≠ 60 ∧ c ≠ 62 ∧ c ≠ 38)
def encU (c : Int) : List Int := if plainU c = true then [c] else [37, hexU (c / 16), hexU (c % 16)]
def encS (c : Int) : List Int := if bareS c = true then [c] else [92, 120, hexU (c / 16), hexU (c % 16)]
def escAll (f : Int → List Int) (l : List Int) : List Int := l.flatMap f
theorem escAll_snoc (f : Int → List Int) (l : List Int) (c : Int) : escAll f (l ++ [c]) = escAll f l ++ f c := by simp [escAll]
theorem escAll_app (f : Int → List Int) (l m : List Int) : escAll f (l ++ m) = escAll f l ++ escAll f m := by simp [escAll]
theorem ent_length (c : Int) : (ent c).length ≤ 6 := by
  unfold ent
  (repeat' split) <;> simp
theorem encU_length (c : Int) : (encU c).length ≤ 6 := by unfold encU; split <;> simp
theorem encS_length (c : Int) : (encS c).length ≤ 6 := by unfold encS; split <;> simp
theorem escAll_length (f : Int → List Int) (hf : ∀ c, (f c).length ≤ 6) : ∀ l : List Int, (escAll f l).length ≤ 6 * l.length
  | [] => by simp [escAll]
  | c :: l => by
    have := hf c
    have := escAll_length f hf l
    simp only [escAll, List.flatMap_cons, List.length_append, List.length_cons] at *
    omega

theorem strOf_app (a b : List Int) : strOf a ++ strOf b = strOf (a ++ b) := by
  apply ByteArray.ext
  simp [strOf, ByteArray.data_append]
theorem strOf_nil : strOf [] = ByteArray.empty := rfl
/-- 's[k:k+1]'. -/
theorem extract_one (s : ByteArray) (k : Nat) (h : k < s.size) : s.extract k (k + 1) = strOf [(s[k].toNat : Int)] := by
  apply ByteArray.ext
  apply Array.toList_inj.1
  rw [Lib.extract_data]
  unfold strOf
  have e : k + 1 - k = 1 := by omega
  rw [e, List.drop_eq_getElem_cons (by simpa using h)]
  simp
  rfl
theorem run_slice_one {P : Program} (t : TypeId) (ht : P.underlying t = some .string) (s : ByteArray) (k : Nat) (h : k < s.size) (W : World) :
    (Instr.slice t (.string s) (some (.int .i64 (k : Int))) (some (.int .i64 ((k : Int) + 1))) none).run P W = .ok (.string (strOf [(s[k].toNat : Int)])) W := by
  have h1 := run_slice_string (P := P) W t s .i64 .i64 (k : Int) ((k : Int) + 1) ht (by omega) (by omega) (by omega)
  rw [h1, ← extract_one s k h]
  rfl
theorem hexU_bd (d : Int) (h0 : 0 ≤ d) (h1 : d < 16) : 0 ≤ hexU d ∧ hexU d ≤ 255 := by unfold hexU; split <;> omega
def hexCharsU : ByteArray := { data := #[48, 49, 50, 51, 52, 53, 54, 55, 56, 57, 65, 66, 67, 68, 69, 70] }
theorem hexU_at (d : Int) (h0 : 0 ≤ d) (h1 : d < 16) (h : d.toNat < hexCharsU.size) : ((hexCharsU[d.toNat]'h).toNat : Int) = hexU d := by
  have : d = 0 ∨ d = 1 ∨ d = 2 ∨ d = 3 ∨ d = 4 ∨ d = 5 ∨ d = 6 ∨ d = 7 ∨ d = 8 ∨ d = 9 ∨ d = 10 ∨ d = 11 ∨ d = 12 ∨ d = 13 ∨ d = 14 ∨ d = 15 := by omega
  rcases this with rfl | rfl | rfl | rfl | rfl | rfl | rfl | rfl | rfl | rfl | rfl | rfl | rfl | rfl | rfl | rfl <;> rfl
theorem i64_and15 (n : Int) : bits .and .i64 n 15 = n % 16 := by
  have h15 : (BitVec.ofInt 64 15).toNat = 2 ^ 4 - 1 := by decide
  have key : (BitVec.ofInt 64 n &&& BitVec.ofInt 64 15).toNat = (n % ((2 ^ 64 : Nat) : Int)).toNat % 2 ^ 4 := by
    rw [BitVec.toNat_and, BitVec.toNat_ofInt, h15, Nat.and_two_pow_sub_one_eq_mod]
  show IntKind.i64.wrap ((BitVec.ofInt 64 n &&& BitVec.ofInt 64 15).toNat : Nat) = n % 16
  rw [key, IntKind.wrap_i64]
  omega
theorem run_conv_two {P : Program} (W : World) (src e dst : TypeId) (c d : Int) (hs : P.underlying src = some (.slice e)) (he : P.underlying e = some (.int .u8)) (hd : P.underlying dst = some .string) :
    (convert src dst (.slice (some ⟨W.heap.size, 0, none⟩) 2 2)).run P (W.alloc (.cells #[.int .u8 c, .int .u8 d] e)).drew = .ok (.string (strOf [c, d])) (W.alloc (.cells #[.int .u8 c, .int .u8 d] e)).drew :=
  run_conv_rd (P := P) _ src e dst (some ⟨W.heap.size, 0, none⟩) 2 2 [c, d] hs he hd ((Rd.lit W [.int .u8 c, .int .u8 d] e).grow (gb_drew (gb_refl _ _))) rfl
end Go.Proofs.Ytolefcbkhmcdmaa
