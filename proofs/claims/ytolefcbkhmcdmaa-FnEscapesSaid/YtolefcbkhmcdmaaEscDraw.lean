/- The draws of the escape chapter. -/
import Derived.Test.YtolefcbkhmcdmaaStr
import Derived.Test.YtolefcbkhmcdmaaSafe
namespace Go.Proofs.Ytolefcbkhmcdmaa
open Go.RowKit

def pieces : List ByteArray := [{ data := #[97] }, { data := #[60, 98, 62] }, { data := #[38] }, { data := #[34] }, { data := #[39] }, { data := #[92] }, { data := #[10] }, { data := #[32] }, { data := #[37] }, { data := #[43] }, { data := #[38, 97, 109, 112, 59] }, { data := #[38, 35, 51, 57, 59] }, { data := #[37, 52, 49] }, { data := #[37, 52] }, { data := #[92, 120, 51, 67] }, { data := #[92, 120] }, { data := #[126, 122] }, { data := #[255] }, { data := #[81, 57] }, { data := #[38, 108, 116] }]
theorem pieces_size : ∀ x ∈ pieces, x.size ≤ 5 := by decide
theorem l4Text_any (g : Nat) (w : World) (hcur : CurOk w g) :
    Calls Try.prog 45 #[.pointer (some ⟨g, 0, none⟩)] w (DrawnStr (fun x => x.size ≤ 25) g w) := by
  have HC := hid hcur
  clear hcur
  go_enter Try.func45, Try.ntmps45
  go_wp2_with fail
  refine (l1Below_any _ _ _ HC.out).mono ?_
  rintro e w1 ⟨x, ⟨hx0, hx1⟩, rfl, hc1, hg1⟩
  obtain ⟨n, rfl⟩ := Int.eq_ofNat_of_zero_le hx0
  have hn : n ≤ 4 := by omega
  clear hx1 hx0
  go_wp2
  go_loopw [3, 4] (fun t k wr => ∃ (m : Nat) (s : ByteArray), m ≤ 4 ∧ k = .int .i64 m ∧ t = .string s ∧ s.size + 5 * m ≤ 25 ∧ CurOk wr g ∧ w.grownBy wr (some g)) (fun _ k _ => (intOf k).toNat)
  case atStart => exact ⟨n, _, hn, rfl, rfl, by show 0 + 5 * n ≤ 25; omega, hc1, hg1⟩
  case round =>
    clear hc1 hg1
    obtain ⟨m, s, hm, rfl, rfl, hs, hc, hg⟩ := hrel
    by_cases h0 : 0 < m
    · have hl := hc.lt
      have HC2 : Hid (CurOk (wr.alloc (.cells (pieces.map Value.string).toArray 9)) g) := hc.alloc _
      have HRD : Hid (Rd (wr.alloc (.cells (pieces.map Value.string).toArray 9)) (some ⟨wr.heap.size, 0, none⟩) (pieces.map Value.string)) := Rd.lit _ _ _
      go_wp2_with fail
      refine (l1Str_any g _ 20 20 pieces _ HC2.out HRD.out rfl (by omega) (by omega) (apart_str hl)).mono ?_
      rintro e w2 ⟨y, hy, rfl, hc2, hg2⟩
      have hys := pieces_size y hy
      clear hy
      have hg3 := gb_trans (gb_alloc hg _) hg2
      clear hc hg hg2
      go_wp2
      go_roundw
      case rel => exact ⟨m - 1, s ++ y, by omega, by go_num, rfl, by rw [ByteArray.size_append]; omega, hc2, hg3⟩
      case measure => simp [intOf]; omega
    · have HS : Hid (s.size ≤ 25) := by show _ ≤ _; omega
      go_wp2
      go_ret
      exact ⟨_, HS.out, rfl, hc, hg⟩

def InDrawn (w : World) (e : Ending) (w' : World) : Prop := ∃ (k : Int) (s : ByteArray), e = .returned (.tuple #[.int .i64 k, .string s]) ∧ s.size ≤ 25 ∧ w.grownBy w' none
theorem drawEscapeIn_any (A : Option Addr) (n c : Nat) (xs : List Int) (w : World) (hr : Rd w A (xs.map (.int .u8))) (hnn : xs.length = n) (hn : n ≤ 1048576) :
    Calls Try.prog 27 #[.slice A n c] w (InDrawn w) := by
  have HL := hid hnn
  have HR := hid hr
  clear hr hnn
  go_enter Try.func27, Try.ntmps27
  go_wp2_with fail
  refine (l1New_any _ _ _ _ _ HR.out HL.out hn).mono ?_
  rintro e w1 ⟨rfl, hc1, hg1⟩
  have HC1 := hid hc1
  clear hc1
  go_wp2_with fail
  refine (l1Below_any _ _ _ HC1.out).mono ?_
  rintro e w2 ⟨y, ⟨hy0, hy1⟩, rfl, hc2, hg2⟩
  have hy5 : y ≤ 5 := by omega
  have HC2 := hid hc2
  clear hc2 hy1
  go_wp2_with fail
  refine (l4Text_any _ _ HC2.out).mono ?_
  rintro e w3 ⟨s, hs, rfl, hc3, hg3⟩
  clear hc3
  go_wp2
  go_ret2
  exact ⟨_, s, rfl, hs, gb_fresh hg1 (gb_trans hg2 hg3) (fun k hk => by have h2 : w.heap.size = k := (by injection hk); omega)⟩
def StrDrawn (w : World) (e : Ending) (w' : World) : Prop := ∃ (s : ByteArray), e = .returned (.string s) ∧ s.size ≤ 25 ∧ w.grownBy w' none
theorem drawEscapeURL_any (A : Option Addr) (n c : Nat) (xs : List Int) (w : World) (hr : Rd w A (xs.map (.int .u8))) (hnn : xs.length = n) (hn : n ≤ 1048576) :
    Calls Try.prog 28 #[.slice A n c] w (StrDrawn w) := by
  have HL := hid hnn
  have HR := hid hr
  clear hr hnn
  go_enter Try.func28, Try.ntmps28
  go_wp2_with fail
  refine (l1New_any _ _ _ _ _ HR.out HL.out hn).mono ?_
  rintro e w1 ⟨rfl, hc1, hg1⟩
  have HC1 := hid hc1
  clear hc1
  go_wp2_with fail
  refine (l4Text_any _ _ HC1.out).mono ?_
  rintro e w3 ⟨s, hs, rfl, hc3, hg3⟩
  clear hc3
  go_wp2
  go_ret
  exact ⟨s, rfl, hs, gb_fresh hg1 hg3 (fun k hk => by have h2 : w.heap.size = k := (by injection hk); omega)⟩
end Go.Proofs.Ytolefcbkhmcdmaa
