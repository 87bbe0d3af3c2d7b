/- The draws of the number chapter. -/
import Derived.Test.YthamioapmfmljaaDoorStr
import Derived.Test.YthamioapmfmljaaDoorDraw2
import Derived.Test.YthamioapmfmljaaDoorLSigned
namespace Go.Proofs.YthamioapmfmljaaDoor
open Go.RowKit
set_option linter.unusedVariables false

theorem size21 (v : Int) (h0 : -9223372036854775808 ≤ v) (h1 : v ≤ 9223372036854775807) : (itoaB v).size ≤ 21 := by
  by_cases h : v < 0
  · have e : (itoaB v).size = Lib.nDigits v.natAbs + 1 := by unfold itoaB Lib.itoa; rw [if_pos h, ← Lib.decDigits_length]; simp [ByteArray.size]
    rw [e]
    have := nDigits_le 19 v.natAbs (by omega)
    omega
  · have e : (itoaB v).size = Lib.nDigits v.toNat := by unfold itoaB Lib.itoa; rw [if_neg h, ← Lib.decDigits_length]; simp [ByteArray.size]
    rw [e]
    have := nDigits_le 19 v.toNat (by omega)
    omega
theorem drawFormatInt_any (A : Option Addr) (n c : Nat) (xs : List Int) (w : World) (hr : Rd w A (xs.map (.int .u8))) (hnn : xs.length = n) (hn : n ≤ 1048576) :
    Calls Tryd.prog 23 #[.slice A n c] w fun e w' => ∃ x, I64 x ∧ e = .returned (.int .i64 x) ∧ w.grownBy w' none := by
  have HL := hid hnn
  have HR := hid hr
  clear hr hnn
  go_enter Tryd.func23, Tryd.ntmps23
  go_wp2_with fail
  refine (l1New_any _ _ _ _ _ HR.out HL.out hn).mono ?_
  rintro e w1 ⟨rfl, hc1, hg1⟩
  have HC1 := hid hc1
  clear hc1
  go_wp2_with fail
  refine (l1One_any _ _ HC1.out).mono ?_
  rintro e w4 ⟨z, hz, rfl, hc4, hg4⟩
  have HZ := hid hz
  clear hc4 hz
  go_wp2
  go_ret
  exact ⟨z, HZ.out, rfl, gb_fresh hg1 hg4 (fun k hk => by have h2 : w.heap.size = k := (by injection hk); omega)⟩
def signs : List ByteArray := [{ data := #[] }, { data := #[45] }, { data := #[45, 48] }, { data := #[45, 49] }, { data := #[45, 45, 49] }, { data := #[49, 48, 48, 48, 48, 48, 48, 48, 48, 48] }, { data := #[49, 48, 48, 48, 48, 48, 48, 48, 48, 49] }, { data := #[45, 49, 48, 48, 48, 48, 48, 48, 48, 48, 48] }, { data := #[45, 49, 48, 48, 48, 48, 48, 48, 48, 48, 49] }, { data := #[43, 49] }, { data := #[45, 48, 49] }]
theorem signs_size : ∀ x ∈ signs, x.size ≤ 21 := by decide
theorem l1Once_any (g : Nat) (w : World) (hcur : CurOk w g) :
    Calls Tryd.prog 34 #[.pointer (some ⟨g, 0, none⟩), .int .i64 2] w fun e w' => ∃ b, e = .returned (.bool b) ∧ CurOk w' g ∧ w.grownBy w' (some g) := by
  have HC := hid hcur
  clear hcur
  go_enter Tryd.func34, Tryd.ntmps34
  go_wp2_with fail
  refine (l1Below_any _ _ _ HC.out).mono ?_
  rintro e w1 ⟨x, ⟨hx0, hx1⟩, rfl, hc1, hg1⟩
  have HC1 := hid hc1
  clear hc1 hx0 hx1
  go_wp2
  go_ret
  exact ⟨_, rfl, HC1.out, hg1⟩
theorem drawParseSigned_any (A : Option Addr) (n c : Nat) (xs : List Int) (w : World) (hr : Rd w A (xs.map (.int .u8))) (hnn : xs.length = n) (hn : n ≤ 1048576) :
    Calls Tryd.prog 24 #[.slice A n c] w fun e w' => ∃ x : ByteArray, x.size ≤ 21 ∧ e = .returned (.string x) ∧ w.grownBy w' none := by
  have HL := hid hnn
  have HR := hid hr
  clear hr hnn
  go_enter Tryd.func24, Tryd.ntmps24
  go_wp2_with fail
  refine (l1New_any _ _ _ _ _ HR.out HL.out hn).mono ?_
  rintro e w1 ⟨rfl, hc1, hg1⟩
  have HC1 := hid hc1
  clear hc1
  go_wp2_with fail
  refine (l1Once_any _ _ HC1.out).mono ?_
  rintro e w2 ⟨b, rfl, hc2, hg2⟩
  have HC2 := hid hc2
  have hl := hc2.lt
  clear hc2
  cases b
  · go_wp2_with fail
    refine (l1Num_any _ _ HC2.out).mono ?_
    rintro e w3 ⟨z, ⟨hz0, hz1⟩, rfl, hc3, hg3⟩
    have HZ0 := hid hz0
    have HZ1 := hid hz1
    clear hc3 hz0 hz1
    go_wp2_with fail
    refine (specFmt _ _ (by have := HZ0.out; omega) (by have := HZ1.out; omega)).mono ?_
    rintro e w4 ⟨rfl, hg4⟩
    rw [show (⟨(Lib.itoa z).toArray⟩ : ByteArray) = itoaB z from rfl]
    go_wp2
    go_ret
    exact ⟨_, size21 z (by have := HZ0.out; omega) (by have := HZ1.out; omega), rfl, gb_fresh hg1 (gb_trans (gb_trans hg2 hg3) (gb_any hg4)) (fun k hk => by have h2 : w.heap.size = k := (by injection hk); omega)⟩
  · have HC3 : Hid (CurOk (w2.alloc (.cells (signs.map Value.string).toArray 9)) w.heap.size) := HC2.out.alloc _
    have HRD : Hid (Rd (w2.alloc (.cells (signs.map Value.string).toArray 9)) (some ⟨w2.heap.size, 0, none⟩) (signs.map Value.string)) := Rd.lit _ _ _
    go_wp2_with fail
    refine (l1Str_any _ _ 11 11 signs _ HC3.out HRD.out rfl (by omega) (by omega) (apart_str hl)).mono ?_
    rintro e w4 ⟨y, hy, rfl, hc4, hg4⟩
    have hys := hid (signs_size y hy)
    clear hy hc4
    go_wp2
    go_ret
    exact ⟨_, hys.out, rfl, gb_fresh hg1 (gb_trans (gb_alloc hg2 _) hg4) (fun k hk => by have h2 : w.heap.size = k := (by injection hk); omega)⟩
end Go.Proofs.YthamioapmfmljaaDoor
