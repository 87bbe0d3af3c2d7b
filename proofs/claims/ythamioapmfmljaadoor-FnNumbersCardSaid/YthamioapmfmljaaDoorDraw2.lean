/- The draws of numbers: l1Int, l1Odd, l1Num, l1One. -/
import Derived.Test.YthamioapmfmljaaDoorDraw1
namespace Go.Proofs.YthamioapmfmljaaDoor
open Go.RowKit

def I64 (x : Int) : Prop := -9223372036854775808 ≤ x ∧ x ≤ 9223372036854775807
def Num12 (x : Int) : Prop := 0 ≤ x ∧ x ≤ 1000000000000

theorem apart_new {g h : Nat} (hl : g < h) : ∀ a, (some ⟨h, 0, none⟩ : Option Addr) = some a → some a.block ≠ some g := by
  intro a ha e
  injection ha with ha
  subst ha
  injection e with e
  have : h = g := e
  omega
theorem l1Int_any (g : Nat) (A : Option Addr) (n c : Nat) (zs : List Int) (w : World) (hcur : CurOk w g) (hr : Rd w A (zs.map (.int .i64))) (hnn : zs.length = n) (hn : 0 < n) (hn' : n ≤ 256) (hA : ∀ a, A = some a → some a.block ≠ some g) :
    Calls Tryd.prog 41 #[.pointer (some ⟨g, 0, none⟩), .slice A n c] w (DrawnInt (· ∈ zs) g w) := by
  have HC := hid hcur
  have HL := hid hnn
  have HA := hid hA
  clear hcur hnn hA
  go_enter Tryd.func41, Tryd.ntmps41
  go_wp2_with fail
  refine (l1Below_any _ _ _ HC.out).mono ?_
  rintro e w1 ⟨x, ⟨hx0, hx1⟩, rfl, hc1, hg1⟩
  have hlt : x < (n : Int) := by omega
  clear hx1
  obtain ⟨k, rfl⟩ := Int.eq_ofNat_of_zero_le hx0
  have hkz : k < zs.length := by have := HL.out; omega
  obtain ⟨b, o, rfl, hb, hc⟩ := (hr.kept hg1 HA.out) k (by simpa using hkz)
  obtain ⟨y, hy⟩ : ∃ y, y = zs[k] := ⟨_, rfl⟩
  have hcx : w1.cell? ⟨b, o + k, none⟩ = some (.int .i64 y) := by rw [hc, int_at hkz, hy]
  have HY : Hid (y ∈ zs) := by show y ∈ zs; rw [hy]; exact List.getElem_mem hkz
  have HC1 := hid hc1
  clear hc hy hc1
  go_wp2
  go_ret
  exact ⟨_, HY.out, rfl, HC1.out, hg1⟩

theorem l1Odd_any (g : Nat) (w : World) (hcur : CurOk w g) :
    Calls Tryd.prog 40 #[.pointer (some ⟨g, 0, none⟩)] w (DrawnInt I64 g w) := by
  have HC := hid hcur
  have hl := hcur.lt
  clear hcur
  go_enter Tryd.func40, Tryd.ntmps40
  go_wp2_with fail
  refine (l1Int_any g _ 14 14 [-1, 0, 1, 2, 255, 256, 65535, 2147483647, 2147483648, 4294967295, 4294967296, -2147483648, 9223372036854775807, -9223372036854775808] _ (HC.out.alloc _) (Rd.lit w _ _) rfl (by omega) (by omega) (apart_new hl)).mono ?_
  rintro e w1 ⟨x, hx, rfl, hc1, hg1⟩
  have HX : Hid (I64 x) := by
    show I64 x
    simp only [List.mem_cons, List.not_mem_nil, or_false] at hx
    unfold I64
    omega
  have HC1 := hid hc1
  clear hx hc1
  go_wp2
  go_ret
  exact ⟨_, HX.out, rfl, HC1.out, gb_trans (gb_alloc (gb_refl _ _) _) hg1⟩

set_option maxHeartbeats 1000000 in
theorem l1Num_any (g : Nat) (w : World) (hcur : CurOk w g) :
    Calls Tryd.prog 36 #[.pointer (some ⟨g, 0, none⟩)] w (DrawnInt Num12 g w) := by
  have HC := hid hcur
  clear hcur
  go_enter Tryd.func36, Tryd.ntmps36
  go_wp2_with fail
  refine (l1Below_any _ _ _ HC.out).mono ?_
  rintro e w1 ⟨x, ⟨hx0, hx1⟩, rfl, hc1, hg1⟩
  have hl1 := hc1.lt
  have HC1 := hid hc1
  clear hc1
  obtain rfl | rfl | rfl | rfl : x = 0 ∨ x = 1 ∨ x = 2 ∨ x = 3 := by omega
  · clear hx0 hx1
    go_wp2_with fail
    refine (l1Below_any _ _ _ HC1.out).mono ?_
    rintro e w2 ⟨y, ⟨hy0, hy1⟩, rfl, hc2, hg2⟩
    have HC2 := hid hc2
    clear hc2
    go_wp2
    go_ret
    exact ⟨_, ⟨hy0, by omega⟩, rfl, HC2.out, gb_trans hg1 hg2⟩
  · clear hx0 hx1
    go_wp2_with fail
    refine (l1Int_any g _ 9 9 [0, 1, 127, 128, 999999999, 1000000000, 1000000001, 2147483647, 1000000000000] _ (HC1.out.alloc _) (Rd.lit w1 _ _) rfl (by omega) (by omega) (apart_new hl1)).mono ?_
    rintro e w2 ⟨y, hy, rfl, hc2, hg2⟩
    have HY : Hid (Num12 y) := by
      show Num12 y
      simp only [List.mem_cons, List.not_mem_nil, or_false] at hy
      unfold Num12
      omega
    have HC2 := hid hc2
    clear hc2 hy
    go_wp2
    go_ret
    exact ⟨_, HY.out, rfl, HC2.out, gb_trans hg1 (gb_trans (gb_alloc (gb_refl _ _) _) hg2)⟩
  · clear hx0 hx1
    go_wp2_with fail
    refine (l1Below_any _ _ _ HC1.out).mono ?_
    rintro e w2 ⟨y, ⟨hy0, hy1⟩, rfl, hc2, hg2⟩
    have HC2 := hid hc2
    clear hc2
    go_wp2_with fail
    refine (l1Below_any _ _ _ HC2.out).mono ?_
    rintro e w3 ⟨z, ⟨hz0, hz1⟩, rfl, hc3, hg3⟩
    have HC3 := hid hc3
    clear hc3
    have hm0 : 0 ≤ y * z := Int.mul_nonneg hy0 hz0
    have hm1 : y * z ≤ 1000000 * 1000000 := Int.mul_le_mul (by omega) (by omega) hz0 (by omega)
    go_wp2
    go_ret
    exact ⟨_, ⟨hm0, by omega⟩, rfl, HC3.out, gb_trans hg1 (gb_trans hg2 hg3)⟩
  · clear hx0 hx1
    go_wp2_with fail
    refine (l1Below_any _ _ _ HC1.out).mono ?_
    rintro e w2 ⟨y, ⟨hy0, hy1⟩, rfl, hc2, hg2⟩
    have HC2 := hid hc2
    clear hc2
    go_wp2
    go_ret
    exact ⟨_, ⟨hy0, by omega⟩, rfl, HC2.out, gb_trans hg1 hg2⟩

set_option maxHeartbeats 1000000 in
theorem l1One_any (g : Nat) (w : World) (hcur : CurOk w g) :
    Calls Tryd.prog 33 #[.pointer (some ⟨g, 0, none⟩)] w (DrawnInt I64 g w) := by
  have HC := hid hcur
  clear hcur
  go_enter Tryd.func33, Tryd.ntmps33
  go_wp2_with fail
  refine (l1Below_any _ _ _ HC.out).mono ?_
  rintro e w1 ⟨x, ⟨hx0, hx1⟩, rfl, hc1, hg1⟩
  have HC1 := hid hc1
  clear hc1
  by_cases h0 : x = 0
  · subst h0
    clear hx0 hx1
    go_wp2_with fail
    refine (l1Odd_any _ _ HC1.out).mono ?_
    rintro e w2 ⟨y, hy, rfl, hc2, hg2⟩
    have HY := hid hy
    have HC2 := hid hc2
    clear hc2 hy
    go_wp2
    go_ret
    exact ⟨_, HY.out, rfl, HC2.out, gb_trans hg1 hg2⟩
  · by_cases h1 : x = 1
    · subst h1
      clear hx0 hx1
      go_wp2_with fail
      refine (l1Num_any _ _ HC1.out).mono ?_
      rintro e w2 ⟨y, ⟨hy0, hy1⟩, rfl, hc2, hg2⟩
      have HC2 := hid hc2
      clear hc2
      go_wp2
      go_ret
      exact ⟨_, ⟨by omega, by omega⟩, rfl, HC2.out, gb_trans hg1 hg2⟩
    · have e0 : (x == 0) = false := by simpa using h0
      have e1 : (x == 1) = false := by simpa using h1
      go_wp2_with fail
      refine (l1Num_any _ _ HC1.out).mono ?_
      rintro e w2 ⟨y, ⟨hy0, hy1⟩, rfl, hc2, hg2⟩
      have HC2 := hid hc2
      clear hc2
      go_wp2
      go_ret
      exact ⟨_, ⟨by omega, by omega⟩, rfl, HC2.out, gb_trans hg1 hg2⟩
end Go.Proofs.YthamioapmfmljaaDoor
