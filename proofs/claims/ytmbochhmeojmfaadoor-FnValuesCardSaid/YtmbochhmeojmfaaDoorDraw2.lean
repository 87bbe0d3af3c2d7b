/- The draws of numbers: l1Int, l1Odd, l1Num, l1One. -/
import Derived.Test.YtmbochhmeojmfaaDoorDraw1
namespace Go.Proofs.YtmbochhmeojmfaaDoor
set_option maxRecDepth 20000
open Go.RowKit

def I64 (x : Int) : Prop := -9223372036854775808 ≤ x ∧ x ≤ 9223372036854775807
def Num12 (x : Int) : Prop := 0 ≤ x ∧ x ≤ 1000000000000

theorem apart_new {g h : Nat} (hl : g < h) : ∀ a, (some ⟨h, 0, none⟩ : Option Addr) = some a → some a.block ≠ some g := by
  intro a ha e
  injection ha with ha
  subst ha
  injection e with e
  have : h = g := e
  omega
theorem l1Int_any (g : Nat) (A : Option Addr) (n c : Nat) (zs : List Int) (w : World) (hcur : CurOk w g) (hr : Rd w A (zs.map (.int .i64))) (hnn : zs.length = n) (hn : 0 < n) (hn' : n ≤ 256) (hA : ∀ a, A = some a → some a.block ≠ some g) :
    Calls Tryd.prog 56 #[.pointer (some ⟨g, 0, none⟩), .slice A n c] w (DrawnInt (· ∈ zs) g w) := by
  have HC := hid hcur
  have HL := hid hnn
  have HA := hid hA
  clear hcur hnn hA
  go_enter Tryd.func56, Tryd.ntmps56
  go_wp2_with fail
  refine (l1Below_any _ _ _ HC.out).mono ?_
  rintro e w1 ⟨x, ⟨hx0, hx1⟩, rfl, hc1, hg1⟩
  have hlt : x < (n : Int) := by omega
  clear hx1
  obtain ⟨k, rfl⟩ := Int.eq_ofNat_of_zero_le hx0
  have hkz : k < zs.length := by have := HL.out; omega
  obtain ⟨b, o, rfl, hb, hc⟩ := (hr.kept hg1 HA.out) k (by simpa using hkz)
  obtain ⟨y, hy⟩ : ∃ y, y = zs[k] := ⟨_, rfl⟩
  have hcx : w1.cell? ⟨b, o + k, none⟩ = some (.int .i64 y) := by rw [hc, int_at hkz, hy]
  have HY : Hid (y ∈ zs) := by show y ∈ zs; rw [hy]; exact List.getElem_mem hkz
  have HC1 := hid hc1
  clear hc hy hc1
  go_wp2
  go_ret
  exact ⟨_, HY.out, rfl, HC1.out, hg1⟩

theorem l1Odd_any (g : Nat) (w : World) (hcur : CurOk w g) :
    Calls Tryd.prog 55 #[.pointer (some ⟨g, 0, none⟩)] w (DrawnInt I64 g w) := by
  have HC := hid hcur
  have hl := hcur.lt
  clear hcur
  go_enter Tryd.func55, Tryd.ntmps55
  go_wp2_with fail
  refine (l1Int_any g _ 14 14 [-1, 0, 1, 2, 255, 256, 65535, 2147483647, 2147483648, 4294967295, 4294967296, -2147483648, 9223372036854775807, -9223372036854775808] _ (HC.out.alloc _) (Rd.lit w _ _) rfl (by omega) (by omega) (apart_new hl)).mono ?_
  rintro e w1 ⟨x, hx, rfl, hc1, hg1⟩
  have HX : Hid (I64 x) := by
    show I64 x
    simp only [List.mem_cons, List.not_mem_nil, or_false] at hx
    unfold I64
    omega
  have HC1 := hid hc1
  clear hx hc1
  go_wp2
  go_ret
  exact ⟨_, HX.out, rfl, HC1.out, gb_trans (gb_alloc (gb_refl _ _) _) hg1⟩


end Go.Proofs.YtmbochhmeojmfaaDoor
