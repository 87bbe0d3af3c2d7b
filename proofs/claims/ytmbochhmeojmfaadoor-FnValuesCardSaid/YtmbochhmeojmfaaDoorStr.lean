/- The draw l1Str. -/
import Derived.Test.YtmbochhmeojmfaaDoorDrawNew
namespace Go.Proofs.YtmbochhmeojmfaaDoor
set_option maxRecDepth 20000
open Go.RowKit

def DrawnStr (P : ByteArray → Prop) (g : Nat) (w : World) (e : Ending) (w' : World) : Prop := ∃ x : ByteArray, P x ∧ e = .returned (.string x) ∧ CurOk w' g ∧ w.grownBy w' (some g)
theorem apart_str {g h : Nat} (hl : g < h) : ∀ a, (some ⟨h, 0, none⟩ : Option Addr) = some a → some a.block ≠ some g := by
  intro a ha e
  injection ha with ha
  subst ha
  injection e with e
  have : h = g := e
  omega
theorem str_at {xs : List ByteArray} {j : Nat} (hj : j < xs.length) : (xs.map Value.string)[j]? = some (.string xs[j]) := by simp [hj]
theorem l1Str_any (g : Nat) (A : Option Addr) (n c : Nat) (zs : List ByteArray) (w : World) (hcur : CurOk w g) (hr : Rd w A (zs.map Value.string)) (hnn : zs.length = n) (hn : 0 < n) (hn' : n ≤ 256) (hA : ∀ a, A = some a → some a.block ≠ some g) :
    Calls Tryd.prog 71 #[.pointer (some ⟨g, 0, none⟩), .slice A n c] w (DrawnStr (· ∈ zs) g w) := by
  have HC := hid hcur
  have HL := hid hnn
  have HA := hid hA
  clear hcur hnn hA
  go_enter Tryd.func71, Tryd.ntmps71
  go_wp2_with fail
  refine (l1Below_any _ _ _ HC.out).mono ?_
  rintro e w1 ⟨x, ⟨hx0, hx1⟩, rfl, hc1, hg1⟩
  have hlt : x < (n : Int) := by omega
  clear hx1
  obtain ⟨k, rfl⟩ := Int.eq_ofNat_of_zero_le hx0
  have hkz : k < zs.length := by have := HL.out; omega
  obtain ⟨b, o, rfl, hb, hc⟩ := (hr.kept hg1 HA.out) k (by simpa using hkz)
  obtain ⟨y, hy⟩ : ∃ y, y = zs[k] := ⟨_, rfl⟩
  have hcx : w1.cell? ⟨b, o + k, none⟩ = some (.string y) := by rw [hc, str_at hkz, hy]
  have HY : Hid (y ∈ zs) := by show y ∈ zs; rw [hy]; exact List.getElem_mem hkz
  have HC1 := hid hc1
  clear hc hy hc1
  go_wp2
  go_ret
  exact ⟨_, HY.out, rfl, HC1.out, hg1⟩
end Go.Proofs.YtmbochhmeojmfaaDoor
