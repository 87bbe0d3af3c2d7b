/- The draws' beginning: l1New. -/
import Derived.Test.YtmbochhmeojmfaaDoorDraw1
namespace Go.Proofs.YtmbochhmeojmfaaDoor
set_option maxRecDepth 20000
open Go.RowKit

theorem l1New_any (A : Option Addr) (n c : Nat) (xs : List Int) (w : World) (hr : Rd w A (xs.map (.int .u8))) (hnn : xs.length = n) (hn : n ≤ 1048576) :
    Calls Tryd.prog 31 #[.slice A n c] w fun e w' => e = .returned (.pointer (some ⟨w.heap.size, 0, none⟩)) ∧ CurOk w' w.heap.size ∧ w.grownBy w' none := by
  have HL := hid hnn
  have HR := hid hr
  clear hr hnn
  go_enter Tryd.func31, Tryd.ntmps31
  go_wp2
  go_loop [3, 4] (fun h i => ∃ k : Nat, k ≤ n ∧ i = .int .i64 k ∧ ∃ q : Int, h = .int .i64 q) (fun _ i => n - (intOf i).toNat)
  case atStart => exact ⟨0, by omega, rfl, _, rfl⟩
  case round =>
    obtain ⟨k, hk, rfl, q, rfl⟩ := hrel
    by_cases hlt : k < n ∧ k < 4000
    · obtain ⟨hlt1, hlt2⟩ := hlt
      have hkz : k < xs.length := by have := HL.out; omega
      obtain ⟨b, o, hA, hb, hc⟩ := HR.out k (by simpa using hkz)
      subst hA
      obtain ⟨x, hx⟩ : ∃ x, x = xs[k] := ⟨_, rfl⟩
      have hcx : w.cell? ⟨b, o + k, none⟩ = some (.int .u8 x) := by rw [hc, int_at hkz, hx]
      have d1 : decide ((k : Int) < (n : Int)) = true := by simp; omega
      have d2 : decide ((k : Int) < 4000) = true := by simp; omega
      clear hc hx
      go_wp2
      go_round
      case rel => exact ⟨k + 1, by omega, by go_num, _, rfl⟩
      case measure => simp [intOf]; omega
    · have HF : Hid (∀ (h : Value) , CurOk (w.alloc (.cells #[.slice A n c, .int .i64 0, .int .i64 q] 74)) w.heap.size) := fun _ => by
        obtain rfl := HL.out
        exact ⟨A, c, 0, q, xs, heap_alloc_new w _, (RdB.of HR.out).kept (gb_alloc (gb_refl _ none) _) (Nat.le_refl _) (by simp), by omega, hn⟩
      by_cases hkn : k < n
      · have d1 : decide ((k : Int) < (n : Int)) = true := by simp; omega
        have d2 : decide ((k : Int) < 4000) = false := by simp; omega
        go_wp2
        go_ret
        exact ⟨rfl, HF.out (.bool true), gb_alloc (gb_refl _ _) _⟩
      · have d1 : decide ((k : Int) < (n : Int)) = false := by simp; omega
        go_wp2
        go_ret
        exact ⟨rfl, HF.out (.bool true), gb_alloc (gb_refl _ _) _⟩
end Go.Proofs.YtmbochhmeojmfaaDoor
