/- The draws' beginnings: l1New; and the draw of bytes: l1Bytes. -/
import Derived.Test.YtdbliaechmjemaaDraw1
namespace Go.Proofs.Ytdbliaechmjemaa
open Go.RowKit

theorem l1New_any (A : Option Addr) (n c : Nat) (xs : List Int) (w : World) (hr : Rd w A (xs.map (.int .u8))) (hnn : xs.length = n) (hn : n ≤ 1048576) :
    Calls Try.prog 31 #[.slice A n c] w fun e w' => e = .returned (.pointer (some ⟨w.heap.size, 0, none⟩)) ∧ CurOk w' w.heap.size ∧ w.grownBy w' none := by
  have HL := hid hnn
  have HR := hid hr
  clear hr hnn
  go_enter Try.func31, Try.ntmps31
  go_wp2
  go_loop [3, 4] (fun h i => ∃ k : Nat, k ≤ n ∧ i = .int .i64 k ∧ ∃ q : Int, h = .int .i64 q) (fun _ i => n - (intOf i).toNat)
  case atStart => exact ⟨0, by omega, rfl, _, rfl⟩
  case round =>
    obtain ⟨k, hk, rfl, q, rfl⟩ := hrel
    by_cases hlt : k < n ∧ k < 4000
    · obtain ⟨hlt1, hlt2⟩ := hlt
      have hkz : k < xs.length := by have := HL.out; omega
      obtain ⟨b, o, hA, hb, hc⟩ := HR.out k (by simpa using hkz)
      subst hA
      obtain ⟨x, hx⟩ : ∃ x, x = xs[k] := ⟨_, rfl⟩
      have hcx : w.cell? ⟨b, o + k, none⟩ = some (.int .u8 x) := by rw [hc, int_at hkz, hx]
      have d1 : decide ((k : Int) < (n : Int)) = true := by simp; omega
      have d2 : decide ((k : Int) < 4000) = true := by simp; omega
      clear hc hx
      go_wp2
      go_round
      case rel => exact ⟨k + 1, by omega, by go_num, _, rfl⟩
      case measure => simp [intOf]; omega
    · have HF : Hid (∀ (h : Value) , CurOk (w.alloc (.cells #[.slice A n c, .int .i64 0, .int .i64 q] 48)) w.heap.size) := fun _ => by
        obtain rfl := HL.out
        exact ⟨A, c, 0, q, xs, heap_alloc_new w _, (RdB.of HR.out).kept (gb_alloc (gb_refl _ none) _) (Nat.le_refl _) (by simp), by omega, hn⟩
      by_cases hkn : k < n
      · have d1 : decide ((k : Int) < (n : Int)) = true := by simp; omega
        have d2 : decide ((k : Int) < 4000) = false := by simp; omega
        go_wp2
        go_ret
        exact ⟨rfl, HF.out (.bool true), gb_alloc (gb_refl _ _) _⟩
      · have d1 : decide ((k : Int) < (n : Int)) = false := by simp; omega
        go_wp2
        go_ret
        exact ⟨rfl, HF.out (.bool true), gb_alloc (gb_refl _ _) _⟩

theorem Try.infoU8 : (Try.prog.info? 5).map (fun i => (i.zero, i.size, i.bytes)) = some (some (.int .u8 0), 1, 1) := by kernel_rfl
def IsBytes (xs : List Int) : Prop := ∀ x ∈ xs, Byte x
theorem IsBytes.snoc {xs : List Int} (h : IsBytes xs) {x : Int} (hx : Byte x) : IsBytes (xs ++ [x]) := by
  intro y hy
  rcases List.mem_append.1 hy with hy | hy
  · exact h y hy
  · obtain rfl : y = x := by simpa using hy
    exact hx
theorem u8_one (n : Int) : ∀ u ∈ [Value.int .u8 n], u.oneCell' = true := by
  intro u hu
  obtain rfl : u = _ := by simpa using hu
  rfl
/-- What the draw of a row of bytes comes to: a row of the call's own. -/
def DrawnBytes (m : Nat) (g : Nat) (w : World) (e : Ending) (w' : World) : Prop := ∃ (A : Option Addr) (c : Nat) (xs : List Int), e = .returned (.slice A m c) ∧ xs.length = m ∧ IsBytes xs ∧ (A = none → c = 0) ∧
  w'.ownsRow w.heap.size 5 1 (.slice A m c) m (xs.map (.int .u8)) ∧ CurOk w' g ∧ w.grownBy w' (some g)

theorem l1Bytes_any (g : Nat) (m : Nat) (w : World) (hcur : CurOk w g) (hm : m ≤ 1000000) :
    Calls Try.prog 32 #[.pointer (some ⟨g, 0, none⟩), .int .i64 m] w (DrawnBytes m g w) := by
  obtain ⟨i0, hi, hz0, hz1, hz2⟩ := info_parts Try.infoU8
  have HC := hid hcur
  have hgl := hcur.lt
  clear hcur
  go_enter Try.func32, Try.ntmps32
  go_wp2
  go_loopw [5, 6] (fun v i wr => ∃ k : Nat, k ≤ m ∧ i = .int .i64 k ∧ ∃ (A : Option Addr) (c : Nat) (xs : List Int), v = .slice A k c ∧ xs.length = k ∧ IsBytes xs ∧ (A = none → c = 0) ∧ wr.ownsRow w.heap.size 5 1 (.slice A k c) k (xs.map (.int .u8)) ∧ CurOk wr g ∧ w.grownBy wr (some g)) (fun _ i _ => m - (intOf i).toNat)
  case atStart =>
    have h0 := World.ownsRow_lit (base := w.heap.size) (e := 5) (size := 1) w #[] 0 (Nat.le_refl _) (by unfold maxLen; omega) rfl
    exact ⟨0, by omega, rfl, _, _, [], rfl, rfl, (fun x hx => by simp at hx), (fun h => by cases h), h0, HC.out.alloc _, gb_alloc (gb_refl _ _) _⟩
  case round =>
    obtain ⟨k, hk, rfl, A, c, xs, rfl, hlen, hb, hA, hown, hcr, hg⟩ := hrel
    have HCR := hid hcr
    have HL := hid hlen
    clear hcr hlen
    by_cases hlt : k < m
    · go_wp2_with fail
      refine (l1Byte_any _ _ HCR.out).mono ?_
      rintro e w2 ⟨x, ⟨hx0, hx1⟩, rfl, hc2, hg2⟩
      have hne : (Value.slice A k c).ownBlock = none ∨ (Value.slice A k c).ownBlock ≠ some g := Or.inr (fun e => by have := own_new hown g e; omega)
      have hown2 := hown.kept hg2 hne
      have HC2 := hid hc2
      have hsz : w.heap.size ≤ w2.heap.size := Nat.le_trans hg.size hg2.size
      clear hc2
      go_wp2_with (at_builtin; refine wpList_app _ rfl _ _ _ rfl w.heap.size 5 i0 (.int .u8 0) 1 Try.underlying22 hi hz0 hz1 hz2 rfl _ k _ rfl (hown2.alloc _) _ 1 1 [.int .u8 x] rfl rfl (by simp) (Rd.one _ _ _) (u8_one _) (by unfold maxLen; simp; omega) (by simp; omega) (by simp; omega) ?_; intro A3 c3 w3 hown3 hA3 hg3 hat3)
      go_roundw
      case rel =>
        refine ⟨k + 1, by omega, by go_num, A3, c3, xs ++ [x], rfl, by simp [HL.out], hb.snoc ⟨hx0, hx1⟩, hA3, ?_, (HC2.out.alloc _).kept hg3 (fun j hj => by have := own_new hown j hj; omega), gb_new (gb_alloc (gb_trans hg hg2) _) hg3 (own_new hown)⟩
        rw [List.map_append]
        exact hown3
      case measure => simp [intOf]; omega
    · obtain rfl : k = m := by omega
      go_wp2
      go_ret
      exact ⟨A, c, xs, rfl, HL.out, hb, hA, hown, HCR.out, hg⟩
end Go.Proofs.Ytdbliaechmjemaa
