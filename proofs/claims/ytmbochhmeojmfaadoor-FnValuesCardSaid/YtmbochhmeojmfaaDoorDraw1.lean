/- The cursor of the draws: l1New, l1Byte, l1Below. -/
import Derived.Test.YtmbochhmeojmfaaDoorBytes
import Derived.BigQuiet
import Derived.Deep.QuietTactic
namespace Go.Proofs.YtmbochhmeojmfaaDoor
set_option maxRecDepth 20000
open Go.RowKit

/-- A slice that reads as a list, its block below B. -/
def RdB (B : Nat) (w : World) (A : Option Addr) (xs : List Value) : Prop := ∀ j, j < xs.length → ∃ b o, A = some ⟨b, o, none⟩ ∧ b < B ∧ w.cell? ⟨b, o + j, none⟩ = xs[j]?
theorem RdB.kept {B : Nat} {w w1 : World} {A : Option Addr} {xs : List Value} {r : Option Nat} (h : RdB B w A xs) (hg : w.grownBy w1 r) (hB : B ≤ w.heap.size) (hr : ∀ k, r = some k → B ≤ k) : RdB B w1 A xs := fun j hj => by
  obtain ⟨b, o, ha, hb, hc⟩ := h j hj
  exact ⟨b, o, ha, hb, (World.cell?_of_block (a := ⟨b, o + j, none⟩) (hg.block b (by omega) (fun e => by have := hr b e.symm; omega))).trans hc⟩
theorem RdB.of {w : World} {A : Option Addr} {xs : List Value} (h : Rd w A xs) : RdB w.heap.size w A xs := h
/-- Block g is a cursor over a row of bytes that lies ahead of it. -/
def CurOk (w : World) (g : Nat) : Prop := ∃ (A : Option Addr) (c k : Nat) (h : Int) (xs : List Int),
  w.heap[g]? = some (.cells #[.slice A xs.length c, .int .i64 k, .int .i64 h] 74 (0, 0)) ∧ RdB g w A (xs.map (.int .u8)) ∧ k ≤ xs.length ∧ xs.length ≤ 1048576
theorem CurOk.lt {w : World} {g : Nat} (h : CurOk w g) : g < w.heap.size := by
  obtain ⟨_, _, _, _, _, hb, _⟩ := h
  exact (Array.getElem?_eq_some_iff.1 hb).1
theorem CurOk.kept {w w1 : World} {g : Nat} {r : Option Nat} (h : CurOk w g) (hg : w.grownBy w1 r) (hr : ∀ k, r = some k → g < k) : CurOk w1 g := by
  have hl := h.lt
  obtain ⟨A, c, k, q, xs, hb, hrd, h1, h2⟩ := h
  exact ⟨A, c, k, q, xs, (hg.block g hl (fun e => by have := hr g e.symm; omega)).trans hb, hrd.kept hg (by omega) (fun k hk => by have := hr k hk; omega), h1, h2⟩
theorem CurOk.drewN {w : World} {g : Nat} (h : CurOk w g) (n : Nat) : CurOk (w.drewN n) g := h.kept (gb_drewN (gb_refl w none) n) (by simp)
theorem CurOk.alloc {w : World} {g : Nat} (h : CurOk w g) (o : Obj) : CurOk (w.alloc o) g := h.kept (gb_alloc (gb_refl w none) o) (by simp)

/-- What a draw of a number comes to. -/
def DrawnInt (P : Int → Prop) (g : Nat) (w : World) (e : Ending) (w' : World) : Prop := ∃ x : Int, P x ∧ e = .returned (.int .i64 x) ∧ CurOk w' g ∧ w.grownBy w' (some g)

theorem i64_and255 (n : Int) : bits .and .i64 n 255 = n % 256 := by
  have h15 : (BitVec.ofInt 64 255).toNat = 2 ^ 8 - 1 := by decide
  have key : (BitVec.ofInt 64 n &&& BitVec.ofInt 64 255).toNat = (n % ((2 ^ 64 : Nat) : Int)).toNat % 2 ^ 8 := by
    rw [BitVec.toNat_and, BitVec.toNat_ofInt, h15, Nat.and_two_pow_sub_one_eq_mod]
  show IntKind.i64.wrap ((BitVec.ofInt 64 n &&& BitVec.ofInt 64 255).toNat : Nat) = n % 256
  rw [key, IntKind.wrap_i64]
  omega
theorem and255_bd (n : Int) : Byte (bits .and .i64 n 255) := by rw [i64_and255]; unfold Byte; omega

theorem cur_step {w : World} {g : Nat} {A : Option Addr} {c k' : Nat} {h' : Int} {xs : List Int}
    (hgl : g < w.heap.size) (hrd : RdB g w A (xs.map (.int .u8))) (hk : k' ≤ xs.length) (hn : xs.length ≤ 1048576)
    {w1 : World} (hb1 : w1.heap[g]? = some (.cells #[.slice A xs.length c, .int .i64 k', .int .i64 h'] 74 (0, 0))) (hg : w.grownBy w1 (some g)) :
    CurOk w1 g :=
  ⟨A, c, k', h', xs, hb1, hrd.kept hg (by omega) (fun k hk => by injection hk with hk; omega), hk, hn⟩

theorem cur_set2 {w : World} {g : Nat} {a b c u : Value} {T : TypeId} (hb : w.heap[g]? = some (.cells #[a, b, c] T (0, 0))) : (w.setCell ⟨g, 2, none⟩ u).heap[g]? = some (.cells #[a, b, u] T (0, 0)) :=
  heap_setCell_same w g 2 #[a, b, c] T u hb
theorem cur_set1 {w : World} {g : Nat} {a b c u : Value} {T : TypeId} (hb : w.heap[g]? = some (.cells #[a, b, c] T (0, 0))) : (w.setCell ⟨g, 1, none⟩ u).heap[g]? = some (.cells #[a, u, c] T (0, 0)) :=
  heap_setCell_same w g 1 #[a, b, c] T u hb

set_option maxHeartbeats 1000000 in
theorem l1Byte_any (g : Nat) (w : World) (hcur : CurOk w g) :
    Calls Tryd.prog 59 #[.pointer (some ⟨g, 0, none⟩)] w (DrawnInt Byte g w) := by
  have hgl := hcur.lt
  obtain ⟨A, c, k, h, xs, hb, hrd, hk, hn⟩ := hcur
  have c0 : w.cell? ⟨g, 0, none⟩ = some (.slice A xs.length c) := by rw [cell_of_row w g 0 _ _ _ hb]; rfl
  have c1 : w.cell? ⟨g, 1, none⟩ = some (.int .i64 k) := by rw [cell_of_row w g 1 _ _ _ hb]; rfl
  have c2 : w.cell? ⟨g, 2, none⟩ = some (.int .i64 h) := by rw [cell_of_row w g 2 _ _ _ hb]; rfl
  have f1 : w.frozen? ⟨g, 1, none⟩ = false := frozen_of_row w g 1 _ _ hb
  have f2 : w.frozen? ⟨g, 2, none⟩ = false := frozen_of_row w g 2 _ _ hb
  have HB := hid hb
  clear hb
  by_cases hlt : k < xs.length
  · have hlt' : (k : Int) < (xs.length : Int) := by omega
    have hk0 : (0 : Int) ≤ (k : Int) := by omega
    obtain ⟨b, o, rfl, hbl, hc⟩ := hrd k (by simpa using hlt)
    obtain ⟨x, hx⟩ : ∃ x, x = xs[k] := ⟨_, rfl⟩
    have hcx : w.cell? ⟨b, o + k, none⟩ = some (.int .u8 x) := by rw [hc, int_at hlt, hx]
    have hbg : b ≠ g := by omega
    clear hc hx
    go_enter Tryd.func59, Tryd.ntmps59
    go_wp2
    go_quiet (fail)
    go_wp2
    go_quiet (fail)
    go_wp2
    go_quiet (fail)
    go_wp2
    go_ret
    refine ⟨_, and255_bd _, rfl, cur_step hgl hrd (by omega) hn (k' := k + 1) (cur_set1 (w := ((w.setCell _ _).drewN _)) (cur_set2 HB.out)) ?_, ?_⟩
    all_goals exact gb_set (a := ⟨g, 1, none⟩) (gb_drewN (gb_set (a := ⟨g, 2, none⟩) (gb_refl _ _) (Or.inr rfl) _) _) (Or.inr rfl) _
  · have hlt' : ¬ (k : Int) < (xs.length : Int) := by omega
    go_enter Tryd.func59, Tryd.ntmps59
    go_wp2
    go_quiet (fail)
    go_wp2
    go_quiet (fail)
    go_wp2
    go_ret
    refine ⟨_, and255_bd _, rfl, cur_step hgl hrd hk hn (cur_set2 HB.out) ?_, ?_⟩
    all_goals exact gb_drewN (gb_drewN (gb_set (a := ⟨g, 2, none⟩) (gb_refl _ _) (Or.inr rfl) _) _) _

theorem DrawnInt.mono {P Q : Int → Prop} {g : Nat} {w : World} {e : Ending} {w' : World} (h : DrawnInt P g w e w') (hpq : ∀ x, P x → Q x) : DrawnInt Q g w e w' := by
  obtain ⟨x, h1, h2⟩ := h
  exact ⟨x, hpq x h1, h2⟩
def Under (n : Int) (x : Int) : Prop := 0 ≤ x ∧ (x = 0 ∨ x < n)

set_option maxHeartbeats 1000000 in
theorem l1Below_any (g : Nat) (n : Int) (w : World) (hcur : CurOk w g) :
    Calls Tryd.prog 34 #[.pointer (some ⟨g, 0, none⟩), .int .i64 n] w (DrawnInt (Under n) g w) := by
  have HC := hid hcur
  clear hcur
  by_cases h0 : n ≤ 0
  · go_enter Tryd.func34, Tryd.ntmps34
    go_wp2
    go_ret
    exact ⟨0, ⟨by omega, Or.inl rfl⟩, rfl, HC.out, gb_refl _ _⟩
  · by_cases h1 : n ≤ 256
    · go_enter Tryd.func34, Tryd.ntmps34
      go_wp2_with fail
      refine (l1Byte_any _ _ HC.out).mono ?_
      rintro e w1 ⟨x, ⟨hx0, hx1⟩, rfl, hc1, hg1⟩
      have HM : Hid (Under n (x % n)) := ⟨Int.emod_nonneg _ (by omega), Or.inr (Int.emod_lt_of_pos _ (by omega))⟩
      have HC1 := hid hc1
      clear hc1
      go_wp2
      go_ret
      exact ⟨_, HM.out, rfl, HC1.out, hg1⟩
    · go_enter Tryd.func34, Tryd.ntmps34
      go_wp2_with fail
      refine (l1Byte_any _ _ HC.out).mono ?_
      rintro e w1 ⟨x, ⟨hx0, hx1⟩, rfl, hc1, hg1⟩
      have HC1 := hid hc1
      clear hc1
      go_wp2_with fail
      refine (l1Byte_any _ _ HC1.out).mono ?_
      rintro e w2 ⟨y, ⟨hy0, hy1⟩, rfl, hc2, hg2⟩
      have HC2 := hid hc2
      clear hc2
      go_wp2_with fail
      refine (l1Byte_any _ _ HC2.out).mono ?_
      rintro e w3 ⟨z, ⟨hz0, hz1⟩, rfl, hc3, hg3⟩
      have HM : Hid (Under n ((x * 65536 + y * 256 + z) % n)) := ⟨Int.emod_nonneg _ (by omega), Or.inr (Int.emod_lt_of_pos _ (by omega))⟩
      have HC3 := hid hc3
      clear hc3
      go_wp2
      go_ret
      exact ⟨_, HM.out, rfl, HC3.out, gb_trans (gb_trans hg1 hg2) hg3⟩
end Go.Proofs.YtmbochhmeojmfaaDoor
