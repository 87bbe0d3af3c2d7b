/- The draws of the encoding chapter. -/
import Derived.Test.YtdbliaechmjemaaEncWalks2
import Derived.Test.YtdbliaechmjemaaDraw2
import Derived.Deep.RegionHeld3
namespace Go.Proofs.Ytdbliaechmjemaa
open Go.RowKit

theorem own_cap {w : World} {base : Nat} {e : TypeId} {size : Nat} {A : Option Addr} {n c : Nat} {xs : List Value} (h : w.ownsRow base e size (.slice A n c) n xs) : n ≤ c ∧ c ≤ 9223372036854775807 := by
  rcases h.2 with ⟨hv, h0⟩ | ⟨g, cap, cur, hv, _, _, h1, h2, _⟩
  · injection hv with _ _ hc
    omega
  · injection hv with _ _ hc
    unfold maxLen at h2
    omega

def PairDrawn (w : World) (e : Ending) (w' : World) : Prop := ∃ (A : Option Addr) (m c : Nat) (bs : List Int) (n : Int), e = .returned (.tuple #[.slice A m c, .int .i64 n]) ∧ bs.length = m ∧ m ≤ 3 ∧ IsBytes bs ∧ (A = none → c = 0) ∧ Rd w' A (bs.map (.int .u8)) ∧ w.grownBy w' none
theorem drawAppendUvarint_any (A : Option Addr) (n c : Nat) (xs : List Int) (w : World) (hr : Rd w A (xs.map (.int .u8))) (hnn : xs.length = n) (hn : n ≤ 1048576) :
    Calls Try.prog 27 #[.slice A n c] w (PairDrawn w) := by
  have HL := hid hnn
  have HR := hid hr
  clear hr hnn
  go_enter Try.func27, Try.ntmps27
  go_wp2_with fail
  refine (l1New_any _ _ _ _ _ HR.out HL.out hn).mono ?_
  rintro e w1 ⟨rfl, hc1, hg1⟩
  have HC1 := hid hc1
  clear hc1
  go_wp2_with fail
  refine (l1Below_any _ _ _ HC1.out).mono ?_
  rintro e w2 ⟨y, ⟨hy0, hy1⟩, rfl, hc2, hg2⟩
  obtain ⟨m, rfl⟩ := Int.eq_ofNat_of_zero_le hy0
  have hm3 : m ≤ 3 := by omega
  clear hy0 hy1
  have HC2 := hid hc2
  clear hc2
  go_wp2_with fail
  refine (l1Bytes_any _ _ _ HC2.out (by omega)).mono ?_
  rintro e w3 ⟨A3, c3, ys, rfl, hy, hyb, hA3, hown, hc3, hg3⟩
  have HC3 := hid hc3
  have HY := hid hy
  have HO := hid hown
  clear hc3 hy hown
  go_wp2_with fail
  refine (l1One_any _ _ HC3.out).mono ?_
  rintro e w4 ⟨z, hz, rfl, hc4, hg4⟩
  have hgl := HC2.out.lt
  have HRD := hid (Rd.own (own_kept HO.out hg4 (fun k hk hv => by have h1 := own_new HO.out k hv; have h2 : w.heap.size = k := (by injection hk); have := hg1.size; omega)))
  clear hc4 hz
  go_wp2
  go_ret2
  exact ⟨A3, m, c3, ys, z, rfl, HY.out, hm3, hyb, hA3, HRD.out, gb_fresh hg1 (gb_trans (gb_trans hg2 hg3) hg4) (fun k hk => by have h2 : w.heap.size = k := (by injection hk); omega)⟩

theorem drawAppendSigned_any (A : Option Addr) (n c : Nat) (xs : List Int) (w : World) (hr : Rd w A (xs.map (.int .u8))) (hnn : xs.length = n) (hn : n ≤ 1048576) :
    Calls Try.prog 28 #[.slice A n c] w (PairDrawn w) := by
  have HL := hid hnn
  have HR := hid hr
  clear hr hnn
  go_enter Try.func28, Try.ntmps28
  go_wp2_with fail
  refine (l1New_any _ _ _ _ _ HR.out HL.out hn).mono ?_
  rintro e w1 ⟨rfl, hc1, hg1⟩
  have HC1 := hid hc1
  clear hc1
  go_wp2_with fail
  refine (l1Below_any _ _ _ HC1.out).mono ?_
  rintro e w2 ⟨y, ⟨hy0, hy1⟩, rfl, hc2, hg2⟩
  obtain ⟨m, rfl⟩ := Int.eq_ofNat_of_zero_le hy0
  have hm3 : m ≤ 3 := by omega
  clear hy0 hy1
  have HC2 := hid hc2
  clear hc2
  go_wp2_with fail
  refine (l1Bytes_any _ _ _ HC2.out (by omega)).mono ?_
  rintro e w3 ⟨A3, c3, ys, rfl, hy, hyb, hA3, hown, hc3, hg3⟩
  have HC3 := hid hc3
  have HY := hid hy
  have HO := hid hown
  clear hc3 hy hown
  go_wp2_with fail
  refine (l1One_any _ _ HC3.out).mono ?_
  rintro e w4 ⟨z, hz, rfl, hc4, hg4⟩
  have hgl := HC2.out.lt
  have HRD := hid (Rd.own (own_kept HO.out hg4 (fun k hk hv => by have h1 := own_new HO.out k hv; have h2 : w.heap.size = k := (by injection hk); have := hg1.size; omega)))
  clear hc4 hz
  go_wp2
  go_ret2
  exact ⟨A3, m, c3, ys, z, rfl, HY.out, hm3, hyb, hA3, HRD.out, gb_fresh hg1 (gb_trans (gb_trans hg2 hg3) hg4) (fun k hk => by have h2 : w.heap.size = k := (by injection hk); omega)⟩

def PairTDrawn (w : World) (e : Ending) (w' : World) : Prop := ∃ (A : Option Addr) (m c : Nat) (bs : List Int) (s : ByteArray), e = .returned (.tuple #[.slice A m c, .string s]) ∧ bs.length = m ∧ m ≤ 3 ∧ IsBytes bs ∧ (A = none → c = 0) ∧ s.size ≤ 6 ∧ Rd w' A (bs.map (.int .u8)) ∧ w.grownBy w' none
set_option maxHeartbeats 1000000 in
theorem drawAppendText_any (A : Option Addr) (n c : Nat) (xs : List Int) (w : World) (hr : Rd w A (xs.map (.int .u8))) (hnn : xs.length = n) (hn : n ≤ 1048576) :
    Calls Try.prog 29 #[.slice A n c] w (PairTDrawn w) := by
  have HL := hid hnn
  have HR := hid hr
  clear hr hnn
  go_enter Try.func29, Try.ntmps29
  go_wp2_with fail
  refine (l1New_any _ _ _ _ _ HR.out HL.out hn).mono ?_
  rintro e w1 ⟨rfl, hc1, hg1⟩
  have HC1 := hid hc1
  clear hc1
  have HCD : Hid (CurOk w1.drew w.heap.size) := HC1.out.kept (gb_drew (gb_refl _ none)) (by simp)
  have hgl := HC1.out.lt
  go_wp2_with fail
  go_region_with (first | (go_at_call 33; (with_reducible refine (l1Below_any _ 3 _ HCD.out).mono ?_); rintro e w2 ⟨y2, ⟨hy2, hy2'⟩, rfl, hc2, hg2⟩; obtain ⟨m2, rfl⟩ := Int.eq_ofNat_of_zero_le hy2; have hm2 : m2 ≤ 3 := (by omega); have HC2 := hid hc2; clear hy2 hy2' hc2) | (go_at_call 32; (with_reducible refine (l1Bytes_any _ m2 _ HC2.out (by omega)).mono ?_); rintro e w3 ⟨A3, c3, ys, rfl, hy, hyb, hA3, hown, hc3, hg3⟩; have HC3 := hid hc3; have HY := hid hy; have HO := hid hown; clear hc3 hy hown) | (go_at_call 33; (with_reducible refine (l1Below_any _ 6 _ HC3.out).mono ?_); rintro e w4 ⟨y4, ⟨hy4, hy4'⟩, rfl, hc4, hg4⟩; obtain ⟨m4, rfl⟩ := Int.eq_ofNat_of_zero_le hy4; have hm4 : m4 ≤ 6 := (by omega); have HC4 := hid hc4; clear hy4 hy4' hc4) | (go_at_call 32; (with_reducible refine (l1Bytes_any _ m4 _ HC4.out (by omega)).mono ?_); rintro e w5 ⟨A5, c5, zs, rfl, hz, hzb, hA5, hown5, hc5, hg5⟩; have kc := run_conv_rd (P := Try.prog) w5 22 5 9 A5 m4 c5 zs Try.underlying22 Try.underlying5 Try.underlying9 (Rd.own hown5) hz; have HZ := hid hz; clear hc5 hown5 hz))
  all_goals
    go_wp2
    go_ret2
    have q1 : ∀ k, (some w.heap.size : Option Nat) = some k → w1.drew.heap.size > k := fun k hk => by have h2 : w.heap.size = k := (by injection hk); show w1.heap.size > k; omega
    have hne : ∀ k, (some w.heap.size : Option Nat) = some k → (Value.slice A3 m2 c3).ownBlock ≠ some k := fun k hk hv => by
      have h1 := own_new HO.out k hv
      have h2 := q1 k hk
      have := hg2.size
      omega
    exact ⟨A3, m2, c3, ys, _, rfl, HY.out, hm2, hyb, hA3, by rw [strOf_size, HZ.out]; exact hm4, Rd.own (own_kept (own_kept HO.out hg4 hne) hg5 hne), gb_fresh hg1 (gb_trans (gb_trans (gb_trans (gb_trans (gb_drew (gb_refl _ _)) hg2) hg3) hg4) hg5) (fun k hk => by have h2 : w.heap.size = k := (by injection hk); omega)⟩
end Go.Proofs.Ytdbliaechmjemaa
