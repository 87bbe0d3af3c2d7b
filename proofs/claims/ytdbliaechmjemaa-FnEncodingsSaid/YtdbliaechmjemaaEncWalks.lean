/- The walks of the encodings: AppendUvarint, ReadUvarint (both sides). -/
import Derived.Test.YtdbliaechmjemaaByteS
import Derived.Test.YtdbliaechmjemaaEncMath
import Derived.Test.YtdbliaechmjemaaL1In
namespace Go.Proofs.Ytdbliaechmjemaa
open Go.RowKit

/-- A call that hands back a row of the call's own that reads as L. -/
def GivesRow (L : List Int) (w : World) (e : Ending) (w' : World) : Prop := ∃ (A : Option Addr) (m c : Nat), e = .returned (.slice A m c) ∧ L.length = m ∧ (A = none → c = 0) ∧
  w'.ownsRow w.heap.size 5 1 (.slice A m c) m (L.map (.int .u8)) ∧ w.grownBy w' none

theorem i64_or128 (n : Int) : bits .or .i64 (n % 128) 128 = n % 128 + 128 := by
  have hc : bits .or .i64 (n % 128) 128 = bits .or .i64 128 (n % 128) := by simp only [bits, BitVec.or_comm]
  rw [hc, bits_join .i64 8 (by decide) (fun n h1 h2 => by rw [IntKind.wrap_i64]; omega) 7 128 (n % 128) (by decide) (by decide) (by decide) (by omega) (by omega) (by omega)]
  omega

theorem specAppU_in (A : Option Addr) (k c : Nat) (bs : List Int) (n : Int) (w : World) (hr : Rd w A (bs.map (.int .u8))) (hl : bs.length = k) (hk : k ≤ 16777216) (hA : A = none → c = 0) (h0 : 0 ≤ n) (h1 : n ≤ 1000000000000) :
    Calls Try.prog 14 #[.slice A k c, .int .i64 n] w (GivesRow (bs ++ uv n) w) := by
  obtain ⟨i0, hi, hz0, hz1, hz2⟩ := info_parts Try.infoU8
  have HL := hid hl
  have HA := hid hA
  have hown0 := World.ownsRow_lit (base := w.heap.size) (e := 5) (size := 1) w #[] 0 (Nat.le_refl _) (by unfold maxLen; omega) rfl
  have hr0 : Rd (w.alloc (.cells #[] 5)) A (bs.map (.int .u8)) := hr.grow (gb_alloc (gb_refl _ _) _)
  have ka := i64_and127
  have ko := i64_or128
  clear hl hA hr
  go_enter Try.func14, Try.ntmps14
  go_wp2_with (first | (at_builtin; refine wpList_app _ rfl _ _ _ rfl w.heap.size 5 i0 (.int .u8 0) 1 Try.underlying22 hi hz0 hz1 hz2 rfl _ 0 [] rfl hown0 A k c (bs.map (.int .u8)) rfl (by rw [List.length_map]; exact HL.out.symm) HA.out hr0 (ints_one _ _) (by rw [List.length_map, HL.out]; unfold maxLen; omega) (by rw [List.length_map, HL.out]; omega) (by simp) ?_; intro A1 c1 w1 hown1 hA1 hg1 hat1; simp only [Nat.zero_add, List.nil_append] at hown1) | (go_at_call 30; refine (l1In_t _ _ _ _ h0 h1).mono ?_; rintro e w' ⟨rfl, rfl⟩))
  have hgg : w.grownBy w1 none := gb_new (gb_alloc (gb_refl _ _) _) hg1 (own_new hown0)
  clear hown0 hr0 hg1 hat1
  go_loopw [1, 5] (fun t v wr => ∃ (m : Int) (f : Nat) (pre : List Int) (A : Option Addr) (j c : Nat), t = .int .i64 m ∧ v = .slice A j c ∧ 0 ≤ m ∧ m ≤ 1000000000000 ∧ Hid (m < 128 ^ (f + 1)) ∧ Hid (pre ++ uvF f m = bs ++ uv n) ∧ pre.length = j ∧ j + f ≤ k + 5 ∧ (A = none → c = 0) ∧ wr.ownsRow w.heap.size 5 1 (.slice A j c) j (pre.map (.int .u8)) ∧ w.grownBy wr none) (fun t _ _ => (intOf t).toNat)
  case atStart => exact ⟨n, 5, bs, A1, k, c1, rfl, rfl, h0, h1, (by show n < 128 ^ (5 + 1); simp; omega), rfl, HL.out, by omega, hA1, hown1, hgg⟩
  case round =>
    obtain ⟨m, f, pre, A2, j, c2, rfl, rfl, hm0, hm1, HP, HE, hlen, hjf, hA2, hown, hg⟩ := hrel
    have HLJ := hid hlen
    have hsz := hg.size
    clear hlen
    by_cases hlt : 127 < m
    · obtain ⟨f, rfl⟩ : ∃ f', f = f' + 1 := by
        cases f with
        | zero => have := HP.out; simp at this; omega
        | succ f => exact ⟨f, rfl⟩
      have HP' : Hid (m / 128 < 128 ^ (f + 1)) := pow_next f m HP.out
      have HE' : Hid ((pre ++ [m % 128 + 128]) ++ uvF f (m / 128) = bs ++ uv n) := by
        show _ = _
        rw [← HE.out, uvF_big f m (by omega), List.append_assoc]; rfl
      clear HP HE
      go_wp2_with (at_builtin; refine wpList_app _ rfl _ _ _ rfl w.heap.size 5 i0 (.int .u8 0) 1 Try.underlying22 hi hz0 hz1 hz2 rfl _ j _ rfl (hown.alloc _) _ 1 1 [.int .u8 (m % 128 + 128)] rfl rfl (by simp) (Rd.one _ _ _) (u8_one _) (by unfold maxLen; simp; omega) (by simp; omega) (by simp; omega) ?_; intro A3 c3 w3 hown3 hA3 hg3 hat3)
      go_roundw
      case rel =>
        refine ⟨m / 128, f, pre ++ [m % 128 + 128], A3, j + 1, c3, rfl, rfl, by omega, by omega, HP', HE', by simp [HLJ.out], by omega, hA3, ?_, gb_new (gb_alloc hg _) hg3 (own_new hown)⟩
        rw [List.map_append]
        exact hown3
      case measure => simp [intOf]; omega
    · have HE' : Hid (pre ++ [m] = bs ++ uv n) := by show _ = _; rw [← HE.out, uvF_small f m (by omega)]
      clear HP HE
      go_wp2_with (at_builtin; refine wpList_app _ rfl _ _ _ rfl w.heap.size 5 i0 (.int .u8 0) 1 Try.underlying22 hi hz0 hz1 hz2 rfl _ j _ rfl (hown.alloc _) _ 1 1 [.int .u8 m] rfl rfl (by simp) (Rd.one _ _ _) (u8_one _) (by unfold maxLen; simp; omega) (by simp; omega) (by simp; omega) ?_; intro A3 c3 w3 hown3 hA3 hg3 hat3)
      go_ret
      refine ⟨A3, j + 1, c3, rfl, ?_, hA3, ?_, gb_new (gb_alloc hg _) hg3 (own_new hown)⟩
      · rw [← HE'.out]; simp [HLJ.out]
      · rw [← HE'.out, List.map_append]; exact hown3
theorem implAppU_in (A : Option Addr) (k c : Nat) (bs : List Int) (n : Int) (w : World) (hr : Rd w A (bs.map (.int .u8))) (hl : bs.length = k) (hk : k ≤ 16777216) (hA : A = none → c = 0) (h0 : 0 ≤ n) (h1 : n ≤ 1000000000000) :
    Calls Try.prog 15 #[.slice A k c, .int .i64 n] w (GivesRow (bs ++ uv n) w) := by
  obtain ⟨i0, hi, hz0, hz1, hz2⟩ := info_parts Try.infoU8
  have HL := hid hl
  have HA := hid hA
  have hown0 := World.ownsRow_lit (base := w.heap.size) (e := 5) (size := 1) w #[] 0 (Nat.le_refl _) (by unfold maxLen; omega) rfl
  have hr0 : Rd (w.alloc (.cells #[] 5)) A (bs.map (.int .u8)) := hr.grow (gb_alloc (gb_refl _ _) _)
  have hd1 : decide (n < 0) = false := by simp; omega
  have hd2 : decide (1000000000000 < n) = false := by simp; omega
  clear hl hA hr
  go_enter Try.func15, Try.ntmps15
  go_wp2_with (first | (at_builtin; refine wpList_app _ rfl _ _ _ rfl w.heap.size 5 i0 (.int .u8 0) 1 Try.underlying22 hi hz0 hz1 hz2 rfl _ 0 [] rfl hown0 A k c (bs.map (.int .u8)) rfl (by rw [List.length_map]; exact HL.out.symm) HA.out hr0 (ints_one _ _) (by rw [List.length_map, HL.out]; unfold maxLen; omega) (by rw [List.length_map, HL.out]; omega) (by simp) ?_; intro A1 c1 w1 hown1 hA1 hg1 hat1; simp only [Nat.zero_add, List.nil_append] at hown1) | fail)
  have hgg : w.grownBy w1 none := gb_new (gb_alloc (gb_refl _ _) _) hg1 (own_new hown0)
  clear hown0 hr0 hg1 hat1
  go_loopw [1, 5] (fun t v wr => ∃ (m : Int) (f : Nat) (pre : List Int) (A : Option Addr) (j c : Nat), t = .int .i64 m ∧ v = .slice A j c ∧ 0 ≤ m ∧ m ≤ 1000000000000 ∧ Hid (m < 128 ^ (f + 1)) ∧ Hid (pre ++ uvF f m = bs ++ uv n) ∧ pre.length = j ∧ j + f ≤ k + 5 ∧ (A = none → c = 0) ∧ wr.ownsRow w.heap.size 5 1 (.slice A j c) j (pre.map (.int .u8)) ∧ w.grownBy wr none) (fun t _ _ => (intOf t).toNat)
  case atStart => exact ⟨n, 5, bs, A1, k, c1, rfl, rfl, h0, h1, (by show n < 128 ^ (5 + 1); simp; omega), rfl, HL.out, by omega, hA1, hown1, hgg⟩
  case round =>
    obtain ⟨m, f, pre, A2, j, c2, rfl, rfl, hm0, hm1, HP, HE, hlen, hjf, hA2, hown, hg⟩ := hrel
    have HLJ := hid hlen
    have hsz := hg.size
    clear hlen
    by_cases hlt : 128 ≤ m
    · obtain ⟨f, rfl⟩ : ∃ f', f = f' + 1 := by
        cases f with
        | zero => have := HP.out; simp at this; omega
        | succ f => exact ⟨f, rfl⟩
      have HP' : Hid (m / 128 < 128 ^ (f + 1)) := pow_next f m HP.out
      have HE' : Hid ((pre ++ [m % 128 + 128]) ++ uvF f (m / 128) = bs ++ uv n) := by
        show _ = _
        rw [← HE.out, uvF_big f m (by omega), List.append_assoc]; rfl
      clear HP HE
      go_wp2_with (at_builtin; refine wpList_app _ rfl _ _ _ rfl w.heap.size 5 i0 (.int .u8 0) 1 Try.underlying22 hi hz0 hz1 hz2 rfl _ j _ rfl (hown.alloc _) _ 1 1 [.int .u8 (m % 128 + 128)] rfl rfl (by simp) (Rd.one _ _ _) (u8_one _) (by unfold maxLen; simp; omega) (by simp; omega) (by simp; omega) ?_; intro A3 c3 w3 hown3 hA3 hg3 hat3)
      go_roundw
      case rel =>
        refine ⟨m / 128, f, pre ++ [m % 128 + 128], A3, j + 1, c3, rfl, rfl, by omega, by omega, HP', HE', by simp [HLJ.out], by omega, hA3, ?_, gb_new (gb_alloc hg _) hg3 (own_new hown)⟩
        rw [List.map_append]
        exact hown3
      case measure => simp [intOf]; omega
    · have HE' : Hid (pre ++ [m] = bs ++ uv n) := by show _ = _; rw [← HE.out, uvF_small f m (by omega)]
      clear HP HE
      go_wp2_with (at_builtin; refine wpList_app _ rfl _ _ _ rfl w.heap.size 5 i0 (.int .u8 0) 1 Try.underlying22 hi hz0 hz1 hz2 rfl _ j _ rfl (hown.alloc _) _ 1 1 [.int .u8 m] rfl rfl (by simp) (Rd.one _ _ _) (u8_one _) (by unfold maxLen; simp; omega) (by simp; omega) (by simp; omega) ?_; intro A3 c3 w3 hown3 hA3 hg3 hat3)
      go_ret
      refine ⟨A3, j + 1, c3, rfl, ?_, hA3, ?_, gb_new (gb_alloc hg _) hg3 (own_new hown)⟩
      · rw [← HE'.out]; simp [HLJ.out]
      · rw [← HE'.out, List.map_append]; exact hown3
theorem specAppU_out (A : Option Addr) (k c : Nat) (bs : List Int) (n : Int) (w : World) (hr : Rd w A (bs.map (.int .u8))) (hl : bs.length = k) (hk : k ≤ 16777216) (hA : A = none → c = 0) (h : n < 0 ∨ 1000000000000 < n) :
    Calls Try.prog 14 #[.slice A k c, .int .i64 n] w (GivesRow bs w) := by
  obtain ⟨i0, hi, hz0, hz1, hz2⟩ := info_parts Try.infoU8
  have HL := hid hl
  have HA := hid hA
  have hown0 := World.ownsRow_lit (base := w.heap.size) (e := 5) (size := 1) w #[] 0 (Nat.le_refl _) (by unfold maxLen; omega) rfl
  have hr0 : Rd (w.alloc (.cells #[] 5)) A (bs.map (.int .u8)) := hr.grow (gb_alloc (gb_refl _ _) _)
  clear hl hA hr
  go_enter Try.func14, Try.ntmps14
  go_wp2_with (first | (at_builtin; refine wpList_app _ rfl _ _ _ rfl w.heap.size 5 i0 (.int .u8 0) 1 Try.underlying22 hi hz0 hz1 hz2 rfl _ 0 [] rfl hown0 A k c (bs.map (.int .u8)) rfl (by rw [List.length_map]; exact HL.out.symm) HA.out hr0 (ints_one _ _) (by rw [List.length_map, HL.out]; unfold maxLen; omega) (by rw [List.length_map, HL.out]; omega) (by simp) ?_; intro A1 c1 w1 hown1 hA1 hg1 hat1; simp only [Nat.zero_add, List.nil_append] at hown1) | (go_at_call 30; refine (l1In_f _ _ _ _ h).mono ?_; rintro e w' ⟨rfl, rfl⟩))
  go_ret
  exact ⟨A1, k, c1, rfl, HL.out, hA1, hown1, gb_new (gb_alloc (gb_refl _ _) _) hg1 (own_new hown0)⟩
theorem implAppU_out (A : Option Addr) (k c : Nat) (bs : List Int) (n : Int) (w : World) (hr : Rd w A (bs.map (.int .u8))) (hl : bs.length = k) (hk : k ≤ 16777216) (hA : A = none → c = 0) (h : n < 0 ∨ 1000000000000 < n) :
    Calls Try.prog 15 #[.slice A k c, .int .i64 n] w (GivesRow bs w) := by
  obtain ⟨i0, hi, hz0, hz1, hz2⟩ := info_parts Try.infoU8
  have HL := hid hl
  have HA := hid hA
  have hown0 := World.ownsRow_lit (base := w.heap.size) (e := 5) (size := 1) w #[] 0 (Nat.le_refl _) (by unfold maxLen; omega) rfl
  have hr0 : Rd (w.alloc (.cells #[] 5)) A (bs.map (.int .u8)) := hr.grow (gb_alloc (gb_refl _ _) _)
  clear hl hA hr
  by_cases hn : n < 0
  · have hd1 : decide (n < 0) = true := by simp; omega
    go_enter Try.func15, Try.ntmps15
    go_wp2_with (first | (at_builtin; refine wpList_app _ rfl _ _ _ rfl w.heap.size 5 i0 (.int .u8 0) 1 Try.underlying22 hi hz0 hz1 hz2 rfl _ 0 [] rfl hown0 A k c (bs.map (.int .u8)) rfl (by rw [List.length_map]; exact HL.out.symm) HA.out hr0 (ints_one _ _) (by rw [List.length_map, HL.out]; unfold maxLen; omega) (by rw [List.length_map, HL.out]; omega) (by simp) ?_; intro A1 c1 w1 hown1 hA1 hg1 hat1; simp only [Nat.zero_add, List.nil_append] at hown1) | fail)
    go_ret
    exact ⟨A1, k, c1, rfl, HL.out, hA1, hown1, gb_new (gb_alloc (gb_refl _ _) _) hg1 (own_new hown0)⟩
  · have hd1 : decide (n < 0) = false := by simp; omega
    have hd2 : decide (1000000000000 < n) = true := by simp; omega
    go_enter Try.func15, Try.ntmps15
    go_wp2_with (first | (at_builtin; refine wpList_app _ rfl _ _ _ rfl w.heap.size 5 i0 (.int .u8 0) 1 Try.underlying22 hi hz0 hz1 hz2 rfl _ 0 [] rfl hown0 A k c (bs.map (.int .u8)) rfl (by rw [List.length_map]; exact HL.out.symm) HA.out hr0 (ints_one _ _) (by rw [List.length_map, HL.out]; unfold maxLen; omega) (by rw [List.length_map, HL.out]; omega) (by simp) ?_; intro A1 c1 w1 hown1 hA1 hg1 hat1; simp only [Nat.zero_add, List.nil_append] at hown1) | fail)
    go_ret
    exact ⟨A1, k, c1, rfl, HL.out, hA1, hown1, gb_new (gb_alloc (gb_refl _ _) _) hg1 (own_new hown0)⟩
theorem specAppU_any (A : Option Addr) (k c : Nat) (bs : List Int) (n : Int) (w : World) (hr : Rd w A (bs.map (.int .u8))) (hl : bs.length = k) (hk : k ≤ 16777216) (hA : A = none → c = 0) :
    Calls Try.prog 14 #[.slice A k c, .int .i64 n] w (GivesRow (appU bs n) w) := by
  unfold appU
  by_cases h : 0 ≤ n ∧ n ≤ 1000000000000
  · rw [if_pos h]; exact specAppU_in A k c bs n w hr hl hk hA h.1 h.2
  · rw [if_neg h]; exact specAppU_out A k c bs n w hr hl hk hA (by omega)
theorem implAppU_any (A : Option Addr) (k c : Nat) (bs : List Int) (n : Int) (w : World) (hr : Rd w A (bs.map (.int .u8))) (hl : bs.length = k) (hk : k ≤ 16777216) (hA : A = none → c = 0) :
    Calls Try.prog 15 #[.slice A k c, .int .i64 n] w (GivesRow (appU bs n) w) := by
  unfold appU
  by_cases h : 0 ≤ n ∧ n ≤ 1000000000000
  · rw [if_pos h]; exact implAppU_in A k c bs n w hr hl hk hA h.1 h.2
  · rw [if_neg h]; exact implAppU_out A k c bs n w hr hl hk hA (by omega)

theorem specReadU_any (A : Option Addr) (k c0 : Nat) (bs : List Int) (p : Int) (w : World) (hr : Rd w A (bs.map (.int .u8))) (hl : bs.length = k) (hk : k ≤ 16777216) (hb : IsBytes bs) (x y : Int) (z : Bool) (hR : readU bs p = (x, y, z)) :
    Calls Try.prog 10 #[.slice A k c0, .int .i64 p] w fun e w' => e = .returned (.tuple #[.int .i64 x, .int .i64 y, .bool z]) ∧ w = w' := by
  have HL := hid hl
  have HR := hid hR
  have HB := hid hb
  have ka := i64_and127
  clear hl hR hb
  go_enter Try.func10, Try.ntmps10
  go_wp2
  go_loop [7, 8, 9] (fun t i _ => ∃ (i' : Nat) (acc : Int), i' ≤ 6 ∧ i = .int .i64 i' ∧ t = .int .i64 acc ∧ 0 ≤ acc ∧ Hid (acc < 128 ^ i') ∧ (i' = 0 ∨ 0 ≤ p) ∧ Hid (rdU bs (p + i') acc (6 - i') = (x, y, z))) (fun _ i _ => 6 - (intOf i).toNat)
  case atStart => exact ⟨0, 0, by omega, rfl, rfl, by omega, (by show (0 : Int) < 128 ^ 0; simp), Or.inl rfl, (by show _ = _; simpa [readU] using HR.out)⟩
  case round =>
    obtain ⟨i, acc, hi, rfl, rfl, ha0, HP, hip, HE⟩ := hrel
    by_cases hlt : i < 6
    · by_cases hp : p < 0
      · obtain rfl : i = 0 := by omega
        have HZ : Hid ((0, 0, false) = (x, y, z)) := by show _ = _; rw [← HE.out, rdU_out _ _ _ _ (Or.inl (by omega))]
        obtain ⟨rfl, rfl, rfl⟩ : 0 = x ∧ 0 = y ∧ false = z := by simpa using HZ.out
        have hd1 : decide (p < 0) = true := by simpa using hp
        go_wp2
        go_ret3
        exact ⟨rfl, rfl⟩
      · obtain ⟨P, rfl⟩ := Int.eq_ofNat_of_zero_le (show 0 ≤ p by omega)
        have e6 : 6 - i = (5 - i) + 1 := by omega
        have e5 : 5 - (5 - i) = i := by omega
        have HE6 : Hid (rdU bs ((P : Int) + i) acc ((5 - i) + 1) = (x, y, z)) := by show _ = _; rw [← e6]; exact HE.out
        have H5 := hid e5
        clear e6 e5 HE
        by_cases hout : k ≤ P + i
        · have HZ : Hid ((0, 0, false) = (x, y, z)) := by show _ = _; rw [← HE6.out, rdU_out _ _ _ _ (Or.inr (by rw [HL.out]; omega))]
          obtain ⟨rfl, rfl, rfl⟩ : 0 = x ∧ 0 = y ∧ false = z := by simpa using HZ.out
          have hd1 : decide ((P : Int) < 0) = false := by simp
          have hd2 : decide ((k : Int) - i ≤ P) = true := by simp; omega
          have hd3 : (k : Int) ≤ P + i := by omega
          go_wp2
          go_ret3
          exact ⟨rfl, rfl⟩
        · have hkz : P + i < bs.length := by have := HL.out; omega
          obtain ⟨b, o, hA, hbl, hc⟩ := hr (P + i) (by simpa using hkz)
          subst hA
          obtain ⟨c, hcc⟩ : ∃ c, c = bs[P + i] := ⟨_, rfl⟩
          have hcx : w.cell? ⟨b, o + (P + i), none⟩ = some (.int .u8 c) := by rw [hc, int_at hkz, hcc]
          have hcb : 0 ≤ c ∧ c ≤ 255 := by rw [hcc]; exact HB.out _ (List.getElem_mem hkz)
          obtain ⟨hcb0, hcb1⟩ := hcb
          have HC : Hid (bs.getD ((P : Int) + i).toNat 0 = c) := by
            show _ = _
            rw [show ((P : Int) + i).toNat = P + i by omega, hcc, List.getD_eq_getElem?_getD, List.getElem?_eq_getElem hkz]; rfl
          have hd1 : decide ((P : Int) < 0) = false := by simp
          have hd2 : decide ((k : Int) - i ≤ P) = false := by simp; omega
          have hd3 : (P : Int) + i < k := by omega
          have HN := hid (acc_next acc c i HP.out)
          have hs := shl_part c i hlt
          have ho := or_part acc c i hlt ha0 HP.out
          obtain ⟨acc', hacc⟩ : ∃ acc', acc + c % 128 * 128 ^ i = acc' := ⟨_, rfl⟩
          rw [hacc] at ho
          have ha1 : 0 ≤ acc' := by rw [← hacc]; omega
          have HAC := hid hacc
          clear hc hcc hs hacc
          by_cases hc128 : c < 128
          · have hdz : decide (c < 128) = true := by simpa using hc128
            by_cases hz : c = 0 ∧ 0 < i
            · have HZ : Hid ((0, 0, false) = (x, y, z)) := by show _ = _; rw [← HE6.out, rdU_bad _ _ _ c _ (by omega) (by rw [HL.out]; omega) HC.out hc128 (Or.inl ⟨hz.1, by omega⟩)]
              obtain ⟨rfl, rfl, rfl⟩ : 0 = x ∧ 0 = y ∧ false = z := by simpa using HZ.out
              have hz1 : (c == 0) = true := by simpa using hz.1
              have hz2 : ¬ i = 0 := by omega
              clear hz
              go_wp2
              go_ret3
              exact ⟨rfl, rfl⟩
            · by_cases hbig : 1000000000000 < acc'
              · have HZ : Hid ((0, 0, false) = (x, y, z)) := by show _ = _; rw [← HE6.out, rdU_bad _ _ _ c _ (by omega) (by rw [HL.out]; omega) HC.out hc128 (Or.inr (by rw [H5.out, HAC.out]; exact hbig))]
                obtain ⟨rfl, rfl, rfl⟩ : 0 = x ∧ 0 = y ∧ false = z := by simpa using HZ.out
                have hb2 : decide (1000000000000 < acc') = true := by simpa using hbig
                by_cases hz0 : c = 0
                · exfalso
                  have h1 := HAC.out
                  have h2 := HP.out
                  obtain rfl : i = 0 := by omega
                  subst hz0
                  simp at h1 h2
                  omega
                · have hz1 : (c == 0) = false := by simpa using hz0
                  clear hz hbig
                  go_wp2
                  go_ret3
                  exact ⟨rfl, rfl⟩
              · have HZ : Hid ((acc', (P : Int) + i + 1, true) = (x, y, z)) := by show _ = _; rw [← HE6.out, rdU_good _ _ _ c _ (by omega) (by rw [HL.out]; omega) HC.out hc128 (by rw [H5.out, HAC.out]; omega), H5.out, HAC.out]
                obtain ⟨rfl, rfl, rfl⟩ : acc' = x ∧ (P : Int) + i + 1 = y ∧ true = z := by simpa using HZ.out
                have hb2 : decide (1000000000000 < acc') = false := by simpa using hbig
                by_cases hz0 : c = 0
                · obtain rfl : i = 0 := by omega
                  have h1 := HAC.out
                  have h2 := HP.out
                  subst hz0
                  simp at h1 h2
                  obtain rfl : acc = 0 := by omega
                  obtain rfl : acc' = 0 := by omega
                  clear ho
                  have ho : bits .or .i64 0 0 = 0 := by decide
                  simp only [Nat.add_zero] at hcx
                  have hd4 : (P : Int) < k := by omega
                  have hd5 : decide ((k : Int) ≤ P) = false := by simp; omega
                  clear hz hbig hd2 hd3 h1 h2
                  go_wp2
                  go_ret3
                  exact ⟨by simp, rfl⟩
                · have hz1 : (c == 0) = false := by simpa using hz0
                  clear hz hbig
                  go_wp2
                  go_ret3
                  exact ⟨rfl, rfl⟩
          · have HE' : Hid (rdU bs ((P : Int) + ((i + 1 : Nat) : Int)) acc' (6 - (i + 1)) = (x, y, z)) := by
              show _ = _
              rw [← HE6.out, rdU_more _ _ _ c _ (by omega) (by rw [HL.out]; omega) HC.out hc128, H5.out, HAC.out, show 6 - (i + 1) = 5 - i by omega, show ((i + 1 : Nat) : Int) = (i : Int) + 1 by omega, Int.add_assoc]
            have HN' : Hid (acc' < 128 ^ (i + 1)) := by show _ < _; rw [← HAC.out]; exact HN.out
            go_wp2
            go_round
            case rel => exact ⟨i + 1, acc', by omega, by go_num, rfl, by omega, HN', Or.inr (by omega), HE'⟩
            case measure => simp [intOf]; omega
    · obtain rfl : i = 6 := by omega
      have HZ : Hid ((0, 0, false) = (x, y, z)) := by show _ = _; rw [← HE.out]; rfl
      obtain ⟨rfl, rfl, rfl⟩ : 0 = x ∧ 0 = y ∧ false = z := by simpa using HZ.out
      go_wp2
      go_ret3
      exact ⟨rfl, rfl⟩

theorem implReadU_any (A : Option Addr) (k c0 : Nat) (bs : List Int) (p : Int) (w : World) (hr : Rd w A (bs.map (.int .u8))) (hl : bs.length = k) (hk : k ≤ 16777216) (hb : IsBytes bs) (x y : Int) (z : Bool) (hR : readU bs p = (x, y, z)) :
    Calls Try.prog 12 #[.slice A k c0, .int .i64 p] w fun e w' => e = .returned (.tuple #[.int .i64 x, .int .i64 y, .bool z]) ∧ w = w' := by
  have HL := hid hl
  have HR := hid hR
  have HB := hid hb
  clear hl hR hb
  by_cases hp : p < 0
  · have HZ : Hid ((0, 0, false) = (x, y, z)) := by show _ = _; rw [← HR.out, readU, rdU_out _ _ _ _ (Or.inl hp)]
    obtain ⟨rfl, rfl, rfl⟩ : 0 = x ∧ 0 = y ∧ false = z := by simpa using HZ.out
    go_enter Try.func12, Try.ntmps12
    go_wp2
    go_ret3
    exact ⟨rfl, rfl⟩
  go_enter Try.func12, Try.ntmps12
  go_wp2
  go_loop [1, 7, 8, 9] (fun q t i _ => ∃ (i' : Nat) (acc : Int), i' ≤ 6 ∧ i = .int .i64 i' ∧ q = .int .i64 (p + i') ∧ t = .int .i64 acc ∧ 0 ≤ acc ∧ Hid (acc < 128 ^ i') ∧ Hid (rdU bs (p + i') acc (6 - i') = (x, y, z))) (fun _ _ i _ => 6 - (intOf i).toNat)
  case atStart => exact ⟨0, 0, by omega, rfl, by simp, rfl, by omega, (by show (0 : Int) < 128 ^ 0; simp), (by show _ = _; simpa [readU] using HR.out)⟩
  case round =>
    obtain ⟨i, acc, hi, rfl, rfl, rfl, ha0, HP, HE⟩ := hrel
    by_cases hlt : i < 6
    · by_cases hp' : p < 0
      · exact absurd hp' (by omega)
      · obtain ⟨P, rfl⟩ := Int.eq_ofNat_of_zero_le (show 0 ≤ p by omega)
        have e6 : 6 - i = (5 - i) + 1 := by omega
        have e5 : 5 - (5 - i) = i := by omega
        have HE6 : Hid (rdU bs ((P : Int) + i) acc ((5 - i) + 1) = (x, y, z)) := by show _ = _; rw [← e6]; exact HE.out
        have H5 := hid e5
        clear e6 e5 HE
        by_cases hout : k ≤ P + i
        · have HZ : Hid ((0, 0, false) = (x, y, z)) := by show _ = _; rw [← HE6.out, rdU_out _ _ _ _ (Or.inr (by rw [HL.out]; omega))]
          obtain ⟨rfl, rfl, rfl⟩ : 0 = x ∧ 0 = y ∧ false = z := by simpa using HZ.out
          have hd1 : decide ((P : Int) < 0) = false := by simp
          have hd2 : decide ((k : Int) - i ≤ P) = true := by simp; omega
          have hd3 : (k : Int) ≤ P + i := by omega
          go_wp2
          go_ret3
          exact ⟨rfl, rfl⟩
        · have hkz : P + i < bs.length := by have := HL.out; omega
          obtain ⟨b, o, hA, hbl, hc⟩ := hr (P + i) (by simpa using hkz)
          subst hA
          obtain ⟨c, hcc⟩ : ∃ c, c = bs[P + i] := ⟨_, rfl⟩
          have hcx : w.cell? ⟨b, o + (P + i), none⟩ = some (.int .u8 c) := by rw [hc, int_at hkz, hcc]
          have hcb : 0 ≤ c ∧ c ≤ 255 := by rw [hcc]; exact HB.out _ (List.getElem_mem hkz)
          obtain ⟨hcb0, hcb1⟩ := hcb
          have HC : Hid (bs.getD ((P : Int) + i).toNat 0 = c) := by
            show _ = _
            rw [show ((P : Int) + i).toNat = P + i by omega, hcc, List.getD_eq_getElem?_getD, List.getElem?_eq_getElem hkz]; rfl
          have hd1 : decide ((P : Int) < 0) = false := by simp
          have hd2 : decide ((k : Int) - i ≤ P) = false := by simp; omega
          have hd3 : (P : Int) + i < k := by omega
          have HN := hid (acc_next acc c i HP.out)
          have hs := shl_part c i hlt
          obtain ⟨d, hd⟩ : ∃ d, c % 128 * 128 ^ i = d := ⟨_, rfl⟩
          rw [hd] at hs
          obtain ⟨ho, hs0, hs1⟩ := hs
          have hab : acc < 4398046511104 := Int.lt_of_lt_of_le HP.out (pow128_le i hi)
          have HAC : Hid (acc + c % 128 * 128 ^ i = acc + d) := by show _ = _; rw [hd]
          clear hc hcc hd
          by_cases hc128 : c < 128
          · have hdz : decide (c < 128) = true := by simpa using hc128
            by_cases hz : c = 0 ∧ 0 < i
            · have HZ : Hid ((0, 0, false) = (x, y, z)) := by show _ = _; rw [← HE6.out, rdU_bad _ _ _ c _ (by omega) (by rw [HL.out]; omega) HC.out hc128 (Or.inl ⟨hz.1, by omega⟩)]
              obtain ⟨rfl, rfl, rfl⟩ : 0 = x ∧ 0 = y ∧ false = z := by simpa using HZ.out
              have hz1 : (c == 0) = true := by simpa using hz.1
              have hz2 : ¬ i = 0 := by omega
              clear hz
              go_wp2
              go_ret3
              exact ⟨rfl, rfl⟩
            · by_cases hbig : 1000000000000 < (acc + d)
              · have HZ : Hid ((0, 0, false) = (x, y, z)) := by show _ = _; rw [← HE6.out, rdU_bad _ _ _ c _ (by omega) (by rw [HL.out]; omega) HC.out hc128 (Or.inr (by rw [H5.out, HAC.out]; exact hbig))]
                obtain ⟨rfl, rfl, rfl⟩ : 0 = x ∧ 0 = y ∧ false = z := by simpa using HZ.out
                have hb2 : decide (1000000000000 < (acc + d)) = true := by simpa using hbig
                by_cases hz0 : c = 0
                · exfalso
                  have h1 := HAC.out
                  have h2 := HP.out
                  obtain rfl : i = 0 := by omega
                  subst hz0
                  simp at h1 h2
                  omega
                · have hz1 : (c == 0) = false := by simpa using hz0
                  clear hz hbig
                  go_wp2
                  go_ret3
                  exact ⟨rfl, rfl⟩
              · have HZ : Hid (((acc + d), (P : Int) + i + 1, true) = (x, y, z)) := by show _ = _; rw [← HE6.out, rdU_good _ _ _ c _ (by omega) (by rw [HL.out]; omega) HC.out hc128 (by rw [H5.out, HAC.out]; omega), H5.out, HAC.out]
                obtain ⟨rfl, rfl, rfl⟩ : (acc + d) = x ∧ (P : Int) + i + 1 = y ∧ true = z := by simpa using HZ.out
                have hb2 : decide (1000000000000 < (acc + d)) = false := by simpa using hbig
                by_cases hz0 : c = 0
                · obtain rfl : i = 0 := by omega
                  have h1 := HAC.out
                  have h2 := HP.out
                  subst hz0
                  simp at h1 h2
                  obtain rfl : acc = 0 := by omega
                  obtain rfl : d = 0 := by omega
                  clear ho
                  simp only [Nat.add_zero] at hcx
                  have hd4 : (P : Int) < k := by omega
                  have hd5 : decide ((k : Int) ≤ P) = false := by simp; omega
                  clear hz hbig hd2 hd3 h1 h2
                  go_wp2
                  go_ret3
                  exact ⟨by simp, rfl⟩
                · have hz1 : (c == 0) = false := by simpa using hz0
                  clear hz hbig
                  go_wp2
                  go_ret3
                  exact ⟨rfl, rfl⟩
          · have HE' : Hid (rdU bs ((P : Int) + ((i + 1 : Nat) : Int)) (acc + d) (6 - (i + 1)) = (x, y, z)) := by
              show _ = _
              rw [← HE6.out, rdU_more _ _ _ c _ (by omega) (by rw [HL.out]; omega) HC.out hc128, H5.out, HAC.out, show 6 - (i + 1) = 5 - i by omega, show ((i + 1 : Nat) : Int) = (i : Int) + 1 by omega, Int.add_assoc]
            have HN' : Hid ((acc + d) < 128 ^ (i + 1)) := by show _ < _; rw [← HAC.out]; exact HN.out
            go_wp2
            go_round
            case rel => exact ⟨i + 1, (acc + d), by omega, by go_num, by go_num, rfl, by omega, HN', HE'⟩
            case measure => simp [intOf]; omega
    · obtain rfl : i = 6 := by omega
      have HZ : Hid ((0, 0, false) = (x, y, z)) := by show _ = _; rw [← HE.out]; rfl
      obtain ⟨rfl, rfl, rfl⟩ : 0 = x ∧ 0 = y ∧ false = z := by simpa using HZ.out
      go_wp2
      go_ret3
      exact ⟨rfl, rfl⟩
end Go.Proofs.Ytdbliaechmjemaa
