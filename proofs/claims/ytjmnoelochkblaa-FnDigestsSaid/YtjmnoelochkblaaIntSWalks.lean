/- The walks over slices of ints: toIntS, eqIntS, Hash (both), KeyedHash (both), and the laws FnExactHash, FnExactKeyedHash. -/
import Derived.Test.YtjmnoelochkblaaRowWalks
namespace Go.Proofs.Ytjmnoelochkblaa
open Go.RowKit

theorem toIntS_any (A : Option Addr) (n c : Nat) (zs : List Int) (w : World) (hr : Rd w A (zs.map (.int .i64))) (hnn : zs.length = n) (hn : n ≤ 16777216) :
    Calls Try.prog 29 #[.slice A n c] w fun e w' => e = .returned (.slice (some ⟨w.heap.size, 0, none⟩) n n) ∧
      w'.ownsRow w.heap.size 3 1 (.slice (some ⟨w.heap.size, 0, none⟩) n n) n (zs.map (.int .i64)) ∧ w.grownBy w' none := by
  obtain ⟨i0, hi, hz0, hz1, hz2⟩ := info_parts Try.info3
  have HL := hid hnn
  clear hnn
  go_enter Try.func29, Try.ntmps29
  go_wp2_with (at_make; refine wpList_make_full _ rfl _ _ _ rfl w.heap.size 3 i0 (.int .i64 0) 1 Try.underlying30 hi hz0 hz1 .i64 .i64 _ _ n rfl rfl rfl rfl (by rw [hz2]; omega) (by unfold maxLen; omega) (Nat.le_refl _) ?_; intro w1 hown hgr)
  go_loopw [4] (fun i wr => ∃ k : Nat, k ≤ n ∧ i = .int .i64 k ∧ wr.ownsRow w.heap.size 3 1 (.slice (some ⟨w.heap.size, 0, none⟩) n n) n ((zs.take k).map (Value.int .i64) ++ List.replicate (n - k) (Value.int .i64 0)) ∧ w.grownBy wr none) (fun i _ => n - (intOf i).toNat)
  case atStart => exact ⟨0, by omega, rfl, by rw [← fill_start]; exact hown, hgr⟩
  case round =>
    obtain ⟨k, hk, rfl, hownr, hg⟩ := hrel
    by_cases hlt : k < n
    · have hkz : k < zs.length := by have := HL.out; omega
      obtain ⟨b, o, rfl, hb, hc⟩ := (hr.grow hg) k (by simpa using hkz)
      obtain ⟨x, hx⟩ : ∃ x, x = zs[k] := ⟨_, rfl⟩
      have hcx : wr.cell? ⟨b, o + k, none⟩ = some (.int .i64 x) := by rw [hc, int_at hkz, hx]
      have HX := hid hx
      have HF := hid (fill_step .i64 zs k n hkz HL.out)
      have hcell : ∃ u, wr.cell? ⟨w.heap.size, k, none⟩ = some u := ⟨_, (hownr.cellAt k (by omega)).trans (List.getElem?_eq_getElem (by simp; omega))⟩
      obtain ⟨u, hu⟩ := hcell
      have hfr := hownr.frozenAt k
      have HS := hid (hownr.stored k (.int .i64 x))
      clear hc hx
      go_wp2
      go_roundw
      case rel =>
        refine ⟨k + 1, by omega, by go_num, ?_, gb_set hg (Or.inl (Nat.le_refl _)) _⟩
        rw [← HF.out, ← HX.out]
        exact (HS.out).1
      case measure => simp [intOf]; omega
    · obtain rfl : k = n := by omega
      have hown' := hownr
      rw [fill_end .i64 zs k HL.out] at hown'
      go_wp2
      go_ret
      exact ⟨rfl, hown', hg⟩

theorem eqIntS_same (A1 A2 : Option Addr) (n c1 c2 : Nat) (zs : List Int) (w : World) (h1 : Rd w A1 (zs.map (.int .i64))) (h2 : Rd w A2 (zs.map (.int .i64))) (hnn : zs.length = n) (hn : n ≤ 16777216) :
    Calls Try.prog 31 #[.slice A1 n c1, .slice A2 n c2] w fun e w' => e = .returned (.bool true) ∧ w.grownBy w' none := by
  have HL := hid hnn
  clear hnn
  go_enter Try.func31, Try.ntmps31
  go_wp2
  go_loopw [5] (fun i wr => ∃ k : Nat, k ≤ n ∧ i = .int .i64 k ∧ w.grownBy wr none) (fun i _ => n - (intOf i).toNat)
  case atStart => exact ⟨0, by omega, rfl, gb_refl _ _⟩
  case round =>
    obtain ⟨k, hk, rfl, hg⟩ := hrel
    by_cases hlt : k < n
    · have hkz : k < zs.length := by have := HL.out; omega
      obtain ⟨b, o, rfl, hb, hc⟩ := (h1.grow hg) k (by simpa using hkz)
      obtain ⟨b2, o2, rfl, hb2, hc2⟩ := (h2.grow hg) k (by simpa using hkz)
      obtain ⟨x, hx⟩ : ∃ x, x = zs[k] := ⟨_, rfl⟩
      have hcx : wr.cell? ⟨b, o + k, none⟩ = some (.int .i64 x) := by rw [hc, int_at hkz, hx]
      have hcx2 : wr.cell? ⟨b2, o2 + k, none⟩ = some (.int .i64 x) := by rw [hc2, int_at hkz, hx]
      have hp0 : (0 : Int) ≤ (k : Int) := by omega
      have hp1 : (k : Int) < (n : Int) := by omega
      clear hc hx hc2
      go_wp2
      go_quiet (fail)
      go_wp2
      go_roundw
      case rel => exact ⟨k + 1, by omega, by go_num, gb_drewN hg _⟩
      case measure => simp [intOf]; omega
    · go_wp2
      go_ret
      exact ⟨rfl, hg⟩

theorem specHash_any (A : Option Addr) (n c : Nat) (zs : List Int) (w : World) (hr : Rd w A (zs.map (.int .i64))) (hnn : zs.length = n) (hn : n ≤ 16777216) :
    Calls Try.prog 28 #[.slice A n c] w fun e w' => e = .returned (.int .i64 (hashL (zs.map (modOf · 2147483647)))) ∧ w = w' := by
  have HL := hid hnn
  clear hnn
  obtain ⟨ms, hms⟩ : ∃ ms, ms = zs.map (modOf · 2147483647) := ⟨_, rfl⟩
  rw [← hms]
  have HM := hid hms
  clear hms
  go_enter Try.func28, Try.ntmps28
  go_wp2
  go_loop [3, 4] (fun t i => ∃ k : Nat, k ≤ n ∧ i = .int .i64 k ∧ t = .int .i64 (hashL (ms.take k))) (fun _ i => n - (intOf i).toNat)
  case atStart => exact ⟨0, by omega, rfl, rfl⟩
  case round =>
    obtain ⟨k, hk, rfl, rfl⟩ := hrel
    have hbd := hashL_bd (ms.take k)
    by_cases hlt : k < n
    · have hkz : k < zs.length := by have := HL.out; omega
      obtain ⟨b, o, rfl, hb, hc⟩ := hr k (by simpa using hkz)
      obtain ⟨x, hx⟩ : ∃ x, x = zs[k] := ⟨_, rfl⟩
      have hcx : w.cell? ⟨b, o + k, none⟩ = some (.int .i64 x) := by rw [hc, int_at hkz, hx]
      have HS : Hid (hashL (ms.take (k + 1)) = (hashL (ms.take k) * 1000003 + modOf x 2147483647 + 13) % 2147483647) := by
        show _ = _
        rw [HM.out, List.take_succ_eq_append_getElem (by simpa using hkz), hashL_snoc, List.getElem_map, ← hx]; rfl
      have hmb := modOf_bd x 2147483647 (by omega)
      clear hc hx
      go_wp2_with (go_at_call 22; refine (specMod_in _ _ _ (by omega) (by omega)).mono ?_; rintro e w' ⟨rfl, rfl⟩)
      go_round
      case rel => exact ⟨k + 1, by omega, by go_num, by rw [HS.out]⟩
      case measure => simp [intOf]; omega
    · have HS : Hid (ms.take k = ms) := List.take_of_length_le (by rw [HM.out, List.length_map]; have := HL.out; omega)
      go_wp2
      go_ret
      exact ⟨ret_int (by rw [HS.out]), rfl⟩

theorem implHash_any (A : Option Addr) (n c : Nat) (zs : List Int) (w : World) (hr : Rd w A (zs.map (.int .i64))) (hnn : zs.length = n) (hn : n ≤ 16777216) :
    Calls Try.prog 30 #[.slice A n c] w fun e w' => e = .returned (.int .i64 (hashL (zs.map (modOf · 2147483647)))) ∧ w = w' := by
  have HL := hid hnn
  clear hnn
  obtain ⟨ms, hms⟩ : ∃ ms, ms = zs.map (modOf · 2147483647) := ⟨_, rfl⟩
  rw [← hms]
  have HM := hid hms
  clear hms
  go_enter Try.func30, Try.ntmps30
  go_wp2
  go_loop [3, 5, 8] (fun t _ i => ∃ k : Nat, k ≤ n ∧ i = .int .i64 k ∧ t = .int .i64 (hashL (ms.take k))) (fun _ _ i => n - (intOf i).toNat)
  case atStart => exact ⟨0, by omega, rfl, rfl⟩
  case round =>
    obtain ⟨k, hk, rfl, rfl⟩ := hrel
    have hbd := hashL_bd (ms.take k)
    by_cases hlt : k < n
    · have hkz : k < zs.length := by have := HL.out; omega
      obtain ⟨b, o, rfl, hb, hc⟩ := hr k (by simpa using hkz)
      obtain ⟨x, hx⟩ : ∃ x, x = zs[k] := ⟨_, rfl⟩
      have hcx : w.cell? ⟨b, o + k, none⟩ = some (.int .i64 x) := by rw [hc, int_at hkz, hx]
      have HS : Hid (hashL (ms.take (k + 1)) = (hashL (ms.take k) * 1000003 + modOf x 2147483647 + 13) % 2147483647) := by
        show _ = _
        rw [HM.out, List.take_succ_eq_append_getElem (by simpa using hkz), hashL_snoc, List.getElem_map, ← hx]; rfl
      have hmb := modOf_bd x 2147483647 (by omega)
      clear hc hx
      go_wp2_with (go_at_call 23; refine (implMod_in _ _ _ (by omega) (by omega)).mono ?_; rintro e w' ⟨rfl, rfl⟩)
      go_round
      case rel => exact ⟨k + 1, by omega, by go_num, by rw [HS.out]⟩
      case measure => simp [intOf]; omega
    · have HS : Hid (ms.take k = ms) := List.take_of_length_le (by rw [HM.out, List.length_map]; have := HL.out; omega)
      go_wp2
      go_ret
      exact ⟨ret_int (by rw [HS.out]), rfl⟩

theorem hash_walk (a0 : Option Addr) (len0 cap0 : Nat) (z0 : List Int) (w : World) (w0 : IsRow .i64 w a0 len0 cap0 z0) :
    Calls Try.prog 11 #[.slice a0 len0 cap0] w fun e w' => e = .returned (.bool true) ∧ Below w.heap.size w w' := by
  have hlen : len0 ≤ 9223372036854775807 := by
    rcases w0 with ⟨_, rfl, _⟩ | ⟨_, _, h1, h2, _⟩
    · omega
    · unfold maxLen at h2; omega
  obtain ⟨hr, hl⟩ := Rd.isRow w0
  by_cases h : len0 ≤ 1048576
  · have HR := hid hr
    clear hr
    go_enter Try.func11, Try.ntmps11
    go_wp2_with fail
    refine (toIntS_any _ _ _ _ _ HR.out hl (by omega)).mono ?_
    rintro e w1 ⟨rfl, ho1, hg1⟩
    go_wp2_with fail
    refine (specHash_any _ _ _ _ _ (Rd.own ho1) hl (by omega)).mono ?_
    rintro e w' ⟨rfl, rfl⟩
    go_wp2_with fail
    refine (toIntS_any _ _ _ _ _ (HR.out.grow hg1) hl (by omega)).mono ?_
    rintro e w2 ⟨rfl, ho2, hg2⟩
    go_wp2_with fail
    refine (implHash_any _ _ _ _ _ (Rd.own ho2) hl (by omega)).mono ?_
    rintro e w' ⟨rfl, rfl⟩
    go_wp2_with fail
    refine (toIntS_any _ _ _ _ _ ((HR.out.grow hg1).grow hg2) hl (by omega)).mono ?_
    rintro e w3 ⟨rfl, ho3, hg3⟩
    go_wp2_with fail
    refine (eqIntS_same _ _ _ _ _ _ _ ((Rd.own ho2).grow hg3) (Rd.own ho3) hl (by omega)).mono ?_
    rintro e w4 ⟨rfl, hg4⟩
    go_wp2
    go_ret
    exact ⟨rfl, gb_below (gb_trans (gb_trans (gb_trans hg1 hg2) hg3) hg4)⟩
  · go_enter Try.func11, Try.ntmps11
    go_wp2
    go_ret
    exact ⟨rfl, Below.refl _ _⟩
end Go.Proofs.Ytjmnoelochkblaa
