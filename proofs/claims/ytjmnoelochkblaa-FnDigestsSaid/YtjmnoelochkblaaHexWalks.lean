/- The walks of HexText. -/
import Derived.Test.YtjmnoelochkblaaNumWalks
import Derived.Test.YtjmnoelochkblaaHexMath
import Derived.Test.YtjmnoelochkblaaDraw3
namespace Go.Proofs.Ytjmnoelochkblaa
open Go.RowKit


theorem specHexText_in (n : Int) (w : World) (h0 : 0 ≤ n) (h1 : n ≤ 2147483647) :
    Calls Try.prog 24 #[.int .i64 n] w fun e w' => e = .returned (.string (strOf (hexI n 8))) ∧ w.grownBy w' none := by
  have kc := fun (W : World) (c : Int) => run_conv_one (P := Try.prog) W 37 5 9 c Try.underlying37 Try.underlying5 Try.underlying9
  have kz := byteStr_size
  go_enter Try.func24, Try.ntmps24
  go_wp2_with (go_at_call 37; refine (l1In_t _ _ _ _ h0 h1).mono ?_; rintro e w' ⟨rfl, rfl⟩)
  go_loopw [3, 4, 5] (fun t i _ wr => ∃ k : Nat, k ≤ 8 ∧ i = .int .i64 k ∧ t = .string (strOf (hexI n k)) ∧ w.grownBy wr none) (fun _ i _ _ => 8 - (intOf i).toNat)
  case atStart => exact ⟨0, by omega, rfl, rfl, gb_refl _ _⟩
  case round =>
    obtain ⟨k, hk, rfl, rfl, hg⟩ := hrel
    by_cases hlt : k < 8
    · obtain ⟨d, hd⟩ : ∃ d, nib n k = d := ⟨_, rfl⟩
      have hd0 : 0 ≤ d ∧ d < 16 := by rw [← hd]; exact nib_bd n k
      obtain ⟨hd1, hd2⟩ := hd0
      have HB : Hid (hexI n (k + 1) = hexDig d :: hexI n k) := by rw [← hd]; rfl
      have hb : bits .and .i64 (n / 2 ^ (4 * k)) 15 = d := (nib_spec n k).trans hd
      have hs : (strOf (hexI n k)).size ≤ 8 := by rw [strOf_size, hexI_length]; omega
      clear hd
      go_wp2
      · have hlt10 : d < 10 := by assumption
        go_roundw
        case rel => exact ⟨k + 1, by omega, by go_num, by rw [strOf_cons, HB.out, hexDig, if_pos hlt10], gb_alloc hg _⟩
        case measure => simp [intOf]; omega
      · have hge : 10 ≤ d := by assumption
        go_roundw
        case rel => exact ⟨k + 1, by omega, by go_num, by rw [strOf_cons, HB.out, hexDig, if_neg (by omega)], gb_alloc hg _⟩
        case measure => simp [intOf]; omega
    · obtain rfl : k = 8 := by omega
      go_wp2
      go_ret
      exact ⟨rfl, hg⟩
theorem specHexText_out (n : Int) (w : World) (h : n < 0 ∨ 2147483647 < n) :
    Calls Try.prog 24 #[.int .i64 n] w fun e w' => e = .returned (.string ByteArray.empty) ∧ w.grownBy w' none := by
  go_enter Try.func24, Try.ntmps24
  go_wp2_with (go_at_call 37; refine (l1In_f _ _ _ _ h).mono ?_; rintro e w' ⟨rfl, rfl⟩)
  go_ret
  exact ⟨rfl, gb_refl _ _⟩

theorem implHexText_in (n : Int) (w : World) (h0 : 0 ≤ n) (h1 : n ≤ 2147483647) :
    Calls Try.prog 25 #[.int .i64 n] w fun e w' => e = .returned (.string (strOf (hexI n 8))) ∧ w.grownBy w' none := by
  obtain ⟨i0, hi, hz0, hz1, hz2⟩ := info_parts Try.infoU8
  have hd1 : decide (n < 0) = false := by simp; omega
  have hd2 : decide (2147483647 < n) = false := by simp; omega
  go_enter Try.func25, Try.ntmps25
  go_wp2_with (at_make; refine wpList_make_full _ rfl _ _ _ rfl w.heap.size 5 i0 (.int .u8 0) 1 Try.underlying37 hi hz0 hz1 .i64 .i64 _ _ 8 rfl rfl rfl rfl (by omega) (by unfold maxLen; omega) (by simp) ?_; intro w1 hown hgr)
  go_loopw [0, 4] (fun t i wr => ∃ k : Nat, k ≤ 8 ∧ i = .int .i64 (7 - k) ∧ ∃ m, t = .int .i64 m ∧ Hid (m = n / 16 ^ k) ∧ 0 ≤ m ∧ m ≤ 2147483647 ∧ wr.ownsRow w.heap.size 5 1 (.slice (some ⟨w.heap.size, 0, none⟩) 8 8) 8 ((List.replicate (8 - k) (0 : Int) ++ hexI n k).map (Value.int .u8)) ∧ w.grownBy wr none) (fun _ i _ => (intOf i + 1).toNat)
  case atStart => exact ⟨0, by omega, rfl, _, rfl, by show n = n / 16 ^ 0; simp, h0, h1, by rw [← hex_start]; exact hown, hgr⟩
  case round =>
    obtain ⟨k, hk, rfl, m, rfl, HM, hm0, hm1, hownr, hg⟩ := hrel
    by_cases hlt : k < 8
    · have hcell : wr.cell? ⟨w.heap.size, 7 - k, none⟩ = some (((List.replicate (8 - k) (0 : Int) ++ hexI n k).map (Value.int .u8))[7 - k]'(by simp [hexI_length]; omega)) := (hownr.cellAt (7 - k) (by omega)).trans (List.getElem?_eq_getElem _)
      have hfr := hownr.frozenAt (7 - k)
      have HS := hid (hownr.stored (7 - k))
      have HX := hid (hex_set n k hlt)
      have HA := hid (hex_at (m % 16) (by omega) (by omega))
      have HN : Hid (m % 16 = nib n k) := by show m % 16 = nib n k; rw [HM.out]; rfl
      have HD : Hid (m / 16 = n / 16 ^ (k + 1)) := by show m / 16 = n / 16 ^ (k + 1); rw [HM.out, nib_div]
      clear HM
      go_wp2
      go_roundw
      case rel =>
        refine ⟨k + 1, by omega, by go_num, m / 16, rfl, HD, by omega, by omega, ?_, ?_⟩
        · rw [← HX.out, ← HN.out, ← HA.out (by show (m % 16).toNat < 16; omega)]
          exact (HS.out _).1
        · exact gb_set hg (Or.inl (Nat.le_refl _)) _
      case measure => simp [intOf]; omega
    · obtain rfl : k = 8 := by omega
      have kc := fun dst hdst => run_convert_bytes_arg (P := Try.prog) wr 37 5 Try.underlying37 Try.underlying5 w.heap.size 0 8 8 (hexI n 8) (hexI_length n 8) (fun i hi => by
        rw [Nat.zero_add]
        refine (hownr.cellAt i (by omega)).trans ?_
        have hl : i < (hexI n 8).length := by rw [hexI_length]; exact hi
        simp [List.getD_eq_getElem?_getD, List.getElem?_eq_getElem hl]) dst hdst
      have kc9 := kc 9 Try.underlying9
      clear kc
      rw [strOf_nums] at kc9
      go_wp2
      go_ret
      exact ⟨rfl, hg⟩
theorem implHexText_out (n : Int) (w : World) (h : n < 0 ∨ 2147483647 < n) :
    Calls Try.prog 25 #[.int .i64 n] w fun e w' => e = .returned (.string ByteArray.empty) ∧ w.grownBy w' none := by
  by_cases h0 : n < 0
  · have hd1 : decide (n < 0) = true := by simp; omega
    go_enter Try.func25, Try.ntmps25
    go_wp2
    go_ret
    exact ⟨rfl, gb_refl _ _⟩
  · have hd1 : decide (n < 0) = false := by simp; omega
    have hd2 : decide (2147483647 < n) = true := by simp; omega
    go_enter Try.func25, Try.ntmps25
    go_wp2
    go_ret
    exact ⟨rfl, gb_refl _ _⟩

theorem hexText_walk (a0 : Int) (w : World) (_w0 : (Lit.int .i64 a0).wf = true) : Calls Try.prog 9 #[.int .i64 a0] w fun e w' => e = .returned (.bool true) ∧ Below w.heap.size w w' := by
  by_cases h : 0 ≤ a0 ∧ a0 ≤ 2147483647
  · obtain ⟨h1, h2⟩ := h
    go_enter Try.func9, Try.ntmps9
    go_wp2_with fail
    refine (specHexText_in _ _ h1 h2).mono ?_
    rintro e w1 ⟨rfl, hg1⟩
    go_wp2_with fail
    refine (implHexText_in _ _ h1 h2).mono ?_
    rintro e w2 ⟨rfl, hg2⟩
    go_wp2
    go_ret
    exact ⟨rfl, gb_below (gb_trans hg1 hg2)⟩
  · have h' : a0 < 0 ∨ 2147483647 < a0 := by omega
    go_enter Try.func9, Try.ntmps9
    go_wp2_with fail
    refine (specHexText_out _ _ h').mono ?_
    rintro e w1 ⟨rfl, hg1⟩
    go_wp2_with fail
    refine (implHexText_out _ _ h').mono ?_
    rintro e w2 ⟨rfl, hg2⟩
    go_wp2
    go_ret
    exact ⟨rfl, gb_below (gb_trans hg1 hg2)⟩
end Go.Proofs.Ytjmnoelochkblaa
