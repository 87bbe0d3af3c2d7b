/- The walk of the reference's ParseInt. -/
import Derived.Test.YtmbochhmeojmfaaDoorParseW
import Derived.Test.YtmbochhmeojmfaaDoorL1In
namespace Go.Proofs.YtmbochhmeojmfaaDoor
set_option maxRecDepth 20000
open Go.RowKit
set_option linter.unusedVariables false

theorem bytes_take (s : ByteArray) (k : Nat) (h : k < s.size) : s.data.toList.take (k + 1) = s.data.toList.take k ++ [s[k]] := by
  have h2 : k < s.data.toList.length := by simpa using h
  rw [List.take_succ_eq_append_getElem h2]
  congr 1
theorem valD_take (s : ByteArray) (k : Nat) (h : k < s.size) : valD 0 (s.data.toList.take (k + 1)) = valD 0 (s.data.toList.take k) * 10 + (s[k].toNat - 48) := by
  rw [bytes_take s k h, valD_app]; rfl
theorem digits_at {v : Int} {s : ByteArray} (h0 : 0 ≤ v) (h : s = itoaB v) (k : Nat) (hk : k < s.size) : 48 ≤ (s[k].toNat : Int) ∧ (s[k].toNat : Int) ≤ 57 := by
  have e := itoaB_size_pos v h0
  rw [← h] at e
  have hm : s[k] ∈ Lib.decDigits v.toNat := by
    have : s[k] ∈ s.data.toList := by
      show s.data[k] ∈ s.data.toList
      simp
    have e2 : s.data.toList = Lib.decDigits v.toNat := by rw [e]
    rw [e2] at this
    exact this
  have := decDigits_digC _ _ hm
  unfold DigC at this
  omega
theorem val_itoa {v : Int} {s : ByteArray} (h0 : 0 ≤ v) (h : s = itoaB v) : (valD 0 s.data.toList : Int) = v := by
  rw [h, itoaB_size_pos v h0]
  show ((valD 0 (Lib.decDigits v.toNat) : Nat) : Int) = v
  rw [valD_dec]
  omega

set_option maxHeartbeats 2000000 in
theorem specParse (s : ByteArray) (w : World) (hs : s.size ≤ 1048576) :
    Calls Tryd.prog 76 #[.string s] w (ParsePost s 0 1000000000000 w) := by
  by_cases hin : 1 ≤ s.size ∧ s.size ≤ 13
  case neg =>
    have HN : Hid (∀ v, 0 ≤ v → v ≤ 1000000000000 → s ≠ itoaB v) := hid (fun v h0 h1 hv => hin (by have := size13 v h0 h1; rw [← hv] at this; exact this))
    have HO : Hid ((s.size : Int) < 1 ∨ 13 < (s.size : Int)) := hid (by omega)
    clear hin
    go_enter Tryd.func76, Tryd.ntmps76
    go_wp2_with (go_at_call 61; refine (l1In_f _ _ _ _ HO.out).mono ?_; rintro e w' ⟨rfl, rfl⟩)
    go_ret2
    exact ⟨0, false, rfl, Says.no HN.out, gb_refl _ _⟩
  obtain ⟨h1, h13⟩ := hin
  go_enter Tryd.func76, Tryd.ntmps76
  go_wp2_with (go_at_call 61; refine (l1In_t _ _ _ _ (by omega) (by omega)).mono ?_; rintro e w' ⟨rfl, rfl⟩)
  go_loopw [4, 5] (fun t i wr => ∃ (k N : Nat), k ≤ s.size ∧ Hid (N = valD 0 (s.data.toList.take k)) ∧ Hid (N < 10 ^ k) ∧ i = .int .i64 k ∧ t = .int .i64 N ∧ wr = w) (fun _ i _ => s.size - (intOf i).toNat)
  case atStart => exact ⟨0, 0, Nat.zero_le _, hid rfl, hid (by decide), rfl, rfl, rfl⟩
  case round =>
    obtain ⟨k, N, hk, HV, HP, rfl, rfl, rfl⟩ := hrel
    by_cases hlt : k < s.size
    · have hN : N < 1000000000000 := by
        have := HP.out
        have h2 : 10 ^ k ≤ 10 ^ 12 := Nat.pow_le_pow_right (by decide) (by omega)
        have h3 : (10 : Nat) ^ 12 = 1000000000000 := by decide
        omega
      by_cases hd : 48 ≤ (s[k].toNat : Int) ∧ (s[k].toNat : Int) ≤ 57
      · obtain ⟨d0, d1⟩ := hd
        have HV2 : Hid ((10 * (N : Int) + ((s[k].toNat : Int) - 48)) = ((valD 0 (s.data.toList.take (k + 1)) : Nat) : Int)) := hid (by rw [valD_take s k hlt, ← HV.out]; omega)
        have HP2 : Hid (valD 0 (s.data.toList.take (k + 1)) < 10 ^ (k + 1)) := hid (by
          rw [valD_take s k hlt, ← HV.out, Nat.pow_succ]
          have := HP.out
          omega)
        go_wp2_with (go_at_call 61; refine (l1In_t _ _ _ _ d0 d1).mono ?_; rintro e w' ⟨rfl, rfl⟩)
        go_roundw
        case rel => exact ⟨k + 1, _, by omega, hid rfl, HP2, by go_num, by rw [HV2.out], trivial⟩
        case measure => simp [intOf]; omega
      · have HN : Hid (∀ v, 0 ≤ v → v ≤ 1000000000000 → s ≠ itoaB v) := hid (fun v h0 _ hv => hd (digits_at h0 hv k hlt))
        have HO : Hid ((s[k].toNat : Int) < 48 ∨ 57 < (s[k].toNat : Int)) := hid (by omega)
        have h256 : (s[k].toNat : Int) < 256 := by have := s[k].toNat_lt; omega
        clear hd
        go_wp2_with (go_at_call 61; refine (l1In_f _ _ _ _ HO.out).mono ?_; rintro e w' ⟨rfl, rfl⟩)
        go_ret2
        exact ⟨0, false, rfl, Says.no HN.out, gb_refl _ _⟩
    · obtain rfl : k = s.size := by omega
      have hN : N < 10000000000000 := by
        have := HP.out
        have h2 : 10 ^ s.size ≤ 10 ^ 13 := Nat.pow_le_pow_right (by decide) h13
        have h3 : (10 : Nat) ^ 13 = 10000000000000 := by decide
        omega
      have HU : Hid (∀ v, 0 ≤ v → s = itoaB v → v = (N : Int)) := hid (fun v h0 hv => by
        have h2 := val_itoa h0 hv
        have h3 : s.data.toList.take s.size = s.data.toList := List.take_of_length_le (by simp)
        have h4 := HV.out
        rw [h3] at h4
        omega)
      clear HV HP
      by_cases hm : 1000000000000 < (N : Int)
      · go_wp2_with fail
        go_ret2
        exact ⟨0, false, rfl, Says.no (fun v h0 h1 hv => by have := HU.out v h0 hv; omega), gb_refl _ _⟩
      by_cases hsv : itoaB (N : Int) = s
      · obtain ⟨q1, q2⟩ := str_eq hsv
        have HS := hid hsv
        clear hsv
        go_wp2_with fail
        refine (specFmt _ _ (by omega) (by omega)).mono ?_
        rintro e w2 ⟨rfl, hg2⟩
        have HG2 := hid hg2
        clear hg2
        rw [show (⟨(Lib.itoa (N : Int)).toArray⟩ : ByteArray) = itoaB (N : Int) from rfl]
        go_wp2_with fail
        go_ret2
        exact ⟨N, true, rfl, Says.yes (by omega) (by omega) HS.out.symm, HG2.out⟩
      · obtain ⟨q1, q2⟩ := str_ne hsv
        have HS := hid hsv
        clear hsv
        go_wp2_with fail
        refine (specFmt _ _ (by omega) (by omega)).mono ?_
        rintro e w2 ⟨rfl, hg2⟩
        have HG2 := hid hg2
        clear hg2
        rw [show (⟨(Lib.itoa (N : Int)).toArray⟩ : ByteArray) = itoaB (N : Int) from rfl]
        go_wp2_with fail
        go_ret2
        exact ⟨0, false, rfl, Says.no (fun v h0 h1 hv => by have := HU.out v h0 hv; subst this; exact HS.out hv.symm), HG2.out⟩
end Go.Proofs.YtmbochhmeojmfaaDoor
