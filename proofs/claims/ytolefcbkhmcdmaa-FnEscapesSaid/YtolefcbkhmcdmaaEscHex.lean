/- The walks of the digits and the classes of bytes: l4Hex, hexUpper, l4Plain, isLetter, isDigit, l4Bare. -/
import Derived.Test.YtolefcbkhmcdmaaEscHtml
import Derived.Test.YtolefcbkhmcdmaaL1In
namespace Go.Proofs.Ytolefcbkhmcdmaa
open Go.RowKit

theorem two_eq {a b c d : Int} (h1 : a = c) (h2 : b = d) : strOf [a, b] = strOf [c, d] := by rw [h1, h2]
theorem l4Hex_any (n : Int) (w : World) (h0 : 0 ≤ n) (h1 : n ≤ 255) :
    Calls Try.prog 32 #[.int .i64 n] w (GivesStr [hexU (n / 16), hexU (n % 16)] w) := by
  have ka := i64_and15
  have b1 : 0 ≤ n / 16 % 16 := by omega
  have b2 : n / 16 % 16 < 16 := by omega
  have b3 : 0 ≤ n % 16 := by omega
  have b4 : n % 16 < 16 := by omega
  have kc := fun (c d : Int) => run_conv_two (P := Try.prog) w 28 5 9 c d Try.underlying28 Try.underlying5 Try.underlying9
  have H1 := hid (hexU_at (n / 16 % 16) b1 b2)
  have H2 := hid (hexU_at (n % 16) b3 b4)
  have H3 : Hid (n / 16 % 16 = n / 16) := by show _ = _; omega
  go_enter Try.func32, Try.ntmps32
  go_wp2
  go_region
  all_goals
    go_wp2
    go_ret
    exact ⟨ret_str (two_eq ((H1.out (by show (n / 16 % 16).toNat < 16; omega)).trans (congrArg hexU H3.out)) (H2.out (by show (n % 16).toNat < 16; omega))), gb_drew (gb_alloc (gb_refl _ _) _)⟩
theorem hexUpper_any (d : Int) (w : World) (h0 : 0 ≤ d) (h1 : d < 16) :
    Calls Try.prog 35 #[.int .u8 d] w fun e w' => e = .returned (.int .u8 (hexU d)) ∧ w = w' := by
  have H2 := hid (hexU_at d h0 h1)
  go_enter Try.func35, Try.ntmps35
  go_wp2
  go_ret
  exact ⟨ret_int (H2.out (by show d.toNat < 16; omega)), rfl⟩

theorem l4Plain_yes (c : Int) (w : World) (h0 : 0 ≤ c) (h1 : c ≤ 255) (h : plainU c = true) :
    Calls Try.prog 31 #[.int .u8 c] w fun e w' => e = .returned (.bool true) ∧ w = w' := by
  have hp : (97 ≤ c ∧ c ≤ 122) ∨ (65 ≤ c ∧ c ≤ 90) ∨ (48 ≤ c ∧ c ≤ 57) ∨ c = 45 ∨ c = 95 ∨ c = 46 ∨ c = 126 := by unfold plainU at h; exact of_decide_eq_true h
  clear h
  rcases hp with ⟨h2, h3⟩ | ⟨h2, h3⟩ | ⟨h2, h3⟩ | rfl | rfl | rfl | rfl
  · go_enter Try.func31, Try.ntmps31
    go_wp2_with (go_at_call 46; refine (l1In_t _ _ _ _ h2 h3).mono ?_; rintro e w' ⟨rfl, rfl⟩)
    go_ret
    exact ⟨rfl, rfl⟩
  · go_enter Try.func31, Try.ntmps31
    go_wp2_with fail
    refine (l1In_f _ _ _ _ (by omega)).mono ?_
    rintro e w' ⟨rfl, rfl⟩
    go_wp2_with fail
    refine (l1In_t _ _ _ _ h2 h3).mono ?_
    rintro e w' ⟨rfl, rfl⟩
    go_wp2
    go_ret
    exact ⟨rfl, rfl⟩
  · go_enter Try.func31, Try.ntmps31
    go_wp2_with fail
    refine (l1In_f _ _ _ _ (by omega)).mono ?_
    rintro e w' ⟨rfl, rfl⟩
    go_wp2_with fail
    refine (l1In_f _ _ _ _ (by omega)).mono ?_
    rintro e w' ⟨rfl, rfl⟩
    go_wp2_with fail
    refine (l1In_t _ _ _ _ h2 h3).mono ?_
    rintro e w' ⟨rfl, rfl⟩
    go_wp2
    go_ret
    exact ⟨rfl, rfl⟩
  all_goals
    go_enter Try.func31, Try.ntmps31
    go_wp2_with fail
    refine (l1In_f _ _ _ _ (by omega)).mono ?_
    rintro e w' ⟨rfl, rfl⟩
    go_wp2_with fail
    refine (l1In_f _ _ _ _ (by omega)).mono ?_
    rintro e w' ⟨rfl, rfl⟩
    go_wp2_with fail
    refine (l1In_f _ _ _ _ (by omega)).mono ?_
    rintro e w' ⟨rfl, rfl⟩
    go_wp2
    go_ret
    exact ⟨rfl, rfl⟩
theorem l4Plain_no (c : Int) (w : World) (h0 : 0 ≤ c) (h1 : c ≤ 255) (h : plainU c = false) :
    Calls Try.prog 31 #[.int .u8 c] w fun e w' => e = .returned (.bool false) ∧ w = w' := by
  have hp : ¬ ((97 ≤ c ∧ c ≤ 122) ∨ (65 ≤ c ∧ c ≤ 90) ∨ (48 ≤ c ∧ c ≤ 57) ∨ c = 45 ∨ c = 95 ∨ c = 46 ∨ c = 126) := by unfold plainU at h; exact of_decide_eq_false h
  have e1 : (c == 45) = false := by simp; omega
  have e2 : (c == 95) = false := by simp; omega
  have e3 : (c == 46) = false := by simp; omega
  have e4 : (c == 126) = false := by simp; omega
  have HP := hid hp
  clear h hp
  go_enter Try.func31, Try.ntmps31
  go_wp2_with fail
  refine (l1In_f _ _ _ _ (by have := HP.out; omega)).mono ?_
  rintro e w' ⟨rfl, rfl⟩
  go_wp2_with fail
  refine (l1In_f _ _ _ _ (by have := HP.out; omega)).mono ?_
  rintro e w' ⟨rfl, rfl⟩
  go_wp2_with fail
  refine (l1In_f _ _ _ _ (by have := HP.out; omega)).mono ?_
  rintro e w' ⟨rfl, rfl⟩
  go_wp2
  go_ret
  exact ⟨rfl, rfl⟩

theorem specEscUrl_any (s : ByteArray) (w : World) (hs : s.size ≤ 1048576) :
    Calls Try.prog 12 #[.string s] w (GivesStr (escAll encU (bytesI s)) w) := by
  go_enter Try.func12, Try.ntmps12
  go_wp2
  go_loopw [3, 4] (fun t i wr => ∃ k : Nat, k ≤ s.size ∧ i = .int .i64 k ∧ t = .string (strOf (escAll encU ((bytesI s).take k))) ∧ w.grownBy wr none) (fun _ i _ => s.size - (intOf i).toNat)
  case atStart => exact ⟨0, Nat.zero_le _, rfl, rfl, gb_refl _ _⟩
  case round =>
    obtain ⟨k, hk, rfl, rfl, hg⟩ := hrel
    by_cases hlt : k < s.size
    · have h256 : (s[k].toNat : Int) < 256 := by have := s[k].toNat_lt; omega
      have HT : Hid (escAll encU ((bytesI s).take (k + 1)) = escAll encU ((bytesI s).take k) ++ encU (s[k].toNat : Int)) := by show _ = _; rw [bytesI_take s k hlt, escAll_snoc]
      have hz1 : (strOf (escAll encU ((bytesI s).take k))).size ≤ 6291456 := by
        rw [strOf_size]; have := escAll_length encU encU_length ((bytesI s).take k); rw [List.length_take, bytesI_length] at this; omega
      cases hpl : plainU (s[k].toNat : Int)
      · have HPL := hid hpl
        have HU : Hid (encU (s[k].toNat : Int) = [37] ++ [hexU ((s[k].toNat : Int) / 16), hexU ((s[k].toNat : Int) % 16)]) := by show _ = _; unfold encU; rw [hpl]; rfl
        have hz2 : (strOf [hexU ((s[k].toNat : Int) / 16), hexU ((s[k].toNat : Int) % 16)]).size = 2 := by rw [strOf_size]; rfl
        have hz3 : (strOf (escAll encU ((bytesI s).take k)) ++ ({ data := #[37] } : ByteArray)).size ≤ 6291457 := by rw [ByteArray.size_append]; exact Nat.add_le_add_right hz1 1
        clear hpl
        go_wp2_with fail
        refine (l4Plain_no _ _ (by omega) (by omega) HPL.out).mono ?_
        rintro e w' ⟨rfl, rfl⟩
        go_wp2_with fail
        refine (l4Hex_any _ _ (by omega) (by omega)).mono ?_
        rintro e w1 ⟨rfl, hg1⟩
        go_wp2
        go_roundw
        case rel => exact ⟨k + 1, by omega, by go_num, by rw [HT.out, HU.out, ← strOf_app, ← strOf_app, ← ByteArray.append_assoc]; rfl, gb_trans hg hg1⟩
        case measure => simp [intOf]; omega
      · have HPL := hid hpl
        have HU : Hid (encU (s[k].toNat : Int) = [(s[k].toNat : Int)]) := by show _ = _; unfold encU; rw [hpl]; rfl
        have hsl := fun W => run_slice_one (P := Try.prog) 9 Try.underlying9 s k hlt W
        have hzx : (strOf [(s[k].toNat : Int)]).size = 1 := by rw [strOf_size]; rfl
        clear hpl
        go_wp2_with fail
        refine (l4Plain_yes _ _ (by omega) (by omega) HPL.out).mono ?_
        rintro e w' ⟨rfl, rfl⟩
        go_wp2
        go_roundw
        case rel => exact ⟨k + 1, by omega, by go_num, by rw [HT.out, HU.out, ← strOf_app], hg⟩
        case measure => simp [intOf]; omega
    · have HS := hid (bytesI_all s k (by omega))
      go_wp2
      go_ret
      exact ⟨ret_str (by rw [HS.out]), hg⟩
end Go.Proofs.Ytolefcbkhmcdmaa
