/- The walks of EscapeURL (program) and EscapeScript (both), and their laws. -/
import Derived.Test.YtolefcbkhmcdmaaEscHex
namespace Go.Proofs.Ytolefcbkhmcdmaa
open Go.RowKit

def Letter (c : Int) : Prop := (65 ≤ c ∧ c ≤ 90) ∨ (97 ≤ c ∧ c ≤ 122)
theorem isLetter_t (c : Int) (w : World) (h : Letter c) : Calls Try.prog 33 #[.int .u8 c] w fun e w' => e = .returned (.bool true) ∧ w = w' := by
  rcases h with ⟨h1, h2⟩ | ⟨h1, h2⟩
  · have d1 : decide (65 ≤ c) = true := by simpa using h1
    have d2 : decide (c ≤ 90) = true := by simpa using h2
    go_enter Try.func33, Try.ntmps33
    go_wp2
    go_ret
    exact ⟨rfl, rfl⟩
  · have d1 : decide (65 ≤ c) = true := by simp; omega
    have d2 : decide (c ≤ 90) = false := by simp; omega
    have d3 : decide (97 ≤ c) = true := by simpa using h1
    have d4 : decide (c ≤ 122) = true := by simpa using h2
    go_enter Try.func33, Try.ntmps33
    go_wp2
    go_ret
    exact ⟨rfl, rfl⟩
theorem isLetter_f (c : Int) (w : World) (h : ¬ Letter c) : Calls Try.prog 33 #[.int .u8 c] w fun e w' => e = .returned (.bool false) ∧ w = w' := by
  unfold Letter at h
  by_cases h1 : 65 ≤ c
  · have d1 : decide (65 ≤ c) = true := by simpa using h1
    have d2 : decide (c ≤ 90) = false := by simp; omega
    by_cases h3 : 97 ≤ c
    · have d3 : decide (97 ≤ c) = true := by simpa using h3
      have d4 : decide (c ≤ 122) = false := by simp; omega
      go_enter Try.func33, Try.ntmps33
      go_wp2
      go_ret
      exact ⟨rfl, rfl⟩
    · have d3 : decide (97 ≤ c) = false := by simpa using h3
      go_enter Try.func33, Try.ntmps33
      go_wp2
      go_ret
      exact ⟨rfl, rfl⟩
  · have d1 : decide (65 ≤ c) = false := by simpa using h1
    have d3 : decide (97 ≤ c) = false := by simp; omega
    go_enter Try.func33, Try.ntmps33
    go_wp2
    go_ret
    exact ⟨rfl, rfl⟩
theorem isDigit_t (c : Int) (w : World) (h1 : 48 ≤ c) (h2 : c ≤ 57) : Calls Try.prog 34 #[.int .u8 c] w fun e w' => e = .returned (.bool true) ∧ w = w' := by
  have d1 : decide (48 ≤ c) = true := by simpa using h1
  have d2 : decide (c ≤ 57) = true := by simpa using h2
  go_enter Try.func34, Try.ntmps34
  go_wp2
  go_ret
  exact ⟨rfl, rfl⟩
theorem isDigit_f (c : Int) (w : World) (h : c < 48 ∨ 57 < c) : Calls Try.prog 34 #[.int .u8 c] w fun e w' => e = .returned (.bool false) ∧ w = w' := by
  by_cases h1 : 48 ≤ c
  · have d1 : decide (48 ≤ c) = true := by simpa using h1
    have d2 : decide (c ≤ 57) = false := by simp; omega
    go_enter Try.func34, Try.ntmps34
    go_wp2
    go_ret
    exact ⟨rfl, rfl⟩
  · have d1 : decide (48 ≤ c) = false := by simpa using h1
    go_enter Try.func34, Try.ntmps34
    go_wp2
    go_ret
    exact ⟨rfl, rfl⟩

theorem u8_list (l : List Int) : ∀ u ∈ l.map (Value.int .u8), u.oneCell' = true := ints_one .u8 l

theorem implEscUrl_any (s : ByteArray) (w : World) (hs : s.size ≤ 1048576) :
    Calls Try.prog 13 #[.string s] w (GivesStr (escAll encU (bytesI s)) w) := by
  obtain ⟨i0, hi, hz0, hz1, hz2⟩ := info_parts Try.infoU8
  go_enter Try.func13, Try.ntmps13
  go_wp2
  go_loopw [3, 4, 5] (fun v i _ wr => ∃ k : Nat, k ≤ s.size ∧ i = .int .i64 k ∧ ∃ (A : Option Addr) (j c : Nat), v = .slice A j c ∧ j ≤ 6 * k ∧ wr.ownsRow w.heap.size 5 1 (.slice A j c) j ((escAll encU ((bytesI s).take k)).map (.int .u8)) ∧ w.grownBy wr none) (fun _ i _ _ => s.size - (intOf i).toNat)
  case atStart => exact ⟨0, Nat.zero_le _, rfl, _, 0, _, rfl, by omega, World.ownsRow_lit (base := w.heap.size) (e := 5) (size := 1) w #[] 0 (Nat.le_refl _) (by unfold maxLen; omega) rfl, gb_alloc (gb_refl _ _) _⟩
  case round =>
    obtain ⟨k, hk, rfl, A, j, c, rfl, hj, hown, hg⟩ := hrel
    have hsz := hg.size
    by_cases hlt : k < s.size
    · have h256 : (s[k].toNat : Int) < 256 := by have := s[k].toNat_lt; omega
      have h000 : 0 ≤ (s[k].toNat : Int) := by omega
      have HT : Hid (escAll encU ((bytesI s).take (k + 1)) = escAll encU ((bytesI s).take k) ++ encU (s[k].toNat : Int)) := by show _ = _; rw [bytesI_take s k hlt, escAll_snoc]
      generalize hc : (s[k].toNat : Int) = x at h256 h000 HT
      cases hpl : plainU x
      · have hp : ¬ ((97 ≤ x ∧ x ≤ 122) ∨ (65 ≤ x ∧ x ≤ 90) ∨ (48 ≤ x ∧ x ≤ 57) ∨ x = 45 ∨ x = 95 ∨ x = 46 ∨ x = 126) := by unfold plainU at hpl; exact of_decide_eq_false hpl
        have HNL : Hid (¬ Letter x) := by show ¬ Letter x; unfold Letter; omega
        have HND : Hid (x < 48 ∨ 57 < x) := by show _ ∨ _; omega
        have e1 : (x == 45) = false := by simp; omega
        have e2 : (x == 95) = false := by simp; omega
        have e3 : (x == 46) = false := by simp; omega
        have e4 : (x == 126) = false := by simp; omega
        have HU : Hid (encU x = [37, hexU (x / 16), hexU (x % 16)]) := by show _ = _; unfold encU; rw [hpl]; rfl
        clear hpl hp
        go_wp2_with (first | (go_at_call 33; refine (isLetter_f _ _ HNL.out).mono ?_; rintro e w' ⟨rfl, rfl⟩) | (go_at_call 34; refine (isDigit_f _ _ HND.out).mono ?_; rintro e w' ⟨rfl, rfl⟩) | (go_at_call 35; refine (hexUpper_any _ _ (by omega) (by omega)).mono ?_; rintro e w' ⟨rfl, rfl⟩) | (at_builtin; refine wpList_app _ rfl _ _ _ rfl w.heap.size 5 i0 (.int .u8 0) 1 Try.underlying28 hi hz0 hz1 hz2 rfl _ j _ rfl (hown.alloc _) _ 3 3 ([37, hexU (x / 16), hexU (x % 16)].map (Value.int .u8)) rfl rfl (by simp) (Rd.lit _ _ _) (u8_list _) (by unfold maxLen; simp; omega) (by simp; omega) (by simp; omega) ?_; intro A3 c3 w3 hown3 hA3 hg3 hat3))
        go_roundw
        case rel =>
          refine ⟨k + 1, by omega, by go_num, A3, _, c3, rfl, by omega, ?_, gb_new (gb_alloc hg _) hg3 (own_new hown)⟩
          rw [HT.out, HU.out, List.map_append]
          exact hown3
        case measure => simp [intOf]; omega
      · have hp : (97 ≤ x ∧ x ≤ 122) ∨ (65 ≤ x ∧ x ≤ 90) ∨ (48 ≤ x ∧ x ≤ 57) ∨ x = 45 ∨ x = 95 ∨ x = 46 ∨ x = 126 := by unfold plainU at hpl; exact of_decide_eq_true hpl
        have HU : Hid (encU x = [x]) := by show _ = _; unfold encU; rw [hpl]; rfl
        clear hpl
        have hcl : Letter x ∨ (¬ Letter x ∧ 48 ≤ x ∧ x ≤ 57) ∨ ((¬ Letter x ∧ (x < 48 ∨ 57 < x)) ∧ (x = 45 ∨ x = 95 ∨ x = 46 ∨ x = 126)) := by unfold Letter; omega
        clear hp
        rcases hcl with hL | ⟨hL, hD⟩ | ⟨⟨hL, hD⟩, hX⟩
        · have HL := hid hL
          clear hL
          go_wp2_with (first | (go_at_call 33; refine (isLetter_t _ _ HL.out).mono ?_; rintro e w' ⟨rfl, rfl⟩) | (at_builtin; refine wpList_app _ rfl _ _ _ rfl w.heap.size 5 i0 (.int .u8 0) 1 Try.underlying28 hi hz0 hz1 hz2 rfl _ j _ rfl (hown.alloc _) _ 1 1 [.int .u8 x] rfl rfl (by simp) (Rd.one _ _ _) (u8_one _) (by unfold maxLen; simp; omega) (by simp; omega) (by simp; omega) ?_; intro A3 c3 w3 hown3 hA3 hg3 hat3))
          go_roundw
          case rel =>
            refine ⟨k + 1, by omega, by go_num, A3, _, c3, rfl, by omega, ?_, gb_new (gb_alloc hg _) hg3 (own_new hown)⟩
            rw [HT.out, HU.out, List.map_append]
            exact hown3
          case measure => simp [intOf]; omega
        · have HL := hid hL
          have HD := hid hD
          clear hL hD
          go_wp2_with (first | (go_at_call 33; refine (isLetter_f _ _ HL.out).mono ?_; rintro e w' ⟨rfl, rfl⟩) | (go_at_call 34; refine (isDigit_t _ _ HD.out.1 HD.out.2).mono ?_; rintro e w' ⟨rfl, rfl⟩) | (at_builtin; refine wpList_app _ rfl _ _ _ rfl w.heap.size 5 i0 (.int .u8 0) 1 Try.underlying28 hi hz0 hz1 hz2 rfl _ j _ rfl (hown.alloc _) _ 1 1 [.int .u8 x] rfl rfl (by simp) (Rd.one _ _ _) (u8_one _) (by unfold maxLen; simp; omega) (by simp; omega) (by simp; omega) ?_; intro A3 c3 w3 hown3 hA3 hg3 hat3))
          go_roundw
          case rel =>
            refine ⟨k + 1, by omega, by go_num, A3, _, c3, rfl, by omega, ?_, gb_new (gb_alloc hg _) hg3 (own_new hown)⟩
            rw [HT.out, HU.out, List.map_append]
            exact hown3
          case measure => simp [intOf]; omega
        · have HL := hid hL
          have HD := hid hD
          clear hL hD
          rcases hX with rfl | rfl | rfl | rfl
          all_goals
            go_wp2_with (first | (go_at_call 33; refine (isLetter_f _ _ HL.out).mono ?_; rintro e w' ⟨rfl, rfl⟩) | (go_at_call 34; refine (isDigit_f _ _ HD.out).mono ?_; rintro e w' ⟨rfl, rfl⟩) | (at_builtin; refine wpList_app _ rfl _ _ _ rfl w.heap.size 5 i0 (.int .u8 0) 1 Try.underlying28 hi hz0 hz1 hz2 rfl _ j _ rfl (hown.alloc _) _ 1 1 [.int .u8 _] rfl rfl (by simp) (Rd.one _ _ _) (u8_one _) (by unfold maxLen; simp; omega) (by simp; omega) (by simp; omega) ?_; intro A3 c3 w3 hown3 hA3 hg3 hat3))
            go_roundw
            case rel =>
              refine ⟨k + 1, by omega, by go_num, A3, _, c3, rfl, by omega, ?_, gb_new (gb_alloc hg _) hg3 (own_new hown)⟩
              rw [HT.out, HU.out, List.map_append]
              exact hown3
            case measure => simp [intOf]; omega
    · have HS := hid (bytesI_all s k (by omega))
      have kc := run_conv_rd (P := Try.prog) wr 28 5 9 A j c (escAll encU ((bytesI s).take k)) Try.underlying28 Try.underlying5 Try.underlying9 (Rd.own hown) (by have := hown.1; rw [List.length_map] at this; omega)
      clear hown
      go_wp2
      go_ret
      exact ⟨ret_str (by rw [HS.out]), hg⟩

theorem l4Bare_yes (c : Int) (w : World) (h0 : 0 ≤ c) (h1 : c ≤ 255) (h : bareS c = true) :
    Calls Try.prog 36 #[.int .u8 c] w fun e w' => e = .returned (.bool true) ∧ w = w' := by
  have hp : 32 ≤ c ∧ c ≤ 126 ∧ c ≠ 92 ∧ c ≠ 39 ∧ c ≠ 34 ∧ c ≠ 60 ∧ c ≠ 62 ∧ c ≠ 38 := by unfold bareS at h; exact of_decide_eq_true h
  obtain ⟨h2, h3, n1, n2, n3, n4, n5, n6⟩ := hp
  clear h
  have e1 : (c != 92) = true := by simpa using n1
  have e2 : (c != 39) = true := by simpa using n2
  have e3 : (c != 34) = true := by simpa using n3
  have e4 : (c != 60) = true := by simpa using n4
  have e5 : (c != 62) = true := by simpa using n5
  have e6 : (c != 38) = true := by simpa using n6
  go_enter Try.func36, Try.ntmps36
  go_wp2_with (go_at_call 46; refine (l1In_t _ _ _ _ h2 h3).mono ?_; rintro e w' ⟨rfl, rfl⟩)
  go_ret
  exact ⟨rfl, rfl⟩
theorem l4Bare_no (c : Int) (w : World) (h0 : 0 ≤ c) (h1 : c ≤ 255) (h : bareS c = false) :
    Calls Try.prog 36 #[.int .u8 c] w fun e w' => e = .returned (.bool false) ∧ w = w' := by
  have hp : ¬ (32 ≤ c ∧ c ≤ 126 ∧ c ≠ 92 ∧ c ≠ 39 ∧ c ≠ 34 ∧ c ≠ 60 ∧ c ≠ 62 ∧ c ≠ 38) := by unfold bareS at h; exact of_decide_eq_false h
  clear h
  by_cases hr : c < 32 ∨ 126 < c
  · clear hp
    go_enter Try.func36, Try.ntmps36
    go_wp2_with (go_at_call 46; refine (l1In_f _ _ _ _ hr).mono ?_; rintro e w' ⟨rfl, rfl⟩)
    go_ret
    exact ⟨rfl, rfl⟩
  · have hx : c = 92 ∨ c = 39 ∨ c = 34 ∨ c = 60 ∨ c = 62 ∨ c = 38 := by omega
    clear hp hr
    rcases hx with rfl | rfl | rfl | rfl | rfl | rfl
    all_goals
      go_enter Try.func36, Try.ntmps36
      go_wp2_with (go_at_call 46; refine (l1In_t _ _ _ _ (by omega) (by omega)).mono ?_; rintro e w' ⟨rfl, rfl⟩)
      go_ret
      exact ⟨rfl, rfl⟩

def oddChars : ByteArray := { data := #[92, 39, 34, 60, 62, 38] }
theorem run_ib (s : ByteArray) (c : Int) (w : World) : (callFunc 52 #[.string s, .int .u8 c]).run Try.prog w = .ok (.value (.int .i64 (firstIdx s c.toNat.toUInt8))) w := by
  have h := run_callFunc_extern (P := Try.prog) Try.func52 (by kernel_rfl) (by kernel_rfl) (by kernel_rfl) (e := Extern.BytealgIndexByte.indexByte) (by kernel_rfl) #[.string s, .int .u8 c] w
  rw [h, run_indexByte_string]
  rfl
theorem odd_yes (c : Int) (h : c = 92 ∨ c = 39 ∨ c = 34 ∨ c = 60 ∨ c = 62 ∨ c = 38) : 0 ≤ firstIdx oddChars c.toNat.toUInt8 := by
  rcases h with rfl | rfl | rfl | rfl | rfl | rfl <;> decide
theorem odd_no (c : Int) (h0 : 0 ≤ c) (h1 : c ≤ 255) (h : ¬ (c = 92 ∨ c = 39 ∨ c = 34 ∨ c = 60 ∨ c = 62 ∨ c = 38)) : firstIdx oddChars c.toNat.toUInt8 = -1 := by
  obtain ⟨n, rfl⟩ := Int.eq_ofNat_of_zero_le h0
  have hn : n ≤ 255 := by omega
  have hne : ∀ m : Nat, m ≤ 255 → n ≠ m → ((m.toUInt8 == n.toUInt8) = false) := fun m hm hnm => by
    rw [beq_eq_false_iff_ne]
    intro e
    have := congrArg UInt8.toNat e
    simp only [Nat.toUInt8_eq, UInt8.toNat_ofNat'] at this
    omega
  have g : (List.range oddChars.size).find? (fun i => oddChars[i]! == n.toUInt8) = none := by
    rw [List.find?_eq_none]
    intro i hi
    have hi6 : i < 6 := by simpa [oddChars, ByteArray.size] using hi
    have : i = 0 ∨ i = 1 ∨ i = 2 ∨ i = 3 ∨ i = 4 ∨ i = 5 := by omega
    rcases this with rfl | rfl | rfl | rfl | rfl | rfl
    · show ¬ ((92 : Nat).toUInt8 == n.toUInt8) = true; rw [hne 92 (by omega) (by omega)]; simp
    · show ¬ ((39 : Nat).toUInt8 == n.toUInt8) = true; rw [hne 39 (by omega) (by omega)]; simp
    · show ¬ ((34 : Nat).toUInt8 == n.toUInt8) = true; rw [hne 34 (by omega) (by omega)]; simp
    · show ¬ ((60 : Nat).toUInt8 == n.toUInt8) = true; rw [hne 60 (by omega) (by omega)]; simp
    · show ¬ ((62 : Nat).toUInt8 == n.toUInt8) = true; rw [hne 62 (by omega) (by omega)]; simp
    · show ¬ ((38 : Nat).toUInt8 == n.toUInt8) = true; rw [hne 38 (by omega) (by omega)]; simp
  unfold firstIdx
  rw [Int.toNat_natCast, g]
theorem indexByte_any (c : Int) (w : World) (r : Int) (hr : firstIdx oddChars c.toNat.toUInt8 = r) :
    Calls Try.prog 37 #[.string { data := #[92, 39, 34, 60, 62, 38] }, .int .u8 c] w fun e w' => e = .returned (.int .i64 r) ∧ w = w' := by
  have hib := run_ib oddChars c
  rw [hr] at hib
  unfold oddChars at hib
  clear hr
  go_enter Try.func37, Try.ntmps37
  go_wp2
  go_ret
  exact ⟨rfl, rfl⟩

theorem specEscScript_any (s : ByteArray) (w : World) (hs : s.size ≤ 1048576) :
    Calls Try.prog 14 #[.string s] w (GivesStr (escAll encS (bytesI s)) w) := by
  go_enter Try.func14, Try.ntmps14
  go_wp2
  go_loopw [3, 4] (fun t i wr => ∃ k : Nat, k ≤ s.size ∧ i = .int .i64 k ∧ t = .string (strOf (escAll encS ((bytesI s).take k))) ∧ w.grownBy wr none) (fun _ i _ => s.size - (intOf i).toNat)
  case atStart => exact ⟨0, Nat.zero_le _, rfl, rfl, gb_refl _ _⟩
  case round =>
    obtain ⟨k, hk, rfl, rfl, hg⟩ := hrel
    by_cases hlt : k < s.size
    · have h256 : (s[k].toNat : Int) < 256 := by have := s[k].toNat_lt; omega
      have HT : Hid (escAll encS ((bytesI s).take (k + 1)) = escAll encS ((bytesI s).take k) ++ encS (s[k].toNat : Int)) := by show _ = _; rw [bytesI_take s k hlt, escAll_snoc]
      have hz1 : (strOf (escAll encS ((bytesI s).take k))).size ≤ 6291456 := by
        rw [strOf_size]; have := escAll_length encS encS_length ((bytesI s).take k); rw [List.length_take, bytesI_length] at this; omega
      cases hpl : bareS (s[k].toNat : Int)
      · have HPL := hid hpl
        have HU : Hid (encS (s[k].toNat : Int) = [92, 120] ++ [hexU ((s[k].toNat : Int) / 16), hexU ((s[k].toNat : Int) % 16)]) := by show _ = _; unfold encS; rw [hpl]; rfl
        have hz2 : (strOf [hexU ((s[k].toNat : Int) / 16), hexU ((s[k].toNat : Int) % 16)]).size = 2 := by rw [strOf_size]; rfl
        have hz3 : (strOf (escAll encS ((bytesI s).take k)) ++ ({ data := #[92, 120] } : ByteArray)).size ≤ 6291458 := by rw [ByteArray.size_append]; exact Nat.add_le_add_right hz1 2
        clear hpl
        go_wp2_with fail
        refine (l4Bare_no _ _ (by omega) (by omega) HPL.out).mono ?_
        rintro e w' ⟨rfl, rfl⟩
        go_wp2_with fail
        refine (l4Hex_any _ _ (by omega) (by omega)).mono ?_
        rintro e w1 ⟨rfl, hg1⟩
        go_wp2
        go_roundw
        case rel => exact ⟨k + 1, by omega, by go_num, by rw [HT.out, HU.out, ← strOf_app, ← strOf_app, ← ByteArray.append_assoc]; rfl, gb_trans hg hg1⟩
        case measure => simp [intOf]; omega
      · have HPL := hid hpl
        have HU : Hid (encS (s[k].toNat : Int) = [(s[k].toNat : Int)]) := by show _ = _; unfold encS; rw [hpl]; rfl
        have hsl := fun W => run_slice_one (P := Try.prog) 9 Try.underlying9 s k hlt W
        have hzx : (strOf [(s[k].toNat : Int)]).size = 1 := by rw [strOf_size]; rfl
        clear hpl
        go_wp2_with fail
        refine (l4Bare_yes _ _ (by omega) (by omega) HPL.out).mono ?_
        rintro e w' ⟨rfl, rfl⟩
        go_wp2
        go_roundw
        case rel => exact ⟨k + 1, by omega, by go_num, by rw [HT.out, HU.out, ← strOf_app], hg⟩
        case measure => simp [intOf]; omega
    · have HS := hid (bytesI_all s k (by omega))
      go_wp2
      go_ret
      exact ⟨ret_str (by rw [HS.out]), hg⟩

theorem implEscScript_any (s : ByteArray) (w : World) (hs : s.size ≤ 1048576) :
    Calls Try.prog 15 #[.string s] w (GivesStr (escAll encS (bytesI s)) w) := by
  obtain ⟨i0, hi, hz0, hz1, hz2⟩ := info_parts Try.infoU8
  go_enter Try.func15, Try.ntmps15
  go_wp2
  go_loopw [3, 4, 5] (fun v i _ wr => ∃ k : Nat, k ≤ s.size ∧ i = .int .i64 k ∧ ∃ (A : Option Addr) (j c : Nat), v = .slice A j c ∧ j ≤ 6 * k ∧ wr.ownsRow w.heap.size 5 1 (.slice A j c) j ((escAll encS ((bytesI s).take k)).map (.int .u8)) ∧ w.grownBy wr none) (fun _ i _ _ => s.size - (intOf i).toNat)
  case atStart => exact ⟨0, Nat.zero_le _, rfl, _, 0, _, rfl, by omega, World.ownsRow_lit (base := w.heap.size) (e := 5) (size := 1) w #[] 0 (Nat.le_refl _) (by unfold maxLen; omega) rfl, gb_alloc (gb_refl _ _) _⟩
  case round =>
    obtain ⟨k, hk, rfl, A, j, c, rfl, hj, hown, hg⟩ := hrel
    have hsz := hg.size
    by_cases hlt : k < s.size
    · have h256 : (s[k].toNat : Int) < 256 := by have := s[k].toNat_lt; omega
      have h000 : 0 ≤ (s[k].toNat : Int) := by omega
      have HT : Hid (escAll encS ((bytesI s).take (k + 1)) = escAll encS ((bytesI s).take k) ++ encS (s[k].toNat : Int)) := by show _ = _; rw [bytesI_take s k hlt, escAll_snoc]
      generalize hc : (s[k].toNat : Int) = x at h256 h000 HT
      cases hpl : bareS x
      · have hp : ¬ (32 ≤ x ∧ x ≤ 126 ∧ x ≠ 92 ∧ x ≠ 39 ∧ x ≠ 34 ∧ x ≠ 60 ∧ x ≠ 62 ∧ x ≠ 38) := by unfold bareS at hpl; exact of_decide_eq_false hpl
        have HU : Hid (encS x = [92, 120, hexU (x / 16), hexU (x % 16)]) := by show _ = _; unfold encS; rw [hpl]; rfl
        clear hpl
        by_cases h32 : x < 32
        · have d1 : decide (x < 32) = true := by simpa using h32
          clear hp
          go_wp2_with (first | (go_at_call 35; refine (hexUpper_any _ _ (by omega) (by omega)).mono ?_; rintro e w' ⟨rfl, rfl⟩) | (at_builtin; refine wpList_app _ rfl _ _ _ rfl w.heap.size 5 i0 (.int .u8 0) 1 Try.underlying28 hi hz0 hz1 hz2 rfl _ j _ rfl (hown.alloc _) _ 4 4 ([92, 120, hexU (x / 16), hexU (x % 16)].map (Value.int .u8)) rfl rfl (by simp) (Rd.lit _ _ _) (u8_list _) (by unfold maxLen; simp; omega) (by simp; omega) (by simp; omega) ?_; intro A3 c3 w3 hown3 hA3 hg3 hat3))
          go_roundw
          case rel =>
            refine ⟨k + 1, by omega, by go_num, A3, _, c3, rfl, by omega, ?_, gb_new (gb_alloc hg _) hg3 (own_new hown)⟩
            rw [HT.out, HU.out, List.map_append]
            exact hown3
          case measure => simp [intOf]; omega
        · have d1 : decide (x < 32) = false := by simpa using h32
          by_cases h126 : 126 < x
          · have d2 : decide (126 < x) = true := by simpa using h126
            clear hp
            go_wp2_with (first | (go_at_call 35; refine (hexUpper_any _ _ (by omega) (by omega)).mono ?_; rintro e w' ⟨rfl, rfl⟩) | (at_builtin; refine wpList_app _ rfl _ _ _ rfl w.heap.size 5 i0 (.int .u8 0) 1 Try.underlying28 hi hz0 hz1 hz2 rfl _ j _ rfl (hown.alloc _) _ 4 4 ([92, 120, hexU (x / 16), hexU (x % 16)].map (Value.int .u8)) rfl rfl (by simp) (Rd.lit _ _ _) (u8_list _) (by unfold maxLen; simp; omega) (by simp; omega) (by simp; omega) ?_; intro A3 c3 w3 hown3 hA3 hg3 hat3))
            go_roundw
            case rel =>
              refine ⟨k + 1, by omega, by go_num, A3, _, c3, rfl, by omega, ?_, gb_new (gb_alloc hg _) hg3 (own_new hown)⟩
              rw [HT.out, HU.out, List.map_append]
              exact hown3
            case measure => simp [intOf]; omega
          · have d2 : decide (126 < x) = false := by simpa using h126
            have ho := odd_yes x (by omega)
            obtain ⟨r, hr⟩ : ∃ r, firstIdx oddChars x.toNat.toUInt8 = r := ⟨_, rfl⟩
            rw [hr] at ho
            have HRR := hid hr
            clear hp hr
            go_wp2_with (first | (go_at_call 37; refine (indexByte_any _ _ _ HRR.out).mono ?_; rintro e w' ⟨rfl, rfl⟩) | (go_at_call 35; refine (hexUpper_any _ _ (by omega) (by omega)).mono ?_; rintro e w' ⟨rfl, rfl⟩) | (at_builtin; refine wpList_app _ rfl _ _ _ rfl w.heap.size 5 i0 (.int .u8 0) 1 Try.underlying28 hi hz0 hz1 hz2 rfl _ j _ rfl (hown.alloc _) _ 4 4 ([92, 120, hexU (x / 16), hexU (x % 16)].map (Value.int .u8)) rfl rfl (by simp) (Rd.lit _ _ _) (u8_list _) (by unfold maxLen; simp; omega) (by simp; omega) (by simp; omega) ?_; intro A3 c3 w3 hown3 hA3 hg3 hat3))
            go_roundw
            case rel =>
              refine ⟨k + 1, by omega, by go_num, A3, _, c3, rfl, by omega, ?_, gb_new (gb_alloc hg _) hg3 (own_new hown)⟩
              rw [HT.out, HU.out, List.map_append]
              exact hown3
            case measure => simp [intOf]; omega
      · have hp : 32 ≤ x ∧ x ≤ 126 ∧ x ≠ 92 ∧ x ≠ 39 ∧ x ≠ 34 ∧ x ≠ 60 ∧ x ≠ 62 ∧ x ≠ 38 := by unfold bareS at hpl; exact of_decide_eq_true hpl
        have HU : Hid (encS x = [x]) := by show _ = _; unfold encS; rw [hpl]; rfl
        have d1 : decide (x < 32) = false := by simp; omega
        have d2 : decide (126 < x) = false := by simp; omega
        have HRR := hid (odd_no x (by omega) (by omega) (by omega))
        clear hpl hp
        go_wp2_with (first | (go_at_call 37; refine (indexByte_any _ _ _ HRR.out).mono ?_; rintro e w' ⟨rfl, rfl⟩) | (at_builtin; refine wpList_app _ rfl _ _ _ rfl w.heap.size 5 i0 (.int .u8 0) 1 Try.underlying28 hi hz0 hz1 hz2 rfl _ j _ rfl (hown.alloc _) _ 1 1 [.int .u8 x] rfl rfl (by simp) (Rd.one _ _ _) (u8_one _) (by unfold maxLen; simp; omega) (by simp; omega) (by simp; omega) ?_; intro A3 c3 w3 hown3 hA3 hg3 hat3))
        go_roundw
        case rel =>
          refine ⟨k + 1, by omega, by go_num, A3, _, c3, rfl, by omega, ?_, gb_new (gb_alloc hg _) hg3 (own_new hown)⟩
          rw [HT.out, HU.out, List.map_append]
          exact hown3
        case measure => simp [intOf]; omega
    · have HS := hid (bytesI_all s k (by omega))
      have kc := run_conv_rd (P := Try.prog) wr 28 5 9 A j c (escAll encS ((bytesI s).take k)) Try.underlying28 Try.underlying5 Try.underlying9 (Rd.own hown) (by have := hown.1; rw [List.length_map] at this; omega)
      clear hown
      go_wp2
      go_ret
      exact ⟨ret_str (by rw [HS.out]), hg⟩

theorem escapeURL_walk (a0 : ByteArray) (w : World) (_w0 : a0.size ≤ maxLen) : Calls Try.prog 3 #[.string a0] w fun e w' => e = .returned (.bool true) ∧ Below w.heap.size w w' := by
  unfold maxLen at _w0
  by_cases h : a0.size ≤ 1048576
  · go_enter Try.func3, Try.ntmps3
    go_wp2_with fail
    refine (specEscUrl_any _ _ h).mono ?_
    rintro e w1 ⟨rfl, hg1⟩
    go_wp2_with fail
    refine (implEscUrl_any _ _ h).mono ?_
    rintro e w2 ⟨rfl, hg2⟩
    go_wp2
    go_ret
    exact ⟨rfl, gb_below (gb_trans hg1 hg2)⟩
  · go_enter Try.func3, Try.ntmps3
    go_wp2
    go_ret
    exact ⟨rfl, Below.refl _ _⟩

theorem escapeScript_walk (a0 : ByteArray) (w : World) (_w0 : a0.size ≤ maxLen) : Calls Try.prog 4 #[.string a0] w fun e w' => e = .returned (.bool true) ∧ Below w.heap.size w w' := by
  unfold maxLen at _w0
  by_cases h : a0.size ≤ 1048576
  · go_enter Try.func4, Try.ntmps4
    go_wp2_with fail
    refine (specEscScript_any _ _ h).mono ?_
    rintro e w1 ⟨rfl, hg1⟩
    go_wp2_with fail
    refine (implEscScript_any _ _ h).mono ?_
    rintro e w2 ⟨rfl, hg2⟩
    go_wp2
    go_ret
    exact ⟨rfl, gb_below (gb_trans hg1 hg2)⟩
  · go_enter Try.func4, Try.ntmps4
    go_wp2
    go_ret
    exact ⟨rfl, Below.refl _ _⟩
end Go.Proofs.Ytolefcbkhmcdmaa
