/- The walks of UnescapeURL and UnescapeScript, and their laws. -/
import Derived.Test.YtolefcbkhmcdmaaUnTwo
namespace Go.Proofs.Ytolefcbkhmcdmaa
open Go.RowKit
set_option linter.unusedVariables false

def optStr : Option (List Int) → ByteArray | some l => strOf l | none => { data := #[] }
def OptPost (R : Option (List Int)) (w : World) (e : Ending) (w' : World) : Prop := e = .returned (.tuple #[.string (optStr R), .bool R.isSome]) ∧ w.grownBy w' none

set_option maxHeartbeats 1000000 in
theorem specUnURL_any (s : ByteArray) (w : World) (hs : s.size ≤ 1048576) :
    Calls Try.prog 20 #[.string s] w (OptPost (unUrl (bytesI s)) w) := by
  obtain ⟨i0, hi, hz0, hz1, hz2⟩ := info_parts Try.infoU8
  obtain ⟨R, hR⟩ : ∃ R, unUrl (bytesI s) = R := ⟨_, rfl⟩
  rw [hR]
  go_enter Try.func20, Try.ntmps20
  go_wp2
  go_loopw [4, 5, 6] (fun v i _ wr => ∃ (k : Nat) (acc : List Int) (f : Nat), k ≤ s.size ∧ i = .int .i64 k ∧ Hid (unU (bytesI s) f k acc = R) ∧ ∃ (A : Option Addr) (j c : Nat), v = .slice A j c ∧ s.size < k + f ∧ j ≤ k ∧ wr.ownsRow w.heap.size 5 1 (.slice A j c) j (acc.map (.int .u8)) ∧ w.grownBy wr none) (fun _ i _ _ => s.size - (intOf i).toNat)
  case atStart => exact ⟨0, [], s.size + 1, Nat.zero_le _, rfl, (by show _ = _; rw [← hR]; unfold unUrl; rw [bytesI_length]), _, 0, _, rfl, by omega, by omega, World.ownsRow_lit (base := w.heap.size) (e := 5) (size := 1) w #[] 0 (Nat.le_refl _) (by unfold maxLen; omega) rfl, gb_alloc (gb_refl _ _) _⟩
  case round =>
    obtain ⟨k, acc, f, hk, rfl, HU, A, j, c, rfl, hf, hjk, hown, hg⟩ := hrel
    have hsz := hg.size
    by_cases hlt : k < s.size
    · have h256 : (s[k].toNat : Int) < 256 := by have := s[k].toNat_lt; omega
      have h000 : 0 ≤ (s[k].toNat : Int) := by omega
      have g1 := bytesI_getD s k hlt
      have HL : Hid (k < (bytesI s).length) := by show _ < _; rw [bytesI_length]; exact hlt
      obtain ⟨f, rfl⟩ : ∃ f', f = f' + 1 := ⟨f - 1, by omega⟩
      generalize hc : (s[k].toNat : Int) = x at h256 h000 g1
      by_cases h43 : x = 43
      · subst h43
        have HN : Hid (unU (bytesI s) f (k + 1) (acc ++ [32]) = R) := by show _ = _; rw [← HU.out, unU_plus _ _ _ _ HL.out g1]
        clear g1
        go_wp2_with (at_builtin; refine wpList_app _ rfl _ _ _ rfl w.heap.size 5 i0 (.int .u8 0) 1 Try.underlying28 hi hz0 hz1 hz2 rfl _ j _ rfl (hown.alloc _) _ 1 1 [.int .u8 32] rfl rfl (by simp) (Rd.one _ _ _) (u8_one _) (by unfold maxLen; simp; omega) (by simp; omega) (by simp; omega) ?_; intro A3 c3 w3 hown3 hA3 hg3 hat3)
        go_roundw
        case rel =>
          refine ⟨k + 1, acc ++ [32], f, by omega, by go_num, HN.out, A3, j + 1, c3, rfl, by omega, by omega, ?_, gb_new (gb_alloc hg _) hg3 (own_new hown)⟩
          rw [List.map_append]
          exact hown3
        case measure => simp [intOf]; omega
      · by_cases h37 : x = 37
        · subst h37
          cases ht : two (bytesI s) (k + 1) true with
          | none =>
            have HN : Hid (R = none) := by show _ = _; rw [← HU.out, unU_bad _ _ _ _ HL.out g1 ht]
            have HT := hid ht
            clear g1 ht
            go_wp2_with fail
            have HTI := twoI_none HT.out
            refine (l4Two_any s (k + 1) true _ hs (by omega)).mono ?_; rw [HTI]; rintro e w' ⟨rfl, rfl⟩; clear HTI
            go_wp2
            go_ret2
            exact ⟨by rw [HN.out]; rfl, hg⟩
          | some n =>
            have HN : Hid (unU (bytesI s) f (k + 3) (acc ++ [n]) = R) := by show _ = _; rw [← HU.out, unU_hex _ _ _ _ n HL.out g1 ht]
            have hb := two_bd ht
            rw [bytesI_length] at hb
            obtain ⟨hn0, hn1, hn2⟩ := hb
            have HT := hid ht
            clear g1 ht
            go_wp2_with fail
            have HTI := twoI_some HT.out
            refine (l4Two_any s (k + 1) true _ hs (by omega)).mono ?_; rw [HTI]; rintro e w' ⟨rfl, rfl⟩; clear HTI
            go_wp2_with (at_builtin; refine wpList_app _ rfl _ _ _ rfl w.heap.size 5 i0 (.int .u8 0) 1 Try.underlying28 hi hz0 hz1 hz2 rfl _ j _ rfl (hown.alloc _) _ 1 1 [.int .u8 n] rfl rfl (by simp) (Rd.one _ _ _) (u8_one _) (by unfold maxLen; simp; omega) (by simp; omega) (by simp; omega) ?_; intro A3 c3 w3 hown3 hA3 hg3 hat3)
            go_roundw
            case rel =>
              refine ⟨k + 3, acc ++ [n], f, by omega, by go_num, HN.out, A3, j + 1, c3, rfl, by omega, by omega, ?_, gb_new (gb_alloc hg _) hg3 (own_new hown)⟩
              rw [List.map_append]
              exact hown3
            case measure => simp [intOf]; omega
        · have e1 : (x == 43) = false := by simpa using h43
          have e2 : (x == 37) = false := by simpa using h37
          have HN : Hid (unU (bytesI s) f (k + 1) (acc ++ [x]) = R) := by show _ = _; rw [← HU.out, unU_other _ _ _ _ HL.out (by rw [g1]; exact h43) (by rw [g1]; exact h37), g1]
          clear g1 h43 h37
          go_wp2_with (at_builtin; refine wpList_app _ rfl _ _ _ rfl w.heap.size 5 i0 (.int .u8 0) 1 Try.underlying28 hi hz0 hz1 hz2 rfl _ j _ rfl (hown.alloc _) _ 1 1 [.int .u8 x] rfl rfl (by simp) (Rd.one _ _ _) (u8_one _) (by unfold maxLen; simp; omega) (by simp; omega) (by simp; omega) ?_; intro A3 c3 w3 hown3 hA3 hg3 hat3)
          go_roundw
          case rel =>
            refine ⟨k + 1, acc ++ [x], f, by omega, by go_num, HN.out, A3, j + 1, c3, rfl, by omega, by omega, ?_, gb_new (gb_alloc hg _) hg3 (own_new hown)⟩
            rw [List.map_append]
            exact hown3
          case measure => simp [intOf]; omega
    · have HE : Hid (R = some acc) := by show _ = _; rw [← HU.out, unU_end _ _ _ _ (by rw [bytesI_length]; omega)]
      have kc := run_conv_rd (P := Try.prog) wr 28 5 9 A j c acc Try.underlying28 Try.underlying5 Try.underlying9 (Rd.own hown) (by have := hown.1; rw [List.length_map] at this; omega)
      clear hown
      go_wp2
      go_ret2
      exact ⟨by rw [HE.out]; rfl, hg⟩

set_option maxHeartbeats 1000000 in
theorem implUnURL_any (s : ByteArray) (w : World) (hs : s.size ≤ 1048576) :
    Calls Try.prog 21 #[.string s] w (OptPost (unUrl (bytesI s)) w) := by
  obtain ⟨i0, hi, hz0, hz1, hz2⟩ := info_parts Try.infoU8
  obtain ⟨R, hR⟩ : ∃ R, unUrl (bytesI s) = R := ⟨_, rfl⟩
  rw [hR]
  go_enter Try.func21, Try.ntmps21
  go_wp2
  go_loopw [4, 5, 6, 7] (fun v i _ _ wr => ∃ (k : Nat) (acc : List Int) (f : Nat), k ≤ s.size ∧ i = .int .i64 k ∧ Hid (unU (bytesI s) f k acc = R) ∧ ∃ (A : Option Addr) (j c : Nat), v = .slice A j c ∧ s.size < k + f ∧ j ≤ k ∧ wr.ownsRow w.heap.size 5 1 (.slice A j c) j (acc.map (.int .u8)) ∧ w.grownBy wr none) (fun _ i _ _ _ => s.size - (intOf i).toNat)
  case atStart => exact ⟨0, [], s.size + 1, Nat.zero_le _, rfl, (by show _ = _; rw [← hR]; unfold unUrl; rw [bytesI_length]), _, 0, _, rfl, by omega, by omega, World.ownsRow_lit (base := w.heap.size) (e := 5) (size := 1) w #[] 0 (Nat.le_refl _) (by unfold maxLen; omega) rfl, gb_alloc (gb_refl _ _) _⟩
  case round =>
    obtain ⟨k, acc, f, hk, rfl, HU, A, j, c, rfl, hf, hjk, hown, hg⟩ := hrel
    have hsz := hg.size
    by_cases hlt : k < s.size
    · have h256 : (s[k].toNat : Int) < 256 := by have := s[k].toNat_lt; omega
      have h000 : 0 ≤ (s[k].toNat : Int) := by omega
      have g1 := bytesI_getD s k hlt
      have HL : Hid (k < (bytesI s).length) := by show _ < _; rw [bytesI_length]; exact hlt
      obtain ⟨f, rfl⟩ : ∃ f', f = f' + 1 := ⟨f - 1, by omega⟩
      generalize hc : (s[k].toNat : Int) = x at h256 h000 g1
      by_cases h43 : x = 43
      · subst h43
        have HN : Hid (unU (bytesI s) f (k + 1) (acc ++ [32]) = R) := by show _ = _; rw [← HU.out, unU_plus _ _ _ _ HL.out g1]
        clear g1
        go_wp2_with (at_builtin; refine wpList_app _ rfl _ _ _ rfl w.heap.size 5 i0 (.int .u8 0) 1 Try.underlying28 hi hz0 hz1 hz2 rfl _ j _ rfl (hown.alloc _) _ 1 1 [.int .u8 32] rfl rfl (by simp) (Rd.one _ _ _) (u8_one _) (by unfold maxLen; simp; omega) (by simp; omega) (by simp; omega) ?_; intro A3 c3 w3 hown3 hA3 hg3 hat3)
        go_roundw
        case rel =>
          refine ⟨k + 1, acc ++ [32], f, by omega, by go_num, HN.out, A3, j + 1, c3, rfl, by omega, by omega, ?_, gb_new (gb_alloc hg _) hg3 (own_new hown)⟩
          rw [List.map_append]
          exact hown3
        case measure => simp [intOf]; omega
      · by_cases h37 : x = 37
        · subst h37
          cases ht : two (bytesI s) (k + 1) true with
          | none =>
            have HN : Hid (R = none) := by show _ = _; rw [← HU.out, unU_bad _ _ _ _ HL.out g1 ht]
            have HT := hid ht
            clear g1 ht
            go_wp2_with fail
            refine (hexPair_none s (k + 1) true _ hs (by omega) HT.out).mono ?_; rintro e w' ⟨v, rfl, rfl⟩
            go_wp2
            go_ret2
            exact ⟨by rw [HN.out]; rfl, hg⟩
          | some n =>
            have HN : Hid (unU (bytesI s) f (k + 3) (acc ++ [n]) = R) := by show _ = _; rw [← HU.out, unU_hex _ _ _ _ n HL.out g1 ht]
            have hb := two_bd ht
            rw [bytesI_length] at hb
            obtain ⟨hn0, hn1, hn2⟩ := hb
            have HT := hid ht
            clear g1 ht
            go_wp2_with fail
            refine (hexPair_some s (k + 1) true n _ hs (by omega) HT.out).mono ?_; rintro e w' ⟨rfl, rfl⟩
            go_wp2_with (at_builtin; refine wpList_app _ rfl _ _ _ rfl w.heap.size 5 i0 (.int .u8 0) 1 Try.underlying28 hi hz0 hz1 hz2 rfl _ j _ rfl (hown.alloc _) _ 1 1 [.int .u8 n] rfl rfl (by simp) (Rd.one _ _ _) (u8_one _) (by unfold maxLen; simp; omega) (by simp; omega) (by simp; omega) ?_; intro A3 c3 w3 hown3 hA3 hg3 hat3)
            go_roundw
            case rel =>
              refine ⟨k + 3, acc ++ [n], f, by omega, by go_num, HN.out, A3, j + 1, c3, rfl, by omega, by omega, ?_, gb_new (gb_alloc hg _) hg3 (own_new hown)⟩
              rw [List.map_append]
              exact hown3
            case measure => simp [intOf]; omega
        · have e1 : (x == 43) = false := by simpa using h43
          have e2 : (x == 37) = false := by simpa using h37
          have HN : Hid (unU (bytesI s) f (k + 1) (acc ++ [x]) = R) := by show _ = _; rw [← HU.out, unU_other _ _ _ _ HL.out (by rw [g1]; exact h43) (by rw [g1]; exact h37), g1]
          clear g1 h43 h37
          go_wp2_with (at_builtin; refine wpList_app _ rfl _ _ _ rfl w.heap.size 5 i0 (.int .u8 0) 1 Try.underlying28 hi hz0 hz1 hz2 rfl _ j _ rfl (hown.alloc _) _ 1 1 [.int .u8 x] rfl rfl (by simp) (Rd.one _ _ _) (u8_one _) (by unfold maxLen; simp; omega) (by simp; omega) (by simp; omega) ?_; intro A3 c3 w3 hown3 hA3 hg3 hat3)
          go_roundw
          case rel =>
            refine ⟨k + 1, acc ++ [x], f, by omega, by go_num, HN.out, A3, j + 1, c3, rfl, by omega, by omega, ?_, gb_new (gb_alloc hg _) hg3 (own_new hown)⟩
            rw [List.map_append]
            exact hown3
          case measure => simp [intOf]; omega
    · have HE : Hid (R = some acc) := by show _ = _; rw [← HU.out, unU_end _ _ _ _ (by rw [bytesI_length]; omega)]
      have kc := run_conv_rd (P := Try.prog) wr 28 5 9 A j c acc Try.underlying28 Try.underlying5 Try.underlying9 (Rd.own hown) (by have := hown.1; rw [List.length_map] at this; omega)
      clear hown
      go_wp2
      go_ret2
      exact ⟨by rw [HE.out]; rfl, hg⟩

set_option maxHeartbeats 1000000 in
theorem specUnScript_any (s : ByteArray) (w : World) (hs : s.size ≤ 1048576) :
    Calls Try.prog 18 #[.string s] w (OptPost (unScript (bytesI s)) w) := by
  obtain ⟨i0, hi, hz0, hz1, hz2⟩ := info_parts Try.infoU8
  obtain ⟨R, hR⟩ : ∃ R, unScript (bytesI s) = R := ⟨_, rfl⟩
  rw [hR]
  go_enter Try.func18, Try.ntmps18
  go_wp2
  go_loopw [4, 5, 6] (fun v i _ wr => ∃ (k : Nat) (acc : List Int) (f : Nat), k ≤ s.size ∧ i = .int .i64 k ∧ Hid (unS (bytesI s) f k acc = R) ∧ ∃ (A : Option Addr) (j c : Nat), v = .slice A j c ∧ s.size < k + f ∧ j ≤ k ∧ wr.ownsRow w.heap.size 5 1 (.slice A j c) j (acc.map (.int .u8)) ∧ w.grownBy wr none) (fun _ i _ _ => s.size - (intOf i).toNat)
  case atStart => exact ⟨0, [], s.size + 1, Nat.zero_le _, rfl, (by show _ = _; rw [← hR]; unfold unScript; rw [bytesI_length]), _, 0, _, rfl, by omega, by omega, World.ownsRow_lit (base := w.heap.size) (e := 5) (size := 1) w #[] 0 (Nat.le_refl _) (by unfold maxLen; omega) rfl, gb_alloc (gb_refl _ _) _⟩
  case round =>
    obtain ⟨k, acc, f, hk, rfl, HU, A, j, c, rfl, hf, hjk, hown, hg⟩ := hrel
    have hsz := hg.size
    by_cases hlt : k < s.size
    · have h256 : (s[k].toNat : Int) < 256 := by have := s[k].toNat_lt; omega
      have h000 : 0 ≤ (s[k].toNat : Int) := by omega
      have g1 := bytesI_getD s k hlt
      have HL : Hid (k < (bytesI s).length) := by show _ < _; rw [bytesI_length]; exact hlt
      obtain ⟨f, rfl⟩ : ∃ f', f = f' + 1 := ⟨f - 1, by omega⟩
      generalize hc : (s[k].toNat : Int) = x at h256 h000 g1
      by_cases h92 : x = 92
      · subst h92
        by_cases hx : k + 1 < s.size ∧ (bytesI s).getD (k + 1) 0 = 120
        · obtain ⟨hx1, hx2⟩ := hx
          have HX : Hid (k + 1 < (bytesI s).length ∧ (bytesI s).getD (k + 1) 0 = 120) := by show _ ∧ _; rw [bytesI_length]; exact ⟨hx1, hx2⟩
          rw [bytesI_getD s (k + 1) hx1] at hx2
          cases ht : two (bytesI s) (k + 2) false with
          | none =>
            have HN : Hid (R = none) := by show _ = _; rw [← HU.out, unS_bad2 _ _ _ _ HL.out g1 HX.out ht]
            have HT := hid ht
            clear g1 ht
            have HTI := twoI_none HT.out
            go_wp2_with fail
            refine (l4Two_any s (k + 2) false _ hs (by omega)).mono ?_; rw [HTI]; rintro e w' ⟨rfl, rfl⟩; clear HTI
            go_wp2
            go_ret2
            exact ⟨by rw [HN.out]; rfl, hg⟩
          | some n =>
            have HN : Hid (unS (bytesI s) f (k + 4) (acc ++ [n]) = R) := by show _ = _; rw [← HU.out, unS_hex _ _ _ _ n HL.out g1 HX.out ht]
            have hb := two_bd ht
            rw [bytesI_length] at hb
            obtain ⟨hn0, hn1, hn2⟩ := hb
            have HT := hid ht
            clear g1 ht
            have HTI := twoI_some HT.out
            go_wp2_with fail
            refine (l4Two_any s (k + 2) false _ hs (by omega)).mono ?_; rw [HTI]; rintro e w' ⟨rfl, rfl⟩; clear HTI
            go_wp2_with (at_builtin; refine wpList_app _ rfl _ _ _ rfl w.heap.size 5 i0 (.int .u8 0) 1 Try.underlying28 hi hz0 hz1 hz2 rfl _ j _ rfl (hown.alloc _) _ 1 1 [.int .u8 n] rfl rfl (by simp) (Rd.one _ _ _) (u8_one _) (by unfold maxLen; simp; omega) (by simp; omega) (by simp; omega) ?_; intro A3 c3 w3 hown3 hA3 hg3 hat3)
            go_roundw
            case rel =>
              refine ⟨k + 4, acc ++ [n], f, by omega, by go_num, HN.out, A3, j + 1, c3, rfl, by omega, by omega, ?_, gb_new (gb_alloc hg _) hg3 (own_new hown)⟩
              rw [List.map_append]
              exact hown3
            case measure => simp [intOf]; omega
        · have HN : Hid (R = none) := by show _ = _; rw [← HU.out, unS_bad1 _ _ _ _ HL.out g1 (by rw [bytesI_length]; exact hx)]
          clear g1
          by_cases hx1 : k + 1 < s.size
          · have hx2 : ¬ ((s[k + 1].toNat : Int) = 120) := fun h => hx ⟨hx1, by rw [bytesI_getD s (k + 1) hx1]; exact h⟩
            clear hx
            generalize hc2 : (s[k + 1].toNat : Int) = y at hx2
            have e1 : (y == 120) = false := by simpa using hx2
            have e2 : (y != 120) = true := by simpa using hx2
            clear hx2
            go_wp2
            go_ret2
            exact ⟨by rw [HN.out]; rfl, hg⟩
          · clear hx
            go_wp2
            go_ret2
            exact ⟨by rw [HN.out]; rfl, hg⟩
      · have e1 : (x != 92) = true := by simpa using h92
        have HN : Hid (unS (bytesI s) f (k + 1) (acc ++ [x]) = R) := by show _ = _; rw [← HU.out, unS_other _ _ _ _ HL.out (by rw [g1]; exact h92), g1]
        clear g1 h92
        go_wp2_with (at_builtin; refine wpList_app _ rfl _ _ _ rfl w.heap.size 5 i0 (.int .u8 0) 1 Try.underlying28 hi hz0 hz1 hz2 rfl _ j _ rfl (hown.alloc _) _ 1 1 [.int .u8 x] rfl rfl (by simp) (Rd.one _ _ _) (u8_one _) (by unfold maxLen; simp; omega) (by simp; omega) (by simp; omega) ?_; intro A3 c3 w3 hown3 hA3 hg3 hat3)
        go_roundw
        case rel =>
          refine ⟨k + 1, acc ++ [x], f, by omega, by go_num, HN.out, A3, j + 1, c3, rfl, by omega, by omega, ?_, gb_new (gb_alloc hg _) hg3 (own_new hown)⟩
          rw [List.map_append]
          exact hown3
        case measure => simp [intOf]; omega
    · have HE : Hid (R = some acc) := by show _ = _; rw [← HU.out, unS_end _ _ _ _ (by rw [bytesI_length]; omega)]
      have kc := run_conv_rd (P := Try.prog) wr 28 5 9 A j c acc Try.underlying28 Try.underlying5 Try.underlying9 (Rd.own hown) (by have := hown.1; rw [List.length_map] at this; omega)
      clear hown
      go_wp2
      go_ret2
      exact ⟨by rw [HE.out]; rfl, hg⟩

set_option maxHeartbeats 1000000 in
theorem implUnScript_any (s : ByteArray) (w : World) (hs : s.size ≤ 1048576) :
    Calls Try.prog 19 #[.string s] w (OptPost (unScript (bytesI s)) w) := by
  obtain ⟨i0, hi, hz0, hz1, hz2⟩ := info_parts Try.infoU8
  obtain ⟨R, hR⟩ : ∃ R, unScript (bytesI s) = R := ⟨_, rfl⟩
  rw [hR]
  go_enter Try.func19, Try.ntmps19
  go_wp2
  go_loopw [4, 5, 6, 7] (fun v i _ _ wr => ∃ (k : Nat) (acc : List Int) (f : Nat), k ≤ s.size ∧ i = .int .i64 k ∧ Hid (unS (bytesI s) f k acc = R) ∧ ∃ (A : Option Addr) (j c : Nat), v = .slice A j c ∧ s.size < k + f ∧ j ≤ k ∧ wr.ownsRow w.heap.size 5 1 (.slice A j c) j (acc.map (.int .u8)) ∧ w.grownBy wr none) (fun _ i _ _ _ => s.size - (intOf i).toNat)
  case atStart => exact ⟨0, [], s.size + 1, Nat.zero_le _, rfl, (by show _ = _; rw [← hR]; unfold unScript; rw [bytesI_length]), _, 0, _, rfl, by omega, by omega, World.ownsRow_lit (base := w.heap.size) (e := 5) (size := 1) w #[] 0 (Nat.le_refl _) (by unfold maxLen; omega) rfl, gb_alloc (gb_refl _ _) _⟩
  case round =>
    obtain ⟨k, acc, f, hk, rfl, HU, A, j, c, rfl, hf, hjk, hown, hg⟩ := hrel
    have hsz := hg.size
    by_cases hlt : k < s.size
    · have h256 : (s[k].toNat : Int) < 256 := by have := s[k].toNat_lt; omega
      have h000 : 0 ≤ (s[k].toNat : Int) := by omega
      have g1 := bytesI_getD s k hlt
      have HL : Hid (k < (bytesI s).length) := by show _ < _; rw [bytesI_length]; exact hlt
      obtain ⟨f, rfl⟩ : ∃ f', f = f' + 1 := ⟨f - 1, by omega⟩
      generalize hc : (s[k].toNat : Int) = x at h256 h000 g1
      by_cases h92 : x = 92
      · subst h92
        by_cases hx : k + 1 < s.size ∧ (bytesI s).getD (k + 1) 0 = 120
        · obtain ⟨hx1, hx2⟩ := hx
          have HX : Hid (k + 1 < (bytesI s).length ∧ (bytesI s).getD (k + 1) 0 = 120) := by show _ ∧ _; rw [bytesI_length]; exact ⟨hx1, hx2⟩
          rw [bytesI_getD s (k + 1) hx1] at hx2
          cases ht : two (bytesI s) (k + 2) false with
          | none =>
            have HN : Hid (R = none) := by show _ = _; rw [← HU.out, unS_bad2 _ _ _ _ HL.out g1 HX.out ht]
            have HT := hid ht
            clear g1 ht
            go_wp2_with fail
            refine (hexPair_none s (k + 2) false _ hs (by omega) HT.out).mono ?_; rintro e w' ⟨v, rfl, rfl⟩
            go_wp2
            go_ret2
            exact ⟨by rw [HN.out]; rfl, hg⟩
          | some n =>
            have HN : Hid (unS (bytesI s) f (k + 4) (acc ++ [n]) = R) := by show _ = _; rw [← HU.out, unS_hex _ _ _ _ n HL.out g1 HX.out ht]
            have hb := two_bd ht
            rw [bytesI_length] at hb
            obtain ⟨hn0, hn1, hn2⟩ := hb
            have HT := hid ht
            clear g1 ht
            go_wp2_with fail
            refine (hexPair_some s (k + 2) false n _ hs (by omega) HT.out).mono ?_; rintro e w' ⟨rfl, rfl⟩
            go_wp2_with (at_builtin; refine wpList_app _ rfl _ _ _ rfl w.heap.size 5 i0 (.int .u8 0) 1 Try.underlying28 hi hz0 hz1 hz2 rfl _ j _ rfl (hown.alloc _) _ 1 1 [.int .u8 n] rfl rfl (by simp) (Rd.one _ _ _) (u8_one _) (by unfold maxLen; simp; omega) (by simp; omega) (by simp; omega) ?_; intro A3 c3 w3 hown3 hA3 hg3 hat3)
            go_roundw
            case rel =>
              refine ⟨k + 4, acc ++ [n], f, by omega, by go_num, HN.out, A3, j + 1, c3, rfl, by omega, by omega, ?_, gb_new (gb_alloc hg _) hg3 (own_new hown)⟩
              rw [List.map_append]
              exact hown3
            case measure => simp [intOf]; omega
        · have HN : Hid (R = none) := by show _ = _; rw [← HU.out, unS_bad1 _ _ _ _ HL.out g1 (by rw [bytesI_length]; exact hx)]
          clear g1
          by_cases hx1 : k + 1 < s.size
          · have hx2 : ¬ ((s[k + 1].toNat : Int) = 120) := fun h => hx ⟨hx1, by rw [bytesI_getD s (k + 1) hx1]; exact h⟩
            clear hx
            generalize hc2 : (s[k + 1].toNat : Int) = y at hx2
            have e1 : (y == 120) = false := by simpa using hx2
            have e2 : (y != 120) = true := by simpa using hx2
            clear hx2
            go_wp2
            go_ret2
            exact ⟨by rw [HN.out]; rfl, hg⟩
          · clear hx
            go_wp2
            go_ret2
            exact ⟨by rw [HN.out]; rfl, hg⟩
      · have e1 : (x != 92) = true := by simpa using h92
        have HN : Hid (unS (bytesI s) f (k + 1) (acc ++ [x]) = R) := by show _ = _; rw [← HU.out, unS_other _ _ _ _ HL.out (by rw [g1]; exact h92), g1]
        clear g1 h92
        go_wp2_with (at_builtin; refine wpList_app _ rfl _ _ _ rfl w.heap.size 5 i0 (.int .u8 0) 1 Try.underlying28 hi hz0 hz1 hz2 rfl _ j _ rfl (hown.alloc _) _ 1 1 [.int .u8 x] rfl rfl (by simp) (Rd.one _ _ _) (u8_one _) (by unfold maxLen; simp; omega) (by simp; omega) (by simp; omega) ?_; intro A3 c3 w3 hown3 hA3 hg3 hat3)
        go_roundw
        case rel =>
          refine ⟨k + 1, acc ++ [x], f, by omega, by go_num, HN.out, A3, j + 1, c3, rfl, by omega, by omega, ?_, gb_new (gb_alloc hg _) hg3 (own_new hown)⟩
          rw [List.map_append]
          exact hown3
        case measure => simp [intOf]; omega
    · have HE : Hid (R = some acc) := by show _ = _; rw [← HU.out, unS_end _ _ _ _ (by rw [bytesI_length]; omega)]
      have kc := run_conv_rd (P := Try.prog) wr 28 5 9 A j c acc Try.underlying28 Try.underlying5 Try.underlying9 (Rd.own hown) (by have := hown.1; rw [List.length_map] at this; omega)
      clear hown
      go_wp2
      go_ret2
      exact ⟨by rw [HE.out]; rfl, hg⟩


theorem unescapeURL_walk (a0 : ByteArray) (w : World) (_w0 : a0.size ≤ maxLen) : Calls Try.prog 7 #[.string a0] w fun e w' => e = .returned (.bool true) ∧ Below w.heap.size w w' := by
  unfold maxLen at _w0
  by_cases h : a0.size ≤ 1048576
  · obtain ⟨R, hR⟩ : ∃ R, unUrl (bytesI a0) = R := ⟨_, rfl⟩
    obtain ⟨T, hT⟩ : ∃ T, optStr R = T := ⟨_, rfl⟩
    obtain ⟨B, hB⟩ : ∃ B, R.isSome = B := ⟨_, rfl⟩
    have c1 := fun w => specUnURL_any a0 w h
    have c2 := fun w => implUnURL_any a0 w h
    rw [hR] at c1 c2
    unfold OptPost at c1 c2
    rw [hT, hB] at c1 c2
    clear hR hT hB
    go_enter Try.func7, Try.ntmps7
    go_wp2_with fail
    refine (c1 _).mono ?_
    rintro e w1 ⟨rfl, hg1⟩
    go_wp2_with fail
    refine (c2 _).mono ?_
    rintro e w2 ⟨rfl, hg2⟩
    go_wp2
    go_ret
    exact ⟨ret_bool (by simp), gb_below (gb_trans hg1 hg2)⟩
  · go_enter Try.func7, Try.ntmps7
    go_wp2
    go_ret
    exact ⟨rfl, Below.refl _ _⟩

theorem unescapeScript_walk (a0 : ByteArray) (w : World) (_w0 : a0.size ≤ maxLen) : Calls Try.prog 6 #[.string a0] w fun e w' => e = .returned (.bool true) ∧ Below w.heap.size w w' := by
  unfold maxLen at _w0
  by_cases h : a0.size ≤ 1048576
  · obtain ⟨R, hR⟩ : ∃ R, unScript (bytesI a0) = R := ⟨_, rfl⟩
    obtain ⟨T, hT⟩ : ∃ T, optStr R = T := ⟨_, rfl⟩
    obtain ⟨B, hB⟩ : ∃ B, R.isSome = B := ⟨_, rfl⟩
    have c1 := fun w => specUnScript_any a0 w h
    have c2 := fun w => implUnScript_any a0 w h
    rw [hR] at c1 c2
    unfold OptPost at c1 c2
    rw [hT, hB] at c1 c2
    clear hR hT hB
    go_enter Try.func6, Try.ntmps6
    go_wp2_with fail
    refine (c1 _).mono ?_
    rintro e w1 ⟨rfl, hg1⟩
    go_wp2_with fail
    refine (c2 _).mono ?_
    rintro e w2 ⟨rfl, hg2⟩
    go_wp2
    go_ret
    exact ⟨ret_bool (by simp), gb_below (gb_trans hg1 hg2)⟩
  · go_enter Try.func6, Try.ntmps6
    go_wp2
    go_ret
    exact ⟨rfl, Below.refl _ _⟩
end Go.Proofs.Ytolefcbkhmcdmaa
