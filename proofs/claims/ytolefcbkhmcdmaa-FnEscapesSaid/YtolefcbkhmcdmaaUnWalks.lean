/- The walks of the hexadecimal digits: hexValue, hexPair, l4Two. -/
import Derived.Test.YtolefcbkhmcdmaaEscEnc
import Derived.Test.YtolefcbkhmcdmaaUnMath
namespace Go.Proofs.Ytolefcbkhmcdmaa
open Go.RowKit
set_option linter.unusedVariables false

theorem hexValue_some (c : Int) (small : Bool) (d : Int) (w : World) (h0 : 0 ≤ c) (h1 : c ≤ 255) (h : hexV c small = some d) :
    Calls Try.prog 48 #[.int .u8 c, .bool small] w fun e w' => e = .returned (.tuple #[.int .u8 d, .bool true]) ∧ w = w' := by
  by_cases hd : 48 ≤ c ∧ c ≤ 57
  · have e : d = c - 48 := by unfold hexV at h; rw [if_pos hd] at h; injection h with h; omega
    subst e
    obtain ⟨g1, g2⟩ := hd
    clear h
    go_enter Try.func48, Try.ntmps48
    go_wp2_with (go_at_call 34; refine (isDigit_t _ _ g1 g2).mono ?_; rintro e w' ⟨rfl, rfl⟩)
    go_ret2
    exact ⟨rfl, rfl⟩
  · by_cases hu : 65 ≤ c ∧ c ≤ 70
    · have e : d = c - 65 + 10 := by unfold hexV at h; rw [if_neg hd, if_pos hu] at h; injection h with h; omega
      subst e
      obtain ⟨g1, g2⟩ := hu
      have d1 : decide (65 ≤ c) = true := by simpa using g1
      have d2 : decide (c ≤ 70) = true := by simpa using g2
      clear h hd
      go_enter Try.func48, Try.ntmps48
      go_wp2_with (go_at_call 34; refine (isDigit_f _ _ (by omega)).mono ?_; rintro e w' ⟨rfl, rfl⟩)
      go_ret2
      exact ⟨rfl, rfl⟩
    · by_cases hs : small = true ∧ 97 ≤ c ∧ c ≤ 102
      · have e : d = c - 97 + 10 := by unfold hexV at h; rw [if_neg hd, if_neg hu, if_pos hs] at h; injection h with h; omega
        subst e
        obtain ⟨rfl, g1, g2⟩ := hs
        have d1 : decide (65 ≤ c) = true := by simp; omega
        have d2 : decide (c ≤ 70) = false := by simp; omega
        have d3 : decide (97 ≤ c) = true := by simpa using g1
        have d4 : decide (c ≤ 102) = true := by simpa using g2
        clear h hd hu
        go_enter Try.func48, Try.ntmps48
        go_wp2_with (go_at_call 34; refine (isDigit_f _ _ (by omega)).mono ?_; rintro e w' ⟨rfl, rfl⟩)
        go_ret2
        exact ⟨rfl, rfl⟩
      · exfalso
        unfold hexV at h
        rw [if_neg hd, if_neg hu, if_neg hs] at h
        cases h
theorem hexValue_none (c : Int) (small : Bool) (w : World) (h0 : 0 ≤ c) (h1 : c ≤ 255) (h : hexV c small = none) :
    Calls Try.prog 48 #[.int .u8 c, .bool small] w fun e w' => e = .returned (.tuple #[.int .u8 0, .bool false]) ∧ w = w' := by
  have hd : ¬ (48 ≤ c ∧ c ≤ 57) := fun hd => by unfold hexV at h; rw [if_pos hd] at h; cases h
  have hu : ¬ (65 ≤ c ∧ c ≤ 70) := fun hu => by unfold hexV at h; rw [if_neg hd, if_pos hu] at h; cases h
  have hs : ¬ (small = true ∧ 97 ≤ c ∧ c ≤ 102) := fun hs => by unfold hexV at h; rw [if_neg hd, if_neg hu, if_pos hs] at h; cases h
  clear h
  have HD : Hid (c < 48 ∨ 57 < c) := by show _ ∨ _; omega
  have hU : (decide (65 ≤ c) = false) ∨ (decide (65 ≤ c) = true ∧ decide (c ≤ 70) = false) := by
    by_cases h3 : 65 ≤ c
    · right; exact ⟨by simpa using h3, by simp; omega⟩
    · left; simpa using h3
  have hS : small = false ∨ (small = true ∧ decide (97 ≤ c) = false) ∨ (small = true ∧ decide (97 ≤ c) = true ∧ decide (c ≤ 102) = false) := by
    cases small
    · left; rfl
    · by_cases h3 : 97 ≤ c
      · right; right; exact ⟨rfl, by simpa using h3, by simp; simp at hs; omega⟩
      · right; left; exact ⟨rfl, by simpa using h3⟩
  clear hd hu hs
  rcases hU with u1 | ⟨u1, u2⟩ <;> rcases hS with rfl | ⟨rfl, s1⟩ | ⟨rfl, s1, s2⟩
  all_goals
    go_enter Try.func48, Try.ntmps48
    go_wp2_with (go_at_call 34; refine (isDigit_f _ _ HD.out).mono ?_; rintro e w' ⟨rfl, rfl⟩)
    go_ret2
    exact ⟨rfl, rfl⟩

def PairNo (w : World) (e : Ending) (w' : World) : Prop := ∃ v : Int, e = .returned (.tuple #[.int .u8 v, .bool false]) ∧ w = w'
theorem hexPair_some (s : ByteArray) (p : Nat) (small : Bool) (n : Int) (w : World) (hs : s.size ≤ 1048576) (hp : p ≤ 1048580) (h : two (bytesI s) p small = some n) :
    Calls Try.prog 41 #[.string s, .int .i64 p, .bool small] w fun e w' => e = .returned (.tuple #[.int .u8 n, .bool true]) ∧ w = w' := by
  have hb := two_bd h
  rw [bytesI_length] at hb
  have hl : p + 2 ≤ (bytesI s).length := by rw [bytesI_length]; exact hb.2.2
  have g1 := bytesI_getD s p (by omega)
  have g2 := bytesI_getD s (p + 1) (by omega)
  have K1 : Hid ((s[p].toNat : Int) ≤ 255) := by show _ ≤ _; have := s[p].toNat_lt; omega
  have K2 : Hid ((s[p + 1].toNat : Int) ≤ 255) := by show _ ≤ _; have := s[p + 1].toNat_lt; omega
  cases ha : hexV ((bytesI s).getD p 0) small with
  | none => rw [two_none1 hl ha] at h; cases h
  | some a =>
    cases hb2 : hexV ((bytesI s).getD (p + 1) 0) small with
    | none => rw [two_none2 hl ha hb2] at h; cases h
    | some b =>
      rw [two_some hl ha hb2] at h
      injection h with h
      subst h
      have ba := hexV_bd ha
      have bb := hexV_bd hb2
      rw [g1] at ha
      rw [g2] at hb2
      have HA := hid ha
      have HB := hid hb2
      have hlt1 : p < s.size := by omega
      have hlt2 : p + 1 < s.size := by omega

      clear ha hb2 g1 g2 hl
      go_enter Try.func41, Try.ntmps41
      go_wp2_with fail
      refine (hexValue_some _ _ _ _ (by omega) K1.out HA.out).mono ?_
      rintro e w' ⟨rfl, rfl⟩
      go_wp2_with fail
      refine (hexValue_some _ _ _ _ (by omega) K2.out HB.out).mono ?_
      rintro e w' ⟨rfl, rfl⟩
      go_wp2
      go_ret2
      exact ⟨by rw [Int.mul_comm 16 a]; rfl, rfl⟩
theorem hexPair_none (s : ByteArray) (p : Nat) (small : Bool) (w : World) (hs : s.size ≤ 1048576) (hp : p ≤ 1048580) (h : two (bytesI s) p small = none) :
    Calls Try.prog 41 #[.string s, .int .i64 p, .bool small] w (PairNo w) := by
  by_cases hl : p + 2 ≤ s.size
  · have hl' : p + 2 ≤ (bytesI s).length := by rw [bytesI_length]; exact hl
    have g1 := bytesI_getD s p (by omega)
    have g2 := bytesI_getD s (p + 1) (by omega)
    have K1 : Hid ((s[p].toNat : Int) ≤ 255) := by show _ ≤ _; have := s[p].toNat_lt; omega
    have K2 : Hid ((s[p + 1].toNat : Int) ≤ 255) := by show _ ≤ _; have := s[p + 1].toNat_lt; omega
    have hlt1 : p < s.size := by omega
    have hlt2 : p + 1 < s.size := by omega
    have hcase : (∃ a, hexV (s[p].toNat : Int) small = some a ∧ hexV (s[p + 1].toNat : Int) small = none) ∨ (hexV (s[p].toNat : Int) small = none ∧ ∃ b, hexV (s[p + 1].toNat : Int) small = some b) ∨ (hexV (s[p].toNat : Int) small = none ∧ hexV (s[p + 1].toNat : Int) small = none) := by
      cases ha : hexV ((bytesI s).getD p 0) small with
      | none =>
        cases hb2 : hexV ((bytesI s).getD (p + 1) 0) small with
        | none => right; right; rw [← g1, ← g2]; exact ⟨ha, hb2⟩
        | some b => right; left; rw [← g1, ← g2]; exact ⟨ha, b, hb2⟩
      | some a =>
        cases hb2 : hexV ((bytesI s).getD (p + 1) 0) small with
        | none => left; rw [← g1, ← g2]; exact ⟨a, ha, hb2⟩
        | some b => rw [two_some hl' ha hb2] at h; cases h
    clear h g1 g2 hl'
    rcases hcase with ⟨a, ha, hb⟩ | ⟨ha, b, hb⟩ | ⟨ha, hb⟩
    · have HA := hid ha
      have HB := hid hb
      clear ha hb
      go_enter Try.func41, Try.ntmps41
      go_wp2_with fail
      refine (hexValue_some _ _ _ _ (by omega) K1.out HA.out).mono ?_
      rintro e w' ⟨rfl, rfl⟩
      go_wp2_with fail
      refine (hexValue_none _ _ _ (by omega) K2.out HB.out).mono ?_
      rintro e w' ⟨rfl, rfl⟩
      go_wp2
      go_ret2
      exact ⟨_, rfl, rfl⟩
    · have HA := hid ha
      have HB := hid hb
      clear ha hb
      go_enter Try.func41, Try.ntmps41
      go_wp2_with fail
      refine (hexValue_none _ _ _ (by omega) K1.out HA.out).mono ?_
      rintro e w' ⟨rfl, rfl⟩
      go_wp2_with fail
      refine (hexValue_some _ _ _ _ (by omega) K2.out HB.out).mono ?_
      rintro e w' ⟨rfl, rfl⟩
      go_wp2
      go_ret2
      exact ⟨_, rfl, rfl⟩
    · have HA := hid ha
      have HB := hid hb
      clear ha hb
      go_enter Try.func41, Try.ntmps41
      go_wp2_with fail
      refine (hexValue_none _ _ _ (by omega) K1.out HA.out).mono ?_
      rintro e w' ⟨rfl, rfl⟩
      go_wp2_with fail
      refine (hexValue_none _ _ _ (by omega) K2.out HB.out).mono ?_
      rintro e w' ⟨rfl, rfl⟩
      go_wp2
      go_ret2
      exact ⟨_, rfl, rfl⟩
  · clear h
    go_enter Try.func41, Try.ntmps41
    go_wp2
    go_ret2
    exact ⟨_, rfl, rfl⟩
end Go.Proofs.Ytolefcbkhmcdmaa
