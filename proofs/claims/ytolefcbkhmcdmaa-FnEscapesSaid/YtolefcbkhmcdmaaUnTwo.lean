/- The walk of l4Two, the reference's pair of hexadecimal digits. -/
import Derived.Test.YtolefcbkhmcdmaaUnWalks
namespace Go.Proofs.Ytolefcbkhmcdmaa
open Go.RowKit
set_option linter.unusedVariables false

def twoI (l : List Int) (p : Nat) (small : Bool) : Int := match two l p small with | some n => n | none => -1
theorem twoI_some {l : List Int} {p : Nat} {small : Bool} {n : Int} (h : two l p small = some n) : twoI l p small = n := by unfold twoI; rw [h]
theorem twoI_none {l : List Int} {p : Nat} {small : Bool} (h : two l p small = none) : twoI l p small = -1 := by unfold twoI; rw [h]
/-- After k of the two digits. -/
def part (l : List Int) (p : Nat) (small : Bool) : Nat → Option Int
  | 0 => some 0
  | 1 => hexV (l.getD p 0) small
  | _ => two l p small
theorem part_next {l : List Int} {p : Nat} {small : Bool} {k : Nat} {m d : Int} (hl : p + 2 ≤ l.length) (hk : k < 2) (hp : part l p small k = some m) (hd : hexV (l.getD (p + k) 0) small = some d) : part l p small (k + 1) = some (16 * m + d) := by
  rcases k with _ | _ | k
  · have : m = 0 := by simpa [part] using hp.symm
    subst this
    show hexV (l.getD p 0) small = _
    rw [Nat.add_zero] at hd
    rw [hd]
    simp
  · exact two_some hl hp hd
  · omega
theorem part_bad {l : List Int} {p : Nat} {small : Bool} {k : Nat} {m : Int} (hl : p + 2 ≤ l.length) (hk : k < 2) (hp : part l p small k = some m) (hd : hexV (l.getD (p + k) 0) small = none) : twoI l p small = -1 := by
  refine twoI_none ?_
  rcases k with _ | _ | k
  · exact two_none1 hl hd
  · exact two_none2 hl hp hd
  · omega
theorem hexV_cases {c d : Int} {small : Bool} (h : hexV c small = some d) : (48 ≤ c ∧ c ≤ 57 ∧ d = c - 48) ∨ (65 ≤ c ∧ c ≤ 70 ∧ d = c - 55) ∨ (small = true ∧ 97 ≤ c ∧ c ≤ 102 ∧ d = c - 87) := by
  unfold hexV at h
  split at h
  · injection h with h; omega
  · split at h
    · injection h with h; omega
    · split at h
      · rename_i h3; injection h with h; right; right; exact ⟨h3.1, h3.2.1, h3.2.2, h.symm⟩
      · cases h
theorem hexV_out {c : Int} {small : Bool} (h : hexV c small = none) : (c < 48 ∨ 57 < c) ∧ (c < 65 ∨ 70 < c) ∧ (small = false ∨ (small = true ∧ (c < 97 ∨ 102 < c))) := by
  unfold hexV at h
  split at h
  · cases h
  · split at h
    · cases h
    · split at h
      · cases h
      · rename_i h1 h2 h3
        refine ⟨by omega, by omega, ?_⟩
        cases small
        · left; rfl
        · right; simp at h3; exact ⟨rfl, by omega⟩

set_option maxHeartbeats 1000000 in
theorem l4Two_any (s : ByteArray) (p : Nat) (small : Bool) (w : World) (hs : s.size ≤ 1048576) (hp : p ≤ 1048580) :
    Calls Try.prog 40 #[.string s, .int .i64 p, .bool small] w fun e w' => e = .returned (.int .i64 (twoI (bytesI s) p small)) ∧ w = w' := by
  by_cases hl : p + 2 ≤ s.size
  · have hl' : p + 2 ≤ (bytesI s).length := by rw [bytesI_length]; exact hl
    have HL' := hid hl'
    clear hl'
    go_enter Try.func40, Try.ntmps40
    go_wp2
    go_loop [7, 8, 9] (fun v i _ => ∃ (k : Nat) (m : Int), k ≤ 2 ∧ i = .int .i64 k ∧ v = .int .i64 m ∧ 0 ≤ m ∧ m ≤ 255 ∧ (k < 2 → m ≤ 15) ∧ (k = 0 → m = 0) ∧ Hid (part (bytesI s) p small k = some m)) (fun _ i _ => 2 - (intOf i).toNat)
    case atStart => exact ⟨0, 0, by omega, rfl, rfl, by omega, by omega, fun _ => by omega, fun _ => rfl, rfl⟩
    case round =>
      obtain ⟨k, m, hk, rfl, rfl, hm0, hm1, hm2, hm4, HP⟩ := hrel
      by_cases hlt : k < 2
      · have hm3 := hm2 hlt
        have hm5 : k = 1 ∨ m = 0 := by omega
        clear hm2 hm1 hm4
        have hpk : p + k < s.size := by omega
        have g1 := bytesI_getD s (p + k) hpk
        have h256 : (s[p + k].toNat : Int) < 256 := by have := s[p + k].toNat_lt; omega
        have h000 : 0 ≤ (s[p + k].toNat : Int) := by omega
        generalize hc : (s[p + k].toNat : Int) = x at h256 h000 g1
        cases hv : hexV x small with
        | none =>
          obtain ⟨q1, q2, q3⟩ := hexV_out hv
          have Q1 := hid q1
          have Q2 := hid q2
          rw [← g1] at hv
          have HB := hid (part_bad HL'.out hlt HP.out hv)
          clear hv g1 q1 q2
          rcases q3 with rfl | ⟨rfl, q3⟩
          · go_wp2_with fail
            refine (l1In_f _ _ _ _ Q1.out).mono ?_; rintro e w' ⟨rfl, rfl⟩
            go_wp2_with fail
            refine (l1In_f _ _ _ _ Q2.out).mono ?_; rintro e w' ⟨rfl, rfl⟩
            go_wp2
            go_ret
            exact ⟨ret_int (by rw [HB.out]), rfl⟩
          · have Q3 := hid q3
            clear q3
            go_wp2_with fail
            refine (l1In_f _ _ _ _ Q1.out).mono ?_; rintro e w' ⟨rfl, rfl⟩
            go_wp2_with fail
            refine (l1In_f _ _ _ _ Q2.out).mono ?_; rintro e w' ⟨rfl, rfl⟩
            go_wp2_with fail
            refine (l1In_f _ _ _ _ Q3.out).mono ?_; rintro e w' ⟨rfl, rfl⟩
            go_wp2
            go_ret
            exact ⟨ret_int (by rw [HB.out]), rfl⟩
        | some d =>
          have hd := hexV_bd hv
          have hcc := hexV_cases hv
          rw [← g1] at hv
          have HN := hid (part_next HL'.out hlt HP.out hv)
          clear hv g1
          rcases hcc with ⟨c1, c2, rfl⟩ | ⟨c1, c2, rfl⟩ | ⟨rfl, c1, c2, rfl⟩
          · go_wp2_with (go_at_call 46; refine (l1In_t _ _ _ _ c1 c2).mono ?_; rintro e w' ⟨rfl, rfl⟩)
            go_round
            case rel => exact ⟨k + 1, _, by omega, by go_num, by go_num, by omega, by omega, fun _ => by omega, fun _ => by omega, HN.out⟩
            case measure => simp [intOf]; omega
          · have Q1 : Hid (x < 48 ∨ 57 < x) := by show _ ∨ _; omega
            go_wp2_with fail
            refine (l1In_f _ _ _ _ Q1.out).mono ?_; rintro e w' ⟨rfl, rfl⟩
            go_wp2_with (go_at_call 46; refine (l1In_t _ _ _ _ c1 c2).mono ?_; rintro e w' ⟨rfl, rfl⟩)
            go_round
            case rel => exact ⟨k + 1, _, by omega, by go_num, by go_num, by omega, by omega, fun _ => by omega, fun _ => by omega, HN.out⟩
            case measure => simp [intOf]; omega
          · have Q1 : Hid (x < 48 ∨ 57 < x) := by show _ ∨ _; omega
            have Q2 : Hid (x < 65 ∨ 70 < x) := by show _ ∨ _; omega
            go_wp2_with fail
            refine (l1In_f _ _ _ _ Q1.out).mono ?_; rintro e w' ⟨rfl, rfl⟩
            go_wp2_with fail
            refine (l1In_f _ _ _ _ Q2.out).mono ?_; rintro e w' ⟨rfl, rfl⟩
            go_wp2_with (go_at_call 46; refine (l1In_t _ _ _ _ c1 c2).mono ?_; rintro e w' ⟨rfl, rfl⟩)
            go_round
            case rel => exact ⟨k + 1, _, by omega, by go_num, by go_num, by omega, by omega, fun _ => by omega, fun _ => by omega, HN.out⟩
            case measure => simp [intOf]; omega
      · have : k = 2 := by omega
        subst this
        have HE := hid (twoI_some HP.out)
        go_wp2
        go_ret
        exact ⟨ret_int (by rw [HE.out]), rfl⟩
  · have HO := hid (twoI_none (small := small) (two_out (l := bytesI s) (p := p) (by rw [bytesI_length]; omega)))
    go_enter Try.func40, Try.ntmps40
    go_wp2
    go_ret
    exact ⟨ret_int (by rw [HO.out]), rfl⟩
end Go.Proofs.Ytolefcbkhmcdmaa
