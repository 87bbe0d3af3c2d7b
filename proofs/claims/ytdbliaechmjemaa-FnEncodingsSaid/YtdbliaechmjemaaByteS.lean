/- The walks over slices of bytes: toByteS, eqByteS, markByteS, heldByteS. -/
import Derived.Test.YtdbliaechmjemaaDraw3
namespace Go.Proofs.Ytdbliaechmjemaa
open Go.RowKit

theorem toByteS_any (A : Option Addr) (n c : Nat) (zs : List Int) (w : World) (hr : Rd w A (zs.map (.int .u8))) (hnn : zs.length = n) (hn : n ≤ 16777216) :
    Calls Try.prog 11 #[.slice A n c] w fun e w' => e = .returned (.slice (some ⟨w.heap.size, 0, none⟩) n n) ∧
      w'.ownsRow w.heap.size 5 1 (.slice (some ⟨w.heap.size, 0, none⟩) n n) n (zs.map (.int .u8)) ∧ w.grownBy w' none := by
  obtain ⟨i0, hi, hz0, hz1, hz2⟩ := info_parts Try.infoU8
  have HL := hid hnn
  clear hnn
  go_enter Try.func11, Try.ntmps11
  go_wp2_with (at_make; refine wpList_make_full _ rfl _ _ _ rfl w.heap.size 5 i0 (.int .u8 0) 1 Try.underlying22 hi hz0 hz1 .i64 .i64 _ _ n rfl rfl rfl rfl (by rw [hz2]; omega) (by unfold maxLen; omega) (Nat.le_refl _) ?_; intro w1 hown hgr)
  go_loopw [4] (fun i wr => ∃ k : Nat, k ≤ n ∧ i = .int .i64 k ∧ wr.ownsRow w.heap.size 5 1 (.slice (some ⟨w.heap.size, 0, none⟩) n n) n ((zs.take k).map (Value.int .u8) ++ List.replicate (n - k) (Value.int .u8 0)) ∧ w.grownBy wr none) (fun i _ => n - (intOf i).toNat)
  case atStart => exact ⟨0, by omega, rfl, by rw [← fill_start]; exact hown, hgr⟩
  case round =>
    obtain ⟨k, hk, rfl, hownr, hg⟩ := hrel
    by_cases hlt : k < n
    · have hkz : k < zs.length := by have := HL.out; omega
      obtain ⟨b, o, rfl, hb, hc⟩ := (hr.grow hg) k (by simpa using hkz)
      obtain ⟨x, hx⟩ : ∃ x, x = zs[k] := ⟨_, rfl⟩
      have hcx : wr.cell? ⟨b, o + k, none⟩ = some (.int .u8 x) := by rw [hc, int_at hkz, hx]
      have HX := hid hx
      have HF := hid (fill_step .u8 zs k n hkz HL.out)
      have hcell : ∃ u, wr.cell? ⟨w.heap.size, k, none⟩ = some u := ⟨_, (hownr.cellAt k (by omega)).trans (List.getElem?_eq_getElem (by simp; omega))⟩
      obtain ⟨u, hu⟩ := hcell
      have hfr := hownr.frozenAt k
      have HS := hid (hownr.stored k (.int .u8 x))
      clear hc hx
      go_wp2
      go_roundw
      case rel =>
        refine ⟨k + 1, by omega, by go_num, ?_, gb_set hg (Or.inl (Nat.le_refl _)) _⟩
        rw [← HF.out, ← HX.out]
        exact (HS.out).1
      case measure => simp [intOf]; omega
    · obtain rfl : k = n := by omega
      have hown' := hownr
      rw [fill_end .u8 zs k HL.out] at hown'
      go_wp2
      go_ret
      exact ⟨rfl, hown', hg⟩

theorem eqByteS_same (A1 A2 : Option Addr) (n c1 c2 : Nat) (zs : List Int) (w : World) (h1 : Rd w A1 (zs.map (.int .u8))) (h2 : Rd w A2 (zs.map (.int .u8))) (hnn : zs.length = n) (hn : n ≤ 16777216) :
    Calls Try.prog 13 #[.slice A1 n c1, .slice A2 n c2] w fun e w' => e = .returned (.bool true) ∧ w.grownBy w' none := by
  have HL := hid hnn
  clear hnn
  go_enter Try.func13, Try.ntmps13
  go_wp2
  go_loopw [5] (fun i wr => ∃ k : Nat, k ≤ n ∧ i = .int .i64 k ∧ w.grownBy wr none) (fun i _ => n - (intOf i).toNat)
  case atStart => exact ⟨0, by omega, rfl, gb_refl _ _⟩
  case round =>
    obtain ⟨k, hk, rfl, hg⟩ := hrel
    by_cases hlt : k < n
    · have hkz : k < zs.length := by have := HL.out; omega
      obtain ⟨b, o, rfl, hb, hc⟩ := (h1.grow hg) k (by simpa using hkz)
      obtain ⟨b2, o2, rfl, hb2, hc2⟩ := (h2.grow hg) k (by simpa using hkz)
      obtain ⟨x, hx⟩ : ∃ x, x = zs[k] := ⟨_, rfl⟩
      have hcx : wr.cell? ⟨b, o + k, none⟩ = some (.int .u8 x) := by rw [hc, int_at hkz, hx]
      have hcx2 : wr.cell? ⟨b2, o2 + k, none⟩ = some (.int .u8 x) := by rw [hc2, int_at hkz, hx]
      have hp0 : (0 : Int) ≤ (k : Int) := by omega
      have hp1 : (k : Int) < (n : Int) := by omega
      clear hc hx hc2
      go_wp2
      go_quiet (fail)
      go_wp2
      go_roundw
      case rel => exact ⟨k + 1, by omega, by go_num, gb_drewN hg _⟩
      case measure => simp [intOf]; omega
    · go_wp2
      go_ret
      exact ⟨rfl, hg⟩

/-- The marks: byte number i is k + i, folded to a byte. -/
def markL (k : Int) : Nat → List Int
  | 0 => []
  | n + 1 => markL k n ++ [IntKind.u8.wrap (k + n)]
theorem markL_length (k : Int) : ∀ n, (markL k n).length = n
  | 0 => rfl
  | n + 1 => by rw [markL, List.length_append, markL_length k n]; rfl
theorem markL_at (k : Int) : ∀ (n j : Nat) (_h : j < n), (markL k n)[j]? = some (IntKind.u8.wrap (k + j))
  | n + 1, j, h => by
    rw [markL]
    by_cases hj : j < n
    · rw [List.getElem?_append_left (by rw [markL_length]; exact hj)]
      exact markL_at k n j hj
    · obtain rfl : j = n := by omega
      rw [List.getElem?_append_right (by rw [markL_length]; omega), markL_length, Nat.sub_self]
      rfl
theorem mark_set (k : Int) (j n : Nat) (xs : List Value) (hj : j < n) (hn : xs.length = n) :
    ((markL k j).map (Value.int .u8) ++ xs.drop j).set j (.int .u8 (IntKind.u8.wrap (k + j))) = (markL k (j + 1)).map (Value.int .u8) ++ xs.drop (j + 1) := by
  have hlen : ((markL k j).map (Value.int .u8)).length = j := by rw [List.length_map, markL_length]
  rw [List.set_append, if_neg (by omega), hlen, Nat.sub_self, List.drop_eq_getElem_cons (by omega), List.set_cons_zero, markL, List.map_append, List.append_assoc]
  rfl

theorem markByteS_any (base : Nat) (A : Option Addr) (n c : Nat) (xs : List Value) (k : Int) (w : World) (hown : w.ownsRow base 5 1 (.slice A n c) n xs) (hk0 : 0 ≤ k) (hk1 : k ≤ 1000000000) (hn : n ≤ 1000000000) :
    Calls Try.prog 16 #[.slice A n c, .int .i64 k] w fun e w' => e = .returned (.int .i64 (k + n)) ∧ w'.ownsRow base 5 1 (.slice A n c) n ((markL k n).map (.int .u8)) ∧ w.grownBy w' (Value.slice A n c).ownBlock := by
  have hlx : xs.length = n := by have := hown.1; omega
  have HL := hid hlx
  clear hlx
  go_enter Try.func16, Try.ntmps16
  go_wp2
  go_loopw [1, 5] (fun q i wr => ∃ j : Nat, j ≤ n ∧ i = .int .i64 j ∧ q = .int .i64 (k + j) ∧ wr.ownsRow base 5 1 (.slice A n c) n ((markL k j).map (Value.int .u8) ++ xs.drop j) ∧ w.grownBy wr (Value.slice A n c).ownBlock) (fun _ i _ => n - (intOf i).toNat)
  case atStart => exact ⟨0, by omega, rfl, by simp, hown, gb_refl _ _⟩
  case round =>
    obtain ⟨j, hj, rfl, rfl, hownr, hg⟩ := hrel
    by_cases hlt : j < n
    · have hform := hownr.form (by omega)
      obtain ⟨g, cap, hv, hbg, hgl⟩ := hform
      have hA : A = some ⟨g, 0, none⟩ ∧ c = cap := by injection hv; exact ⟨by assumption, by assumption⟩
      obtain ⟨rfl, rfl⟩ := hA
      have hcell : ∃ u, wr.cell? ⟨g, j, none⟩ = some u := ⟨_, (hownr.cellAt j (by omega)).trans (List.getElem?_eq_getElem (by rw [List.length_append, List.length_map, markL_length, List.length_drop, HL.out]; omega))⟩
      obtain ⟨u, hu⟩ := hcell
      have hfr := hownr.frozenAt j
      have HS := hid (hownr.stored j)
      have HF := hid (mark_set k j n xs hlt HL.out)
      have hgo := hg
      clear hv
      go_wp2
      go_roundw
      case rel =>
        refine ⟨j + 1, by omega, by go_num, by go_num, ?_, gb_trans hgo (HS.out _).2⟩
        rw [← HF.out]
        exact (HS.out _).1
      case measure => simp [intOf]; omega
    · obtain rfl : j = n := by omega
      have hown' := hownr
      rw [List.drop_of_length_le (by rw [HL.out]; omega), List.append_nil] at hown'
      go_wp2
      go_ret
      exact ⟨rfl, hown', hg⟩

theorem heldByteS_any (A : Option Addr) (n c : Nat) (k : Int) (w : World) (hr : Rd w A ((markL k n).map (.int .u8))) (hk0 : 0 ≤ k) (hk1 : k ≤ 1000000000) (hn : n ≤ 1000000000) :
    Calls Try.prog 17 #[.slice A n c, .int .i64 k] w fun e w' => e = .returned (.int .i64 (k + n)) ∧ w = w' := by
  go_enter Try.func17, Try.ntmps17
  go_wp2
  go_loop [1, 5] (fun q i => ∃ j : Nat, j ≤ n ∧ i = .int .i64 j ∧ q = .int .i64 (k + j)) (fun _ i => n - (intOf i).toNat)
  case atStart => exact ⟨0, by omega, rfl, by simp⟩
  case round =>
    obtain ⟨j, hj, rfl, rfl⟩ := hrel
    by_cases hlt : j < n
    · obtain ⟨b, o, hA, hb, hc⟩ := hr j (by rw [List.length_map, markL_length]; exact hlt)
      subst hA
      have hcx : w.cell? ⟨b, o + j, none⟩ = some (.int .u8 (IntKind.u8.wrap (k + j))) := by rw [hc, List.getElem?_map, markL_at k n j hlt]; rfl
      clear hc
      go_wp2
      go_round
      case rel => exact ⟨j + 1, by omega, by go_num, by go_num⟩
      case measure => simp [intOf]; omega
    · obtain rfl : j = n := by omega
      go_wp2
      go_ret
      exact ⟨rfl, rfl⟩
end Go.Proofs.Ytdbliaechmjemaa
