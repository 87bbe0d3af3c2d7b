/- The walks of EscapeHTML. -/
import Derived.Test.YtolefcbkhmcdmaaBytes
import Derived.Test.YtolefcbkhmcdmaaEscMath
namespace Go.Proofs.Ytolefcbkhmcdmaa
open Go.RowKit

/-- A call that hands back the string of L and writes nothing that was there. -/
def GivesStr (L : List Int) (w : World) (e : Ending) (w' : World) : Prop := e = .returned (.string (strOf L)) ∧ w.grownBy w' none

theorem l4Entity_any (c : Int) (w : World) (h0 : 0 ≤ c) (h1 : c ≤ 255) :
    Calls Try.prog 38 #[.int .u8 c] w (GivesStr (ent c) w) := by
  by_cases h : c = 38 ∨ c = 60 ∨ c = 62 ∨ c = 34 ∨ c = 39
  · rcases h with rfl | rfl | rfl | rfl | rfl
    all_goals
      go_enter Try.func38, Try.ntmps38
      go_wp2
      go_ret
      exact ⟨rfl, gb_refl _ _⟩
  · have e1 : (c == 38) = false := by simp; omega
    have e2 : (c == 60) = false := by simp; omega
    have e3 : (c == 62) = false := by simp; omega
    have e4 : (c == 34) = false := by simp; omega
    have e5 : (c == 39) = false := by simp; omega
    have HE : Hid (ent c = [c]) := by show _ = _; unfold ent; rw [if_neg (by omega), if_neg (by omega), if_neg (by omega), if_neg (by omega), if_neg (by omega)]
    have kc := fun (W : World) (c : Int) => run_conv_one (P := Try.prog) W 28 5 9 c Try.underlying28 Try.underlying5 Try.underlying9
    rw [show ent c = [c] from HE.out]
    go_enter Try.func38, Try.ntmps38
    go_wp2
    go_ret
    exact ⟨rfl, gb_alloc (gb_refl _ _) _⟩

theorem specEscHtml_any (s : ByteArray) (w : World) (hs : s.size ≤ 1048576) :
    Calls Try.prog 16 #[.string s] w (GivesStr (escAll ent (bytesI s)) w) := by
  go_enter Try.func16, Try.ntmps16
  go_wp2
  go_loopw [3, 4] (fun t i wr => ∃ k : Nat, k ≤ s.size ∧ i = .int .i64 k ∧ t = .string (strOf (escAll ent ((bytesI s).take k))) ∧ w.grownBy wr none) (fun _ i _ => s.size - (intOf i).toNat)
  case atStart => exact ⟨0, Nat.zero_le _, rfl, rfl, gb_refl _ _⟩
  case round =>
    obtain ⟨k, hk, rfl, rfl, hg⟩ := hrel
    by_cases hlt : k < s.size
    · have h256 : (s[k].toNat : Int) < 256 := by have := s[k].toNat_lt; omega
      have HT : Hid (escAll ent ((bytesI s).take (k + 1)) = escAll ent ((bytesI s).take k) ++ ent (s[k].toNat : Int)) := by show _ = _; rw [bytesI_take s k hlt, escAll_snoc]
      have hz1 : (strOf (escAll ent ((bytesI s).take k))).size ≤ 6291456 := by
        rw [strOf_size]; have := escAll_length ent ent_length ((bytesI s).take k); rw [List.length_take, bytesI_length] at this; omega
      have hz2 : (strOf (ent (s[k].toNat : Int))).size ≤ 6 := by rw [strOf_size]; exact ent_length _
      go_wp2_with fail
      refine (l4Entity_any _ _ (by omega) (by omega)).mono ?_
      rintro e w1 ⟨rfl, hg1⟩
      go_wp2
      go_roundw
      case rel => exact ⟨k + 1, by omega, by go_num, by rw [HT.out, strOf_app], gb_trans hg hg1⟩
      case measure => simp [intOf]; omega
    · have HS := hid (bytesI_all s k (by omega))
      go_wp2
      go_ret
      exact ⟨ret_str (by rw [HS.out]), hg⟩

def Special (c : Int) : Prop := c = 38 ∨ c = 60 ∨ c = 62 ∨ c = 34 ∨ c = 39
theorem ent_plain (c : Int) (h : ¬ Special c) : ent c = [c] := by
  unfold Special at h
  unfold ent
  rw [if_neg (by omega), if_neg (by omega), if_neg (by omega), if_neg (by omega), if_neg (by omega)]
theorem ent_bd (c : Int) (h0 : 0 ≤ c) (h1 : c ≤ 255) : ∀ x ∈ ent c, 0 ≤ x ∧ x ≤ 255 := by
  unfold ent
  (repeat' split) <;> (intro x hx; simp at hx; omega)
theorem entityOf_sp (c : Int) (w : World) (h : Special c) :
    Calls Try.prog 39 #[.int .u8 c] w fun e w' => e = .returned (.string (strOf (ent c))) ∧ w = w' := by
  rcases h with rfl | rfl | rfl | rfl | rfl
  all_goals
    go_enter Try.func39, Try.ntmps39
    go_wp2
    go_ret
    exact ⟨rfl, rfl⟩
theorem entityOf_no (c : Int) (w : World) (h : ¬ Special c) :
    Calls Try.prog 39 #[.int .u8 c] w fun e w' => e = .returned (.string ByteArray.empty) ∧ w = w' := by
  unfold Special at h
  have e1 : (c == 38) = false := by simp; omega
  have e2 : (c == 60) = false := by simp; omega
  have e3 : (c == 62) = false := by simp; omega
  have e4 : (c == 34) = false := by simp; omega
  have e5 : (c == 39) = false := by simp; omega
  go_enter Try.func39, Try.ntmps39
  go_wp2
  go_ret
  exact ⟨rfl, rfl⟩
theorem ent_some (c : Int) : (strOf (ent c)).toList.isEmpty = false := by
  rw [ByteArray.toList_eq]
  unfold ent
  (repeat' split) <;> rfl
theorem strCells_strOf (l : List Int) (h : ∀ x ∈ l, 0 ≤ x ∧ x ≤ 255) : Lib.strCells (strOf l) = l.map (Value.int .u8) := by rw [strCells_bytesI, bytesI_strOf l h]

theorem implEscHtml_any (s : ByteArray) (w : World) (hs : s.size ≤ 1048576) :
    Calls Try.prog 17 #[.string s] w (GivesStr (escAll ent (bytesI s)) w) := by
  obtain ⟨i0, hi, hz0, hz1, hz2⟩ := info_parts Try.infoU8
  go_enter Try.func17, Try.ntmps17
  go_wp2
  go_loopw [3, 4, 5] (fun v i _ wr => ∃ k : Nat, k ≤ s.size ∧ i = .int .i64 k ∧ ∃ (A : Option Addr) (j c : Nat), v = .slice A j c ∧ j ≤ 6 * k ∧ wr.ownsRow w.heap.size 5 1 (.slice A j c) j ((escAll ent ((bytesI s).take k)).map (.int .u8)) ∧ w.grownBy wr none) (fun _ i _ _ => s.size - (intOf i).toNat)
  case atStart => exact ⟨0, Nat.zero_le _, rfl, _, 0, _, rfl, by omega, World.ownsRow_lit (base := w.heap.size) (e := 5) (size := 1) w #[] 0 (Nat.le_refl _) (by unfold maxLen; omega) rfl, gb_alloc (gb_refl _ _) _⟩
  case round =>
    obtain ⟨k, hk, rfl, A, j, c, rfl, hj, hown, hg⟩ := hrel
    have hsz := hg.size
    by_cases hlt : k < s.size
    · have h256 : (s[k].toNat : Int) < 256 := by have := s[k].toNat_lt; omega
      have HT : Hid (escAll ent ((bytesI s).take (k + 1)) = escAll ent ((bytesI s).take k) ++ ent (s[k].toNat : Int)) := by show _ = _; rw [bytesI_take s k hlt, escAll_snoc]
      by_cases hsp : Special (s[k].toNat : Int)
      · have HSP := hid hsp
        have he := ent_some (s[k].toNat : Int)
        have hel : (strOf (ent (s[k].toNat : Int))).size ≤ 6 := by rw [strOf_size]; exact ent_length _
        have HEB := hid (ent_bd (s[k].toNat : Int) (by omega) (by omega))
        clear hsp
        go_wp2_with (first | (go_at_call 39; refine (entityOf_sp _ _ HSP.out).mono ?_; rintro e w' ⟨rfl, rfl⟩) | (at_builtin; refine Lib.wpList_append_own_string _ rfl _ _ _ _ rfl w.heap.size 5 i0 Try.underlying28 Try.underlying9 hi hz0 hz1 hz2 _ j _ rfl hown (strOf (ent (s[k].toNat : Int))) rfl (by unfold maxLen; omega) (by omega) hsz ?_; intro v2 w2 hown2 hg2 hnil; obtain ⟨A2, c2, hv2, hA2⟩ := own_form hown2; subst hv2; clear hnil))
        go_roundw
        case rel =>
          refine ⟨k + 1, by omega, by go_num, A2, _, c2, rfl, by omega, ?_, gb_new hg hg2 (own_new hown)⟩
          rw [HT.out, List.map_append, ← strCells_strOf _ HEB.out]
          exact hown2
        case measure => simp [intOf]; omega
      · have HSP := hid hsp
        have HE := hid (ent_plain _ hsp)
        clear hsp
        go_wp2_with (first | (go_at_call 39; refine (entityOf_no _ _ HSP.out).mono ?_; rintro e w' ⟨rfl, rfl⟩) | (at_builtin; refine wpList_app _ rfl _ _ _ rfl w.heap.size 5 i0 (.int .u8 0) 1 Try.underlying28 hi hz0 hz1 hz2 rfl _ j _ rfl (hown.alloc _) _ 1 1 [.int .u8 (s[k].toNat : Int)] rfl rfl (by simp) (Rd.one _ _ _) (u8_one _) (by unfold maxLen; simp; omega) (by simp; omega) (by simp; omega) ?_; intro A3 c3 w3 hown3 hA3 hg3 hat3))
        go_roundw
        case rel =>
          refine ⟨k + 1, by omega, by go_num, A3, _, c3, rfl, by omega, ?_, gb_new (gb_alloc hg _) hg3 (own_new hown)⟩
          rw [HT.out, HE.out, List.map_append]
          exact hown3
        case measure => simp [intOf]; omega
    · have HS := hid (bytesI_all s k (by omega))
      have kc := run_conv_rd (P := Try.prog) wr 28 5 9 A j c (escAll ent ((bytesI s).take k)) Try.underlying28 Try.underlying5 Try.underlying9 (Rd.own hown) (by have := hown.1; rw [List.length_map] at this; omega)
      clear hown
      go_wp2
      go_ret
      exact ⟨ret_str (by rw [HS.out]), hg⟩
theorem escapeHTML_walk (a0 : ByteArray) (w : World) (_w0 : a0.size ≤ maxLen) : Calls Try.prog 5 #[.string a0] w fun e w' => e = .returned (.bool true) ∧ Below w.heap.size w w' := by
  unfold maxLen at _w0
  by_cases h : a0.size ≤ 1048576
  · go_enter Try.func5, Try.ntmps5
    go_wp2_with fail
    refine (specEscHtml_any _ _ h).mono ?_
    rintro e w1 ⟨rfl, hg1⟩
    go_wp2_with fail
    refine (implEscHtml_any _ _ h).mono ?_
    rintro e w2 ⟨rfl, hg2⟩
    go_wp2
    go_ret
    exact ⟨rfl, gb_below (gb_trans hg1 hg2)⟩
  · go_enter Try.func5, Try.ntmps5
    go_wp2
    go_ret
    exact ⟨rfl, Below.refl _ _⟩
end Go.Proofs.Ytolefcbkhmcdmaa
