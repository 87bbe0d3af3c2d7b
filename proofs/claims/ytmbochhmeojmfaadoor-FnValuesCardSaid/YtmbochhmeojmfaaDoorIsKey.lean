/- The walks of IsKey, and of its law. -/
import Derived.Test.YtmbochhmeojmfaaDoorLTextKey
namespace Go.Proofs.YtmbochhmeojmfaaDoor
set_option maxRecDepth 20000
open Go.RowKit
set_option linter.unusedVariables false

def IsK (t : Bool) (n : Int) (s : ByteArray) (x : Bool) : Prop :=
  (t = false ∧ x = (decide (-1000000000 ≤ n ∧ n ≤ 1000000000) && decide (s = ByteArray.empty))) ∨
  (t = true ∧ ∃ r b, Says s (-1000000000) 1000000000 r b ∧ x = (decide (n = 0) && decide (s.size ≤ 400) && !b))
theorem IsK.unique {t : Bool} {n : Int} {s : ByteArray} {x y : Bool} (h : IsK t n s x) (h' : IsK t n s y) : x = y := by
  rcases h with ⟨rfl, rfl⟩ | ⟨rfl, r, b, h, rfl⟩ <;> rcases h' with ⟨h1, rfl⟩ | ⟨h1, r', b', h2, rfl⟩
  · rfl
  · cases h1
  · cases h1
  · obtain ⟨rfl, rfl⟩ := Says.unique (by omega) (by omega) h h2
    rfl
theorem IsK.int {n : Int} {s : ByteArray} {x p q : Bool} (hp : decide (-1000000000 ≤ n ∧ n ≤ 1000000000) = p) (hq : decide (s = ByteArray.empty) = q) (hx : x = (p && q)) : IsK false n s x := .inl ⟨rfl, by rw [hp, hq]; exact hx⟩
theorem IsK.text {n : Int} {s : ByteArray} {x p q b : Bool} {r : Int} (hS : Says s (-1000000000) 1000000000 r b) (hp : decide (n = 0) = p) (hq : decide (s.size ≤ 400) = q) (hx : x = (p && q && !b)) : IsK true n s x := .inr ⟨rfl, r, b, hS, by rw [hp, hq]; exact hx⟩
theorem str_full {s : ByteArray} (h : s ≠ ByteArray.empty) : s.toList.isEmpty = false := by
  rw [ByteArray.toList_eq]
  cases hl : s.data.toList with
  | nil => exact absurd (ByteArray.ext (Array.toList_inj.1 hl)) h
  | cons c r => rfl
theorem inRange_t (x a b : Int) (w : World) (h1 : a ≤ x) (h2 : x ≤ b) :
    Calls Tryd.prog 37 #[.int .i64 x, .int .i64 a, .int .i64 b] w fun e w' => e = .returned (.bool true) ∧ w = w' := by
  have hd1 : decide (a ≤ x) = true := by simpa using h1
  have hd2 : decide (x ≤ b) = true := by simpa using h2
  go_enter Tryd.func37, Tryd.ntmps37
  go_wp2
  go_ret
  exact ⟨rfl, rfl⟩
theorem inRange_f (x a b : Int) (w : World) (h : x < a ∨ b < x) :
    Calls Tryd.prog 37 #[.int .i64 x, .int .i64 a, .int .i64 b] w fun e w' => e = .returned (.bool false) ∧ w = w' := by
  by_cases h1 : a ≤ x
  · have hd1 : decide (a ≤ x) = true := by simpa using h1
    have hd2 : decide (x ≤ b) = false := by simp; omega
    go_enter Tryd.func37, Tryd.ntmps37
    go_wp2
    go_ret
    exact ⟨rfl, rfl⟩
  · have hd1 : decide (a ≤ x) = false := by simp; omega
    go_enter Tryd.func37, Tryd.ntmps37
    go_wp2
    go_ret
    exact ⟨rfl, rfl⟩
def IsKPost (t : Bool) (n : Int) (s : ByteArray) (w : World) (e : Ending) (w' : World) : Prop := ∃ x, e = .returned (.bool x) ∧ IsK t n s x ∧ w.grownBy w' none
theorem specIsKey_f (n : Int) (s : ByteArray) (w : World) : Calls Tryd.prog 43 #[.agg #[.bool false, .int .i64 n, .string s]] w (IsKPost false n s w) := by
  have H0 := hid (HoldsT.new w #[.bool false, .int .i64 n, .string s] 33)
  by_cases hn : -1000000000 ≤ n ∧ n ≤ 1000000000
  · have HP := hid (decide_eq_true hn)
    have HN := hid hn
    clear hn
    by_cases hs : s = ByteArray.empty
    · have HQ := hid (decide_eq_true hs)
      subst hs
      go_enter Tryd.func43, Tryd.ntmps43
      go_wp2_with (go_at_call 61; refine (l1In_t _ _ _ _ HN.out.1 HN.out.2).mono ?_; rintro e w' ⟨rfl, rfl⟩)
      go_ret
      exact ⟨true, rfl, .int HP.out HQ.out rfl, gb_alloc (gb_refl _ _) _⟩
    · have HQ := hid (decide_eq_false hs)
      have q1 := str_full hs
      clear hs
      go_enter Tryd.func43, Tryd.ntmps43
      go_wp2_with (go_at_call 61; refine (l1In_t _ _ _ _ HN.out.1 HN.out.2).mono ?_; rintro e w' ⟨rfl, rfl⟩)
      go_ret
      exact ⟨false, rfl, .int HP.out HQ.out rfl, gb_alloc (gb_refl _ _) _⟩
  · have HP := hid (decide_eq_false hn)
    have HN : Hid (n < -1000000000 ∨ 1000000000 < n) := hid (by omega)
    clear hn
    go_enter Tryd.func43, Tryd.ntmps43
    go_wp2_with (go_at_call 61; refine (l1In_f _ _ _ _ HN.out).mono ?_; rintro e w' ⟨rfl, rfl⟩)
    go_ret
    exact ⟨false, rfl, .int HP.out rfl rfl, gb_alloc (gb_refl _ _) _⟩
theorem implIsKey_f (n : Int) (s : ByteArray) (w : World) : Calls Tryd.prog 47 #[.agg #[.bool false, .int .i64 n, .string s]] w (IsKPost false n s w) := by
  by_cases hs : s = ByteArray.empty
  · have HQ := hid (decide_eq_true hs)
    subst hs
    by_cases hn : -1000000000 ≤ n ∧ n ≤ 1000000000
    · have HP := hid (decide_eq_true hn)
      have HN := hid hn
      clear hn
      go_enter Tryd.func47, Tryd.ntmps47
      go_wp2_with (go_at_call 37; refine (inRange_t _ _ _ _ HN.out.1 HN.out.2).mono ?_; rintro e w' ⟨rfl, rfl⟩)
      go_ret
      exact ⟨true, rfl, .int HP.out HQ.out rfl, gb_alloc (gb_refl _ _) _⟩
    · have HP := hid (decide_eq_false hn)
      have HN : Hid (n < -1000000000 ∨ 1000000000 < n) := hid (by omega)
      clear hn
      go_enter Tryd.func47, Tryd.ntmps47
      go_wp2_with (go_at_call 37; refine (inRange_f _ _ _ _ HN.out).mono ?_; rintro e w' ⟨rfl, rfl⟩)
      go_ret
      exact ⟨false, rfl, .int HP.out HQ.out rfl, gb_alloc (gb_refl _ _) _⟩
  · have HQ := hid (decide_eq_false hs)
    have q1 := str_full hs
    clear hs
    go_enter Tryd.func47, Tryd.ntmps47
    go_wp2_with fail
    go_ret
    exact ⟨false, rfl, .int (p := decide (-1000000000 ≤ n ∧ n ≤ 1000000000)) rfl HQ.out (by simp), gb_alloc (gb_refl _ _) _⟩
theorem specIsKey_t (n : Int) (s : ByteArray) (w : World) (hs : s.size ≤ 1048576) : Calls Tryd.prog 43 #[.agg #[.bool true, .int .i64 n, .string s]] w (IsKPost true n s w) := by
  go_enter Tryd.func43, Tryd.ntmps43
  go_wp2_with fail
  refine (specSigned s _ hs).mono ?_
  rintro e w1 ⟨r, b, rfl, hS, hg⟩
  have HS := hid hS
  have HG := hid hg
  have H1 := hid ((HoldsT.new w #[.bool true, .int .i64 n, .string s] 33).grow hg)
  obtain ⟨c0, c1, c2⟩ := H1.out.cells3
  have lt := H1.out.lt
  clear hS hg
  by_cases hn : n = 0
  · subst hn
    by_cases hz : s.size ≤ 400
    · have HQ := hid (decide_eq_true hz)
      go_wp2_with fail
      go_ret
      exact ⟨!b, rfl, .text HS.out (p := true) rfl HQ.out (by simp), gb_trans (gb_alloc (gb_refl _ _) _) HG.out⟩
    · have HQ := hid (decide_eq_false hz)
      have hz2 : 400 < s.size := by omega
      clear hz
      go_wp2_with fail
      go_ret
      exact ⟨false, rfl, .text HS.out (p := true) rfl HQ.out (by simp), gb_trans (gb_alloc (gb_refl _ _) _) HG.out⟩
  · have HP := hid (decide_eq_false hn)
    have e2 : (n == 0) = false := by simp; omega
    clear hn
    go_wp2_with fail
    go_ret
    exact ⟨false, rfl, .text HS.out HP.out (q := decide (s.size ≤ 400)) rfl (by simp), gb_trans (gb_alloc (gb_refl _ _) _) HG.out⟩
theorem implIsKey_t (n : Int) (s : ByteArray) (w : World) (hs : s.size ≤ 1048576) (hL : LaidW w) : Calls Tryd.prog 47 #[.agg #[.bool true, .int .i64 n, .string s]] w (IsKPost true n s w) := by
  have HL := hid hL
  clear hL
  go_enter Tryd.func47, Tryd.ntmps47
  go_wp2_with fail
  refine (implSigned s _ hs (HL.out.grow (gb_alloc (gb_refl _ _) _))).mono ?_
  rintro e w1 ⟨r, b, rfl, hS, hg⟩
  have HS := hid hS
  have HG := hid hg
  have H1 := hid ((HoldsT.new w #[.bool true, .int .i64 n, .string s] 33).grow hg)
  obtain ⟨c0, c1, c2⟩ := H1.out.cells3
  have lt := H1.out.lt
  clear hS hg
  by_cases hn : n = 0
  · subst hn
    by_cases hz : s.size ≤ 400
    · have HQ := hid (decide_eq_true hz)
      go_wp2_with fail
      go_ret
      exact ⟨!b, rfl, .text HS.out (p := true) rfl HQ.out (by simp), gb_trans (gb_alloc (gb_refl _ _) _) HG.out⟩
    · have HQ := hid (decide_eq_false hz)
      have hz2 : 400 < s.size := by omega
      clear hz
      go_wp2_with fail
      go_ret
      exact ⟨false, rfl, .text HS.out (p := true) rfl HQ.out (by simp), gb_trans (gb_alloc (gb_refl _ _) _) HG.out⟩
  · have HP := hid (decide_eq_false hn)
    have e2 : (n == 0) = false := by simp; omega
    clear hn
    go_wp2_with fail
    go_ret
    exact ⟨false, rfl, .text HS.out HP.out (q := decide (s.size ≤ 400)) rfl (by simp), gb_trans (gb_alloc (gb_refl _ _) _) HG.out⟩
theorem specIsKey (t : Bool) (n : Int) (s : ByteArray) (w : World) (hs : s.size ≤ 1048576) : Calls Tryd.prog 43 #[.agg #[.bool t, .int .i64 n, .string s]] w (IsKPost t n s w) := by
  cases t
  · exact specIsKey_f n s w
  · exact specIsKey_t n s w hs
theorem implIsKey (t : Bool) (n : Int) (s : ByteArray) (w : World) (hs : s.size ≤ 1048576) (hL : LaidW w) : Calls Tryd.prog 47 #[.agg #[.bool t, .int .i64 n, .string s]] w (IsKPost t n s w) := by
  cases t
  · exact implIsKey_f n s w
  · exact implIsKey_t n s w hs hL
end Go.Proofs.YtmbochhmeojmfaaDoor
