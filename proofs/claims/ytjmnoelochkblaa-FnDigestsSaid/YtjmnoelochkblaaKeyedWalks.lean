/- The walks of KeyedHash and its law. -/
import Derived.Test.YtjmnoelochkblaaIntSWalks
namespace Go.Proofs.Ytjmnoelochkblaa
open Go.RowKit

theorem i64_one (n : Int) : ∀ u ∈ [Value.int .i64 n], u.oneCell' = true := by
  intro u hu
  obtain rfl : u = _ := by simpa using hu
  rfl

def keyed (key : Int) (zs : List Int) : Int := hashL ((([key] ++ zs) ++ [key]).map (modOf · 2147483647))

theorem specKeyed_any (key : Int) (A : Option Addr) (n c : Nat) (zs : List Int) (w : World) (hr : Rd w A (zs.map (.int .i64))) (hnn : zs.length = n) (hn : n ≤ 4194304) (hA : A = none → c = 0) :
    Calls Try.prog 32 #[.int .i64 key, .slice A n c] w fun e w' => e = .returned (.int .i64 (keyed key zs)) ∧ w.grownBy w' none := by
  obtain ⟨i0, hi, hz0, hz1, hz2⟩ := info_parts Try.info3
  have HL := hid hnn
  have HA := hid hA
  have hown0 := World.ownsRow_lit (base := w.heap.size) (e := 3) (size := 1) w #[.int .i64 key] 1 (Nat.le_refl _) (by unfold maxLen; omega) rfl
  have hr0 : Rd (w.alloc (.cells #[.int .i64 key] 3)) A (zs.map (.int .i64)) := hr.grow (gb_alloc (gb_refl _ _) _)
  clear hnn hA
  go_enter Try.func32, Try.ntmps32
  go_wp2_with (first | (at_builtin; refine wpList_app _ rfl _ _ _ rfl w.heap.size 3 i0 (.int .i64 0) 8 Try.underlying30 hi hz0 hz1 hz2 rfl _ 1 [.int .i64 key] rfl hown0 A n c (zs.map (.int .i64)) rfl (by rw [List.length_map]; exact HL.out.symm) HA.out hr0 (ints_one _ _) (by rw [List.length_map, HL.out]; unfold maxLen; omega) (by rw [List.length_map, HL.out]; omega) (by simp) ?_; intro A1 c1 w1 hown1 hA1 hg1 hat1; have hs1 : w.heap.size ≤ w1.heap.size := Nat.le_trans (by simp) hg1.size) | (at_builtin; refine wpList_app _ rfl _ _ _ rfl w.heap.size 3 i0 (.int .i64 0) 8 Try.underlying30 hi hz0 hz1 hz2 rfl _ (1 + n) _ rfl (hown1.alloc _) _ 1 1 [.int .i64 key] rfl rfl (by simp) (Rd.one _ _ _) (i64_one _) (by unfold maxLen; simp; omega) (by simp; omega) (by simp; omega) ?_; intro A2 c2 w2 hown2 hA2 hg2 hat2) | fail)
  refine (specHash_any _ _ _ (([key] ++ zs) ++ [key]) _ ?_ ?_ (by omega)).mono ?_
  · have := Rd.own hown2
    simpa using this
  · simp [HL.out]; omega
  rintro e w3 ⟨he, rfl⟩
  have he' : e = .returned (.int .i64 (keyed key zs)) := he
  clear he
  subst he'
  go_wp2
  go_ret
  exact ⟨rfl, gb_new (gb_alloc (gb_new (gb_alloc (gb_refl _ _) _) hg1 (own_new hown0)) _) hg2 (own_new hown1)⟩
theorem implKeyed_any (key : Int) (A : Option Addr) (n c : Nat) (zs : List Int) (w : World) (hr : Rd w A (zs.map (.int .i64))) (hnn : zs.length = n) (hn : n ≤ 4194304) (hA : A = none → c = 0) :
    Calls Try.prog 33 #[.int .i64 key, .slice A n c] w fun e w' => e = .returned (.int .i64 (keyed key zs)) ∧ w.grownBy w' none := by
  obtain ⟨i0, hi, hz0, hz1, hz2⟩ := info_parts Try.info3
  have HL := hid hnn
  have HA := hid hA
  have hown0 := World.ownsRow_lit (base := w.heap.size) (e := 3) (size := 1) w #[.int .i64 key] 1 (Nat.le_refl _) (by unfold maxLen; omega) rfl
  have hr0 : Rd (w.alloc (.cells #[.int .i64 key] 3)) A (zs.map (.int .i64)) := hr.grow (gb_alloc (gb_refl _ _) _)
  clear hnn hA
  go_enter Try.func33, Try.ntmps33
  go_wp2_with (first | (at_builtin; refine wpList_app _ rfl _ _ _ rfl w.heap.size 3 i0 (.int .i64 0) 8 Try.underlying30 hi hz0 hz1 hz2 rfl _ 1 [.int .i64 key] rfl hown0 A n c (zs.map (.int .i64)) rfl (by rw [List.length_map]; exact HL.out.symm) HA.out hr0 (ints_one _ _) (by rw [List.length_map, HL.out]; unfold maxLen; omega) (by rw [List.length_map, HL.out]; omega) (by simp) ?_; intro A1 c1 w1 hown1 hA1 hg1 hat1; have hs1 : w.heap.size ≤ w1.heap.size := Nat.le_trans (by simp) hg1.size) | (at_builtin; refine wpList_app _ rfl _ _ _ rfl w.heap.size 3 i0 (.int .i64 0) 8 Try.underlying30 hi hz0 hz1 hz2 rfl _ (1 + n) _ rfl (hown1.alloc _) _ 1 1 [.int .i64 key] rfl rfl (by simp) (Rd.one _ _ _) (i64_one _) (by unfold maxLen; simp; omega) (by simp; omega) (by simp; omega) ?_; intro A2 c2 w2 hown2 hA2 hg2 hat2) | fail)
  refine (implHash_any _ _ _ (([key] ++ zs) ++ [key]) _ ?_ ?_ (by omega)).mono ?_
  · have := Rd.own hown2
    simpa using this
  · simp [HL.out]; omega
  rintro e w3 ⟨he, rfl⟩
  have he' : e = .returned (.int .i64 (keyed key zs)) := he
  clear he
  subst he'
  go_wp2
  go_ret
  exact ⟨rfl, gb_new (gb_alloc (gb_new (gb_alloc (gb_refl _ _) _) hg1 (own_new hown0)) _) hg2 (own_new hown1)⟩

theorem keyedHash_walk (a0 : Int) (a1 : Option Addr) (len1 cap1 : Nat) (z1 : List Int) (w : World) (_w0 : (Lit.int .i64 a0).wf = true) (w1 : IsRow .i64 w a1 len1 cap1 z1) :
    Calls Try.prog 12 #[.int .i64 a0, .slice a1 len1 cap1] w fun e w' => e = .returned (.bool true) ∧ Below w.heap.size w w' := by
  have hlen : len1 ≤ 9223372036854775807 := by
    rcases w1 with ⟨_, rfl, _⟩ | ⟨_, _, h1, h2, _⟩
    · omega
    · unfold maxLen at h2; omega
  obtain ⟨hr, hl⟩ := Rd.isRow w1
  by_cases h : len1 ≤ 1048576
  · have HR := hid hr
    clear hr w1
    go_enter Try.func12, Try.ntmps12
    go_wp2_with fail
    refine (toIntS_any _ _ _ _ _ HR.out hl (by omega)).mono ?_
    rintro e w1 ⟨rfl, ho1, hg1⟩
    go_wp2_with fail
    refine (specKeyed_any _ _ _ _ _ _ (Rd.own ho1) hl (by omega) (by simp)).mono ?_
    rintro e w2 ⟨rfl, hg2⟩
    go_wp2_with fail
    refine (toIntS_any _ _ _ _ _ ((HR.out.grow hg1).grow hg2) hl (by omega)).mono ?_
    rintro e w3 ⟨rfl, ho3, hg3⟩
    go_wp2_with fail
    refine (implKeyed_any _ _ _ _ _ _ (Rd.own ho3) hl (by omega) (by simp)).mono ?_
    rintro e w4 ⟨rfl, hg4⟩
    go_wp2_with fail
    refine (toIntS_any _ _ _ _ _ ((((HR.out.grow hg1).grow hg2).grow hg3).grow hg4) hl (by omega)).mono ?_
    rintro e w5 ⟨rfl, ho5, hg5⟩
    go_wp2_with fail
    refine (eqIntS_same _ _ _ _ _ _ _ (((Rd.own ho3).grow hg4).grow hg5) (Rd.own ho5) hl (by omega)).mono ?_
    rintro e w6 ⟨rfl, hg6⟩
    go_wp2
    go_ret
    exact ⟨rfl, gb_below (gb_trans (gb_trans (gb_trans (gb_trans (gb_trans hg1 hg2) hg3) hg4) hg5) hg6)⟩
  · go_enter Try.func12, Try.ntmps12
    go_wp2
    go_ret
    exact ⟨rfl, Below.refl _ _⟩
end Go.Proofs.Ytjmnoelochkblaa
