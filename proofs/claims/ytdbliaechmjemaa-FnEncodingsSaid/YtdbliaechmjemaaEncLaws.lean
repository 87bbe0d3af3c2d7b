/- The laws of the encodings, one for each exported function. -/
import Derived.Test.YtdbliaechmjemaaEncWalks2
import Derived.OpenShut
namespace Go.Proofs.Ytdbliaechmjemaa
open Go.RowKit

theorem isBytes_row {w : World} {a : Option Addr} {len cap : Nat} {zs : List Int} (h : IsRow .u8 w a len cap zs) : IsBytes (zs.take len) := by
  intro x hx
  rcases h with ⟨_, _, _, rfl⟩ | ⟨_, _, _, _, _, _, hw⟩
  · simp at hx
  · exact bounds_u8 (hw x (List.mem_of_mem_take hx))

theorem readUvarint_walk (a0 : Option Addr) (len0 cap0 : Nat) (z0 : List Int) (a1 : Int) (w : World) (w0 : IsRow .u8 w a0 len0 cap0 z0) (_w1 : (Lit.int .i64 a1).wf = true) :
    Calls Try.prog 3 #[.slice a0 len0 cap0, .int .i64 a1] w fun e w' => e = .returned (.bool true) ∧ Below w.heap.size w w' := by
  have hlen : len0 ≤ 9223372036854775807 := by
    rcases w0 with ⟨_, rfl, _⟩ | ⟨_, _, h1, h2, _⟩
    · omega
    · unfold maxLen at h2; omega
  obtain ⟨hr, hl⟩ := Rd.isRow w0
  have HB := hid (isBytes_row w0)
  clear w0
  by_cases h : len0 ≤ 1048576
  · have HL := hid hl
    have HR := hid hr
    clear hr hl
    obtain ⟨x, y, z, hR⟩ : ∃ x y z, readU (z0.take len0) a1 = (x, y, z) := ⟨_, _, _, rfl⟩
    have HQ := hid hR
    clear hR
    go_enter Try.func3, Try.ntmps3
    go_wp2_with fail
    refine (toByteS_any _ _ _ _ _ HR.out HL.out (by omega)).mono ?_
    rintro e w1 ⟨rfl, ho1, hg1⟩
    have H1 := hid ho1
    have G1 := hid hg1
    clear ho1 hg1
    go_wp2_with fail
    refine (specReadU_any _ _ _ _ _ _ (Rd.own H1.out) HL.out (by omega) HB.out _ _ _ HQ.out).mono ?_
    rintro e w' ⟨rfl, rfl⟩
    go_wp2_with fail
    refine (toByteS_any _ _ _ _ _ (HR.out.grow G1.out) HL.out (by omega)).mono ?_
    rintro e w2 ⟨rfl, ho2, hg2⟩
    have H2 := hid ho2
    have G2 := hid hg2
    clear ho2 hg2
    go_wp2_with fail
    refine (implReadU_any _ _ _ _ _ _ (Rd.own H2.out) HL.out (by omega) HB.out _ _ _ HQ.out).mono ?_
    rintro e w' ⟨rfl, rfl⟩
    go_wp2_with fail
    refine (toByteS_any _ _ _ _ _ ((HR.out.grow G1.out).grow G2.out) HL.out (by omega)).mono ?_
    rintro e w3 ⟨rfl, ho3, hg3⟩
    have H3 := hid ho3
    have G3 := hid hg3
    clear ho3 hg3
    go_wp2_with fail
    refine (eqByteS_same _ _ _ _ _ _ _ (Rd.own (own_grow H2.out G3.out)) (Rd.own H3.out) HL.out (by omega)).mono ?_
    rintro e w4 ⟨rfl, hg4⟩
    go_wp2
    go_ret
    exact ⟨rfl, gb_below (gb_trans (gb_trans (gb_trans G1.out G2.out) G3.out) hg4)⟩
  · go_enter Try.func3, Try.ntmps3
    go_wp2
    go_ret
    exact ⟨rfl, Below.refl _ _⟩

theorem readSigned_walk (a0 : Option Addr) (len0 cap0 : Nat) (z0 : List Int) (a1 : Int) (w : World) (w0 : IsRow .u8 w a0 len0 cap0 z0) (_w1 : (Lit.int .i64 a1).wf = true) :
    Calls Try.prog 8 #[.slice a0 len0 cap0, .int .i64 a1] w fun e w' => e = .returned (.bool true) ∧ Below w.heap.size w w' := by
  have hlen : len0 ≤ 9223372036854775807 := by
    rcases w0 with ⟨_, rfl, _⟩ | ⟨_, _, h1, h2, _⟩
    · omega
    · unfold maxLen at h2; omega
  obtain ⟨hr, hl⟩ := Rd.isRow w0
  have HB := hid (isBytes_row w0)
  clear w0
  by_cases h : len0 ≤ 1048576
  · have HL := hid hl
    have HR := hid hr
    clear hr hl
    obtain ⟨x, y, z, hR⟩ : ∃ x y z, readU (z0.take len0) a1 = (x, y, z) := ⟨_, _, _, rfl⟩
    have hx0 : 0 ≤ x := by
      cases z
      · have := (rdU_false _ 6 _ _ _ _ hR).1; omega
      · exact (rdU_bd _ HB.out 6 _ _ _ _ (by omega) hR).1
    have HQ := hid hR
    clear hR
    obtain ⟨x', y', z', hS⟩ : ∃ x' y' z', signed (x, y, z) = (x', y', z') := ⟨_, _, _, rfl⟩
    have HS := hid hS
    clear hS
    go_enter Try.func8, Try.ntmps8
    go_wp2_with fail
    refine (toByteS_any _ _ _ _ _ HR.out HL.out (by omega)).mono ?_
    rintro e w1 ⟨rfl, ho1, hg1⟩
    have H1 := hid ho1
    have G1 := hid hg1
    clear ho1 hg1
    go_wp2_with fail
    refine (specReadS_any _ _ _ _ _ _ (Rd.own H1.out) HL.out (by omega) HB.out _ _ _ hx0 HQ.out).mono ?_
    rw [HS.out]
    rintro e w' ⟨rfl, rfl⟩
    go_wp2_with fail
    refine (toByteS_any _ _ _ _ _ (HR.out.grow G1.out) HL.out (by omega)).mono ?_
    rintro e w2 ⟨rfl, ho2, hg2⟩
    have H2 := hid ho2
    have G2 := hid hg2
    clear ho2 hg2
    go_wp2_with fail
    refine (implReadS_any _ _ _ _ _ _ (Rd.own H2.out) HL.out (by omega) HB.out _ _ _ hx0 HQ.out).mono ?_
    rw [HS.out]
    rintro e w' ⟨rfl, rfl⟩
    go_wp2_with fail
    refine (toByteS_any _ _ _ _ _ ((HR.out.grow G1.out).grow G2.out) HL.out (by omega)).mono ?_
    rintro e w3 ⟨rfl, ho3, hg3⟩
    have H3 := hid ho3
    have G3 := hid hg3
    clear ho3 hg3
    go_wp2_with fail
    refine (eqByteS_same _ _ _ _ _ _ _ (Rd.own (own_grow H2.out G3.out)) (Rd.own H3.out) HL.out (by omega)).mono ?_
    rintro e w4 ⟨rfl, hg4⟩
    go_wp2
    go_ret
    exact ⟨rfl, gb_below (gb_trans (gb_trans (gb_trans G1.out G2.out) G3.out) hg4)⟩
  · go_enter Try.func8, Try.ntmps8
    go_wp2
    go_ret
    exact ⟨rfl, Below.refl _ _⟩

theorem readText_walk (a0 : Option Addr) (len0 cap0 : Nat) (z0 : List Int) (a1 a2 : Int) (w : World) (w0 : IsRow .u8 w a0 len0 cap0 z0) (_w1 : (Lit.int .i64 a1).wf = true) (_w2 : (Lit.int .i64 a2).wf = true) :
    Calls Try.prog 6 #[.slice a0 len0 cap0, .int .i64 a1, .int .i64 a2] w fun e w' => e = .returned (.bool true) ∧ Below w.heap.size w w' := by
  have hlen : len0 ≤ 9223372036854775807 := by
    rcases w0 with ⟨_, rfl, _⟩ | ⟨_, _, h1, h2, _⟩
    · omega
    · unfold maxLen at h2; omega
  obtain ⟨hr, hl⟩ := Rd.isRow w0
  have HB := hid (isBytes_row w0)
  clear w0
  by_cases h : len0 ≤ 1048576
  · have HL := hid hl
    have HR := hid hr
    clear hr hl
    obtain ⟨x', y', z', hS⟩ : ∃ x' y' z', textOf (z0.take len0) (readU (z0.take len0) a1) a2 = (x', y', z') := ⟨_, _, _, rfl⟩
    have HS := hid hS
    clear hS
    go_enter Try.func6, Try.ntmps6
    go_wp2_with fail
    refine (toByteS_any _ _ _ _ _ HR.out HL.out (by omega)).mono ?_
    rintro e w1 ⟨rfl, ho1, hg1⟩
    have H1 := hid ho1
    have G1 := hid hg1
    clear ho1 hg1
    go_wp2_with fail
    refine (specReadT_any _ _ _ _ _ _ _ (Rd.own H1.out) HL.out (by omega) (Nat.le_refl _) (by omega) HB.out).mono ?_
    rw [HS.out]
    rintro e w' ⟨rfl, rfl⟩
    go_wp2_with fail
    refine (toByteS_any _ _ _ _ _ (HR.out.grow G1.out) HL.out (by omega)).mono ?_
    rintro e w2 ⟨rfl, ho2, hg2⟩
    have H2 := hid ho2
    have G2 := hid hg2
    clear ho2 hg2
    go_wp2_with fail
    refine (implReadT_any _ _ _ _ _ _ _ (Rd.own H2.out) HL.out (by omega) (Nat.le_refl _) (by omega) HB.out).mono ?_
    rw [HS.out]
    rintro e w' ⟨rfl, rfl⟩
    go_wp2_with fail
    refine (toByteS_any _ _ _ _ _ ((HR.out.grow G1.out).grow G2.out) HL.out (by omega)).mono ?_
    rintro e w3 ⟨rfl, ho3, hg3⟩
    have H3 := hid ho3
    have G3 := hid hg3
    clear ho3 hg3
    go_wp2_with fail
    refine (eqByteS_same _ _ _ _ _ _ _ (Rd.own (own_grow H2.out G3.out)) (Rd.own H3.out) HL.out (by omega)).mono ?_
    rintro e w4 ⟨rfl, hg4⟩
    go_wp2
    go_ret
    exact ⟨rfl, gb_below (gb_trans (gb_trans (gb_trans G1.out G2.out) G3.out) hg4)⟩
  · go_enter Try.func6, Try.ntmps6
    go_wp2
    go_ret
    exact ⟨rfl, Below.refl _ _⟩

set_option maxRecDepth 100000 in
set_option maxHeartbeats 1000000 in
theorem appendUvarint_walk (a0 : Option Addr) (len0 cap0 : Nat) (z0 : List Int) (a1 : Int) (w : World) (w0 : IsRow .u8 w a0 len0 cap0 z0) (_w1 : (Lit.int .i64 a1).wf = true) :
    Calls Try.prog 4 #[.slice a0 len0 cap0, .int .i64 a1] w fun e w' => e = .returned (.bool true) ∧ Below w.heap.size w w' := by
  have hlen : len0 ≤ 9223372036854775807 := by
    rcases w0 with ⟨_, rfl, _⟩ | ⟨_, _, h1, h2, _⟩
    · omega
    · unfold maxLen at h2; omega
  obtain ⟨hr, hl⟩ := Rd.isRow w0
  clear w0
  by_cases h : len0 ≤ 1048576
  · have HL := hid hl
    have HR := hid hr
    clear hr hl
    have hml : (appU (z0.take len0) a1).length ≤ 3000000 := by
      have := HL.out; have := uvF_length 5 a1; unfold appU uv; split <;> simp <;> omega
    obtain ⟨L, hLL⟩ : ∃ L, L = appU (z0.take len0) a1 := ⟨_, rfl⟩
    rw [← hLL] at hml
    have HE := hid hLL
    clear hLL
    go_enter Try.func4, Try.ntmps4
    go_wp2_with fail
    refine (toByteS_any _ _ _ _ _ HR.out HL.out (by omega)).mono ?_
    rintro e w1 ⟨rfl, ho1, hg1⟩
    go_wp2_with fail
    refine (specAppU_any _ _ _ _ _ _ (Rd.own ho1) HL.out (by omega) (by simp)).mono ?_
    rintro e w2 ⟨A2, m, c2, rfl, hm2, hA2, ho2, hg2⟩
    rw [← HE.out] at hm2 ho2
    have hm3 : m ≤ 3000000 := by rw [← hm2]; exact hml
    have HM := hid hm2
    have H2 := hid ho2
    have G2 : Hid (w.grownBy w2 none) := gb_trans hg1 hg2
    have S2 : Hid (w1.heap.size ≤ w2.heap.size) := hg2.size
    clear ho1 hm2 ho2 hg1 hg2 hA2 hml
    go_wp2_with fail
    refine (toByteS_any _ _ _ _ _ (HR.out.grow G2.out) HL.out (by omega)).mono ?_
    rintro e w3 ⟨rfl, ho3, hg3⟩
    have H3 := hid ho3
    have G3 := hid hg3
    clear ho3 hg3
    go_wp2_with fail
    refine (implAppU_any _ _ _ _ _ _ (Rd.own H3.out) HL.out (by omega) (by simp)).mono ?_
    rintro e w4 ⟨A4, m4, c4, rfl, hm4, hA4, ho4, hg4⟩
    rw [← HE.out] at hm4 ho4
    obtain rfl : m4 = m := by rw [← hm4, HM.out]
    have H4 := hid ho4
    have G4 := hid hg4
    clear hm4 hA4 ho4 hg4
    have K2 := hid (own_grow (own_grow H2.out G3.out) G4.out)
    go_wp2_with fail
    refine (eqByteS_same _ _ _ _ _ L _ (Rd.own H4.out) (Rd.own K2.out) HM.out (by omega)).mono ?_
    rintro e w5 ⟨rfl, hg5⟩
    have G5 := hid hg5
    clear hg5
    have G25 : Hid (w2.grownBy w5 none) := gb_trans (gb_trans G3.out G4.out) G5.out
    go_wp2_with fail
    refine (toByteS_any _ _ _ _ _ ((HR.out.grow G2.out).grow G25.out) HL.out (by omega)).mono ?_
    rintro e w6 ⟨rfl, ho6, hg6⟩
    have H6 := hid ho6
    have G6 := hid hg6
    clear ho6 hg6
    have H36 := hid (own_grow (own_grow (own_grow H3.out G4.out) G5.out) G6.out)
    go_wp2_with fail
    refine (eqByteS_same _ _ _ _ _ _ _ (Rd.own H36.out) (Rd.own H6.out) HL.out (by omega)).mono ?_
    rintro e w7 ⟨rfl, hg7⟩
    have G7 := hid hg7
    clear hg7
    have H37 := hid (own_grow H36.out G7.out)
    have H47 := hid (own_grow (own_grow (own_grow H4.out G5.out) G6.out) G7.out)
    have H27 := hid (own_grow (own_grow (own_grow K2.out G5.out) G6.out) G7.out)
    have G27 : Hid (w2.grownBy w7 none) := gb_trans (gb_trans G25.out G6.out) G7.out
    go_wp2_with fail
    refine (markByteS_any _ _ _ _ _ 1 _ H37.out (by omega) (by omega) (by omega)).mono ?_
    rintro e w8 ⟨rfl, ho8, hg8⟩
    have G8 := hid hg8
    clear ho8 hg8
    have H48 := hid (own_kept H47.out G8.out (fun k hk hv => by have h2 : w2.heap.size = k := (by injection hk); have h3 := own_new H4.out k hv; have h5 : w2.heap.size < w3.heap.size := (H3.out.lt _ rfl).2; omega))
    have H28 := hid (own_kept H27.out G8.out (fun k hk hv => by have h2 : w2.heap.size = k := (by injection hk); have h3 := (H2.out.lt k hv).2; omega))
    go_wp2_with fail
    refine (eqByteS_same _ _ _ _ _ L _ (Rd.own H48.out) (Rd.own H28.out) HM.out (by omega)).mono ?_
    rintro e w9 ⟨rfl, hg9⟩
    have G9 := hid hg9
    clear hg9
    go_wp2_with fail
    refine (markByteS_any _ _ _ _ _ 1 _ (own_grow H48.out G9.out) (by omega) (by omega) (by omega)).mono ?_
    rintro e w10 ⟨rfl, ho10, hg10⟩
    have H10 := hid ho10
    have G10 := hid hg10
    clear ho10 hg10
    have H210 := hid (own_kept (own_grow H28.out G9.out) G10.out (fun k hk hv => by have h2 := own_new H4.out k hk; have h3 := (H2.out.lt k hv).2; have := G3.out.size; omega))
    go_wp2_with fail
    refine (heldByteS_any _ _ _ 1 _ (Rd.own H10.out) (by omega) (by omega) (by omega)).mono ?_
    rintro e w' ⟨rfl, rfl⟩
    have G210 : Hid (w2.grownBy w10 none) := gb_new (gb_trans (gb_new G27.out G8.out (fun k hk => by have h2 : w2.heap.size = k := (by injection hk); omega)) (gb_any G9.out)) G10.out (fun k hk => by have h2 := own_new H4.out k hk; have := G3.out.size; omega)
    go_wp2_with fail
    refine (toByteS_any _ _ _ _ _ ((HR.out.grow G2.out).grow G210.out) HL.out (by omega)).mono ?_
    rintro e w11 ⟨rfl, ho11, hg11⟩
    have H11 := hid ho11
    have G11 := hid hg11
    clear ho11 hg11
    go_wp2_with fail
    refine (implAppU_any _ _ _ _ _ _ (Rd.own H11.out) HL.out (by omega) (by simp)).mono ?_
    rintro e w12 ⟨A12, m12, c12, rfl, hm12, hA12, ho12, hg12⟩
    rw [← HE.out] at hm12 ho12
    obtain rfl : m12 = m4 := by rw [← hm12, HM.out]
    have H12 := hid ho12
    have G12 := hid hg12
    clear hm12 hA12 ho12 hg12
    have H212 := hid (own_grow (own_grow H210.out G11.out) G12.out)
    go_wp2_with fail
    refine (eqByteS_same _ _ _ _ _ L _ (Rd.own H12.out) (Rd.own H212.out) HM.out (by omega)).mono ?_
    rintro e w13 ⟨rfl, hg13⟩
    have G13 := hid hg13
    clear hg13
    have H1013 := hid (own_grow (own_grow (own_grow H10.out G11.out) G12.out) G13.out)
    go_wp2_with fail
    refine (heldByteS_any _ _ _ 1 _ (Rd.own H1013.out) (by omega) (by omega) (by omega)).mono ?_
    rintro e w' ⟨rfl, rfl⟩
    go_wp2
    go_ret
    exact ⟨rfl, gb_below (gb_trans (gb_trans (gb_trans (gb_trans G2.out G210.out) G11.out) G12.out) G13.out)⟩
  · go_enter Try.func4, Try.ntmps4
    go_wp2
    go_ret
    exact ⟨rfl, Below.refl _ _⟩

set_option maxRecDepth 100000 in
set_option maxHeartbeats 1000000 in
theorem appendSigned_walk (a0 : Option Addr) (len0 cap0 : Nat) (z0 : List Int) (a1 : Int) (w : World) (w0 : IsRow .u8 w a0 len0 cap0 z0) (_w1 : (Lit.int .i64 a1).wf = true) :
    Calls Try.prog 7 #[.slice a0 len0 cap0, .int .i64 a1] w fun e w' => e = .returned (.bool true) ∧ Below w.heap.size w w' := by
  have hlen : len0 ≤ 9223372036854775807 := by
    rcases w0 with ⟨_, rfl, _⟩ | ⟨_, _, h1, h2, _⟩
    · omega
    · unfold maxLen at h2; omega
  obtain ⟨hr, hl⟩ := Rd.isRow w0
  clear w0
  by_cases h : len0 ≤ 1048576
  · have HL := hid hl
    have HR := hid hr
    clear hr hl
    have hml : (appS (z0.take len0) a1).length ≤ 3000000 := by
      have := HL.out; have := uvF_length 5 (zig a1); unfold appS uv; split <;> simp <;> omega
    obtain ⟨L, hLL⟩ : ∃ L, L = appS (z0.take len0) a1 := ⟨_, rfl⟩
    rw [← hLL] at hml
    have HE := hid hLL
    clear hLL
    go_enter Try.func7, Try.ntmps7
    go_wp2_with fail
    refine (toByteS_any _ _ _ _ _ HR.out HL.out (by omega)).mono ?_
    rintro e w1 ⟨rfl, ho1, hg1⟩
    go_wp2_with fail
    refine (specAppS_any _ _ _ _ _ _ (Rd.own ho1) HL.out (by omega) (by simp)).mono ?_
    rintro e w2 ⟨A2, m, c2, rfl, hm2, hA2, ho2, hg2⟩
    rw [← HE.out] at hm2 ho2
    have hm3 : m ≤ 3000000 := by rw [← hm2]; exact hml
    have HM := hid hm2
    have H2 := hid ho2
    have G2 : Hid (w.grownBy w2 none) := gb_trans hg1 hg2
    have S2 : Hid (w1.heap.size ≤ w2.heap.size) := hg2.size
    clear ho1 hm2 ho2 hg1 hg2 hA2 hml
    go_wp2_with fail
    refine (toByteS_any _ _ _ _ _ (HR.out.grow G2.out) HL.out (by omega)).mono ?_
    rintro e w3 ⟨rfl, ho3, hg3⟩
    have H3 := hid ho3
    have G3 := hid hg3
    clear ho3 hg3
    go_wp2_with fail
    refine (implAppS_any _ _ _ _ _ _ (Rd.own H3.out) HL.out (by omega) (by simp)).mono ?_
    rintro e w4 ⟨A4, m4, c4, rfl, hm4, hA4, ho4, hg4⟩
    rw [← HE.out] at hm4 ho4
    obtain rfl : m4 = m := by rw [← hm4, HM.out]
    have H4 := hid ho4
    have G4 := hid hg4
    clear hm4 hA4 ho4 hg4
    have K2 := hid (own_grow (own_grow H2.out G3.out) G4.out)
    go_wp2_with fail
    refine (eqByteS_same _ _ _ _ _ L _ (Rd.own H4.out) (Rd.own K2.out) HM.out (by omega)).mono ?_
    rintro e w5 ⟨rfl, hg5⟩
    have G5 := hid hg5
    clear hg5
    have G25 : Hid (w2.grownBy w5 none) := gb_trans (gb_trans G3.out G4.out) G5.out
    go_wp2_with fail
    refine (toByteS_any _ _ _ _ _ ((HR.out.grow G2.out).grow G25.out) HL.out (by omega)).mono ?_
    rintro e w6 ⟨rfl, ho6, hg6⟩
    have H6 := hid ho6
    have G6 := hid hg6
    clear ho6 hg6
    have H36 := hid (own_grow (own_grow (own_grow H3.out G4.out) G5.out) G6.out)
    go_wp2_with fail
    refine (eqByteS_same _ _ _ _ _ _ _ (Rd.own H36.out) (Rd.own H6.out) HL.out (by omega)).mono ?_
    rintro e w7 ⟨rfl, hg7⟩
    have G7 := hid hg7
    clear hg7
    have H37 := hid (own_grow H36.out G7.out)
    have H47 := hid (own_grow (own_grow (own_grow H4.out G5.out) G6.out) G7.out)
    have H27 := hid (own_grow (own_grow (own_grow K2.out G5.out) G6.out) G7.out)
    have G27 : Hid (w2.grownBy w7 none) := gb_trans (gb_trans G25.out G6.out) G7.out
    go_wp2_with fail
    refine (markByteS_any _ _ _ _ _ 1 _ H37.out (by omega) (by omega) (by omega)).mono ?_
    rintro e w8 ⟨rfl, ho8, hg8⟩
    have G8 := hid hg8
    clear ho8 hg8
    have H48 := hid (own_kept H47.out G8.out (fun k hk hv => by have h2 : w2.heap.size = k := (by injection hk); have h3 := own_new H4.out k hv; have h5 : w2.heap.size < w3.heap.size := (H3.out.lt _ rfl).2; omega))
    have H28 := hid (own_kept H27.out G8.out (fun k hk hv => by have h2 : w2.heap.size = k := (by injection hk); have h3 := (H2.out.lt k hv).2; omega))
    go_wp2_with fail
    refine (eqByteS_same _ _ _ _ _ L _ (Rd.own H48.out) (Rd.own H28.out) HM.out (by omega)).mono ?_
    rintro e w9 ⟨rfl, hg9⟩
    have G9 := hid hg9
    clear hg9
    go_wp2_with fail
    refine (markByteS_any _ _ _ _ _ 1 _ (own_grow H48.out G9.out) (by omega) (by omega) (by omega)).mono ?_
    rintro e w10 ⟨rfl, ho10, hg10⟩
    have H10 := hid ho10
    have G10 := hid hg10
    clear ho10 hg10
    have H210 := hid (own_kept (own_grow H28.out G9.out) G10.out (fun k hk hv => by have h2 := own_new H4.out k hk; have h3 := (H2.out.lt k hv).2; have := G3.out.size; omega))
    go_wp2_with fail
    refine (heldByteS_any _ _ _ 1 _ (Rd.own H10.out) (by omega) (by omega) (by omega)).mono ?_
    rintro e w' ⟨rfl, rfl⟩
    have G210 : Hid (w2.grownBy w10 none) := gb_new (gb_trans (gb_new G27.out G8.out (fun k hk => by have h2 : w2.heap.size = k := (by injection hk); omega)) (gb_any G9.out)) G10.out (fun k hk => by have h2 := own_new H4.out k hk; have := G3.out.size; omega)
    go_wp2_with fail
    refine (toByteS_any _ _ _ _ _ ((HR.out.grow G2.out).grow G210.out) HL.out (by omega)).mono ?_
    rintro e w11 ⟨rfl, ho11, hg11⟩
    have H11 := hid ho11
    have G11 := hid hg11
    clear ho11 hg11
    go_wp2_with fail
    refine (implAppS_any _ _ _ _ _ _ (Rd.own H11.out) HL.out (by omega) (by simp)).mono ?_
    rintro e w12 ⟨A12, m12, c12, rfl, hm12, hA12, ho12, hg12⟩
    rw [← HE.out] at hm12 ho12
    obtain rfl : m12 = m4 := by rw [← hm12, HM.out]
    have H12 := hid ho12
    have G12 := hid hg12
    clear hm12 hA12 ho12 hg12
    have H212 := hid (own_grow (own_grow H210.out G11.out) G12.out)
    go_wp2_with fail
    refine (eqByteS_same _ _ _ _ _ L _ (Rd.own H12.out) (Rd.own H212.out) HM.out (by omega)).mono ?_
    rintro e w13 ⟨rfl, hg13⟩
    have G13 := hid hg13
    clear hg13
    have H1013 := hid (own_grow (own_grow (own_grow H10.out G11.out) G12.out) G13.out)
    go_wp2_with fail
    refine (heldByteS_any _ _ _ 1 _ (Rd.own H1013.out) (by omega) (by omega) (by omega)).mono ?_
    rintro e w' ⟨rfl, rfl⟩
    go_wp2
    go_ret
    exact ⟨rfl, gb_below (gb_trans (gb_trans (gb_trans (gb_trans G2.out G210.out) G11.out) G12.out) G13.out)⟩
  · go_enter Try.func7, Try.ntmps7
    go_wp2
    go_ret
    exact ⟨rfl, Below.refl _ _⟩

set_option maxRecDepth 100000 in
set_option maxHeartbeats 1000000 in
theorem appendText_walk (a0 : Option Addr) (len0 cap0 : Nat) (z0 : List Int) (a1 : ByteArray) (w : World) (w0 : IsRow .u8 w a0 len0 cap0 z0) (w1x : a1.size ≤ maxLen) :
    Calls Try.prog 5 #[.slice a0 len0 cap0, .string a1] w fun e w' => e = .returned (.bool true) ∧ Below w.heap.size w w' := by
  have hlen : len0 ≤ 9223372036854775807 := by
    rcases w0 with ⟨_, rfl, _⟩ | ⟨_, _, h1, h2, _⟩
    · omega
    · unfold maxLen at h2; omega
  obtain ⟨hr, hl⟩ := Rd.isRow w0
  clear w0
  unfold maxLen at w1x
  by_cases hs : a1.size ≤ 1048576
  rotate_left
  · by_cases h : len0 ≤ 1048576
    · go_enter Try.func5, Try.ntmps5
      go_wp2
      go_ret
      exact ⟨rfl, Below.refl _ _⟩
    · go_enter Try.func5, Try.ntmps5
      go_wp2
      go_ret
      exact ⟨rfl, Below.refl _ _⟩
  by_cases h : len0 ≤ 1048576
  · have HL := hid hl
    have HR := hid hr
    clear hr hl
    have hml : (z0.take len0 ++ uv a1.size ++ bytesI a1).length ≤ 3000000 := by
      have := HL.out; have := uvF_length 5 (a1.size : Int); have := bytesI_length a1; unfold uv; simp; omega
    obtain ⟨L, hLL⟩ : ∃ L, L = z0.take len0 ++ uv a1.size ++ bytesI a1 := ⟨_, rfl⟩
    rw [← hLL] at hml
    have HE := hid hLL
    clear hLL
    go_enter Try.func5, Try.ntmps5
    go_wp2_with fail
    refine (toByteS_any _ _ _ _ _ HR.out HL.out (by omega)).mono ?_
    rintro e w1 ⟨rfl, ho1, hg1⟩
    go_wp2_with fail
    refine (specAppT_any _ _ _ _ _ _ (Rd.own ho1) HL.out (by omega) (by simp) (by omega)).mono ?_
    rintro e w2 ⟨A2, m, c2, rfl, hm2, hA2, ho2, hg2⟩
    rw [← HE.out] at hm2 ho2
    have hm3 : m ≤ 3000000 := by rw [← hm2]; exact hml
    have HM := hid hm2
    have H2 := hid ho2
    have G2 : Hid (w.grownBy w2 none) := gb_trans hg1 hg2
    have S2 : Hid (w1.heap.size ≤ w2.heap.size) := hg2.size
    clear ho1 hm2 ho2 hg1 hg2 hA2 hml
    go_wp2_with fail
    refine (toByteS_any _ _ _ _ _ (HR.out.grow G2.out) HL.out (by omega)).mono ?_
    rintro e w3 ⟨rfl, ho3, hg3⟩
    have H3 := hid ho3
    have G3 := hid hg3
    clear ho3 hg3
    go_wp2_with fail
    refine (implAppT_any _ _ _ _ _ _ (Rd.own H3.out) HL.out (by omega) (by simp) (by omega)).mono ?_
    rintro e w4 ⟨A4, m4, c4, rfl, hm4, hA4, ho4, hg4⟩
    rw [← HE.out] at hm4 ho4
    obtain rfl : m4 = m := by rw [← hm4, HM.out]
    have H4 := hid ho4
    have G4 := hid hg4
    clear hm4 hA4 ho4 hg4
    have K2 := hid (own_grow (own_grow H2.out G3.out) G4.out)
    go_wp2_with fail
    refine (eqByteS_same _ _ _ _ _ L _ (Rd.own H4.out) (Rd.own K2.out) HM.out (by omega)).mono ?_
    rintro e w5 ⟨rfl, hg5⟩
    have G5 := hid hg5
    clear hg5
    have G25 : Hid (w2.grownBy w5 none) := gb_trans (gb_trans G3.out G4.out) G5.out
    go_wp2_with fail
    refine (toByteS_any _ _ _ _ _ ((HR.out.grow G2.out).grow G25.out) HL.out (by omega)).mono ?_
    rintro e w6 ⟨rfl, ho6, hg6⟩
    have H6 := hid ho6
    have G6 := hid hg6
    clear ho6 hg6
    have H36 := hid (own_grow (own_grow (own_grow H3.out G4.out) G5.out) G6.out)
    go_wp2_with fail
    refine (eqByteS_same _ _ _ _ _ _ _ (Rd.own H36.out) (Rd.own H6.out) HL.out (by omega)).mono ?_
    rintro e w7 ⟨rfl, hg7⟩
    have G7 := hid hg7
    clear hg7
    have H37 := hid (own_grow H36.out G7.out)
    have H47 := hid (own_grow (own_grow (own_grow H4.out G5.out) G6.out) G7.out)
    have H27 := hid (own_grow (own_grow (own_grow K2.out G5.out) G6.out) G7.out)
    have G27 : Hid (w2.grownBy w7 none) := gb_trans (gb_trans G25.out G6.out) G7.out
    go_wp2_with fail
    refine (markByteS_any _ _ _ _ _ 1 _ H37.out (by omega) (by omega) (by omega)).mono ?_
    rintro e w8 ⟨rfl, ho8, hg8⟩
    have G8 := hid hg8
    clear ho8 hg8
    have H48 := hid (own_kept H47.out G8.out (fun k hk hv => by have h2 : w2.heap.size = k := (by injection hk); have h3 := own_new H4.out k hv; have h5 : w2.heap.size < w3.heap.size := (H3.out.lt _ rfl).2; omega))
    have H28 := hid (own_kept H27.out G8.out (fun k hk hv => by have h2 : w2.heap.size = k := (by injection hk); have h3 := (H2.out.lt k hv).2; omega))
    go_wp2_with fail
    refine (eqByteS_same _ _ _ _ _ L _ (Rd.own H48.out) (Rd.own H28.out) HM.out (by omega)).mono ?_
    rintro e w9 ⟨rfl, hg9⟩
    have G9 := hid hg9
    clear hg9
    go_wp2_with fail
    refine (markByteS_any _ _ _ _ _ 1 _ (own_grow H48.out G9.out) (by omega) (by omega) (by omega)).mono ?_
    rintro e w10 ⟨rfl, ho10, hg10⟩
    have H10 := hid ho10
    have G10 := hid hg10
    clear ho10 hg10
    have H210 := hid (own_kept (own_grow H28.out G9.out) G10.out (fun k hk hv => by have h2 := own_new H4.out k hk; have h3 := (H2.out.lt k hv).2; have := G3.out.size; omega))
    go_wp2_with fail
    refine (heldByteS_any _ _ _ 1 _ (Rd.own H10.out) (by omega) (by omega) (by omega)).mono ?_
    rintro e w' ⟨rfl, rfl⟩
    have G210 : Hid (w2.grownBy w10 none) := gb_new (gb_trans (gb_new G27.out G8.out (fun k hk => by have h2 : w2.heap.size = k := (by injection hk); omega)) (gb_any G9.out)) G10.out (fun k hk => by have h2 := own_new H4.out k hk; have := G3.out.size; omega)
    go_wp2_with fail
    refine (toByteS_any _ _ _ _ _ ((HR.out.grow G2.out).grow G210.out) HL.out (by omega)).mono ?_
    rintro e w11 ⟨rfl, ho11, hg11⟩
    have H11 := hid ho11
    have G11 := hid hg11
    clear ho11 hg11
    go_wp2_with fail
    refine (implAppT_any _ _ _ _ _ _ (Rd.own H11.out) HL.out (by omega) (by simp) (by omega)).mono ?_
    rintro e w12 ⟨A12, m12, c12, rfl, hm12, hA12, ho12, hg12⟩
    rw [← HE.out] at hm12 ho12
    obtain rfl : m12 = m4 := by rw [← hm12, HM.out]
    have H12 := hid ho12
    have G12 := hid hg12
    clear hm12 hA12 ho12 hg12
    have H212 := hid (own_grow (own_grow H210.out G11.out) G12.out)
    go_wp2_with fail
    refine (eqByteS_same _ _ _ _ _ L _ (Rd.own H12.out) (Rd.own H212.out) HM.out (by omega)).mono ?_
    rintro e w13 ⟨rfl, hg13⟩
    have G13 := hid hg13
    clear hg13
    have H1013 := hid (own_grow (own_grow (own_grow H10.out G11.out) G12.out) G13.out)
    go_wp2_with fail
    refine (heldByteS_any _ _ _ 1 _ (Rd.own H1013.out) (by omega) (by omega) (by omega)).mono ?_
    rintro e w' ⟨rfl, rfl⟩
    go_wp2
    go_ret
    exact ⟨rfl, gb_below (gb_trans (gb_trans (gb_trans (gb_trans G2.out G210.out) G11.out) G12.out) G13.out)⟩
  · go_enter Try.func5, Try.ntmps5
    go_wp2
    go_ret
    exact ⟨rfl, Below.refl _ _⟩
end Go.Proofs.Ytdbliaechmjemaa
