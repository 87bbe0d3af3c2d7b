/- The law FnNumbers. -/
import Derived.Test.YthamioapmfmljaaDoorNumDraws
import Derived.Test.YthamioapmfmljaaDoorIsKey
namespace Go.Proofs.YthamioapmfmljaaDoor
open Go.RowKit
set_option linter.unusedVariables false

theorem says_itoa {n lo hi r : Int} {b : Bool} (h0 : -9223372036854775808 ≤ n) (h1 : n ≤ 9223372036854775807) (hlo : -9223372036854775808 ≤ lo) (hhi : hi ≤ 9223372036854775807) (h : Says (itoaB n) lo hi r b) :
    (lo ≤ n ∧ n ≤ hi ∧ b = true ∧ r = n) ∨ ((n < lo ∨ hi < n) ∧ b = false) := by
  rcases h with ⟨rfl, g0, g1, g2⟩ | ⟨rfl, rfl, g2⟩
  · obtain rfl := itoaB_inj h0 h1 (by omega) (by omega) g2
    exact .inl ⟨g0, g1, rfl, rfl⟩
  · refine .inr ⟨?_, rfl⟩
    by_cases h : lo ≤ n ∧ n ≤ hi
    · exact absurd rfl (g2 n h.1 h.2)
    · omega
theorem implMin0 (x : Int) (w : World) : Calls Tryd.prog 26 #[.int .i64 x, .int .i64 0] w fun e w' => ∃ m, m ≤ x ∧ e = .returned (.int .i64 m) ∧ w = w' := by
  by_cases h : 0 < x
  · go_enter Tryd.func26, Tryd.ntmps26
    go_wp2
    go_ret
    exact ⟨0, by omega, rfl, rfl⟩
  · have hx : x ≤ 0 := by omega
    clear h
    go_enter Tryd.func26, Tryd.ntmps26
    go_wp2
    go_ret
    exact ⟨x, by omega, rfl, rfl⟩
theorem implMax_le (x m : Int) (w : World) (h : m ≤ x) : Calls Tryd.prog 25 #[.int .i64 x, .int .i64 m] w fun e w' => e = .returned (.int .i64 x) ∧ w = w' := by
  go_enter Tryd.func25, Tryd.ntmps25
  go_wp2
  go_ret
  exact ⟨rfl, rfl⟩

set_option maxHeartbeats 4000000 in
theorem numbers_walk (a0 : Option Addr) (len0 cap0 : Nat) (z0 : List Int) (w : World) (w0 : IsRow .u8 w a0 len0 cap0 z0) (hL : LaidW w) :
    Calls Tryd.prog 8 #[.slice a0 len0 cap0] w fun e w' => e = .returned (.bool true) ∧ Below w.heap.size w w' := by
  have hlen : len0 ≤ 9223372036854775807 := by
    rcases w0 with ⟨_, rfl, _⟩ | ⟨_, _, h1, h2, _⟩
    · omega
    · unfold maxLen at h2; omega
  obtain ⟨hr, hl⟩ := Rd.isRow w0
  clear w0
  have HK := hid hL
  clear hL
  by_cases h : len0 ≤ 1048576
  · have HR := hid hr
    have HL0 := hid hl
    clear hr hl
    go_enter Tryd.func8, Tryd.ntmps8
    go_wp2_with (go_at_call 22; go_in)
    go_wp2_with fail
    refine (drawFormatInt_any _ _ _ _ _ HR.out HL0.out (by omega)).mono ?_
    rintro e w1 ⟨n, hn, rfl, hg1⟩
    have HN := hid hn
    have HG1 := hid hg1
    clear hn hg1
    go_wp2_with fail
    refine (implFmt _ _ HN.out.1 HN.out.2 (HK.out.grow HG1.out).pow).mono ?_
    rintro e w2 ⟨rfl, hg2⟩
    rw [show (⟨(Lib.itoa n).toArray⟩ : ByteArray) = itoaB n from rfl]
    have HG2 := hid (gb_trans HG1.out hg2)
    clear hg2
    have HZ := hid (size21 n HN.out.1 HN.out.2)
    go_wp2_with fail
    refine (implParse _ _ (by have := HZ.out; omega) (HK.out.grow HG2.out)).mono ?_
    rintro e w3 ⟨m, ok, rfl, hs3, hg3⟩
    have HG3 := hid (gb_trans HG2.out hg3)
    have HS3 := hid (says_itoa HN.out.1 HN.out.2 (by omega) (by omega) hs3)
    clear hg3 hs3
    go_wp2_with fail
    refine (implSigned _ _ (by have := HZ.out; omega) (HK.out.grow HG3.out)).mono ?_
    rintro e w4 ⟨k, signed, rfl, hs4, hg4⟩
    have HG4 := hid (gb_trans HG3.out hg4)
    have hs4' := says_itoa HN.out.1 HN.out.2 (by omega) (by omega) hs4
    have hs3' := HS3.out
    clear hg4 hs4 HS3
    have HR4 : Hid (Rd w4 a0 ((z0.take len0).map (.int .u8))) := HR.out.grow HG4.out
    rcases hs3' with ⟨g0, g1, hok, hm⟩ | ⟨g0, hok⟩
    · rcases hs4' with ⟨g2, g3, hsg, hk⟩ | ⟨g2, hsg⟩
      · replace hm := hm.symm; replace hk := hk.symm; subst hok hsg hm hk
        have d1 : decide (0 ≤ n) = true := by simp; omega
        have d2 : decide (n ≤ 1000000000000) = true := by simp; omega
        have d3 : decide (-1000000000 ≤ n) = true := by simp; omega
        have d4 : decide (n ≤ 1000000000) = true := by simp; omega
        clear g0 g1 g2 g3
        go_wp2_with fail
        refine (drawParseSigned_any _ _ _ _ _ HR4.out HL0.out (by omega)).mono ?_
        rintro e w5 ⟨t, ht, rfl, hg5⟩
        have HG5 := hid (gb_trans HG4.out hg5)
        have HT := hid ht
        clear hg5 ht
        go_wp2_with fail
        refine (implSigned _ _ (by have := HT.out; omega) (HK.out.grow HG5.out)).mono ?_
        rintro e w6 ⟨x, read, rfl, hs6, hg6⟩
        have HG6 := hid (gb_trans HG5.out hg6)
        clear hg6
        rcases hs6 with ⟨rfl, x0, x1, hx⟩ | ⟨rfl, rfl, _⟩
        · have HX := hid hx
          have HX0 := hid x0
          have HX1 := hid x1
          clear hx x0 x1
          obtain ⟨q1, q2⟩ := str_eq HX.out.symm
          go_wp2_with fail
          refine (implFmt _ _ (by have := HX0.out; omega) (by have := HX1.out; omega) (HK.out.grow HG6.out).pow).mono ?_
          rintro e w7 ⟨rfl, hg7⟩
          rw [show (⟨(Lib.itoa x).toArray⟩ : ByteArray) = itoaB x from rfl]
          have HG7 := hid (gb_trans HG6.out hg7)
          clear hg7
          go_wp2_with fail
          refine (implMin0 _ _).mono ?_
          rintro e w8 ⟨mn, hmn, rfl, rfl⟩
          have HMN := hid hmn
          clear hmn
          go_wp2_with fail
          refine (implMax_le _ _ _ HMN.out).mono ?_
          rintro e w8 ⟨rfl, rfl⟩
          go_wp2_with fail
          refine (inRange_t _ _ _ _ HX0.out HX1.out).mono ?_
          rintro e w8 ⟨rfl, rfl⟩
          go_wp2_with fail
          go_ret
          exact ⟨rfl, gb_below HG7.out⟩
        · go_wp2_with fail
          go_ret
          exact ⟨rfl, gb_below HG6.out⟩
      · replace hm := hm.symm; subst hok hsg hm
        have d1 : decide (0 ≤ n) = true := by simp; omega
        have d2 : decide (n ≤ 1000000000000) = true := by simp; omega
        have d3 : decide (-1000000000 ≤ n) = true := by simp; omega
        have d4 : decide (n ≤ 1000000000) = false := by simp; omega
        clear g0 g1 g2
        go_wp2_with fail
        refine (drawParseSigned_any _ _ _ _ _ HR4.out HL0.out (by omega)).mono ?_
        rintro e w5 ⟨t, ht, rfl, hg5⟩
        have HG5 := hid (gb_trans HG4.out hg5)
        have HT := hid ht
        clear hg5 ht
        go_wp2_with fail
        refine (implSigned _ _ (by have := HT.out; omega) (HK.out.grow HG5.out)).mono ?_
        rintro e w6 ⟨x, read, rfl, hs6, hg6⟩
        have HG6 := hid (gb_trans HG5.out hg6)
        clear hg6
        rcases hs6 with ⟨rfl, x0, x1, hx⟩ | ⟨rfl, rfl, _⟩
        · have HX := hid hx
          have HX0 := hid x0
          have HX1 := hid x1
          clear hx x0 x1
          obtain ⟨q1, q2⟩ := str_eq HX.out.symm
          go_wp2_with fail
          refine (implFmt _ _ (by have := HX0.out; omega) (by have := HX1.out; omega) (HK.out.grow HG6.out).pow).mono ?_
          rintro e w7 ⟨rfl, hg7⟩
          rw [show (⟨(Lib.itoa x).toArray⟩ : ByteArray) = itoaB x from rfl]
          have HG7 := hid (gb_trans HG6.out hg7)
          clear hg7
          go_wp2_with fail
          refine (implMin0 _ _).mono ?_
          rintro e w8 ⟨mn, hmn, rfl, rfl⟩
          have HMN := hid hmn
          clear hmn
          go_wp2_with fail
          refine (implMax_le _ _ _ HMN.out).mono ?_
          rintro e w8 ⟨rfl, rfl⟩
          go_wp2_with fail
          refine (inRange_t _ _ _ _ HX0.out HX1.out).mono ?_
          rintro e w8 ⟨rfl, rfl⟩
          go_wp2_with fail
          go_ret
          exact ⟨rfl, gb_below HG7.out⟩
        · go_wp2_with fail
          go_ret
          exact ⟨rfl, gb_below HG6.out⟩
    · rcases hs4' with ⟨g2, g3, hsg, hk⟩ | ⟨g2, hsg⟩
      · replace hk := hk.symm; subst hok hsg hk
        have d1 : decide (0 ≤ n) = false := by simp; omega
        have d2 : decide (n ≤ 1000000000000) = true := by simp; omega
        have d3 : decide (-1000000000 ≤ n) = true := by simp; omega
        have d4 : decide (n ≤ 1000000000) = true := by simp; omega
        clear g0 g2 g3
        go_wp2_with fail
        refine (drawParseSigned_any _ _ _ _ _ HR4.out HL0.out (by omega)).mono ?_
        rintro e w5 ⟨t, ht, rfl, hg5⟩
        have HG5 := hid (gb_trans HG4.out hg5)
        have HT := hid ht
        clear hg5 ht
        go_wp2_with fail
        refine (implSigned _ _ (by have := HT.out; omega) (HK.out.grow HG5.out)).mono ?_
        rintro e w6 ⟨x, read, rfl, hs6, hg6⟩
        have HG6 := hid (gb_trans HG5.out hg6)
        clear hg6
        rcases hs6 with ⟨rfl, x0, x1, hx⟩ | ⟨rfl, rfl, _⟩
        · have HX := hid hx
          have HX0 := hid x0
          have HX1 := hid x1
          clear hx x0 x1
          obtain ⟨q1, q2⟩ := str_eq HX.out.symm
          go_wp2_with fail
          refine (implFmt _ _ (by have := HX0.out; omega) (by have := HX1.out; omega) (HK.out.grow HG6.out).pow).mono ?_
          rintro e w7 ⟨rfl, hg7⟩
          rw [show (⟨(Lib.itoa x).toArray⟩ : ByteArray) = itoaB x from rfl]
          have HG7 := hid (gb_trans HG6.out hg7)
          clear hg7
          go_wp2_with fail
          refine (implMin0 _ _).mono ?_
          rintro e w8 ⟨mn, hmn, rfl, rfl⟩
          have HMN := hid hmn
          clear hmn
          go_wp2_with fail
          refine (implMax_le _ _ _ HMN.out).mono ?_
          rintro e w8 ⟨rfl, rfl⟩
          go_wp2_with fail
          refine (inRange_t _ _ _ _ HX0.out HX1.out).mono ?_
          rintro e w8 ⟨rfl, rfl⟩
          go_wp2_with fail
          go_ret
          exact ⟨rfl, gb_below HG7.out⟩
        · go_wp2_with fail
          go_ret
          exact ⟨rfl, gb_below HG6.out⟩
      · subst hok hsg
        rcases g0 with g0 | g0
        · have g3 : n < -1000000000 := by omega
          clear g2
          have d1 : decide (0 ≤ n) = false := by simp; omega
          have d2 : decide (n ≤ 1000000000000) = true := by simp; omega
          have d3 : decide (-1000000000 ≤ n) = false := by simp; omega
          have d4 : decide (n ≤ 1000000000) = true := by simp; omega
          clear g0 g3
          go_wp2_with fail
          refine (drawParseSigned_any _ _ _ _ _ HR4.out HL0.out (by omega)).mono ?_
          rintro e w5 ⟨t, ht, rfl, hg5⟩
          have HG5 := hid (gb_trans HG4.out hg5)
          have HT := hid ht
          clear hg5 ht
          go_wp2_with fail
          refine (implSigned _ _ (by have := HT.out; omega) (HK.out.grow HG5.out)).mono ?_
          rintro e w6 ⟨x, read, rfl, hs6, hg6⟩
          have HG6 := hid (gb_trans HG5.out hg6)
          clear hg6
          rcases hs6 with ⟨rfl, x0, x1, hx⟩ | ⟨rfl, rfl, _⟩
          · have HX := hid hx
            have HX0 := hid x0
            have HX1 := hid x1
            clear hx x0 x1
            obtain ⟨q1, q2⟩ := str_eq HX.out.symm
            go_wp2_with fail
            refine (implFmt _ _ (by have := HX0.out; omega) (by have := HX1.out; omega) (HK.out.grow HG6.out).pow).mono ?_
            rintro e w7 ⟨rfl, hg7⟩
            rw [show (⟨(Lib.itoa x).toArray⟩ : ByteArray) = itoaB x from rfl]
            have HG7 := hid (gb_trans HG6.out hg7)
            clear hg7
            go_wp2_with fail
            refine (implMin0 _ _).mono ?_
            rintro e w8 ⟨mn, hmn, rfl, rfl⟩
            have HMN := hid hmn
            clear hmn
            go_wp2_with fail
            refine (implMax_le _ _ _ HMN.out).mono ?_
            rintro e w8 ⟨rfl, rfl⟩
            go_wp2_with fail
            refine (inRange_t _ _ _ _ HX0.out HX1.out).mono ?_
            rintro e w8 ⟨rfl, rfl⟩
            go_wp2_with fail
            go_ret
            exact ⟨rfl, gb_below HG7.out⟩
          · go_wp2_with fail
            go_ret
            exact ⟨rfl, gb_below HG6.out⟩
        · have g3 : 1000000000 < n := by omega
          clear g2
          have d1 : decide (0 ≤ n) = true := by simp; omega
          have d2 : decide (n ≤ 1000000000000) = false := by simp; omega
          have d3 : decide (-1000000000 ≤ n) = true := by simp; omega
          have d4 : decide (n ≤ 1000000000) = false := by simp; omega
          clear g0 g3
          go_wp2_with fail
          refine (drawParseSigned_any _ _ _ _ _ HR4.out HL0.out (by omega)).mono ?_
          rintro e w5 ⟨t, ht, rfl, hg5⟩
          have HG5 := hid (gb_trans HG4.out hg5)
          have HT := hid ht
          clear hg5 ht
          go_wp2_with fail
          refine (implSigned _ _ (by have := HT.out; omega) (HK.out.grow HG5.out)).mono ?_
          rintro e w6 ⟨x, read, rfl, hs6, hg6⟩
          have HG6 := hid (gb_trans HG5.out hg6)
          clear hg6
          rcases hs6 with ⟨rfl, x0, x1, hx⟩ | ⟨rfl, rfl, _⟩
          · have HX := hid hx
            have HX0 := hid x0
            have HX1 := hid x1
            clear hx x0 x1
            obtain ⟨q1, q2⟩ := str_eq HX.out.symm
            go_wp2_with fail
            refine (implFmt _ _ (by have := HX0.out; omega) (by have := HX1.out; omega) (HK.out.grow HG6.out).pow).mono ?_
            rintro e w7 ⟨rfl, hg7⟩
            rw [show (⟨(Lib.itoa x).toArray⟩ : ByteArray) = itoaB x from rfl]
            have HG7 := hid (gb_trans HG6.out hg7)
            clear hg7
            go_wp2_with fail
            refine (implMin0 _ _).mono ?_
            rintro e w8 ⟨mn, hmn, rfl, rfl⟩
            have HMN := hid hmn
            clear hmn
            go_wp2_with fail
            refine (implMax_le _ _ _ HMN.out).mono ?_
            rintro e w8 ⟨rfl, rfl⟩
            go_wp2_with fail
            refine (inRange_t _ _ _ _ HX0.out HX1.out).mono ?_
            rintro e w8 ⟨rfl, rfl⟩
            go_wp2_with fail
            go_ret
            exact ⟨rfl, gb_below HG7.out⟩
          · go_wp2_with fail
            go_ret
            exact ⟨rfl, gb_below HG6.out⟩
  · go_enter Tryd.func8, Tryd.ntmps8
    go_wp2_with (go_at_call 22; go_in)
    go_ret
    exact ⟨rfl, gb_below (gb_refl _ _)⟩
theorem numbersLaid {w : World} (h : laidMetH Tryd.prog Rows.fnNumbersRow.laid w) : LaidW w := by
  rw [MakeChecks.laidMetH_plain _ _ _ (by kernel_rfl)] at h
  exact allOf h
end Go.Proofs.YthamioapmfmljaaDoor
