/- The law FnEncodings. -/
import Derived.Test.YtdbliaechmjemaaEncDraws
import Derived.Test.YtdbliaechmjemaaEncLaws
namespace Go.Proofs.Ytdbliaechmjemaa
open Go.RowKit

theorem IsBytes.app {a b : List Int} (ha : IsBytes a) (hb : IsBytes b) : IsBytes (a ++ b) := fun x hx => (List.mem_append.1 hx).elim (ha x) (hb x)
theorem uv_bytes (n : Int) (h0 : 0 ≤ n) (h1 : n ≤ 1000000000000) : IsBytes (uv n) := uvF_bytes 5 n h0 (by simp; omega)
theorem appU_bytes {bs : List Int} (hb : IsBytes bs) (n : Int) : IsBytes (appU bs n) := by
  unfold appU
  split
  · rename_i h; exact hb.app (uv_bytes n h.1 h.2)
  · exact hb
theorem appS_bytes {bs : List Int} (hb : IsBytes bs) (n : Int) : IsBytes (appS bs n) := by
  unfold appS
  split
  · rename_i h; have := zig_bd n h.1 h.2; exact hb.app (uv_bytes _ this.1 (by omega))
  · exact hb
theorem nine_bytes : IsBytes [9] := by
  intro x hx
  obtain rfl : x = 9 := by simpa using hx
  unfold Byte
  omega
theorem appU_length (bs : List Int) (n : Int) : (appU bs n).length ≤ bs.length + 6 := by
  have := uvF_length 5 n
  unfold appU uv
  split <;> simp <;> omega
theorem appS_length (bs : List Int) (n : Int) : (appS bs n).length ≤ bs.length + 6 := by
  have := uvF_length 5 (zig n)
  unfold appS uv
  split <;> simp <;> omega
theorem back_U (bs : List Int) (n : Int) (h0 : 0 ≤ n) (h1 : n ≤ 1000000000000) : readU (appU bs n ++ [9]) bs.length = (n, ((appU bs n).length : Int), true) := by
  unfold appU
  rw [if_pos ⟨h0, h1⟩, readU_uv bs [9] n h0 h1]
  simp
theorem back_S (bs : List Int) (n : Int) (h0 : -1000000000 ≤ n) (h1 : n ≤ 1000000000) : signed (readU (appS bs n) bs.length) = (n, ((appS bs n).length : Int), true) := by
  have hz := zig_bd n h0 h1
  have h := readU_uv bs [] (zig n) hz.1 (by omega)
  rw [List.append_nil] at h
  unfold appS
  rw [if_pos ⟨h0, h1⟩, h]
  unfold signed
  rw [if_neg (by simp; omega), unzig_zig]
  simp
theorem back_T (bs : List Int) (s : ByteArray) (hs : s.size ≤ 1048576) : textOf (bs ++ uv s.size ++ bytesI s) (readU (bs ++ uv s.size ++ bytesI s) bs.length) s.size = (bytesI s, ((bs ++ uv s.size ++ bytesI s).length : Int), true) := by
  rw [readU_uv bs (bytesI s) s.size (by omega) (by omega)]
  have hl := bytesI_length s
  unfold textOf
  rw [if_neg (by simp [hl]; omega)]
  have e : ((bs.length : Int) + ((uv s.size).length : Int)).toNat = (bs ++ uv s.size).length := by simp; omega
  simp only [e, List.drop_left, Int.toNat_natCast, Prod.mk.injEq, and_true]
  refine ⟨List.take_of_length_le (by omega), ?_⟩
  simp [hl]
  omega
theorem back_T_short (bs : List Int) (s : ByteArray) (hs : s.size ≤ 1048576) : (textOf (bs ++ uv s.size ++ bytesI s) (readU (bs ++ uv s.size ++ bytesI s) bs.length) ((s.size : Int) - 1)).2.2 = false := by
  rw [readU_uv bs (bytesI s) s.size (by omega) (by omega)]
  unfold textOf
  rw [if_pos (Or.inr (Or.inl (by omega)))]

set_option maxRecDepth 100000 in
set_option maxHeartbeats 4000000 in
theorem encodings_walk (a0 : Option Addr) (len0 cap0 : Nat) (z0 : List Int) (w : World) (w0 : IsRow .u8 w a0 len0 cap0 z0) :
    Calls Try.prog 9 #[.slice a0 len0 cap0] w fun e w' => e = .returned (.bool true) ∧ Below w.heap.size w w' := by
  have hlen : len0 ≤ 9223372036854775807 := by
    rcases w0 with ⟨_, rfl, _⟩ | ⟨_, _, h1, h2, _⟩
    · omega
    · unfold maxLen at h2; omega
  obtain ⟨hr, hl⟩ := Rd.isRow w0
  clear w0
  obtain ⟨i0, hi, hz0, hz1, hz2⟩ := info_parts Try.infoU8
  by_cases h : len0 ≤ 1048576
  · have HR := hid hr
    have HL0 := hid hl
    clear hr hl
    go_enter Try.func9, Try.ntmps9
    go_wp2_with (go_at_call 26; go_in)
    go_wp2_with fail
    refine (drawAppendUvarint_any _ _ _ _ _ HR.out HL0.out (by omega)).mono ?_
    rintro e w1 ⟨A, m, c, bs, n, rfl, hm, hm3, hb, hA, hrd, hg1⟩
    have HM := hid hm
    have HB := hid hb
    have HA := hid hA
    have HRD := hid hrd
    clear hm hb hA hrd
    go_wp2_with fail
    refine (implAppU_any _ _ _ _ _ _ HRD.out HM.out (by omega) HA.out).mono ?_
    rintro e w2 ⟨A2, m2, c2, rfl, hm2, hA2, ho2, hg2⟩
    have hm29 : m2 ≤ 9 := by rw [← hm2]; have := appU_length bs n; have := HM.out; omega
    have HM2 := hid hm2
    have HA2 := hid hA2
    have HO2 := hid (Rd.own ho2)
    clear hm2 hA2 ho2
    have hown0 := World.ownsRow_lit (base := w2.heap.size) (e := 5) (size := 1) w2 #[] 0 (Nat.le_refl _) (by unfold maxLen; omega) rfl
    have hr0 : Rd (w2.alloc (.cells #[] 5)) A2 ((appU bs n).map (.int .u8)) := HO2.out.grow (gb_alloc (gb_refl _ _) _)
    go_wp2_with (first | (at_builtin; refine wpList_app _ rfl _ _ _ rfl w2.heap.size 5 i0 (.int .u8 0) 1 Try.underlying22 hi hz0 hz1 hz2 rfl _ 0 [] rfl hown0 A2 m2 c2 ((appU bs n).map (.int .u8)) rfl (by rw [List.length_map]; exact HM2.out.symm) HA2.out hr0 (ints_one _ _) (by rw [List.length_map, HM2.out]; unfold maxLen; omega) (by rw [List.length_map, HM2.out]; omega) (by simp) ?_; intro A3 c3 w3 hown3 hA3 hg3 hat3; have hs3 : w2.heap.size ≤ w3.heap.size := Nat.le_trans (by simp) hg3.size; simp only [Nat.zero_add, List.nil_append] at hown3) | (at_builtin; refine wpList_app _ rfl _ _ _ rfl w2.heap.size 5 i0 (.int .u8 0) 1 Try.underlying22 hi hz0 hz1 hz2 rfl _ m2 _ rfl (hown3.alloc _) _ 1 1 [.int .u8 9] rfl rfl (by simp) (Rd.one _ _ _) (u8_one _) (by unfold maxLen; simp; omega) (by simp; omega) (by simp; omega) ?_; intro A4 c4 w4 hown4 hA4 hg4 hat4) | fail)
    obtain ⟨X, Y, Z, hR⟩ : ∃ X Y Z, readU (appU bs n ++ [9]) m = (X, Y, Z) := ⟨_, _, _, rfl⟩
    have HQ := hid hR
    clear hR
    have HO4 : Hid (Rd w4 A4 ((appU bs n ++ [9]).map (.int .u8))) := by have := Rd.own hown4; show Rd _ _ _; simpa using this
    have G4 : Hid (w.grownBy w4 none) := gb_trans (gb_trans hg1 hg2) (gb_new (gb_alloc (gb_new (gb_alloc (gb_refl w2 none) _) hg3 (own_new hown0)) _) hg4 (own_new hown3))
    clear hown0 hr0 hown3 hown4 hA3 hA4 hat3 hat4 hg1 hg2 hg3 hg4 hs3
    refine (implReadU_any _ _ _ _ _ _ HO4.out (by simp [HM2.out]) (by omega) ((appU_bytes HB.out n).app nine_bytes) _ _ _ HQ.out).mono ?_
    rintro e w' ⟨rfl, rfl⟩
    have hcase : (∃ (d1 : decide (0 ≤ n) = true) (d2 : decide (n ≤ 1000000000000) = true), X = n ∧ Y = (m2 : Int) ∧ Z = true) ∨ (decide (0 ≤ n) = false) ∨ (decide (0 ≤ n) = true ∧ decide (n ≤ 1000000000000) = false) := by
      by_cases h0 : 0 ≤ n
      · by_cases h1 : n ≤ 1000000000000
        · left
          have hq := HQ.out
          have hbk := back_U bs n h0 h1
          rw [HM.out] at hbk
          rw [hbk, HM2.out] at hq
          simp only [Prod.mk.injEq] at hq
          exact ⟨by simpa using h0, by simpa using h1, hq.1.symm, hq.2.1.symm, hq.2.2.symm⟩
        · right; right; exact ⟨by simpa using h0, by simpa using h1⟩
      · right; left; simpa using h0
    obtain ⟨d1, d2, rfl, rfl, rfl⟩ | d1 | ⟨d1, d2⟩ := hcase
    all_goals
      go_wp2_with fail
      refine (drawAppendSigned_any _ _ _ _ _ (HR.out.grow G4.out) HL0.out (by omega)).mono ?_
      rintro e w5 ⟨B, p, cb, cs, q, rfl, hp, hp3, hcb, hB, hrb, hg5⟩
      have HP := hid hp
      have HCB := hid hcb
      have HB' := hid hB
      have HRB := hid hrb
      have G5 : Hid (w.grownBy w5 none) := gb_trans G4.out hg5
      clear hp hcb hB hrb hg5
      go_wp2_with fail
      refine (implAppS_any _ _ _ _ _ _ HRB.out HP.out (by omega) HB'.out).mono ?_
      rintro e w6 ⟨B2, p2, cb2, rfl, hp2, hB2, ho6, hg6⟩
      have hp29 : p2 ≤ 9 := by rw [← hp2]; have := appS_length cs q; have := HP.out; omega
      have HP2 := hid hp2
      have HO6 := hid (Rd.own ho6)
      have G6 : Hid (w.grownBy w6 none) := gb_trans G5.out hg6
      clear hp2 hB2 ho6 hg6
      obtain ⟨x6, y6, z6, hR6⟩ : ∃ x y z, readU (appS cs q) p = (x, y, z) := ⟨_, _, _, rfl⟩
      have hx6 : 0 ≤ x6 := by
        cases z6
        · have := (rdU_false _ 6 _ _ _ _ hR6).1; omega
        · exact (rdU_bd _ (appS_bytes HCB.out q) 6 _ _ _ _ (by omega) hR6).1
      have HQ6 := hid hR6
      clear hR6
      obtain ⟨X6, Y6, Z6, hS6⟩ : ∃ x y z, signed (x6, y6, z6) = (x, y, z) := ⟨_, _, _, rfl⟩
      have HS6 := hid hS6
      clear hS6
      go_wp2_with fail
      refine (implReadS_any _ _ _ _ _ _ HO6.out HP2.out (by omega) (appS_bytes HCB.out q) _ _ _ hx6 HQ6.out).mono ?_
      rw [HS6.out]
      rintro e w' ⟨rfl, rfl⟩
      have hcase6 : (∃ (d1 : decide (-1000000000 ≤ q) = true) (d2 : decide (q ≤ 1000000000) = true), X6 = q ∧ Y6 = (p2 : Int) ∧ Z6 = true) ∨ (decide (-1000000000 ≤ q) = false) ∨ (decide (-1000000000 ≤ q) = true ∧ decide (q ≤ 1000000000) = false) := by
        by_cases h0 : -1000000000 ≤ q
        · by_cases h1 : q ≤ 1000000000
          · left
            have hq := HS6.out
            have hbk := back_S cs q h0 h1
            rw [HP.out, HQ6.out, HP2.out] at hbk
            rw [hbk] at hq
            simp only [Prod.mk.injEq] at hq
            exact ⟨by simpa using h0, by simpa using h1, hq.1.symm, hq.2.1.symm, hq.2.2.symm⟩
          · right; right; exact ⟨by simpa using h0, by simpa using h1⟩
        · right; left; simpa using h0
      clear hx6
      obtain ⟨d3, d4, rfl, rfl, rfl⟩ | d3 | ⟨d3, d4⟩ := hcase6
      all_goals
        go_wp2_with fail
        refine (drawAppendText_any _ _ _ _ _ (HR.out.grow G6.out) HL0.out (by omega)).mono ?_
        rintro e w7 ⟨D, r, cd, ds, s, rfl, hr7, hr3, hdb, hD, hs6, hrd7, hg7⟩
        have HR7 := hid hr7
        have HDB := hid hdb
        have HD := hid hD
        have HRD7 := hid hrd7
        have G7 : Hid (w.grownBy w7 none) := gb_trans G6.out hg7
        clear hr7 hdb hD hrd7 hg7
        go_wp2_with fail
        refine (implAppT_any _ _ _ _ _ _ HRD7.out HR7.out (by omega) HD.out (by omega)).mono ?_
        rintro e w8 ⟨D2, r2, cd2, rfl, hr8, hD2, ho8, hg8⟩
        obtain ⟨hc8, hc8'⟩ := own_cap ho8
        have hr20 : r2 ≤ 20 := by rw [← hr8]; have := uvF_length 5 (s.size : Int); have := bytesI_length s; have := HR7.out; unfold uv; simp; omega
        have HBK := hid (back_T ds s (by omega))
        have HBS := hid (back_T_short ds s (by omega))
        have HR8 := hid hr8
        have HO8 := hid (Rd.own ho8)
        have G8 : Hid (w.grownBy w8 none) := gb_trans G7.out hg8
        have HB8 : Hid (IsBytes (ds ++ uv s.size ++ bytesI s)) := (HDB.out.app (uv_bytes _ (by omega) (by omega))).app (bytesI_bd s)
        clear hr8 hD2 ho8 hg8
        go_wp2_with fail
        refine (implReadT_any _ _ _ _ _ _ _ HO8.out HR8.out (by omega) hc8 hc8' HB8.out).mono ?_
        have e1 := HBK.out
        rw [HR7.out, HR8.out] at e1
        rw [e1, strOf_bytesI]
        clear e1
        rintro e w' ⟨rfl, rfl⟩
        go_wp2_with fail
        refine (implReadT_any _ _ _ _ _ _ _ HO8.out HR8.out (by omega) hc8 hc8' HB8.out).mono ?_
        have e2 := HBS.out
        rw [HR7.out] at e2
        rw [e2]
        clear e2
        rintro e w' ⟨rfl, rfl⟩
        go_wp2
        go_ret
        exact ⟨rfl, gb_below G8.out⟩
  · go_enter Try.func9, Try.ntmps9
    go_wp2
    go_ret
    exact ⟨rfl, Below.refl _ _⟩
end Go.Proofs.Ytdbliaechmjemaa
