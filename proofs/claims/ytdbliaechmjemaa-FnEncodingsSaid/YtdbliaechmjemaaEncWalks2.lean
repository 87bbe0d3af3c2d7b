/- The walks of the encodings: AppendSigned, ReadSigned, AppendText, ReadText (both sides). -/
import Derived.Test.YtdbliaechmjemaaEncWalks
import Derived.Test.YtdbliaechmjemaaBytesI
namespace Go.Proofs.Ytdbliaechmjemaa
open Go.RowKit

theorem specAppS_out (A : Option Addr) (k c : Nat) (bs : List Int) (n : Int) (w : World) (hr : Rd w A (bs.map (.int .u8))) (hl : bs.length = k) (hk : k ≤ 16777216) (hA : A = none → c = 0) (h : n < -1000000000 ∨ 1000000000 < n) :
    Calls Try.prog 22 #[.slice A k c, .int .i64 n] w (GivesRow bs w) := by
  obtain ⟨i0, hi, hz0, hz1, hz2⟩ := info_parts Try.infoU8
  have HL := hid hl
  have HA := hid hA
  have HR := hid hr
  have hown0 := World.ownsRow_lit (base := w.heap.size) (e := 5) (size := 1) w #[] 0 (Nat.le_refl _) (by unfold maxLen; omega) rfl
  have hr0 : Rd (w.alloc (.cells #[] 5)) A (bs.map (.int .u8)) := hr.grow (gb_alloc (gb_refl _ _) _)
  clear hl hA hr
  clear HR
  go_enter Try.func22, Try.ntmps22
  go_wp2_with (first | (go_at_call 30; refine (l1In_f _ _ _ _ h).mono ?_; rintro e w' ⟨rfl, rfl⟩) | (at_builtin; refine wpList_app _ rfl _ _ _ rfl w.heap.size 5 i0 (.int .u8 0) 1 Try.underlying22 hi hz0 hz1 hz2 rfl _ 0 [] rfl hown0 A k c (bs.map (.int .u8)) rfl (by rw [List.length_map]; exact HL.out.symm) HA.out hr0 (ints_one _ _) (by rw [List.length_map, HL.out]; unfold maxLen; omega) (by rw [List.length_map, HL.out]; omega) (by simp) ?_; intro A1 c1 w1 hown1 hA1 hg1 hat1; simp only [Nat.zero_add, List.nil_append] at hown1))
  go_ret
  exact ⟨A1, k, c1, rfl, HL.out, hA1, hown1, gb_new (gb_alloc (gb_refl _ _) _) hg1 (own_new hown0)⟩
theorem specAppS_in (A : Option Addr) (k c : Nat) (bs : List Int) (n : Int) (w : World) (hr : Rd w A (bs.map (.int .u8))) (hl : bs.length = k) (hk : k ≤ 16777216) (hA : A = none → c = 0) (h0 : -1000000000 ≤ n) (h1 : n ≤ 1000000000) :
    Calls Try.prog 22 #[.slice A k c, .int .i64 n] w (GivesRow (bs ++ uv (zig n)) w) := by
  have HL := hid hl
  have HA := hid hA
  have HR := hid hr
  clear hl hA hr
  by_cases hneg : n < 0
  · have HZ : Hid (zig n = -2 * n - 1) := by show _ = _; unfold zig; rw [if_pos hneg]
    rw [show zig n = -2 * n - 1 from HZ.out]
    go_enter Try.func22, Try.ntmps22
    go_wp2_with (go_at_call 30; refine (l1In_t _ _ _ _ h0 h1).mono ?_; rintro e w' ⟨rfl, rfl⟩)
    try go_wp2_with fail
    refine (specAppU_in _ _ _ _ _ _ HR.out HL.out hk HA.out (by omega) (by omega)).mono ?_
    rintro e w1 ⟨A1, m, c1, rfl, hm, hA1, hown, hg⟩
    have HM := hid hm
    clear hm
    go_wp2
    go_ret
    exact ⟨A1, m, c1, rfl, HM.out, hA1, hown, hg⟩
  · have HZ : Hid (zig n = 2 * n) := by show _ = _; unfold zig; rw [if_neg hneg]
    rw [show zig n = 2 * n from HZ.out]
    go_enter Try.func22, Try.ntmps22
    go_wp2_with (go_at_call 30; refine (l1In_t _ _ _ _ h0 h1).mono ?_; rintro e w' ⟨rfl, rfl⟩)
    try go_wp2_with fail
    refine (specAppU_in _ _ _ _ _ _ HR.out HL.out hk HA.out (by omega) (by omega)).mono ?_
    rintro e w1 ⟨A1, m, c1, rfl, hm, hA1, hown, hg⟩
    have HM := hid hm
    clear hm
    go_wp2
    go_ret
    exact ⟨A1, m, c1, rfl, HM.out, hA1, hown, hg⟩
theorem specAppS_any (A : Option Addr) (k c : Nat) (bs : List Int) (n : Int) (w : World) (hr : Rd w A (bs.map (.int .u8))) (hl : bs.length = k) (hk : k ≤ 16777216) (hA : A = none → c = 0) :
    Calls Try.prog 22 #[.slice A k c, .int .i64 n] w (GivesRow (appS bs n) w) := by
  unfold appS
  by_cases h : -1000000000 ≤ n ∧ n ≤ 1000000000
  · rw [if_pos h]; exact specAppS_in A k c bs n w hr hl hk hA h.1 h.2
  · rw [if_neg h]; exact specAppS_out A k c bs n w hr hl hk hA (by omega)

theorem specAppT_any (A : Option Addr) (k c : Nat) (bs : List Int) (s : ByteArray) (w : World) (hr : Rd w A (bs.map (.int .u8))) (hl : bs.length = k) (hk : k ≤ 2097152) (hA : A = none → c = 0) (hs : s.size ≤ 1048576) :
    Calls Try.prog 18 #[.slice A k c, .string s] w (GivesRow (bs ++ uv s.size ++ bytesI s) w) := by
  obtain ⟨i0, hi, hz0, hz1, hz2⟩ := info_parts Try.infoU8
  have HL := hid hl
  have HA := hid hA
  have HR := hid hr
  clear hl hA hr
  go_enter Try.func18, Try.ntmps18
  go_wp2_with fail
  refine (specAppU_in _ _ _ _ _ _ HR.out HL.out (by omega) HA.out (by omega) (by omega)).mono ?_
  rintro e w1 ⟨A1, m, c1, rfl, hm, hA1, hown, hg⟩
  have hmk : m ≤ k + 6 := by
    rw [← hm, List.length_append, HL.out]
    have := uvF_length 5 (s.size : Int)
    show k + (uvF 5 _).length ≤ _
    omega
  have HM := hid hm
  clear hm
  go_wp2_with (at_builtin; refine Lib.wpList_append_own_string _ rfl _ _ _ _ rfl w.heap.size 5 i0 Try.underlying22 Try.underlying9 hi hz0 hz1 hz2 _ m _ rfl hown s rfl (by unfold maxLen; omega) (by omega) hg.size ?_; intro v2 w2 hown2 hg2 hnil)
  obtain ⟨A2, c2, hv2, hA2⟩ := own_form hown2
  subst hv2
  clear hnil
  go_wp2
  go_ret
  refine ⟨A2, m + s.size, c2, rfl, ?_, hA2, ?_, gb_new hg hg2 (own_new hown)⟩
  · rw [List.length_append, HM.out, bytesI_length]
  · rw [List.map_append, ← strCells_bytesI]; exact hown2

theorem specReadS_any (A : Option Addr) (k c0 : Nat) (bs : List Int) (p : Int) (w : World) (hr : Rd w A (bs.map (.int .u8))) (hl : bs.length = k) (hk : k ≤ 16777216) (hb : IsBytes bs) (x y : Int) (z : Bool) (hx : 0 ≤ x) (hR : readU bs p = (x, y, z)) :
    Calls Try.prog 24 #[.slice A k c0, .int .i64 p] w fun e w' => e = .returned (.tuple #[.int .i64 (signed (x, y, z)).1, .int .i64 (signed (x, y, z)).2.1, .bool (signed (x, y, z)).2.2]) ∧ w = w' := by
  cases z
  · go_enter Try.func24, Try.ntmps24
    go_wp2_with (go_at_call 10; refine (specReadU_any _ _ _ _ _ _ hr hl hk hb _ _ _ hR).mono ?_; rintro e w' ⟨rfl, rfl⟩)
    go_ret3
    exact ⟨rfl, rfl⟩
  · by_cases hbig : 2000000000 < x
    · have HS : Hid (signed (x, y, true) = (0, 0, false)) := by show _ = _; unfold signed; rw [if_pos (Or.inr hbig)]
      rw [show signed (x, y, true) = (0, 0, false) from HS.out]
      have hd : decide (2000000000 < x) = true := by simpa using hbig
      go_enter Try.func24, Try.ntmps24
      go_wp2_with (go_at_call 10; refine (specReadU_any _ _ _ _ _ _ hr hl hk hb _ _ _ hR).mono ?_; rintro e w' ⟨rfl, rfl⟩)
      go_ret3
      exact ⟨rfl, rfl⟩
    · have HS : Hid (signed (x, y, true) = (unzig x, y, true)) := by show _ = _; unfold signed; rw [if_neg (by simp; omega)]
      rw [show signed (x, y, true) = (unzig x, y, true) from HS.out]
      have hd : decide (2000000000 < x) = false := by simpa using hbig
      by_cases hodd : x % 2 = 1
      · have HU : Hid (unzig x = -((x + 1) / 2)) := by show _ = _; unfold unzig; rw [if_pos hodd]
        have ht : (x + 1).tdiv 2 = (x + 1) / 2 := Int.tdiv_eq_ediv_of_nonneg (by omega)
        have ho : (x % 2 == 1) = true := by simpa using hodd
        go_enter Try.func24, Try.ntmps24
        go_wp2_with (go_at_call 10; refine (specReadU_any _ _ _ _ _ _ hr hl hk hb _ _ _ hR).mono ?_; rintro e w' ⟨rfl, rfl⟩)
        go_ret3
        exact ⟨by rw [HU.out, ← ht]; rfl, rfl⟩
      · have HU : Hid (unzig x = x / 2) := by show _ = _; unfold unzig; rw [if_neg hodd]
        rw [show unzig x = x / 2 from HU.out]
        have ho : (x % 2 == 1) = false := by simpa using hodd
        go_enter Try.func24, Try.ntmps24
        go_wp2_with (go_at_call 10; refine (specReadU_any _ _ _ _ _ _ hr hl hk hb _ _ _ hR).mono ?_; rintro e w' ⟨rfl, rfl⟩)
        go_ret3
        exact ⟨rfl, rfl⟩

theorem implAppS_out (A : Option Addr) (k c : Nat) (bs : List Int) (n : Int) (w : World) (hr : Rd w A (bs.map (.int .u8))) (hl : bs.length = k) (hk : k ≤ 16777216) (hA : A = none → c = 0) (h : n < -1000000000 ∨ 1000000000 < n) :
    Calls Try.prog 23 #[.slice A k c, .int .i64 n] w (GivesRow bs w) := by
  obtain ⟨i0, hi, hz0, hz1, hz2⟩ := info_parts Try.infoU8
  have HL := hid hl
  have HA := hid hA
  have HR := hid hr
  have hown0 := World.ownsRow_lit (base := w.heap.size) (e := 5) (size := 1) w #[] 0 (Nat.le_refl _) (by unfold maxLen; omega) rfl
  have hr0 : Rd (w.alloc (.cells #[] 5)) A (bs.map (.int .u8)) := hr.grow (gb_alloc (gb_refl _ _) _)
  clear hl hA hr
  clear HR
  by_cases hn : n < -1000000000
  · have hd1 : decide (n < -1000000000) = true := by simpa using hn
    go_enter Try.func23, Try.ntmps23
    go_wp2_with (at_builtin; refine wpList_app _ rfl _ _ _ rfl w.heap.size 5 i0 (.int .u8 0) 1 Try.underlying22 hi hz0 hz1 hz2 rfl _ 0 [] rfl hown0 A k c (bs.map (.int .u8)) rfl (by rw [List.length_map]; exact HL.out.symm) HA.out hr0 (ints_one _ _) (by rw [List.length_map, HL.out]; unfold maxLen; omega) (by rw [List.length_map, HL.out]; omega) (by simp) ?_; intro A1 c1 w1 hown1 hA1 hg1 hat1; simp only [Nat.zero_add, List.nil_append] at hown1)
    go_ret
    exact ⟨A1, k, c1, rfl, HL.out, hA1, hown1, gb_new (gb_alloc (gb_refl _ _) _) hg1 (own_new hown0)⟩
  · have hd1 : decide (n < -1000000000) = false := by simpa using hn
    have hd2 : decide (1000000000 < n) = true := by simp; omega
    go_enter Try.func23, Try.ntmps23
    go_wp2_with (at_builtin; refine wpList_app _ rfl _ _ _ rfl w.heap.size 5 i0 (.int .u8 0) 1 Try.underlying22 hi hz0 hz1 hz2 rfl _ 0 [] rfl hown0 A k c (bs.map (.int .u8)) rfl (by rw [List.length_map]; exact HL.out.symm) HA.out hr0 (ints_one _ _) (by rw [List.length_map, HL.out]; unfold maxLen; omega) (by rw [List.length_map, HL.out]; omega) (by simp) ?_; intro A1 c1 w1 hown1 hA1 hg1 hat1; simp only [Nat.zero_add, List.nil_append] at hown1)
    go_ret
    exact ⟨A1, k, c1, rfl, HL.out, hA1, hown1, gb_new (gb_alloc (gb_refl _ _) _) hg1 (own_new hown0)⟩
theorem implAppS_in (A : Option Addr) (k c : Nat) (bs : List Int) (n : Int) (w : World) (hr : Rd w A (bs.map (.int .u8))) (hl : bs.length = k) (hk : k ≤ 16777216) (hA : A = none → c = 0) (h0 : -1000000000 ≤ n) (h1 : n ≤ 1000000000) :
    Calls Try.prog 23 #[.slice A k c, .int .i64 n] w (GivesRow (bs ++ uv (zig n)) w) := by
  have HL := hid hl
  have HA := hid hA
  have HR := hid hr
  clear hl hA hr
  have hd1 : decide (n < -1000000000) = false := by simp; omega
  have hd2 : decide (1000000000 < n) = false := by simp; omega
  by_cases hneg : n < 0
  · have HZ : Hid (zig n = -2 * n - 1) := by show _ = _; unfold zig; rw [if_pos hneg]
    rw [show zig n = -2 * n - 1 from HZ.out]
    go_enter Try.func23, Try.ntmps23
    go_wp2_with fail
    try go_wp2_with fail
    refine (implAppU_in _ _ _ _ _ _ HR.out HL.out hk HA.out (by omega) (by omega)).mono ?_
    rintro e w1 ⟨A1, m, c1, rfl, hm, hA1, hown, hg⟩
    have HM := hid hm
    clear hm
    go_wp2
    go_ret
    exact ⟨A1, m, c1, rfl, HM.out, hA1, hown, hg⟩
  · have HZ : Hid (zig n = 2 * n) := by show _ = _; unfold zig; rw [if_neg hneg]
    rw [show zig n = 2 * n from HZ.out]
    go_enter Try.func23, Try.ntmps23
    go_wp2_with fail
    try go_wp2_with fail
    refine (implAppU_in _ _ _ _ _ _ HR.out HL.out hk HA.out (by omega) (by omega)).mono ?_
    rintro e w1 ⟨A1, m, c1, rfl, hm, hA1, hown, hg⟩
    have HM := hid hm
    clear hm
    go_wp2
    go_ret
    exact ⟨A1, m, c1, rfl, HM.out, hA1, hown, hg⟩
theorem implAppS_any (A : Option Addr) (k c : Nat) (bs : List Int) (n : Int) (w : World) (hr : Rd w A (bs.map (.int .u8))) (hl : bs.length = k) (hk : k ≤ 16777216) (hA : A = none → c = 0) :
    Calls Try.prog 23 #[.slice A k c, .int .i64 n] w (GivesRow (appS bs n) w) := by
  unfold appS
  by_cases h : -1000000000 ≤ n ∧ n ≤ 1000000000
  · rw [if_pos h]; exact implAppS_in A k c bs n w hr hl hk hA h.1 h.2
  · rw [if_neg h]; exact implAppS_out A k c bs n w hr hl hk hA (by omega)

theorem implAppT_any (A : Option Addr) (k c : Nat) (bs : List Int) (s : ByteArray) (w : World) (hr : Rd w A (bs.map (.int .u8))) (hl : bs.length = k) (hk : k ≤ 2097152) (hA : A = none → c = 0) (hs : s.size ≤ 1048576) :
    Calls Try.prog 19 #[.slice A k c, .string s] w (GivesRow (bs ++ uv s.size ++ bytesI s) w) := by
  obtain ⟨i0, hi, hz0, hz1, hz2⟩ := info_parts Try.infoU8
  have HL := hid hl
  have HA := hid hA
  have HR := hid hr
  clear hl hA hr
  go_enter Try.func19, Try.ntmps19
  go_wp2_with fail
  refine (implAppU_in _ _ _ _ _ _ HR.out HL.out (by omega) HA.out (by omega) (by omega)).mono ?_
  rintro e w1 ⟨A1, m, c1, rfl, hm, hA1, hown, hg⟩
  have hmk : m ≤ k + 6 := by
    rw [← hm, List.length_append, HL.out]
    have := uvF_length 5 (s.size : Int)
    show k + (uvF 5 _).length ≤ _
    omega
  have HM := hid hm
  clear hm
  go_wp2_with (at_builtin; refine Lib.wpList_append_own_string _ rfl _ _ _ _ rfl w.heap.size 5 i0 Try.underlying22 Try.underlying9 hi hz0 hz1 hz2 _ m _ rfl hown s rfl (by unfold maxLen; omega) (by omega) hg.size ?_; intro v2 w2 hown2 hg2 hnil)
  obtain ⟨A2, c2, hv2, hA2⟩ := own_form hown2
  subst hv2
  clear hnil
  go_wp2
  go_ret
  refine ⟨A2, m + s.size, c2, rfl, ?_, hA2, ?_, gb_new hg hg2 (own_new hown)⟩
  · rw [List.length_append, HM.out, bytesI_length]
  · rw [List.map_append, ← strCells_bytesI]; exact hown2

theorem implReadS_any (A : Option Addr) (k c0 : Nat) (bs : List Int) (p : Int) (w : World) (hr : Rd w A (bs.map (.int .u8))) (hl : bs.length = k) (hk : k ≤ 16777216) (hb : IsBytes bs) (x y : Int) (z : Bool) (hx : 0 ≤ x) (hR : readU bs p = (x, y, z)) :
    Calls Try.prog 25 #[.slice A k c0, .int .i64 p] w fun e w' => e = .returned (.tuple #[.int .i64 (signed (x, y, z)).1, .int .i64 (signed (x, y, z)).2.1, .bool (signed (x, y, z)).2.2]) ∧ w = w' := by
  cases z
  · go_enter Try.func25, Try.ntmps25
    go_wp2_with (go_at_call 12; refine (implReadU_any _ _ _ _ _ _ hr hl hk hb _ _ _ hR).mono ?_; rintro e w' ⟨rfl, rfl⟩)
    go_ret3
    exact ⟨rfl, rfl⟩
  · by_cases hbig : 2000000000 < x
    · have HS : Hid (signed (x, y, true) = (0, 0, false)) := by show _ = _; unfold signed; rw [if_pos (Or.inr hbig)]
      rw [show signed (x, y, true) = (0, 0, false) from HS.out]
      have hd : decide (2000000000 < x) = true := by simpa using hbig
      go_enter Try.func25, Try.ntmps25
      go_wp2_with (go_at_call 12; refine (implReadU_any _ _ _ _ _ _ hr hl hk hb _ _ _ hR).mono ?_; rintro e w' ⟨rfl, rfl⟩)
      go_ret3
      exact ⟨rfl, rfl⟩
    · have HS : Hid (signed (x, y, true) = (unzig x, y, true)) := by show _ = _; unfold signed; rw [if_neg (by simp; omega)]
      rw [show signed (x, y, true) = (unzig x, y, true) from HS.out]
      have hd : decide (2000000000 < x) = false := by simpa using hbig
      by_cases hodd : x % 2 = 1
      · have HU : Hid (unzig x = -((x + 1) / 2)) := by show _ = _; unfold unzig; rw [if_pos hodd]
        have ht : (x + 1).tdiv 2 = (x + 1) / 2 := Int.tdiv_eq_ediv_of_nonneg (by omega)
        have ho : (x % 2 == 1) = true := by simpa using hodd
        go_enter Try.func25, Try.ntmps25
        go_wp2_with (go_at_call 12; refine (implReadU_any _ _ _ _ _ _ hr hl hk hb _ _ _ hR).mono ?_; rintro e w' ⟨rfl, rfl⟩)
        go_ret3
        exact ⟨by rw [HU.out, ← ht]; rfl, rfl⟩
      · have HU : Hid (unzig x = x / 2) := by show _ = _; unfold unzig; rw [if_neg hodd]
        rw [show unzig x = x / 2 from HU.out]
        have ho : (x % 2 == 1) = false := by simpa using hodd
        go_enter Try.func25, Try.ntmps25
        go_wp2_with (go_at_call 12; refine (implReadU_any _ _ _ _ _ _ hr hl hk hb _ _ _ hR).mono ?_; rintro e w' ⟨rfl, rfl⟩)
        go_ret3
        exact ⟨rfl, rfl⟩

theorem specReadT_any (A : Option Addr) (k c0 : Nat) (bs : List Int) (p most : Int) (w : World) (hr : Rd w A (bs.map (.int .u8))) (hl : bs.length = k) (hk : k ≤ 16777216) (hc0 : k ≤ c0) (hc1 : c0 ≤ 9223372036854775807) (hb : IsBytes bs) :
    Calls Try.prog 20 #[.slice A k c0, .int .i64 p, .int .i64 most] w fun e w' => e = .returned (.tuple #[.string (strOf (textOf bs (readU bs p) most).1), .int .i64 (textOf bs (readU bs p) most).2.1, .bool (textOf bs (readU bs p) most).2.2]) ∧ w = w' := by
  have HR := hid hr
  have HL := hid hl
  have HB := hid hb
  obtain ⟨x, y, z, hR⟩ : ∃ x y z, readU bs p = (x, y, z) := ⟨_, _, _, rfl⟩
  rw [hR]
  have HRR := hid hR
  clear hr hl hb hR
  cases z
  · have HT : Hid (textOf bs (x, y, false) most = ([], 0, false)) := by show _ = _; unfold textOf; rw [if_pos (Or.inl rfl)]
    rw [show textOf bs (x, y, false) most = ([], 0, false) from HT.out]
    go_enter Try.func20, Try.ntmps20
    go_wp2_with fail
    refine (specReadU_any _ _ _ _ _ _ HR.out HL.out hk HB.out _ _ _ HRR.out).mono ?_
    rintro e w' ⟨rfl, rfl⟩
    go_wp2
    go_ret3
    exact ⟨rfl, rfl⟩
  · obtain ⟨hx, hy, hyl⟩ := rdU_bd bs HB.out 6 p 0 x y (by omega) HRR.out
    obtain ⟨X, rfl⟩ := Int.eq_ofNat_of_zero_le hx
    obtain ⟨Y, rfl⟩ := Int.eq_ofNat_of_zero_le hy
    have hyk : Y ≤ k := by rw [HL.out] at hyl; omega
    clear hyl
    by_cases hm : most < (X : Int)
    · have HT : Hid (textOf bs ((X : Int), (Y : Int), true) most = ([], 0, false)) := by show _ = _; unfold textOf; rw [if_pos (Or.inr (Or.inl hm))]
      rw [show textOf bs ((X : Int), (Y : Int), true) most = ([], 0, false) from HT.out]
      have hd1 : decide (most < (X : Int)) = true := by simpa using hm
      go_enter Try.func20, Try.ntmps20
      go_wp2_with fail
      refine (specReadU_any _ _ _ _ _ _ HR.out HL.out hk HB.out _ _ _ HRR.out).mono ?_
      rintro e w' ⟨rfl, rfl⟩
      go_wp2
      go_ret3
      exact ⟨rfl, rfl⟩
    · have hd1 : decide (most < (X : Int)) = false := by simpa using hm
      by_cases hs : (k : Int) - Y < X
      · have HT : Hid (textOf bs ((X : Int), (Y : Int), true) most = ([], 0, false)) := by show _ = _; unfold textOf; rw [if_pos (Or.inr (Or.inr (by rw [HL.out]; exact hs)))]
        rw [show textOf bs ((X : Int), (Y : Int), true) most = ([], 0, false) from HT.out]
        have hd2 : decide ((k : Int) - Y < (X : Int)) = true := by simpa using hs
        go_enter Try.func20, Try.ntmps20
        go_wp2_with fail
        refine (specReadU_any _ _ _ _ _ _ HR.out HL.out hk HB.out _ _ _ HRR.out).mono ?_
        rintro e w' ⟨rfl, rfl⟩
        go_wp2
        go_ret3
        exact ⟨rfl, rfl⟩
      · have HT : Hid (textOf bs ((X : Int), (Y : Int), true) most = ((bs.drop Y).take X, (Y : Int) + X, true)) := by
          show _ = _; unfold textOf; rw [if_neg (by rw [HL.out]; simp; omega)]; simp
        rw [show textOf bs ((X : Int), (Y : Int), true) most = ((bs.drop Y).take X, (Y : Int) + X, true) from HT.out]
        have hd2 : decide ((k : Int) - Y < (X : Int)) = false := by simp; omega
        have hle : Y + X ≤ k := by omega
        by_cases hcy : c0 = Y
        · obtain rfl : X = 0 := by omega
          have kc := run_conv_rd (P := Try.prog) w 22 5 9 A 0 0 [] Try.underlying22 Try.underlying5 Try.underlying9 (Rd.nil _ _) rfl
          subst hcy
          go_enter Try.func20, Try.ntmps20
          go_wp2_with fail
          refine (specReadU_any _ _ _ _ _ _ HR.out HL.out hk HB.out _ _ _ HRR.out).mono ?_
          rintro e w' ⟨rfl, rfl⟩
          go_wp2
          go_ret3
          exact ⟨by simp, rfl⟩
        · have kc := run_conv_rd (P := Try.prog) w 22 5 9 (Option.map (fun x => x.add Y) A) X (c0 - Y) ((bs.drop Y).take X) Try.underlying22 Try.underlying5 Try.underlying9 (by have := HR.out.cut Y X; simpa [List.map_take, List.map_drop] using this) (by rw [List.length_take, List.length_drop, HL.out]; omega)
          go_enter Try.func20, Try.ntmps20
          go_wp2_with fail
          refine (specReadU_any _ _ _ _ _ _ HR.out HL.out hk HB.out _ _ _ HRR.out).mono ?_
          rintro e w' ⟨rfl, rfl⟩
          go_wp2
          go_ret3
          exact ⟨rfl, rfl⟩

theorem implReadT_any (A : Option Addr) (k c0 : Nat) (bs : List Int) (p most : Int) (w : World) (hr : Rd w A (bs.map (.int .u8))) (hl : bs.length = k) (hk : k ≤ 16777216) (hc0 : k ≤ c0) (hc1 : c0 ≤ 9223372036854775807) (hb : IsBytes bs) :
    Calls Try.prog 21 #[.slice A k c0, .int .i64 p, .int .i64 most] w fun e w' => e = .returned (.tuple #[.string (strOf (textOf bs (readU bs p) most).1), .int .i64 (textOf bs (readU bs p) most).2.1, .bool (textOf bs (readU bs p) most).2.2]) ∧ w = w' := by
  have HR := hid hr
  have HL := hid hl
  have HB := hid hb
  obtain ⟨x, y, z, hR⟩ : ∃ x y z, readU bs p = (x, y, z) := ⟨_, _, _, rfl⟩
  rw [hR]
  have HRR := hid hR
  clear hr hl hb hR
  cases z
  · have HT : Hid (textOf bs (x, y, false) most = ([], 0, false)) := by show _ = _; unfold textOf; rw [if_pos (Or.inl rfl)]
    rw [show textOf bs (x, y, false) most = ([], 0, false) from HT.out]
    go_enter Try.func21, Try.ntmps21
    go_wp2_with fail
    refine (implReadU_any _ _ _ _ _ _ HR.out HL.out hk HB.out _ _ _ HRR.out).mono ?_
    rintro e w' ⟨rfl, rfl⟩
    go_wp2
    go_ret3
    exact ⟨rfl, rfl⟩
  · obtain ⟨hx, hy, hyl⟩ := rdU_bd bs HB.out 6 p 0 x y (by omega) HRR.out
    obtain ⟨X, rfl⟩ := Int.eq_ofNat_of_zero_le hx
    obtain ⟨Y, rfl⟩ := Int.eq_ofNat_of_zero_le hy
    have hyk : Y ≤ k := by rw [HL.out] at hyl; omega
    clear hyl
    by_cases hm : most < (X : Int)
    · have HT : Hid (textOf bs ((X : Int), (Y : Int), true) most = ([], 0, false)) := by show _ = _; unfold textOf; rw [if_pos (Or.inr (Or.inl hm))]
      rw [show textOf bs ((X : Int), (Y : Int), true) most = ([], 0, false) from HT.out]
      have hd1 : decide (most < (X : Int)) = true := by simpa using hm
      go_enter Try.func21, Try.ntmps21
      go_wp2_with fail
      refine (implReadU_any _ _ _ _ _ _ HR.out HL.out hk HB.out _ _ _ HRR.out).mono ?_
      rintro e w' ⟨rfl, rfl⟩
      go_wp2
      go_ret3
      exact ⟨rfl, rfl⟩
    · have hd1 : decide (most < (X : Int)) = false := by simpa using hm
      by_cases hs : (k : Int) - Y < X
      · have HT : Hid (textOf bs ((X : Int), (Y : Int), true) most = ([], 0, false)) := by show _ = _; unfold textOf; rw [if_pos (Or.inr (Or.inr (by rw [HL.out]; exact hs)))]
        rw [show textOf bs ((X : Int), (Y : Int), true) most = ([], 0, false) from HT.out]
        have hd2 : decide ((k : Int) - Y < (X : Int)) = true := by simpa using hs
        go_enter Try.func21, Try.ntmps21
        go_wp2_with fail
        refine (implReadU_any _ _ _ _ _ _ HR.out HL.out hk HB.out _ _ _ HRR.out).mono ?_
        rintro e w' ⟨rfl, rfl⟩
        go_wp2
        go_ret3
        exact ⟨rfl, rfl⟩
      · have HT : Hid (textOf bs ((X : Int), (Y : Int), true) most = ((bs.drop Y).take X, (Y : Int) + X, true)) := by
          show _ = _; unfold textOf; rw [if_neg (by rw [HL.out]; simp; omega)]; simp
        rw [show textOf bs ((X : Int), (Y : Int), true) most = ((bs.drop Y).take X, (Y : Int) + X, true) from HT.out]
        have hd2 : decide ((k : Int) - Y < (X : Int)) = false := by simp; omega
        have hle : Y + X ≤ k := by omega
        by_cases hcy : c0 = Y
        · obtain rfl : X = 0 := by omega
          have kc := run_conv_rd (P := Try.prog) w 22 5 9 A 0 0 [] Try.underlying22 Try.underlying5 Try.underlying9 (Rd.nil _ _) rfl
          subst hcy
          go_enter Try.func21, Try.ntmps21
          go_wp2_with fail
          refine (implReadU_any _ _ _ _ _ _ HR.out HL.out hk HB.out _ _ _ HRR.out).mono ?_
          rintro e w' ⟨rfl, rfl⟩
          go_wp2
          go_ret3
          exact ⟨by simp, rfl⟩
        · have kc := run_conv_rd (P := Try.prog) w 22 5 9 (Option.map (fun x => x.add Y) A) X (c0 - Y) ((bs.drop Y).take X) Try.underlying22 Try.underlying5 Try.underlying9 (by have := HR.out.cut Y X; simpa [List.map_take, List.map_drop] using this) (by rw [List.length_take, List.length_drop, HL.out]; omega)
          go_enter Try.func21, Try.ntmps21
          go_wp2_with fail
          refine (implReadU_any _ _ _ _ _ _ HR.out HL.out hk HB.out _ _ _ HRR.out).mono ?_
          rintro e w' ⟨rfl, rfl⟩
          go_wp2
          go_ret3
          exact ⟨rfl, rfl⟩
end Go.Proofs.Ytdbliaechmjemaa
