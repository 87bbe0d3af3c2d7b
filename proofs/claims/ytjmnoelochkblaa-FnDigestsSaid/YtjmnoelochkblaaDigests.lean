/- The draws of the digest chapter and the law FnDigests. -/
import Derived.Test.YtjmnoelochkblaaKeyedWalks
import Derived.Test.YtjmnoelochkblaaHexWalks
import Derived.Test.YtjmnoelochkblaaDraw2
import Derived.Test.YtjmnoelochkblaaDraw3
namespace Go.Proofs.Ytjmnoelochkblaa
open Go.RowKit

def DrawnInts (g : Nat) (w : World) (e : Ending) (w' : World) : Prop := ∃ (A : Option Addr) (c : Nat) (zs : List Int), e = .returned (.slice A zs.length c) ∧ zs.length ≤ 7 ∧ (A = none → c = 0) ∧
  w'.ownsRow w.heap.size 3 1 (.slice A zs.length c) zs.length (zs.map (.int .i64)) ∧ CurOk w' g ∧ w.grownBy w' (some g)

theorem l3Ints_any (g : Nat) (w : World) (hcur : CurOk w g) :
    Calls Try.prog 39 #[.pointer (some ⟨g, 0, none⟩), .int .i64 6] w (DrawnInts g w) := by
  obtain ⟨i0, hi, hz0, hz1, hz2⟩ := info_parts Try.info3
  have HC := hid hcur
  have hgl := hcur.lt
  clear hcur
  go_enter Try.func39, Try.ntmps39
  go_wp2_with fail
  refine (l1Below_any _ _ _ (HC.out.alloc _)).mono ?_
  rintro e w1 ⟨x, ⟨hx0, hx1⟩, rfl, hc1, hg1⟩
  have hx7 : x ≤ 7 := by omega
  clear hx1
  have h0 := World.ownsRow_lit (base := w.heap.size) (e := 3) (size := 1) w #[] 0 (Nat.le_refl _) (by unfold maxLen; omega) rfl
  have h01 := h0.kept hg1 (Or.inr (fun e => by have := own_new h0 g e; omega))
  have HC1 := hid hc1
  clear hc1 h0
  go_wp2_with fail
  go_loopw [5, 6] (fun v i wr => ∃ q : Int, 0 ≤ q ∧ i = .int .i64 q ∧ ∃ (A : Option Addr) (k c : Nat) (zs : List Int), v = .slice A k c ∧ zs.length = k ∧ (k : Int) + q ≤ 7 ∧ (A = none → c = 0) ∧ wr.ownsRow w.heap.size 3 1 (.slice A k c) k (zs.map (.int .i64)) ∧ CurOk wr g ∧ w.grownBy wr (some g)) (fun _ i _ => (intOf i).toNat)
  case atStart => exact ⟨x, hx0, rfl, _, 0, _, [], rfl, rfl, by omega, (fun h => by cases h), h01, HC1.out, gb_trans (gb_alloc (gb_refl _ _) _) hg1⟩
  case round =>
    obtain ⟨q, hq, rfl, A, k, c, zs, rfl, hlen, hkq, hA, hown, hcr, hg⟩ := hrel
    have HCR := hid hcr
    have HL := hid hlen
    clear hcr hlen
    by_cases hlt : 0 < q
    · go_wp2_with fail
      refine (l1One_any _ _ HCR.out).mono ?_
      rintro e w2 ⟨y, hy, rfl, hc2, hg2⟩
      have hown2 := hown.kept hg2 (Or.inr (fun e => by have := own_new hown g e; omega))
      have HC2 := hid hc2
      have hsz : w.heap.size ≤ w2.heap.size := Nat.le_trans hg.size hg2.size
      clear hc2 hy
      go_wp2_with (at_builtin; refine wpList_app _ rfl _ _ _ rfl w.heap.size 3 i0 (.int .i64 0) 8 Try.underlying30 hi hz0 hz1 hz2 rfl _ k _ rfl (hown2.alloc _) _ 1 1 [.int .i64 y] rfl rfl (by simp) (Rd.one _ _ _) (i64_one _) (by unfold maxLen; simp; omega) (by simp; omega) (by simp; omega) ?_; intro A3 c3 w3 hown3 hA3 hg3 hat3)
      go_roundw
      case rel =>
        refine ⟨q - 1, by omega, by go_num, A3, k + 1, c3, zs ++ [y], rfl, by simp [HL.out], by omega, hA3, ?_, (HC2.out.alloc _).kept hg3 (fun j hj => by have := own_new hown j hj; omega), gb_new (gb_alloc (gb_trans hg hg2) _) hg3 (own_new hown)⟩
        rw [List.map_append]
        exact hown3
      case measure => simp [intOf]; omega
    · go_wp2
      go_ret
      have e1 := HL.out
      subst e1
      exact ⟨A, c, zs, rfl, by omega, hA, hown, HCR.out, hg⟩

def HashDrawn (w : World) (e : Ending) (w' : World) : Prop := ∃ (A : Option Addr) (n c : Nat) (zs : List Int), e = .returned (.slice A n c) ∧ zs.length = n ∧ n ≤ 7 ∧ (A = none → c = 0) ∧ Rd w' A (zs.map (.int .i64)) ∧ w.grownBy w' none
theorem drawHash_any (A : Option Addr) (n c : Nat) (xs : List Int) (w : World) (hr : Rd w A (xs.map (.int .u8))) (hnn : xs.length = n) (hn : n ≤ 1048576) :
    Calls Try.prog 35 #[.slice A n c] w (HashDrawn w) := by
  have HL := hid hnn
  have HR := hid hr
  clear hr hnn
  go_enter Try.func35, Try.ntmps35
  go_wp2_with fail
  refine (l1New_any _ _ _ _ _ HR.out HL.out hn).mono ?_
  rintro e w1 ⟨rfl, hc1, hg1⟩
  have HC1 := hid hc1
  clear hc1
  go_wp2_with fail
  refine (l3Ints_any _ _ HC1.out).mono ?_
  rintro e w2 ⟨A2, c2, zs, rfl, h7, hA2, hown, hc2, hg2⟩
  clear hc2
  go_wp2
  go_ret
  exact ⟨A2, _, c2, zs, rfl, rfl, h7, hA2, Rd.own hown, gb_fresh hg1 hg2 (fun k hk => by injection hk with hk; omega)⟩

def TextDrawn (w : World) (e : Ending) (w' : World) : Prop := ∃ s : ByteArray, e = .returned (.string s) ∧ s.size ≤ 9 ∧ w.grownBy w' none
theorem drawHashText_any (A : Option Addr) (n c : Nat) (xs : List Int) (w : World) (hr : Rd w A (xs.map (.int .u8))) (hnn : xs.length = n) (hn : n ≤ 1048576) :
    Calls Try.prog 36 #[.slice A n c] w (TextDrawn w) := by
  have HL := hid hnn
  have HR := hid hr
  clear hr hnn
  go_enter Try.func36, Try.ntmps36
  go_wp2_with fail
  refine (l1New_any _ _ _ _ _ HR.out HL.out hn).mono ?_
  rintro e w1 ⟨rfl, hc1, hg1⟩
  have HC1 := hid hc1
  clear hc1
  go_wp2_with fail
  refine (l1Below_any _ _ _ HC1.out).mono ?_
  rintro e w2 ⟨y, ⟨hy0, hy1⟩, rfl, hc2, hg2⟩
  obtain ⟨m, rfl⟩ := Int.eq_ofNat_of_zero_le hy0
  have hm9 : m ≤ 9 := by omega
  clear hy0 hy1
  have HC2 := hid hc2
  clear hc2
  go_wp2_with fail
  refine (l1Bytes_any _ _ _ HC2.out (by omega)).mono ?_
  rintro e w3 ⟨A3, c3, ys, rfl, hy, hyb, hA3, hown, hc3, hg3⟩
  have kc := run_conv_rd (P := Try.prog) w3 37 5 9 A3 m c3 ys Try.underlying37 Try.underlying5 Try.underlying9 (Rd.own hown) hy
  have HY := hid hy
  clear hc3 hown hy
  go_wp2
  go_ret
  exact ⟨_, rfl, by rw [strOf_size, HY.out]; exact hm9, gb_fresh hg1 (gb_trans hg2 hg3) (fun k hk => by injection hk with hk; omega)⟩

theorem digest_step (zs : List Int) : hashL ((zs ++ [5]).map (modOf · 2147483647)) = modOf (hashL (zs.map (modOf · 2147483647)) * 1000003 + 18) 2147483647 := by
  rw [List.map_append, List.map_singleton, hashL_snoc]
  generalize hashL (zs.map (modOf · 2147483647)) = D
  have h5 : modOf 5 2147483647 = 5 := by decide
  rw [h5]
  unfold hstep modOf
  show (D * 1000003 + 5 + 13) % 2147483647 = (D * 1000003 + 18) % 2147483647
  congr 1
  omega
theorem bytesI_mod (s : ByteArray) : (bytesI s).map (modOf · 2147483647) = bytesI s := by
  conv => rhs; rw [← List.map_id (bytesI s)]
  apply List.map_congr_left
  intro x hx
  obtain ⟨b, _, rfl⟩ := List.mem_map.1 hx
  have := b.toNat_lt
  show ((b.toNat : Int)) % 2147483647 = (b.toNat : Int)
  omega

/-- The call that hands back the number E. -/
theorem ret_as {e : Ending} {a E : Int} (h : e = .returned (.int .i64 a)) (hE : a = E) : e = .returned (.int .i64 E) := by rw [h, hE]

set_option maxRecDepth 100000 in
set_option maxHeartbeats 4000000 in
theorem digests_walk (a0 : Option Addr) (len0 cap0 : Nat) (z0 : List Int) (w : World) (w0 : IsRow .u8 w a0 len0 cap0 z0) :
    Calls Try.prog 13 #[.slice a0 len0 cap0] w fun e w' => e = .returned (.bool true) ∧ Below w.heap.size w w' := by
  have hlen : len0 ≤ 9223372036854775807 := by
    rcases w0 with ⟨_, rfl, _⟩ | ⟨_, _, h1, h2, _⟩
    · omega
    · unfold maxLen at h2; omega
  obtain ⟨hr, hl⟩ := Rd.isRow w0
  clear w0
  obtain ⟨i0, hi, hz0, hz1, hz2⟩ := info_parts Try.info3
  by_cases h : len0 ≤ 1048576
  · have HR := hid hr
    have HL0 := hid hl
    clear hr hl
    go_enter Try.func13, Try.ntmps13
    go_wp2_with (go_at_call 34; go_in)
    go_wp2_with fail
    refine (drawHash_any _ _ _ _ _ HR.out HL0.out (by omega)).mono ?_
    rintro e w1 ⟨A, n, c, zs, rfl, hnn, hn7, hA, hr1, hg1⟩
    have HL := hid hnn
    have HA := hid hA
    have HR1 := hid hr1
    clear hnn hA hr1
    obtain ⟨D, hD⟩ : ∃ D, hashL (zs.map (modOf · 2147483647)) = D := ⟨_, rfl⟩
    have hDb : 0 ≤ D ∧ D < 2147483647 := by rw [← hD]; exact hashL_bd _
    have HD := hid hD
    clear hD
    obtain ⟨hD0, hD1⟩ := hDb
    go_wp2_with fail
    refine (implHash_any _ _ _ _ _ HR1.out HL.out (by omega)).mono ?_
    rintro e w' ⟨he, rfl⟩
    obtain rfl := ret_as he HD.out
    clear he
    have hown0 := World.ownsRow_lit (base := w1.heap.size) (e := 3) (size := 1) w1 #[] 0 (Nat.le_refl _) (by unfold maxLen; omega) rfl
    have hr0 : Rd (w1.alloc (.cells #[] 3)) A (zs.map (.int .i64)) := HR1.out.grow (gb_alloc (gb_refl _ _) _)
    go_wp2_with (first | (at_builtin; refine wpList_app _ rfl _ _ _ rfl w1.heap.size 3 i0 (.int .i64 0) 8 Try.underlying30 hi hz0 hz1 hz2 rfl _ 0 [] rfl hown0 A n c (zs.map (.int .i64)) rfl (by rw [List.length_map]; exact HL.out.symm) HA.out hr0 (ints_one _ _) (by rw [List.length_map, HL.out]; unfold maxLen; omega) (by rw [List.length_map, HL.out]; omega) (by simp) ?_; intro A1 c1 w2 hown1 hA1 hg2 hat1; have hs1 : w1.heap.size ≤ w2.heap.size := Nat.le_trans (by simp) hg2.size; simp only [Nat.zero_add, List.nil_append] at hown1) | (at_builtin; refine wpList_app _ rfl _ _ _ rfl w1.heap.size 3 i0 (.int .i64 0) 8 Try.underlying30 hi hz0 hz1 hz2 rfl _ n _ rfl (hown1.alloc _) _ 1 1 [.int .i64 5] rfl rfl (by simp) (Rd.one _ _ _) (i64_one _) (by unfold maxLen; simp; omega) (by simp; omega) (by simp; omega) ?_; intro A2 c2 w3 hown2 hA2 hg3 hat2) | fail)
    obtain ⟨E, hE⟩ : ∃ E, hashL ((zs ++ [5]).map (modOf · 2147483647)) = E := ⟨_, rfl⟩
    have HE := hid hE
    have HEM : Hid (modOf (D * 1000003 + 18) 2147483647 = E) := by show _ = E; rw [← hE, digest_step, HD.out]
    clear hE
    refine (implHash_any _ _ _ (zs ++ [5]) _ (by have := Rd.own hown2; simpa using this) (by simp [HL.out]) (by omega)).mono ?_
    rintro e w' ⟨he, rfl⟩
    obtain rfl := ret_as he HE.out
    clear he
    have hg03 := gb_new (gb_alloc (gb_new (gb_alloc hg1 _) hg2 (fun k hk => Nat.le_trans hg1.size (own_new hown0 k hk))) _) hg3 (fun k hk => Nat.le_trans hg1.size (own_new hown1 k hk))
    have hg13 := gb_new (gb_alloc (gb_new (gb_alloc (gb_refl w1 none) _) hg2 (own_new hown0)) _) hg3 (own_new hown1)
    have HR3 : Hid (Rd w3 A (zs.map (.int .i64))) := HR1.out.grow hg13
    clear hown0 hr0 hown1 hown2 hA1 hA2 hat1 hat2 hg2 hg3 hs1
    go_wp2_with fail
    refine (drawHashText_any _ _ _ _ _ (HR.out.grow hg03) HL0.out (by omega)).mono ?_
    rintro e w4 ⟨s, rfl, hs9, hg4⟩
    go_wp2_with fail
    go_loopw [7, 8] (fun v i wr => ∃ k : Nat, k ≤ s.size ∧ i = .int .i64 k ∧ ∃ (B : Option Addr) (c' : Nat), v = .slice B k c' ∧ (B = none → c' = 0) ∧ wr.ownsRow w4.heap.size 3 1 (.slice B k c') k (((bytesI s).take k).map (.int .i64)) ∧ w4.grownBy wr none) (fun _ i _ => s.size - (intOf i).toNat)
    case atStart => exact ⟨0, by omega, rfl, _, _, rfl, (fun h => by cases h), World.ownsRow_lit (base := w4.heap.size) (e := 3) (size := 1) w4 #[] 0 (Nat.le_refl _) (by unfold maxLen; omega) rfl, gb_alloc (gb_refl _ _) _⟩
    case round =>
      obtain ⟨k, hk, rfl, B, c', rfl, hB, hown, hgr⟩ := hrel
      have hsz := hgr.size
      by_cases hlt : k < s.size
      · have HT := hid (bytesI_take s k hlt)
        have h256 : (s[k].toNat : Int) < 256 := by have := s[k].toNat_lt; omega
        go_wp2_with (at_builtin; refine wpList_app _ rfl _ _ _ rfl w4.heap.size 3 i0 (.int .i64 0) 8 Try.underlying30 hi hz0 hz1 hz2 rfl _ k _ rfl (hown.alloc _) _ 1 1 [.int .i64 (s[k].toNat : Int)] rfl rfl (by simp) (Rd.one _ _ _) (i64_one _) (by unfold maxLen; simp; omega) (by simp; omega) (by simp; omega) ?_; intro A5 c5 w5 hown5 hA5 hg5 hat5)
        go_roundw
        case rel =>
          refine ⟨k + 1, by omega, by go_num, A5, c5, rfl, hA5, ?_, gb_new (gb_alloc hgr _) hg5 (own_new hown)⟩
          rw [HT.out, List.map_append]
          exact hown5
        case measure => simp [intOf]; omega
      · obtain rfl : k = s.size := by omega
        have hown' := hown
        rw [bytesI_all s _ (Nat.le_refl _)] at hown'
        have HRB := hid (Rd.own hown')
        have HG4 := hid hg4
        have HGR := hid hgr
        clear hown hown' hg4 hgr hB
        obtain ⟨F, hF⟩ : ∃ F, hashL (bytesI s) = F := ⟨_, rfl⟩
        have HF := hid hF
        clear hF
        go_wp2_with fail
        refine (implMod_in _ _ _ (by omega) (by omega)).mono ?_
        rintro e w' ⟨he, rfl⟩
        obtain rfl := ret_as he HEM.out
        clear he
        go_wp2_with fail
        refine (implHashText_any _ _ (by omega)).mono ?_
        rintro e w' ⟨he, rfl⟩
        obtain rfl := ret_as he HF.out
        clear he
        go_wp2_with fail
        refine (implHash_any _ _ _ (bytesI s) _ HRB.out (bytesI_length s) (by omega)).mono ?_
        rintro e w' ⟨he, rfl⟩
        obtain rfl := ret_as he ((congrArg hashL (bytesI_mod s)).trans HF.out)
        clear he
        go_wp2_with fail
        refine (implHexText_in _ _ hD0 (by omega)).mono ?_
        rintro e w6 ⟨rfl, hg6⟩
        have hsz8 : (strOf (hexI D 8)).size = 8 := by rw [strOf_size, hexI_length]
        have HG6 : Hid (w3.grownBy w6 none) := gb_trans (gb_trans HG4.out HGR.out) hg6
        clear hg6 hsz
        obtain ⟨G, hG⟩ : ∃ G, keyed D zs = G := ⟨_, rfl⟩
        have HG := hid hG
        clear hG
        go_wp2_with fail
        refine (implKeyed_any _ _ _ _ zs _ (HR3.out.grow HG6.out) HL.out (by omega) HA.out).mono ?_
        rintro e w7 ⟨he, hg7⟩
        obtain rfl := ret_as he HG.out
        clear he
        have HG7 : Hid (w3.grownBy w7 none) := gb_trans HG6.out hg7
        have hown7 := World.ownsRow_lit (base := w7.heap.size) (e := 3) (size := 1) w7 #[.int .i64 D] 1 (Nat.le_refl _) (by unfold maxLen; omega) rfl
        have hr7 : Rd (w7.alloc (.cells #[.int .i64 D] 3)) A (zs.map (.int .i64)) := (HR3.out.grow HG7.out).grow (gb_alloc (gb_refl _ _) _)
        clear hg7
        go_wp2_with (first | (at_builtin; refine wpList_appg _ (by rfl) _ _ _ (by rfl) w7.heap.size 3 i0 (.int .i64 0) 8 Try.underlying30 hi hz0 hz1 hz2 rfl _ 1 [.int .i64 D] (by rfl) hown7 A n c (zs.map (.int .i64)) (by rfl) (by rw [List.length_map]; exact HL.out.symm) HA.out hr7 (ints_one _ _) (by rw [List.length_map, HL.out]; unfold maxLen; omega) (by rw [List.length_map, HL.out]; omega) (by simp) ?_; intro A8 c8 w8 hown8 hA8 hg8 hat8; have hs8 : w7.heap.size ≤ w8.heap.size := Nat.le_trans (by simp) hg8.size) | (at_builtin; refine wpList_appg _ (by rfl) _ _ _ (by rfl) w7.heap.size 3 i0 (.int .i64 0) 8 Try.underlying30 hi hz0 hz1 hz2 rfl _ (1 + n) _ (by rfl) (hown8.alloc _) _ 1 1 [.int .i64 D] (by rfl) rfl (by simp) (Rd.one _ _ _) (i64_one _) (by unfold maxLen; simp; omega) (by simp; omega) (by simp; omega) ?_; intro A9 c9 w9 hown9 hA9 hg9 hat9) | fail)
        refine (implHash_any _ _ _ (([D] ++ zs) ++ [D]) _ (by have := Rd.own hown9; simpa using this) (by simp [HL.out]; omega) (by omega)).mono ?_
        rintro e w' ⟨he, rfl⟩
        obtain rfl := ret_as he HG.out
        clear he
        have HGZ : Hid (w.grownBy w9 none) := gb_trans (gb_trans hg03 HG7.out) (gb_new (gb_alloc (gb_new (gb_alloc (gb_refl w7 none) _) hg8 (own_new hown7)) _) hg9 (own_new hown8))
        clear hown7 hr7 hown8 hown9 hg8 hg9 hg03 hg13
        go_wp2
        go_ret
        exact ⟨rfl, gb_below HGZ.out⟩
  · go_enter Try.func13, Try.ntmps13
    go_wp2
    go_ret
    exact ⟨rfl, Below.refl _ _⟩
end Go.Proofs.Ytjmnoelochkblaa
