/- The walks of eqKeyS, markKeyS, heldKeyS. -/
import Derived.Test.YtcgnepgfdipiiaaKeyRow
import Derived.Test.YtcgnepgfdipiiaaLaw
namespace Go.Proofs.Ytcgnepgfdipiiaa
open Go.RowKit
set_option linter.unusedVariables false

def markK : List (Bool × Int × ByteArray) → Nat → List (Bool × Int × ByteArray)
  | [], _ => []
  | _ :: r, q => (((q : Int) % 3 == 0), ((q + 1 : Nat) : Int), markT (q + 2)) :: markK r (q + 3)
theorem markK_len : ∀ (ks : List (Bool × Int × ByteArray)) (q : Nat), (markK ks q).length = ks.length
  | [], _ => rfl
  | _ :: r, q => by simp only [markK, List.length_cons, markK_len r]
set_option maxHeartbeats 2000000 in
theorem eqKeyS_any (ks : List (Bool × Int × ByteArray)) (w : World) (A B : Option Addr) (c d lo lo' : Nat) (ha : w.ownsRow lo 26 3 (.slice A ks.length c) ks.length (kcells ks)) (hb : w.ownsRow lo' 26 3 (.slice B ks.length d) ks.length (kcells ks)) (hl : ks.length ≤ 1048576) :
    Calls Try.prog 46 #[.slice A ks.length c, .slice B ks.length d] w fun e w' => e = .returned (.bool true) ∧ w.grownBy w' none := by
  obtain ⟨N, hN⟩ : ∃ N, ks.length = N := ⟨_, rfl⟩
  rw [hN] at ha hb hl ⊢
  have HA := hid ha
  have HB := hid hb
  have HN := hid hN
  clear ha hb hN
  go_enter Try.func46, Try.ntmps46
  go_wp2_with fail
  go_loopw [5] (fun iv wr => ∃ (i : Nat) (a r : List (Bool × Int × ByteArray)), Hid (ks = a ++ r) ∧ Hid (a.length = i) ∧ i + r.length = N ∧ iv = .int .i64 i ∧ Hid (w.grownBy wr none)) (fun i _ => N - (intOf i).toNat)
  case atStart => exact ⟨0, [], ks, hid rfl, hid rfl, by have := HN.out; omega, rfl, hid (gb_refl _ _)⟩
  case round =>
    obtain ⟨i, a, r, HE, HD, hir, rfl, HG⟩ := hrel
    rcases r with _ | ⟨⟨t, n, s⟩, r⟩
    · have hi : i = N := by simpa using hir
      subst hi
      go_wp2_with fail
      go_ret
      exact ⟨rfl, HG.out⟩
    · have hiN : i < N := by simp only [List.length_cons] at hir; omega
      have hiN' : i + 1 + r.length = N := by simp only [List.length_cons] at hir; omega
      obtain ⟨g, rfl, _, _, hg1⟩ := own_someK HA.out (by omega)
      obtain ⟨g', rfl, _, _, hg2⟩ := own_someK HB.out (by omega)
      have hal : (kcells a).length = i * 3 := by rw [kcells_len, HD.out]
      have hA := HA.out
      have hB := HB.out
      rw [HE.out, kcells_app, kcells] at hA hB
      have HR1 := hid (own_range hA (i * 3) hal)
      have HR2 := hid (own_range hB (i * 3) hal)
      have HL := hid (And.intro hg1 hg2)
      clear hA hB hir hal hg1 hg2
      go_wp2_with fail
      refine wp_region_tail 8 (by kernel_rfl) (by kernel_rfl) ?_
      intro wd gd
      have GD := hid (gb_trans HG.out gd)
      clear gd
      simp only [List.take_succ_cons, List.take_zero, List.drop_succ_cons, List.drop_zero]
      iterate 3 still_step
      refine wpStill_loadR rfl 26 (.tmp 19) rfl g (i * 3) rfl [.bool t, .int .i64 n, .string s] (rangeAt_grow HR1.out GD.out HL.out.1) Try.underlying26 rfl Try.infoK ?_
      simp only [Act.put]
      iterate 3 still_step
      refine wpStill_loadR rfl 26 (.tmp 23) rfl g' (i * 3) rfl [.bool t, .int .i64 n, .string s] (rangeAt_grow HR2.out GD.out HL.out.2) Try.underlying26 rfl Try.infoK ?_
      simp only [Act.put]
      refine wpStill_nil ?_
      go_wp2_with fail
      refine (eqKey_same t n s wd).mono ?_
      rintro e w2 ⟨rfl, hg⟩
      have HG2 := hid (gb_trans GD.out hg)
      clear hg
      go_wp2_with fail
      go_roundw
      case rel => exact ⟨i + 1, a ++ [(t, n, s)], r, hid (by rw [List.append_assoc]; exact HE.out), hid (by rw [List.length_append, HD.out]; rfl), hiN', by go_num, HG2⟩
      case measure => simp [intOf]; omega
theorem set3 (cs rs : List Value) (k : Nat) (hk : cs.length = k) (x y z a b c : Value) : (((cs ++ ([x, y, z] ++ rs)).set k a).set (k + 1) b).set (k + 2) c = cs ++ ([a, b, c] ++ rs) := by
  subst hk
  simp
def MarkKPost (w : World) (ks : List (Bool × Int × ByteArray)) (A : Option Addr) (c lo q : Nat) (e : Ending) (w' : World) : Prop :=
  e = .returned (.int .i64 ((q + 3 * ks.length : Nat) : Int)) ∧ w'.ownsRow lo 26 3 (.slice A ks.length c) ks.length (kcells (markK ks q)) ∧ w.grownBy w' (Value.slice A ks.length c).ownBlock
set_option maxHeartbeats 2000000 in
theorem markKeyS_any (ks : List (Bool × Int × ByteArray)) (w : World) (A : Option Addr) (c lo q : Nat) (ha : w.ownsRow lo 26 3 (.slice A ks.length c) ks.length (kcells ks)) (h1 : 1 ≤ q) (hb : q + 3 * ks.length ≤ 67108864) :
    Calls Try.prog 47 #[.slice A ks.length c, .int .i64 q] w (MarkKPost w ks A c lo q) := by
  obtain ⟨N, hN⟩ : ∃ N, ks.length = N := ⟨_, rfl⟩
  obtain ⟨QE, hQE⟩ : ∃ QE, q + 3 * ks.length = QE := ⟨_, rfl⟩
  rw [hQE] at hb
  have hNq : q + 3 * N = QE := by omega
  have hNs : N ≤ 67108864 := by omega
  rw [hN] at ha ⊢
  have HA := hid ha
  have HN := hid (And.intro hN hQE)
  clear ha hN hQE
  go_enter Try.func47, Try.ntmps47
  go_wp2_with fail
  go_loopw [1, 5] (fun qv iv wr => ∃ (i p : Nat) (a r : List (Bool × Int × ByteArray)), Hid (markK ks q = a ++ markK r p) ∧ Hid (a.length = i) ∧ p + 3 * r.length = QE ∧ 1 ≤ p ∧ i + r.length = N ∧ qv = .int .i64 p ∧ iv = .int .i64 i ∧
      Hid (wr.ownsRow lo 26 3 (.slice A N c) N (kcells a ++ kcells r)) ∧ Hid (w.grownBy wr (Value.slice A N c).ownBlock)) (fun _ i _ => N - (intOf i).toNat)
  case atStart => exact ⟨0, q, [], ks, hid rfl, hid rfl, by have := HN.out.2; omega, h1, by have := HN.out.1; omega, rfl, rfl, HA, hid (gb_refl _ _)⟩
  case round =>
    obtain ⟨i, p, a, r, HE, HD, hpq, hp1, hir, rfl, rfl, HO, HG⟩ := hrel
    rcases r with _ | ⟨⟨t, n, s⟩, r⟩
    · have hi : i = N := by simpa using hir
      subst hi
      have hp : p = QE := by simpa using hpq
      subst hp
      go_wp2_with fail
      go_ret
      have e := HE.out
      simp only [markK, List.append_nil] at e
      have ho := HO.out
      simp only [kcells, List.append_nil] at ho
      refine ⟨ret_int (by rw [HN.out.2]), ?_, ?_⟩
      · rw [e, HN.out.1]; exact ho
      · rw [HN.out.1]; exact HG.out
    · have hiN : i < N := by simp only [List.length_cons] at hir; omega
      have hiN' : i + 1 + r.length = N := by simp only [List.length_cons] at hir; omega
      have hpq' : p + 3 + 3 * r.length = QE := by simp only [List.length_cons] at hpq; omega
      obtain ⟨g, rfl, _, _, hg1⟩ := own_someK HO.out (by omega)
      have hal : (kcells a).length = i * 3 := by rw [kcells_len, HD.out]
      have hO := HO.out
      rw [kcells] at hO
      have HO' := hid hO
      obtain ⟨c0, c1, c2⟩ := range3 (own_range hO (i * 3) hal)
      have z0 := hO.frozenAt (i * 3)
      have z1 := hO.frozenAt (i * 3 + 1)
      have HAL := hid hal
      obtain ⟨q1, e1, g1⟩ : ∃ z : Nat, (p : Int) + 1 = (z : Int) ∧ z = p + 1 := ⟨p + 1, rfl, rfl⟩
      obtain ⟨q2, e2, g2⟩ : ∃ z : Nat, (q1 : Int) + 1 = (z : Int) ∧ z = q1 + 1 := ⟨q1 + 1, rfl, rfl⟩
      obtain ⟨q3, e3, g3⟩ : ∃ z : Nat, (q2 : Int) + 1 = (z : Int) ∧ z = q2 + 1 := ⟨q2 + 1, rfl, rfl⟩
      have b3 : q3 + 3 * r.length = QE := by omega
      have b2 : 1 ≤ q2 := by omega
      have b4 : 1 ≤ q3 := by omega
      have HQ := hid (And.intro g1 (And.intro g2 g3))
      clear hO hir hal hg1 g1 g2 g3 hpq hpq'
      go_wp2_with fail
      refine (markText_any q2 _ b2 (by omega)).mono ?_
      rintro e w1 ⟨rfl, hg⟩
      clear c0 c1 c2 z0 z1
      have HO1 := hid (own_grow ((((HO'.out.stored (i * 3) (.bool ((p : Int) % 3 == 0))).1).stored (i * 3 + 1) (.int .i64 q1)).1) hg)
      have HG1 := hid (gb_trans (gb_set (gb_set HG.out (a := ⟨g, i * 3, none⟩) (.inr rfl) (.bool ((p : Int) % 3 == 0))) (a := ⟨g, i * 3 + 1, none⟩) (.inr rfl) (.int .i64 q1)) (gb_any (r := some g) hg))
      have c2 : w1.cell? ⟨g, i * 3 + 2, none⟩ = some (.string s) := by
        have h := HO1.out.cellAt (i * 3 + 2) (by have := HO1.out.1; omega)
        rw [h, List.getElem?_set_ne (by omega), List.getElem?_set_ne (by omega), List.getElem?_append_right (by rw [HAL.out]; omega), HAL.out, show i * 3 + 2 - i * 3 = 2 by omega]
        rfl
      have z2 := HO1.out.frozenAt (i * 3 + 2)
      clear hg
      go_wp2_with fail
      go_roundw
      case rel =>
        have h3 := (HO1.out.stored (i * 3 + 2) (.string (markT q2))).1
        rw [set3 _ _ _ HAL.out] at h3
        obtain ⟨g1, g2, g3⟩ := HQ.out
        refine ⟨i + 1, q3, a ++ [((p : Int) % 3 == 0, (q1 : Int), markT q2)], r, ?_, hid (by rw [List.length_append, HD.out]; rfl), b3, b4, hiN', rfl, by go_num, ?_, hid (gb_set HG1.out (a := ⟨g, i * 3 + 2, none⟩) (.inr rfl) _)⟩
        · refine hid ?_
          rw [HE.out, markK, List.append_assoc]
          subst g3 g2 g1
          rfl
        · refine hid ?_
          rw [kcells_app]
          rw [show (kcells a ++ kcells [((p : Int) % 3 == 0, (q1 : Int), markT q2)]) ++ kcells r = kcells a ++ ([.bool ((p : Int) % 3 == 0), .int .i64 q1, .string (markT q2)] ++ kcells r) by rw [List.append_assoc]; rfl]
          exact h3
      case measure => simp [intOf]; omega
def HeldKPost (w : World) (z : Nat) (e : Ending) (w' : World) : Prop := e = .returned (.int .i64 (z : Int)) ∧ w.grownBy w' none
set_option maxHeartbeats 4000000 in
theorem heldKeyS_any (ks : List (Bool × Int × ByteArray)) (w : World) (A : Option Addr) (c lo q : Nat) (ha : w.ownsRow lo 26 3 (.slice A ks.length c) ks.length (kcells (markK ks q))) (h1 : 1 ≤ q) (hb : q + 3 * ks.length ≤ 67108864) :
    Calls Try.prog 48 #[.slice A ks.length c, .int .i64 q] w (HeldKPost w (q + 3 * ks.length)) := by
  obtain ⟨N, hN⟩ : ∃ N, ks.length = N := ⟨_, rfl⟩
  obtain ⟨QE, hQE⟩ : ∃ QE, q + 3 * ks.length = QE := ⟨_, rfl⟩
  rw [hQE] at hb ⊢
  have hNs : N ≤ 67108864 := by omega
  rw [hN] at ha ⊢
  have HA := hid ha
  have HN := hid (And.intro hN hQE)
  clear ha hN hQE
  go_enter Try.func48, Try.ntmps48
  go_wp2_with fail
  go_loopw [1, 5] (fun qv iv wr => ∃ (i p : Nat) (a r : List (Bool × Int × ByteArray)), Hid (markK ks q = a ++ markK r p) ∧ Hid (a.length = i) ∧ p + 3 * r.length = QE ∧ 1 ≤ p ∧ i + r.length = N ∧ qv = .int .i64 p ∧ iv = .int .i64 i ∧ Hid (w.grownBy wr none)) (fun _ i _ => N - (intOf i).toNat)
  case atStart => exact ⟨0, q, [], ks, hid rfl, hid rfl, by have := HN.out.2; omega, h1, by have := HN.out.1; omega, rfl, rfl, hid (gb_refl _ _)⟩
  case round =>
    obtain ⟨i, p, a, r, HE, HD, hpq, hp1, hir, rfl, rfl, HG⟩ := hrel
    rcases r with _ | ⟨k0, r⟩
    · have hi : i = N := by simpa using hir
      subst hi
      have hp : p = QE := by simpa using hpq
      subst hp
      go_wp2_with fail
      go_ret
      exact ⟨rfl, HG.out⟩
    · have hiN : i < N := by simp only [List.length_cons] at hir; omega
      have hiN' : i + 1 + r.length = N := by simp only [List.length_cons] at hir; omega
      have hpq' : p + 3 + 3 * r.length = QE := by simp only [List.length_cons] at hpq; omega
      obtain ⟨g, rfl, _, _, hg1⟩ := own_someK HA.out (by omega)
      have hal : (kcells a).length = i * 3 := by rw [kcells_len, HD.out]
      obtain ⟨q1, e1, g1⟩ : ∃ z : Nat, (p : Int) + 1 = (z : Int) ∧ z = p + 1 := ⟨p + 1, rfl, rfl⟩
      obtain ⟨q2, e2, g2⟩ : ∃ z : Nat, (q1 : Int) + 1 = (z : Int) ∧ z = q1 + 1 := ⟨q1 + 1, rfl, rfl⟩
      obtain ⟨q3, e3, g3⟩ : ∃ z : Nat, (q2 : Int) + 1 = (z : Int) ∧ z = q2 + 1 := ⟨q2 + 1, rfl, rfl⟩
      have b3 : q3 + 3 * r.length = QE := by omega
      have b2 : 1 ≤ q2 := by omega
      have b4 : 1 ≤ q3 := by omega
      obtain ⟨S7, hS7⟩ : ∃ z, markT q2 = z := ⟨_, rfl⟩
      have hO := HA.out
      rw [HE.out, kcells_app, markK, kcells] at hO
      have hO' : w.ownsRow lo 26 3 (.slice (some ⟨g, 0, none⟩) N c) N (kcells a ++ ([.bool ((p : Int) % 3 == 0), .int .i64 q1, .string S7] ++ kcells (markK r (p + 3)))) := by
        rw [← hS7]; subst g2 g1; exact hO
      have HR1 := hid (And.intro (own_range hO' (i * 3) hal) hg1)
      have HE2 : Hid (markK ks q = (a ++ [((p : Int) % 3 == 0, (q1 : Int), S7)]) ++ markK r q3) := by
        refine hid ?_
        rw [HE.out, markK, ← hS7, List.append_assoc]
        subst g3 g2 g1
        rfl
      have M2 := fun (w : World) => markText_any q2 w b2 (by omega)
      rw [hS7] at M2
      have HM2 := hid M2
      obtain ⟨c0, c1, c2⟩ := range3 (rangeAt_grow HR1.out.1 HG.out HR1.out.2)
      clear hO hO' hir hal hg1 g1 g2 g3 hpq hpq' hS7 M2 HE
      go_wp2_with fail
      refine wp_region_grown 8 rfl (by kernel_rfl) fun wd gd => ?_
      refine held_load1 0 rfl (some 32) rfl (by kernel_rfl) (by kernel_rfl) (by kernel_rfl) (fun _ _ _ _ h => h) (.slice (some ⟨g, 0, none⟩) N c) rfl (fun w' hw => run_mov (.tmp 0) rfl rfl) gd ?_
      simp only [Act.put, List.setIfInBounds_toArray, List.set_cons_succ, List.set_cons_zero]
      refine held_load1 1 rfl (some 33) rfl (by kernel_rfl) (by kernel_rfl) (by kernel_rfl) (fun _ _ _ _ h => h) (.int .i64 i) rfl (fun w' hw => run_mov (.tmp 5) rfl rfl) gd ?_
      simp only [Act.put, List.setIfInBounds_toArray, List.set_cons_succ, List.set_cons_zero]
      refine held_load1 2 rfl (some 34) rfl (by kernel_rfl) (by kernel_rfl) (by kernel_rfl) (fun _ _ _ _ h => h) (.pointer (some ⟨g, i * 3, none⟩)) rfl (fun w' hw => by go_simp) gd ?_
      simp only [Act.put, List.setIfInBounds_toArray, List.set_cons_succ, List.set_cons_zero]
      refine held_load1 3 rfl (some 35) rfl (by kernel_rfl) (by kernel_rfl) (by kernel_rfl) (fun _ _ _ _ h => h) (.pointer (some ⟨g, i * 3 + 2, none⟩)) rfl (fun w' hw => by go_simp) gd ?_
      simp only [Act.put, List.setIfInBounds_toArray, List.set_cons_succ, List.set_cons_zero]
      refine held_load1 4 rfl (some 36) rfl (by kernel_rfl) (by kernel_rfl) (by kernel_rfl) (fun _ _ _ _ h => h) (.string S7) rfl (fun w' hw => by have fc := hw.cell c2 (by simp); clear c0 c1 c2; go_simp) gd ?_
      simp only [Act.put, List.setIfInBounds_toArray, List.set_cons_succ, List.set_cons_zero]
      refine held_load1 5 rfl (some 37) rfl (by kernel_rfl) (by kernel_rfl) (by kernel_rfl) (fun _ _ _ _ h => h) (.int .i64 q2) rfl (fun w' hw => run_mov (.tmp 1) rfl rfl) gd ?_
      simp only [Act.put, List.setIfInBounds_toArray, List.set_cons_succ, List.set_cons_zero]
      refine held_call1 6 rfl (some 38) rfl (by kernel_rfl) rfl 64 (by kernel_rfl) (.tmp 37) _ (.int .i64 q2) rfl rfl (HM2.out wd) ?_
      rintro e wa ⟨rfl, hga⟩
      refine ⟨_, rfl, gb_trans gd hga, ?_⟩
      simp only [Act.put, List.setIfInBounds_toArray, List.set_cons_succ, List.set_cons_zero]
      refine held_val 7 rfl (some 39) rfl (by kernel_rfl) rfl (.bool false) (by go_simp) (gb_trans gd hga) ?_
      refine wpAnyH_done (by kernel_rfl) ?_ _
      simp only [Act.put, List.setIfInBounds_toArray, List.set_cons_succ, List.set_cons_zero]
      have GA := hid (gb_trans HG.out (gb_trans gd hga))
      clear c0 c1 c2 gd hga
      go_wp2_with fail
      go_roundw
      case rel => exact ⟨i + 1, q3, a ++ [((p : Int) % 3 == 0, (q1 : Int), S7)], r, HE2, hid (by rw [List.length_append, HD.out]; rfl), b3, b4, hiN', rfl, by go_num, GA⟩
      case measure => simp [intOf]; omega
/-- A row of keys of the call's own, in a block from lo to hi. -/
def KRc (w : World) (lo hi n : Nat) (A : Option Addr) (c : Nat) (xs : List Value) : Prop := w.ownsRow lo 26 3 (.slice A n c) n xs ∧ ∀ g, (Value.slice A n c).ownBlock = some g → g < hi
theorem KRc.grow {w w1 : World} {lo hi n c : Nat} {A : Option Addr} {xs : List Value} (h : KRc w lo hi n A c xs) (hg : w.grownBy w1 none) : KRc w1 lo hi n A c xs := ⟨own_grow h.1 hg, h.2⟩
theorem own_kr {w w1 : World} {n c top : Nat} {A : Option Addr} {xs : List Value} (h : w1.ownsRow w.heap.size 26 3 (.slice A n c) n xs) (hg : w.grownBy w1 none) (ht : top ≤ w.heap.size) :
    ∃ lo hi, KRc w1 lo hi n A c xs ∧ top ≤ lo ∧ lo ≤ hi ∧ hi ≤ w1.heap.size := ⟨w.heap.size, w1.heap.size, ⟨h, fun g hg => (h.lt g hg).2⟩, ht, hg.size, Nat.le_refl _⟩
theorem own_mkI {w w' : World} {lo hi base size : Nat} {e : TypeId} {v : Value} {n : Nat} {xs : List Value} (h : w.ownsRow base e size v n xs) (hm : MkI w w' lo hi) (hd : ∀ g, v.ownBlock = some g → g < lo ∨ hi ≤ g) : w'.ownsRow base e size v n xs := by
  refine ⟨h.1, ?_⟩
  rcases h.2 with h2 | ⟨g, cap, cur, rfl, h2, h3, h4⟩
  · exact .inl h2
  · exact .inr ⟨g, cap, cur, rfl, h2, (hm.block g (Array.getElem?_eq_some_iff.1 h3).1 (hd g rfl)).trans h3, h4⟩
theorem KRc.mk' {w w' : World} {lo hi lo' hi' n c : Nat} {A : Option Addr} {xs : List Value} (h : KRc w lo' hi' n A c xs) (hm : MkI w w' lo hi) (hd : hi' ≤ lo ∨ hi ≤ lo') : KRc w' lo' hi' n A c xs :=
  ⟨own_mkI h.1 hm (fun g hg => by have := (h.1.lt g hg).1; have := h.2 g hg; omega), h.2⟩
theorem MkI.of_gb {w w' : World} {lo hi n c : Nat} {A : Option Addr} {xs : List Value} (h : KRc w lo hi n A c xs) (hg : w.grownBy w' (Value.slice A n c).ownBlock) : MkI w w' lo hi :=
  ⟨hg.os, hg.tape, hg.output, hg.size, fun k hk hb => hg.block k hk (fun e => by have := (h.1.lt k e.symm).1; have := h.2 k e.symm; omega)⟩
theorem valKeys_len (k : Int) (f : Forest) : (valKeys k f).length ≤ f.size := by
  unfold valKeys
  split
  · rw [Forest.keys_len]; exact f.len_le
  · exact Nat.zero_le _
end Go.Proofs.Ytcgnepgfdipiiaa
