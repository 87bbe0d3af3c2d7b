/- The walks of Identical. -/
import Derived.Test.YtcgnepgfdipiiaaFind
namespace Go.Proofs.Ytcgnepgfdipiiaa
open Go.RowKit
set_option linter.unusedVariables false

theorem Try.infoV5 : (Try.prog.info? 31).map (·.size) = some 5 := by kernel_rfl
def valAlike (k m : Int) (u : ByteArray) (f : Forest) (k' m' : Int) (u' : ByteArray) (g : Forest) : Bool := decide (k = k' ∧ m = m' ∧ u = u' ∧ f.len = g.len) && f.alike g
theorem Forest.alike_cons (t : Bool) (n : Int) (s : ByteArray) (k m : Int) (u : ByteArray) (x : Int) (b r : Forest) (t' : Bool) (n' : Int) (s' : ByteArray) (k' m' : Int) (u' : ByteArray) (x' : Int) (b' r' : Forest) :
    (Forest.cons t n s k m u x b r).alike (.cons t' n' s' k' m' u' x' b' r') = (keyEq t n s t' n' s' && valAlike k m u b k' m' u' b' && r.alike r') := by
  simp only [Forest.alike, keyEq, valAlike]
  by_cases h1 : t = t' <;> by_cases h2 : n = n' <;> by_cases h3 : s = s' <;> by_cases h4 : k = k' <;> by_cases h5 : m = m' <;> by_cases h6 : u = u' <;> by_cases h7 : b.len = b'.len <;> simp [h1, h2, h3, h4, h5, h6, h7]
def IdOk (F : Nat) (f g : Forest) : Prop := ∀ (w : World) (k m : Int) (u : ByteArray) (x : Int) (A : Option Addr) (c : Nat) (L : List Nat) (k' m' : Int) (u' : ByteArray) (x' : Int) (B : Option Addr) (d : Nat) (M : List Nat), RowF w f A 0 f.len L → RowF w g B 0 g.len M → f.size ≤ 1048576 → g.size ≤ 1048576 →
  Calls Try.prog F #[.agg #[.int .i64 k, .int .i64 m, .string u, .int .i64 x, .slice A f.len c], .agg #[.int .i64 k', .int .i64 m', .string u', .int .i64 x', .slice B g.len d]] w fun e w' => e = .returned (.bool (valAlike k m u f k' m' u' g)) ∧ w.grownBy w' none
set_option maxHeartbeats 2000000 in
theorem specIdent_no (f g : Forest) (w : World) (k m : Int) (u : ByteArray) (x : Int) (A : Option Addr) (c : Nat) (k' m' : Int) (u' : ByteArray) (x' : Int) (B : Option Addr) (d : Nat) (hf : f.len ≤ 1048576) (hg : g.len ≤ 1048576) (h : ¬ (k = k' ∧ m = m' ∧ u = u' ∧ f.len = g.len)) :
    Calls Try.prog 36 #[.agg #[.int .i64 k, .int .i64 m, .string u, .int .i64 x, .slice A f.len c], .agg #[.int .i64 k', .int .i64 m', .string u', .int .i64 x', .slice B g.len d]] w fun e w' => e = .returned (.bool false) ∧ w.grownBy w' none := by
  obtain ⟨N, hN⟩ : ∃ N, f.len = N := ⟨_, rfl⟩
  obtain ⟨N', hN'⟩ : ∃ N, g.len = N := ⟨_, rfl⟩
  rw [hN] at h hf ⊢
  rw [hN'] at h hg ⊢
  clear hN hN'
  by_cases h1 : k = k'
  · subst h1
    by_cases h2 : m = m'
    · subst h2
      by_cases h3 : u.toList = u'.toList
      · have := bytes_ext h3
        subst this
        have h4 : N ≠ N' := fun e => h ⟨rfl, rfl, rfl, e⟩
        have hb : ((N : Int) != (N' : Int)) = true := by simp; omega
        clear h h3
        go_enter Try.func36, Try.ntmps36
        go_wp2_with fail
        go_ret
        exact ⟨rfl, gb_alloc (gb_alloc (gb_refl _ _) _) _⟩
      · clear h
        go_enter Try.func36, Try.ntmps36
        go_wp2_with fail
        go_ret
        exact ⟨rfl, gb_alloc (gb_alloc (gb_refl _ _) _) _⟩
    · have hb : ((m : Int) != m') = true := by simpa using h2
      clear h h2
      go_enter Try.func36, Try.ntmps36
      go_wp2_with fail
      go_ret
      exact ⟨rfl, gb_alloc (gb_alloc (gb_refl _ _) _) _⟩
  · have hb : ((k : Int) != k') = true := by simpa using h1
    clear h h1
    go_enter Try.func36, Try.ntmps36
    go_wp2_with fail
    go_ret
    exact ⟨rfl, gb_alloc (gb_alloc (gb_refl _ _) _) _⟩
set_option maxHeartbeats 2000000 in
theorem implIdent_no (f g : Forest) (w : World) (k m : Int) (u : ByteArray) (x : Int) (A : Option Addr) (c : Nat) (k' m' : Int) (u' : ByteArray) (x' : Int) (B : Option Addr) (d : Nat) (hf : f.len ≤ 1048576) (hg : g.len ≤ 1048576) (h : ¬ (k = k' ∧ m = m' ∧ u = u' ∧ f.len = g.len)) :
    Calls Try.prog 37 #[.agg #[.int .i64 k, .int .i64 m, .string u, .int .i64 x, .slice A f.len c], .agg #[.int .i64 k', .int .i64 m', .string u', .int .i64 x', .slice B g.len d]] w fun e w' => e = .returned (.bool false) ∧ w.grownBy w' none := by
  obtain ⟨N, hN⟩ : ∃ N, f.len = N := ⟨_, rfl⟩
  obtain ⟨N', hN'⟩ : ∃ N, g.len = N := ⟨_, rfl⟩
  rw [hN] at h hf ⊢
  rw [hN'] at h hg ⊢
  clear hN hN'
  by_cases h1 : k = k'
  · subst h1
    by_cases h2 : m = m'
    · subst h2
      by_cases h3 : u.toList = u'.toList
      · have := bytes_ext h3
        subst this
        have h4 : N ≠ N' := fun e => h ⟨rfl, rfl, rfl, e⟩
        have hb : ((N : Int) != (N' : Int)) = true := by simp; omega
        clear h h3
        go_enter Try.func37, Try.ntmps37
        go_wp2_with fail
        go_ret
        exact ⟨rfl, gb_alloc (gb_alloc (gb_refl _ _) _) _⟩
      · clear h
        go_enter Try.func37, Try.ntmps37
        go_wp2_with fail
        go_ret
        exact ⟨rfl, gb_alloc (gb_alloc (gb_refl _ _) _) _⟩
    · have hb : ((m : Int) != m') = true := by simpa using h2
      clear h h2
      go_enter Try.func37, Try.ntmps37
      go_wp2_with fail
      go_ret
      exact ⟨rfl, gb_alloc (gb_alloc (gb_refl _ _) _) _⟩
  · have hb : ((k : Int) != k') = true := by simpa using h1
    clear h h1
    go_enter Try.func37, Try.ntmps37
    go_wp2_with fail
    go_ret
    exact ⟨rfl, gb_alloc (gb_alloc (gb_refl _ _) _) _⟩
theorem keyEq_true {t : Bool} {n : Int} {s : ByteArray} {t' : Bool} {n' : Int} {s' : ByteArray} (h : keyEq t n s t' n' s' = true) : t = t' ∧ n = n' ∧ s = s' := by simpa [keyEq] using h
set_option maxHeartbeats 800000 in
theorem specIdent_step (f : Forest) (ih : ∀ h : Forest, h.size < f.size → ∀ g, IdOk 36 h g) (g : Forest) : IdOk 36 f g := by
  intro w k m u x A c L k' m' u' x' B d M hr hr' hfs hgs
  by_cases h : k = k' ∧ m = m' ∧ u = u' ∧ f.len = g.len
  · obtain ⟨rfl, rfl, rfl, h4⟩ := h
    have IH := hid ih
    obtain ⟨W, hW⟩ : ∃ W, f.alike g = W := ⟨_, rfl⟩
    have e1 : valAlike k m u f k m u g = W := by unfold valAlike; rw [decide_eq_true ⟨rfl, rfl, rfl, h4⟩, hW]; rfl
    rw [e1]
    rw [← h4] at hr' ⊢
    obtain ⟨N, hN⟩ : ∃ N, f.len = N := ⟨_, rfl⟩
    have hNs : N ≤ 1048576 := by have := f.len_le; omega
    have HN := hid hN
    have HN' : Hid (g.len = N) := by show g.len = N; omega
    rw [hN] at hr hr' ⊢
    have HR := hid (hr.grow (gb_alloc (gb_alloc (gb_refl w none) (.cells #[.int .i64 k, .int .i64 m, .string u, .int .i64 x, .slice A N c] 31)) (.cells #[.int .i64 k, .int .i64 m, .string u, .int .i64 x', .slice B N d] 31)))
    have HR' := hid (hr'.grow (gb_alloc (gb_alloc (gb_refl w none) (.cells #[.int .i64 k, .int .i64 m, .string u, .int .i64 x, .slice A N c] 31)) (.cells #[.int .i64 k, .int .i64 m, .string u, .int .i64 x', .slice B N d] 31)))
    have HV := hid (HoldsT.pre w #[.int .i64 k, .int .i64 m, .string u, .int .i64 x, .slice A N c] 31 (.cells #[.int .i64 k, .int .i64 m, .string u, .int .i64 x', .slice B N d] 31))
    have HV' := hid (show HoldsT ((w.alloc (.cells #[.int .i64 k, .int .i64 m, .string u, .int .i64 x, .slice A N c] 31)).alloc (.cells #[.int .i64 k, .int .i64 m, .string u, .int .i64 x', .slice B N d] 31)) (w.heap.size + 1) #[.int .i64 k, .int .i64 m, .string u, .int .i64 x', .slice B N d] 31 by
      have := HoldsT.new (w.alloc (.cells #[.int .i64 k, .int .i64 m, .string u, .int .i64 x, .slice A N c] 31)) #[.int .i64 k, .int .i64 m, .string u, .int .i64 x', .slice B N d] 31
      simpa using this)
    have HW := hid hW
    clear ih hr hr' hN hW e1 h4
    go_enter Try.func36, Try.ntmps36
    go_wp2_with fail
    go_loopw [5] (fun iv wr => ∃ (i : Nat) (r r' : Forest) (K K' : List Nat), Hid (r.alike r' = W) ∧ i + r.len = N ∧ i + r'.len = N ∧ iv = .int .i64 i ∧ Hid (RowF wr r A i N K) ∧ Hid (RowF wr r' B i N K') ∧ r.size ≤ f.size ∧ r'.size ≤ 1048576 ∧
      Hid (HoldsT wr w.heap.size #[.int .i64 k, .int .i64 m, .string u, .int .i64 x, .slice A N c] 31) ∧ Hid (HoldsT wr (w.heap.size + 1) #[.int .i64 k, .int .i64 m, .string u, .int .i64 x', .slice B N d] 31) ∧ Hid (w.grownBy wr none)) (fun i _ => N - (intOf i).toNat)
    case atStart => exact ⟨0, f, g, L, M, HW, by have := HN.out; omega, by have := HN'.out; omega, rfl, HR, HR', Nat.le_refl _, hgs, HV, HV', hid (gb_alloc (gb_alloc (gb_refl _ _) _) _)⟩
    case round =>
      obtain ⟨i, r, r', K, K', HE, hir, hir', rfl, HRr, HRr', hsz, hsz', HX, HX', HG⟩ := hrel
      obtain ⟨a0, a1, a2, a3, a4⟩ := HX.out.cells5
      obtain ⟨b0, b1, b2, b3, b4⟩ := HX'.out.cells5
      have la := HX.out.lt
      have lb := HX'.out.lt
      cases r with
      | nil =>
        have hi : i = N := by simpa [Forest.len] using hir
        subst hi
        cases r' with
        | cons => simp only [Forest.len] at hir'; omega
        | nil =>
          go_wp2_with fail
          go_ret
          exact ⟨ret_bool (by rw [← HE.out]; rfl), HG.out⟩
      | cons t1 n1 s1 k1 m1 u1 x1 sub r =>
        cases r' with
        | nil => simp only [Forest.len] at hir hir'; omega
        | cons t2 n2 s2 k2 m2 u2 x2 sub' r' =>
        have hiN : i < N := by simp only [Forest.len] at hir; omega
        have hiN1 : i + 1 + r.len = N := by simp only [Forest.len] at hir; omega
        have hiN2 : i + 1 + r'.len = N := by simp only [Forest.len] at hir'; omega
        have hsz1 : sub.size < f.size := by simp only [Forest.size] at hsz; omega
        have hsz2 : r.size ≤ f.size := by simp only [Forest.size] at hsz; omega
        have hsz3 : r'.size ≤ 1048576 := by simp only [Forest.size] at hsz'; omega
        have hsub : sub.size ≤ 1048576 := by omega
        have hsub' : sub'.size ≤ 1048576 := by simp only [Forest.size] at hsz'; omega
        obtain ⟨p, o, SA, sc, Ls, Lr, rfl, hb, R1, _, hs1, hs2, _⟩ := HRr.out.range
        obtain ⟨p2, o2, SA2, sc2, Ls2, Lr2, rfl, hb2, R2, _, ht1, ht2, _⟩ := HRr'.out.range
        have HS1 := hid (And.intro hs1 hs2)
        have HS2 := hid (And.intro ht1 ht2)
        have HR1 := hid (And.intro R1 hb)
        have HR2 := hid (And.intro R2 hb2)
        clear hs1 hs2 ht1 ht2 hir hir' R1 R2 hb hb2 hsz hsz'
        cases hq : keyEq t1 n1 s1 t2 n2 s2 with
        | false =>
          have ke := fun (w : World) => (run_keyNeq t1 n1 s1 t2 n2 s2 w)
          rw [hq] at ke
          have HE2 : Hid (false = W) := by have := HE.out; rw [Forest.alike_cons, hq] at this; exact this
          go_wp2_with fail
          refine wp_region_tail 28 (by kernel_rfl) (by kernel_rfl) ?_
          intro wd gd
          clear a0 a1 a2 a3 a4 la b0 b1 b2 b3 b4 lb
          obtain ⟨a0, a1, a2, a3, a4⟩ := (HX.out.grow gd).cells5
          obtain ⟨b0, b1, b2, b3, b4⟩ := (HX'.out.grow gd).cells5
          have la := (HX.out.grow gd).lt
          have lb := (HX'.out.grow gd).lt
          have GD := hid gd
          clear gd
          simp only [List.take_succ_cons, List.take_zero, List.drop_succ_cons, List.drop_zero]
          iterate 5 still_step
          refine wpStill_loadR rfl 26 (.tmp 45) rfl p (o + i * 8) rfl [.bool t1, .int .i64 n1, .string s1] (range_key (rangeAt_grow HR1.out.1 GD.out HR1.out.2)) Try.underlying26 rfl Try.infoK ?_
          simp only [Act.put]
          iterate 5 still_step
          refine wpStill_loadR rfl 26 (.tmp 51) rfl p2 (o2 + i * 8) rfl [.bool t2, .int .i64 n2, .string s2] (range_key (rangeAt_grow HR2.out.1 GD.out HR2.out.2)) Try.underlying26 rfl Try.infoK ?_
          simp only [Act.put]
          refine hs_out ?_
          iterate 16 (with_reducible refine hs_step ?_; intro K hK; go_simp; refine hK _ ?_; clear hK K)
          with_reducible refine hs_nil ?_
          go_wp2_with fail
          go_ret
          exact ⟨ret_bool HE2.out, gb_trans HG.out GD.out⟩
        | true =>
          have ke := fun (w : World) => (run_keyNeq t1 n1 s1 t2 n2 s2 w)
          rw [hq] at ke
          obtain ⟨q, hq2⟩ : ∃ q, valAlike k1 m1 u1 sub k2 m2 u2 sub' = q := ⟨_, rfl⟩
          have HE2 : Hid ((q && r.alike r') = W) := by have := HE.out; rw [Forest.alike_cons, hq, hq2] at this; show _ = _; simpa using this
          go_wp2_with fail
          refine wp_region_tail 26 (by kernel_rfl) (by kernel_rfl) ?_
          intro wd gd
          clear a0 a1 a2 a3 a4 la b0 b1 b2 b3 b4 lb
          obtain ⟨a0, a1, a2, a3, a4⟩ := (HX.out.grow gd).cells5
          obtain ⟨b0, b1, b2, b3, b4⟩ := (HX'.out.grow gd).cells5
          have la := (HX.out.grow gd).lt
          have lb := (HX'.out.grow gd).lt
          have GD := hid gd
          clear gd
          simp only [List.take_succ_cons, List.take_zero, List.drop_succ_cons, List.drop_zero]
          iterate 5 still_step
          refine wpStill_loadR rfl 26 (.tmp 45) rfl p (o + i * 8) rfl [.bool t1, .int .i64 n1, .string s1] (range_key (rangeAt_grow HR1.out.1 GD.out HR1.out.2)) Try.underlying26 rfl Try.infoK ?_
          simp only [Act.put]
          iterate 5 still_step
          refine wpStill_loadR rfl 26 (.tmp 51) rfl p2 (o2 + i * 8) rfl [.bool t2, .int .i64 n2, .string s2] (range_key (rangeAt_grow HR2.out.1 GD.out HR2.out.2)) Try.underlying26 rfl Try.infoK ?_
          simp only [Act.put]
          refine hs_out ?_
          iterate 7 (with_reducible refine hs_step ?_; intro K hK; go_simp; refine hK _ ?_; clear hK K)
          refine hs_load (by rfl) 31 (.tmp 59) rfl p (o + i * 8 + 3) rfl [.int .i64 k1, .int .i64 m1, .string u1, .int .i64 x1, .slice SA sub.len sc] (range_val (rangeAt_grow HR1.out.1 GD.out HR1.out.2)) Try.underlying31 rfl Try.infoV5 ?_
          simp only [Act.put]
          iterate 5 (with_reducible refine hs_step ?_; intro K hK; go_simp; refine hK _ ?_; clear hK K)
          refine hs_load (by rfl) 31 (.tmp 65) rfl p2 (o2 + i * 8 + 3) rfl [.int .i64 k2, .int .i64 m2, .string u2, .int .i64 x2, .slice SA2 sub'.len sc2] (range_val (rangeAt_grow HR2.out.1 GD.out HR2.out.2)) Try.underlying31 rfl Try.infoV5 ?_
          simp only [Act.put]
          with_reducible refine hs_nil ?_
          go_wp2_with fail
          refine (IH.out sub hsz1 sub' wd k1 m1 u1 x1 SA sc Ls k2 m2 u2 x2 SA2 sc2 Ls2 (HS1.out.1.grow GD.out) (HS2.out.1.grow GD.out) hsub hsub').mono ?_
          rintro e w2 ⟨rfl, hg⟩
          rw [hq2]
          clear hq2 a0 a1 a2 a3 a4 la b0 b1 b2 b3 b4 lb
          have G2 := hid (gb_trans GD.out hg)
          clear hg
          cases q with
          | false =>
            go_wp2_with fail
            go_ret
            exact ⟨ret_bool (by rw [← HE2.out]; rfl), gb_trans HG.out G2.out⟩
          | true =>
            go_wp2_with fail
            go_roundw
            case rel => exact ⟨i + 1, r, r', _, _, hid (by rw [← HE2.out]; rfl), hiN1, hiN2, by go_num, hid (HS1.out.2.grow G2.out), hid (HS2.out.2.grow G2.out), hsz2, hsz3, hid (HX.out.grow G2.out), hid (HX'.out.grow G2.out), hid (gb_trans HG.out G2.out)⟩
            case measure => simp [intOf]; omega
  · have e1 : valAlike k m u f k' m' u' g = false := by unfold valAlike; rw [decide_eq_false h]; rfl
    rw [e1]
    exact specIdent_no f g w k m u x A c k' m' u' x' B d (by have := f.len_le; omega) (by have := g.len_le; omega) h
theorem specIdent_any (f : Forest) : ∀ g, IdOk 36 f g := by
  obtain ⟨n, hn⟩ : ∃ n, f.size = n := ⟨_, rfl⟩
  induction n using Nat.strongRecOn generalizing f with
  | ind n ih => exact specIdent_step f fun g hg => ih g.size (by omega) g rfl
set_option maxHeartbeats 800000 in
theorem implIdent_step (f : Forest) (ih : ∀ h : Forest, h.size < f.size → ∀ g, IdOk 37 h g) (g : Forest) : IdOk 37 f g := by
  intro w k m u x A c L k' m' u' x' B d M hr hr' hfs hgs
  by_cases h : k = k' ∧ m = m' ∧ u = u' ∧ f.len = g.len
  · obtain ⟨rfl, rfl, rfl, h4⟩ := h
    have IH := hid ih
    obtain ⟨W, hW⟩ : ∃ W, f.alike g = W := ⟨_, rfl⟩
    have e1 : valAlike k m u f k m u g = W := by unfold valAlike; rw [decide_eq_true ⟨rfl, rfl, rfl, h4⟩, hW]; rfl
    rw [e1]
    rw [← h4] at hr' ⊢
    obtain ⟨N, hN⟩ : ∃ N, f.len = N := ⟨_, rfl⟩
    have hNs : N ≤ 1048576 := by have := f.len_le; omega
    have HN := hid hN
    have HN' : Hid (g.len = N) := by show g.len = N; omega
    rw [hN] at hr hr' ⊢
    have HR := hid (hr.grow (gb_alloc (gb_alloc (gb_refl w none) (.cells #[.int .i64 k, .int .i64 m, .string u, .int .i64 x, .slice A N c] 31)) (.cells #[.int .i64 k, .int .i64 m, .string u, .int .i64 x', .slice B N d] 31)))
    have HR' := hid (hr'.grow (gb_alloc (gb_alloc (gb_refl w none) (.cells #[.int .i64 k, .int .i64 m, .string u, .int .i64 x, .slice A N c] 31)) (.cells #[.int .i64 k, .int .i64 m, .string u, .int .i64 x', .slice B N d] 31)))
    have HV0 := hid (HoldsT.pre w #[.int .i64 k, .int .i64 m, .string u, .int .i64 x, .slice A N c] 31 (.cells #[.int .i64 k, .int .i64 m, .string u, .int .i64 x', .slice B N d] 31))
    have HV' := hid (show HoldsT ((w.alloc (.cells #[.int .i64 k, .int .i64 m, .string u, .int .i64 x, .slice A N c] 31)).alloc (.cells #[.int .i64 k, .int .i64 m, .string u, .int .i64 x', .slice B N d] 31)) (w.heap.size + 1) #[.int .i64 k, .int .i64 m, .string u, .int .i64 x', .slice B N d] 31 by
      have := HoldsT.new (w.alloc (.cells #[.int .i64 k, .int .i64 m, .string u, .int .i64 x, .slice A N c] 31)) #[.int .i64 k, .int .i64 m, .string u, .int .i64 x', .slice B N d] 31
      simpa using this)
    have HW := hid hW
    clear ih hr hr' hN hW e1 h4
    go_enter Try.func37, Try.ntmps37
    go_wp2_with fail
    go_loopw [38] (fun iv wr => ∃ (i : Nat) (r r' : Forest) (K K' : List Nat), Hid (r.alike r' = W) ∧ i + r.len = N ∧ i + r'.len = N ∧ iv = .int .i64 i ∧ Hid (RowF wr r A i N K) ∧ Hid (RowF wr r' B i N K') ∧ r.size ≤ f.size ∧ r'.size ≤ 1048576 ∧
      Hid (HoldsT wr (w.heap.size + 1) #[.int .i64 k, .int .i64 m, .string u, .int .i64 x', .slice B N d] 31) ∧ Hid (w.grownBy wr none)) (fun i _ => N - (intOf i).toNat)
    case atStart => exact ⟨0, f, g, L, M, HW, by have := HN.out; omega, by have := HN'.out; omega, rfl, HR, HR', Nat.le_refl _, hgs, HV', hid (gb_alloc (gb_alloc (gb_refl _ _) _) _)⟩
    case round =>
      obtain ⟨i, r, r', K, K', HE, hir, hir', rfl, HRr, HRr', hsz, hsz', HX', HG⟩ := hrel
      obtain ⟨b0, b1, b2, b3, b4⟩ := HX'.out.cells5
      have lb := HX'.out.lt
      cases r with
      | nil =>
        have hi : i = N := by simpa [Forest.len] using hir
        subst hi
        cases r' with
        | cons => simp only [Forest.len] at hir'; omega
        | nil =>
          go_wp2_with fail
          go_ret
          exact ⟨ret_bool (by rw [← HE.out]; rfl), HG.out⟩
      | cons t1 n1 s1 k1 m1 u1 x1 sub r =>
        cases r' with
        | nil => simp only [Forest.len] at hir hir'; omega
        | cons t2 n2 s2 k2 m2 u2 x2 sub' r' =>
        have hiN : i < N := by simp only [Forest.len] at hir; omega
        have hiN1 : i + 1 + r.len = N := by simp only [Forest.len] at hir; omega
        have hiN2 : i + 1 + r'.len = N := by simp only [Forest.len] at hir'; omega
        have hsz1 : sub.size < f.size := by simp only [Forest.size] at hsz; omega
        have hsz2 : r.size ≤ f.size := by simp only [Forest.size] at hsz; omega
        have hsz3 : r'.size ≤ 1048576 := by simp only [Forest.size] at hsz'; omega
        have hsub : sub.size ≤ 1048576 := by omega
        have hsub' : sub'.size ≤ 1048576 := by simp only [Forest.size] at hsz'; omega
        obtain ⟨p, o, SA, sc, Ls, Lr, rfl, hb, R1, _, hs1, hs2, _⟩ := HRr.out.range
        obtain ⟨p2, o2, SA2, sc2, Ls2, Lr2, rfl, hb2, R2, _, ht1, ht2, _⟩ := HRr'.out.range
        have HS1 := hid (And.intro hs1 hs2)
        have HS2 := hid (And.intro ht1 ht2)
        have HR1 := hid (And.intro R1 hb)
        have HR2 := hid (And.intro R2 hb2)
        obtain ⟨c0, c1, c2, c3, c4, c5, c6, c7⟩ := range8 R1
        have GE := hid (gb_alloc (gb_refl wr none) (.cells #[.bool t1, .int .i64 n1, .string s1, .int .i64 k1, .int .i64 m1, .string u1, .int .i64 x1, .slice SA sub.len sc] 64))
        have HEn := hid (HoldsT.new wr #[.bool t1, .int .i64 n1, .string s1, .int .i64 k1, .int .i64 m1, .string u1, .int .i64 x1, .slice SA sub.len sc] 64)
        clear hs1 hs2 ht1 ht2 hir hir' R1 R2 hb hb2 hsz hsz'
        cases hq : keyEq t1 n1 s1 t2 n2 s2 with
        | false =>
          have ke := fun (w : World) => (run_keyNeq t1 n1 s1 t2 n2 s2 w)
          rw [hq] at ke
          have HE2 : Hid (false = W) := by have := HE.out; rw [Forest.alike_cons, hq] at this; exact this
          go_wp2_with fail
          refine wp_region_tail 20 (by kernel_rfl) (by kernel_rfl) ?_
          intro wd gd
          have HEd := hid (HEn.out.grow gd)
          have GD := hid (gb_trans GE.out gd)
          clear c0 c1 c2 c3 c4 c5 c6 c7 b0 b1 b2 b3 b4 lb
          obtain ⟨b0, b1, b2, b3, b4⟩ := (HX'.out.grow GD.out).cells5
          have lb := (HX'.out.grow GD.out).lt
          clear gd
          simp only [List.take_succ_cons, List.take_zero, List.drop_succ_cons, List.drop_zero]
          still_step
          refine wpStill_loadR rfl 26 (.tmp 43) rfl wr.heap.size 0 rfl [.bool t1, .int .i64 n1, .string s1] (HEd.out.range 0 [.bool t1, .int .i64 n1, .string s1] rfl) Try.underlying26 rfl Try.infoK ?_
          simp only [Act.put]
          iterate 5 still_step
          refine wpStill_loadR rfl 26 (.tmp 49) rfl p2 (o2 + i * 8) rfl [.bool t2, .int .i64 n2, .string s2] (range_key (rangeAt_grow HR2.out.1 GD.out HR2.out.2)) Try.underlying26 rfl Try.infoK ?_
          simp only [Act.put]
          refine hs_out ?_
          iterate 12 (with_reducible refine hs_step ?_; intro K hK; go_simp; refine hK _ ?_; clear hK K)
          with_reducible refine hs_nil ?_
          go_wp2_with fail
          go_ret
          exact ⟨ret_bool HE2.out, gb_trans HG.out GD.out⟩
        | true =>
          have ke := fun (w : World) => (run_keyNeq t1 n1 s1 t2 n2 s2 w)
          rw [hq] at ke
          obtain ⟨q, hq2⟩ : ∃ q, valAlike k1 m1 u1 sub k2 m2 u2 sub' = q := ⟨_, rfl⟩
          have HE2 : Hid ((q && r.alike r') = W) := by have := HE.out; rw [Forest.alike_cons, hq, hq2] at this; show _ = _; simpa using this
          go_wp2_with fail
          refine wp_region_tail 18 (by kernel_rfl) (by kernel_rfl) ?_
          intro wd gd
          have HEd := hid (HEn.out.grow gd)
          have GD := hid (gb_trans GE.out gd)
          clear c0 c1 c2 c3 c4 c5 c6 c7 b0 b1 b2 b3 b4 lb
          obtain ⟨b0, b1, b2, b3, b4⟩ := (HX'.out.grow GD.out).cells5
          have lb := (HX'.out.grow GD.out).lt
          clear gd
          simp only [List.take_succ_cons, List.take_zero, List.drop_succ_cons, List.drop_zero]
          still_step
          refine wpStill_loadR rfl 26 (.tmp 43) rfl wr.heap.size 0 rfl [.bool t1, .int .i64 n1, .string s1] (HEd.out.range 0 [.bool t1, .int .i64 n1, .string s1] rfl) Try.underlying26 rfl Try.infoK ?_
          simp only [Act.put]
          iterate 5 still_step
          refine wpStill_loadR rfl 26 (.tmp 49) rfl p2 (o2 + i * 8) rfl [.bool t2, .int .i64 n2, .string s2] (range_key (rangeAt_grow HR2.out.1 GD.out HR2.out.2)) Try.underlying26 rfl Try.infoK ?_
          simp only [Act.put]
          refine hs_out ?_
          iterate 3 (with_reducible refine hs_step ?_; intro K hK; go_simp; refine hK _ ?_; clear hK K)
          refine hs_load (by rfl) 31 (.tmp 53) rfl wr.heap.size 3 rfl [.int .i64 k1, .int .i64 m1, .string u1, .int .i64 x1, .slice SA sub.len sc] (HEd.out.range 3 [.int .i64 k1, .int .i64 m1, .string u1, .int .i64 x1, .slice SA sub.len sc] rfl) Try.underlying31 rfl Try.infoV5 ?_
          simp only [Act.put]
          iterate 5 (with_reducible refine hs_step ?_; intro K hK; go_simp; refine hK _ ?_; clear hK K)
          refine hs_load (by rfl) 31 (.tmp 59) rfl p2 (o2 + i * 8 + 3) rfl [.int .i64 k2, .int .i64 m2, .string u2, .int .i64 x2, .slice SA2 sub'.len sc2] (range_val (rangeAt_grow HR2.out.1 GD.out HR2.out.2)) Try.underlying31 rfl Try.infoV5 ?_
          simp only [Act.put]
          with_reducible refine hs_nil ?_
          go_wp2_with fail
          refine (IH.out sub hsz1 sub' wd k1 m1 u1 x1 SA sc Ls k2 m2 u2 x2 SA2 sc2 Ls2 (HS1.out.1.grow GD.out) (HS2.out.1.grow GD.out) hsub hsub').mono ?_
          rintro e w2 ⟨rfl, hg⟩
          rw [hq2]
          clear hq2 b0 b1 b2 b3 b4 lb
          have G2 := hid (gb_trans GD.out hg)
          clear hg
          cases q with
          | false =>
            go_wp2_with fail
            go_ret
            exact ⟨ret_bool (by rw [← HE2.out]; rfl), gb_trans HG.out G2.out⟩
          | true =>
            go_wp2_with fail
            go_roundw
            case rel => exact ⟨i + 1, r, r', _, _, hid (by rw [← HE2.out]; rfl), hiN1, hiN2, by go_num, hid (HS1.out.2.grow G2.out), hid (HS2.out.2.grow G2.out), hsz2, hsz3, hid (HX'.out.grow G2.out), hid (gb_trans HG.out G2.out)⟩
            case measure => simp [intOf]; omega
  · have e1 : valAlike k m u f k' m' u' g = false := by unfold valAlike; rw [decide_eq_false h]; rfl
    rw [e1]
    exact implIdent_no f g w k m u x A c k' m' u' x' B d (by have := f.len_le; omega) (by have := g.len_le; omega) h
theorem implIdent_any (f : Forest) : ∀ g, IdOk 37 f g := by
  obtain ⟨n, hn⟩ : ∃ n, f.size = n := ⟨_, rfl⟩
  induction n using Nat.strongRecOn generalizing f with
  | ind n ih => exact implIdent_step f fun g hg => ih g.size (by omega) g rfl
end Go.Proofs.Ytcgnepgfdipiiaa
