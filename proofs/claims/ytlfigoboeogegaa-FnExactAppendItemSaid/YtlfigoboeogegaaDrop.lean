/- The walks of l6Drop and of the reference's DeleteKey (printed by gendrop.py). -/
import Derived.Test.YtlfigoboeogegaaDelMath
namespace Go.Proofs.Ytlfigoboeogegaa
open Go.RowKit
set_option linter.unusedVariables false

def ShownPost (w : World) (k m : Int) (u : ByteArray) (x : Int) (f : Forest) (e : Ending) (w' : World) : Prop := ∃ A' c' L', e = .returned (.agg #[.int .i64 k, .int .i64 m, .string u, .int .i64 x, .slice A' f.len c']) ∧ RowF w' f A' 0 f.len L' ∧ w.grownBy w' none
set_option maxHeartbeats 4000000 in
theorem specDrop_any (f : Forest) (t : Bool) (p : Int) (s : ByteArray) (w : World) (k m : Int) (u : ByteArray) (x : Int) (A : Option Addr) (c : Nat) (L : List Nat) (hr : RowF w f A 0 f.len L) (hc : f.len ≤ c) (hcm : c ≤ maxLen) (hfz : f.size ≤ 1048576) :
    Calls Try.prog 32 #[.agg #[.int .i64 k, .int .i64 m, .string u, .int .i64 x, .slice A f.len c], .agg #[.bool t, .int .i64 p, .string s]] w (ShownPost w k m u x (valDel k t p s f)) := by
  unfold maxLen at hcm
  obtain ⟨i0, hi, hz0, hz1, hz2⟩ := info_parts Try.infoE3
  have HI := hid (And.intro hi (And.intro hz0 (And.intro hz1 hz2)))
  have hlen : f.len ≤ 1048576 := by have := f.len_le; omega
  obtain ⟨D, hD0⟩ : ∃ D, valDel k t p s f = D := ⟨_, rfl⟩
  rw [hD0]
  have HD0 := hid hD0
  have HR := hid hr
  clear hD0 hr hi hz0 hz1 hz2
  have HV := hid (((HoldsT.new w #[.int .i64 k, .int .i64 m, .string u, .int .i64 x, .slice A f.len c] 31).alloc (.cells #[.bool t, .int .i64 p, .string s] 34)).alloc (.cells #[.int .i64 0, .int .i64 0, .string { data := #[] }, .int .i64 0, .slice none 0 0] 31))
  have HK := hid (HoldsT.pre1 w #[.bool t, .int .i64 p, .string s] 34 (.cells #[.int .i64 k, .int .i64 m, .string u, .int .i64 x, .slice A f.len c] 31) (.cells #[.int .i64 0, .int .i64 0, .string { data := #[] }, .int .i64 0, .slice none 0 0] 31))
  have HZ := hid (HoldsT.pre2 w #[.int .i64 0, .int .i64 0, .string { data := #[] }, .int .i64 0, .slice none 0 0] 31 (.cells #[.int .i64 k, .int .i64 m, .string u, .int .i64 x, .slice A f.len c] 31) (.cells #[.bool t, .int .i64 p, .string s] 34))
  have G0 := hid (gb_alloc (gb_alloc (gb_alloc (gb_refl w none) (.cells #[.int .i64 k, .int .i64 m, .string u, .int .i64 x, .slice A f.len c] 31)) (.cells #[.bool t, .int .i64 p, .string s] 34)) (.cells #[.int .i64 0, .int .i64 0, .string { data := #[] }, .int .i64 0, .slice none 0 0] 31))
  go_enter Try.func32, Try.ntmps32
  go_wp2_with fail
  refine (specL5Find_any f t p s _ k m u x A c L (HR.out.grow G0.out) hfz).mono ?_
  rintro e w2 ⟨rfl, hg⟩
  have HV2 := hid (HV.out.grow hg)
  have HZ2 := hid (HZ.out.grow hg)
  have G2 := hid (gb_trans G0.out hg)
  have hb1 : w.heap.size + 3 ≤ w2.heap.size := by have := hg.size; simpa using this
  have HB1 := hid hb1
  obtain ⟨a0, a1, a2, a3, a4⟩ := HV2.out.cells5
  have la := HV2.out.lt
  clear hg hb1
  rcases valFind_cases k t p s f with ⟨e1, e2⟩ | ⟨pre, t', n', s', kd, nm, uu, xx, sub, suf, hk4, e1, e2, e3, _⟩
  · rw [e1]
    have hDf : D = f := by rw [← HD0.out, e2]
    subst hDf
    obtain ⟨r0, r1, r2, r3, r4⟩ := HZ2.out.cells5
    have y0 := HZ2.out.frozen 0; have y1 := HZ2.out.frozen 1; have y2 := HZ2.out.frozen 2; have y3 := HZ2.out.frozen 3; have y4 := HZ2.out.frozen 4
    have lz := HZ2.out.lt
    clear e1 e2 HD0
    go_wp2_with fail
    refine bodyPost_ret (results_cell_row rfl _ _ _ _ _ (0, 0) _ rfl (HZ2.out.set5 _ _ _ _ _) Try.underlying31 rfl Try.infoV) rfl ?_
    have hgf := gb_set5 G2.out (g := w.heap.size + 1 + 1) (.inl (Nat.le_succ_of_le (Nat.le_succ _))) (.int .i64 k) (.int .i64 m) (.string u) (.int .i64 x) (.slice A D.len c)
    exact ⟨A, c, L, rfl, HR.out.grow hgf, hgf⟩
  · have hD := HD0.out
    rw [e2]
    obtain ⟨j, hj⟩ : ∃ j, pre.len = j := ⟨_, rfl⟩
    rw [hj]
    obtain ⟨N, hN⟩ : ∃ N, f.len = N := ⟨_, rfl⟩
    obtain ⟨M, hM⟩ : ∃ M, suf.len = M := ⟨_, rfl⟩
    have hNj : N = j + 1 + M := by have := Forest.len_app pre (.cons t' n' s' kd nm uu xx sub suf); rw [← e1] at this; simp only [Forest.len] at this; omega
    have hDl : D.len = j + M := by rw [← hD, e3, Forest.len_app]; omega
    have HD := hid (And.intro hD (And.intro e3 (And.intro e1 (And.intro hj (And.intro hN hM)))))
    obtain ⟨b, o, hA⟩ : ∃ b o, A = some ⟨b, o, none⟩ := by
      have h := HR.out
      rcases hf : f with _ | ⟨t9, n9, s9, k9, m9, u9, x9, b9, r9⟩
      · rw [hf] at hN; simp only [Forest.len] at hN; omega
      · rw [hf] at h
        obtain ⟨b, o, _, _, _, _, e, _⟩ := h.range
        exact ⟨b, o, e⟩
    subst hA
    have hbw : b < w.heap.size := by
      have h := HR.out
      rcases hf : f with _ | ⟨t9, n9, s9, k9, m9, u9, x9, b9, r9⟩
      · rw [hf] at hN; simp only [Forest.len] at hN; omega
      · rw [hf] at h
        obtain ⟨b2, o2, _, _, _, _, e, hb, _⟩ := h.range
        injection e with e
        injection e with e
        subst e
        exact hb
    obtain ⟨cs, hsub, hcell⟩ := HR.out.sub
    rw [e1] at hsub
    obtain ⟨cs1, cs2, La, Lb, rfl, rfl, hs1, hs2⟩ := hsub.split
    obtain ⟨SA, sc, cs3, Ls, Lr, rfl, _, _, hs3, rfl⟩ := hs2
    have hl1 := hs1.length
    have hl3 := hs3.length
    rw [hj] at hl1
    rw [hM] at hl3
    have HS := hid (hs1.app hs3)
    have HC := hid (And.intro hcell hbw)
    have HLN := hid (And.intro hl1 hl3)
    rw [hN] at hc HV2 a4 ⊢
    have HNj := hid hNj
    have HDl := hid hDl
    have hjN : j + 1 ≤ N := by omega
    have hjM : j + M ≤ 1048576 := by omega
    have hjb : j ≤ 1048576 := by omega
    have HX := hid (HoldsT.new w2 #[.int .i64 k, .int .i64 m, .string u, .int .i64 x, .slice (some ⟨b, o, none⟩) N c] 31)
    have GX := hid (gb_alloc (gb_refl w2 none) (.cells #[.int .i64 k, .int .i64 m, .string u, .int .i64 x, .slice (some ⟨b, o, none⟩) N c] 31))
    clear hs1 hs3 hl1 hl3 hD hj e1 e2 e3 hN hM hk4 hsub hcell hNj hDl HD0
    go_wp2_with fail
    clear a0 a1 a2 a3 a4 la
    refine wp_region_E 13 14 rfl (by kernel_rfl) (fun wd w' => wd.grownBy w' none) fun wd gd => ?_
    have GD := hid (gb_trans GX.out gd)
    have XD := hid (HX.out.grow gd)
    have VD := hid (HV2.out.grow GD.out)
    have g0 : wd.grownBy wd none := gb_refl _ _
    clear gd
    refine E_take 1 rfl (some 15) rfl (by kernel_rfl) (by kernel_rfl) (by kernel_rfl) (by kernel_rfl) (by decide) (fun _ _ _ _ h => h) rfl (.pointer (some ⟨w.heap.size, 4, none⟩)) (fun w' hw => by go_simp) g0 ?_
    simp only [Act.put, List.setIfInBounds_toArray, List.set_cons_succ, List.set_cons_zero]
    refine E_take 2 rfl (some 16) rfl (by kernel_rfl) (by kernel_rfl) (by kernel_rfl) (by kernel_rfl) (by decide) (fun _ _ _ _ h => h) rfl (.slice (some ⟨b, o, none⟩) N c) (fun w' hw => by have fc := hw.cell VD.out.cells5.2.2.2.2 (by simp); go_simp) g0 ?_
    simp only [Act.put, List.setIfInBounds_toArray, List.set_cons_succ, List.set_cons_zero]
    refine E_take 3 rfl (some 17) rfl (by kernel_rfl) (by kernel_rfl) (by kernel_rfl) (by kernel_rfl) (by decide) (fun _ _ _ _ h => h) rfl (.int .i64 j) (fun w' hw => run_mov (.tmp 5) rfl rfl) g0 ?_
    simp only [Act.put, List.setIfInBounds_toArray, List.set_cons_succ, List.set_cons_zero]
    refine E_take 4 rfl (some 18) rfl (by kernel_rfl) (by kernel_rfl) (by kernel_rfl) (by kernel_rfl) (by decide) (fun _ _ _ _ h => h) rfl (.slice (some ⟨b, o, none⟩) j c) (fun w' hw => run_uptoO (.tmp 16) (.tmp 17) rfl rfl rfl (by omega)) g0 ?_
    simp only [Act.put, List.setIfInBounds_toArray, List.set_cons_succ, List.set_cons_zero]
    refine E_take 6 rfl (some 20) rfl (by kernel_rfl) (by kernel_rfl) (by kernel_rfl) (by kernel_rfl) (by decide) (fun _ _ _ _ h => h) rfl (.pointer (some ⟨w.heap.size, 4, none⟩)) (fun w' hw => by go_simp) g0 ?_
    simp only [Act.put, List.setIfInBounds_toArray, List.set_cons_succ, List.set_cons_zero]
    refine E_take 7 rfl (some 21) rfl (by kernel_rfl) (by kernel_rfl) (by kernel_rfl) (by kernel_rfl) (by decide) (fun _ _ _ _ h => h) rfl (.slice (some ⟨b, o, none⟩) N c) (fun w' hw => by have fc := hw.cell VD.out.cells5.2.2.2.2 (by simp); go_simp) g0 ?_
    simp only [Act.put, List.setIfInBounds_toArray, List.set_cons_succ, List.set_cons_zero]
    refine E_take 8 rfl (some 22) rfl (by kernel_rfl) (by kernel_rfl) (by kernel_rfl) (by kernel_rfl) (by decide) (fun _ _ _ _ h => h) rfl (.int .i64 j) (fun w' hw => run_mov (.tmp 5) rfl rfl) g0 ?_
    simp only [Act.put, List.setIfInBounds_toArray, List.set_cons_succ, List.set_cons_zero]
    obtain ⟨j1, ej⟩ : ∃ z : Nat, (j : Int) + 1 = (z : Int) := ⟨j + 1, rfl⟩
    refine E_take 9 rfl (some 23) rfl (by kernel_rfl) (by kernel_rfl) (by kernel_rfl) (by kernel_rfl) (by decide) (fun _ _ _ _ h => h) rfl (.int .i64 j1) (fun w' hw => by go_simp; rw [IntKind.wrap_i64]; omega) g0 ?_
    simp only [Act.put, List.setIfInBounds_toArray, List.set_cons_succ, List.set_cons_zero]
    refine E_takeFO 10 rfl (some 24) rfl (by kernel_rfl) (by kernel_rfl) (by kernel_rfl) (by kernel_rfl) (by decide) (fun _ _ _ _ h => h) rfl (.tmp 21) (.tmp 23) rfl rfl rfl (by omega) hc g0 ?_
    intro ad had
    simp only [Act.put, List.setIfInBounds_toArray, List.set_cons_succ, List.set_cons_zero]
    have hjM2 : N - j1 = M := by have := HNj.out; omega
    rw [hjM2]
    have had2 : 0 < M → ad = ⟨b, o + j1 * 8, none⟩ := fun h => had (by omega)
    have HAD := hid had2
    clear had hjM2 had2
    refine E_only 0 (by kernel_rfl) (E_val 0 rfl (some 14) rfl rfl (.slice (some ⟨wd.heap.size, 0, none⟩) 0 0) (wd.alloc (.cells #[] 61)) (by go_simp) ⟨fun _ => gb_alloc (gb_refl _ _) _, ?_⟩)
    simp only [Act.put, List.setIfInBounds_toArray, List.set_cons_succ, List.set_cons_zero]
    have OW := hid (World.ownsRow_made (base := wd.heap.size) (e := 61) (size := 8) wd #[] 0 (Nat.le_refl _) (by unfold maxLen; omega) (by simp))
    have GA := hid (gb_alloc (gb_refl wd none) (.cells #[] 61))
    have hcell1 : ∀ (w9 : World), wd.grownBy w9 none → ∀ q u, cs1[q]? = some u → w9.cell? ((⟨b, o, none⟩ : Addr).add q) = some u := fun w9 h9 q u hq => by
      have hl : q < cs1.length := (List.getElem?_eq_some_iff.1 hq).1
      have hb9 : b < w.heap.size := HC.out.2
      have h1 := HC.out.1 q (by simp only [List.length_append]; omega)
      rw [Nat.zero_mul, Nat.add_zero, List.getElem?_append_left hl, hq] at h1
      rw [Addr.add_mid]
      exact (gb_trans (gb_trans G2.out GD.out) h9).cell h1 (by simp)
    have hcell3 : ∀ (w9 : World), wd.grownBy w9 none → ∀ q u, cs3[q]? = some u → w9.cell? (ad.add q) = some u := fun w9 h9 q u hq => by
      have hl : q < cs3.length := (List.getElem?_eq_some_iff.1 hq).1
      obtain rfl := HAD.out (by have := HLN.out.2; omega)
      have h8 : (cs1 ++ ([.bool t', .int .i64 n', .string s', .int .i64 kd, .int .i64 nm, .string uu, .int .i64 xx, .slice SA sub.len sc] : List Value)).length = j1 * 8 := by
        simp only [List.length_append, List.length_cons, List.length_nil, HLN.out.1]; omega
      have h1 := HC.out.1 (j1 * 8 + q) (by rw [← List.append_assoc, List.length_append, h8]; omega)
      rw [← List.append_assoc, List.getElem?_append_right (by rw [h8]; omega), h8, show j1 * 8 + q - j1 * 8 = q by omega, hq, Nat.zero_mul, Nat.add_zero, ← Nat.add_assoc] at h1
      rw [Addr.add_mid]
      exact (gb_trans (gb_trans G2.out GD.out) h9).cell h1 (by simp)
    have hcn := SubF.cells1 HS.out
    refine E_only 5 (by kernel_rfl) (E_append 5 rfl (some 19) rfl rfl (.tmp 14) (.tmp 18) 29 rfl wd.heap.size 61 i0 entry0 8 96 Try.underlying29 HI.out.1 HI.out.2.1 HI.out.2.2.1 HI.out.2.2.2 rfl (by omega) (.slice (some ⟨wd.heap.size, 0, none⟩) 0 0) 0 [] rfl OW.out
      ⟨b, o, none⟩ j c cs1 rfl HLN.out.1 (hcell1 _ GA.out) (fun u hu => hcn u (List.mem_append.2 (.inl hu))) (by unfold maxLen; omega) (by omega) GA.out.size ?_)
    rw [Nat.zero_add, List.nil_append]
    intro A2 c2 w3 hown2 hA2 hg2 _
    have GB : Hid (wd.grownBy w3 none) := hid (gb_fresh GA.out hg2 (fun q hq => by have h : wd.heap.size = q := Option.some.inj hq; omega))
    refine ⟨fun _ => GB.out, ?_⟩
    have HOW2 := hid hown2
    clear hown2 hA2 hg2
    simp only [Act.put, List.setIfInBounds_toArray, List.set_cons_succ, List.set_cons_zero]
    refine E_only 11 (by kernel_rfl) (E_append 11 rfl (some 25) rfl rfl (.tmp 19) (.tmp 24) 29 rfl wd.heap.size 61 i0 entry0 8 96 Try.underlying29 HI.out.1 HI.out.2.1 HI.out.2.2.1 HI.out.2.2.2 rfl (by omega) (.slice A2 j c2) j cs1 rfl HOW2.out
      ad M (c - j1) cs3 rfl HLN.out.2 (hcell3 _ GB.out) (fun u hu => hcn u (List.mem_append.2 (.inr hu))) (by unfold maxLen; omega) (by omega) GB.out.size ?_)
    intro A3 c3 w4 hown3 hA3 hg3 _
    have GC : Hid (wd.grownBy w4 none) := hid (gb_fresh GB.out hg3 (fun q hq => (HOW2.out.lt q hq).1))
    refine ⟨fun _ => GC.out, ?_⟩
    have HOW3 := hid hown3
    clear hown3 hA3 hg3 hcell1 hcell3 hcn
    simp only [Act.put, List.setIfInBounds_toArray, List.set_cons_succ, List.set_cons_zero]
    refine E_only 12 (by kernel_rfl) (E_val 12 rfl (some 26) rfl rfl (.pointer (some ⟨w2.heap.size, 4, none⟩)) w4 (by go_simp) ⟨fun _ => GC.out, ?_⟩)
    simp only [Act.put, List.setIfInBounds_toArray, List.set_cons_succ, List.set_cons_zero]
    have HX3 := hid (XD.out.grow GC.out)
    have fc := HX3.out.cells5.2.2.2.2
    have fz := HX3.out.frozen 4
    have fl := HX3.out.lt
    refine E_only 13 (by kernel_rfl) (E_skip 13 rfl none rfl rfl (w4.setCell ⟨w2.heap.size, 4, none⟩ (.slice A3 (j + M) c3)) (by go_simp) ⟨fun h => absurd rfl h, ?_⟩)
    refine E_done (by kernel_rfl) ?_ _
    simp only [Act.put]
    clear fc fz fl g0
    have s4 : w4.grownBy (w4.setCell ⟨w2.heap.size, 4, none⟩ (.slice A3 (j + M) c3)) (some w2.heap.size) := gb_set (gb_refl _ _) (.inr rfl) _
    have HX4 := hid (show HoldsT (w4.setCell ⟨w2.heap.size, 4, none⟩ (.slice A3 (j + M) c3)) w2.heap.size #[.int .i64 k, .int .i64 m, .string u, .int .i64 x, .slice A3 (j + M) c3] 31 from HX3.out.set 4 _)
    have HZ4 := hid (((HZ2.out.grow GD.out).grow GC.out).kept s4 (by intro e; injection e with e; have := HB1.out; omega))
    have HS4 := hid s4
    clear s4
    generalize hw4 : w4.setCell ⟨w2.heap.size, 4, none⟩ (.slice A3 (j + M) c3) = w5 at HX4 HZ4 HS4 ⊢
    clear hw4
    obtain ⟨b0, b1, b2, b3, b4⟩ := HX4.out.cells5
    obtain ⟨r0, r1, r2, r3, r4⟩ := HZ4.out.cells5
    have y0 := HZ4.out.frozen 0; have y1 := HZ4.out.frozen 1; have y2 := HZ4.out.frozen 2; have y3 := HZ4.out.frozen 3; have y4 := HZ4.out.frozen 4
    have lz := HZ4.out.lt
    have lx := HX4.out.lt
    go_wp2_with fail
    refine bodyPost_ret (results_cell_row rfl _ _ _ _ _ (0, 0) _ rfl (HZ4.out.set5 _ _ _ _ _) Try.underlying31 rfl Try.infoV) rfl ?_
    have hDD : D = pre.app suf := by rw [← HD.out.1, HD.out.2.1]
    have G5 : w.grownBy w5 none := gb_fresh (gb_trans (gb_trans G2.out GD.out) GC.out) HS4.out (fun q hq => by injection hq with hq; have := HB1.out; omega)
    have hgf := gb_set5 G5 (g := w.heap.size + 1 + 1) (.inl (Nat.le_succ_of_le (Nat.le_succ _))) (.int .i64 k) (.int .i64 m) (.string u) (.int .i64 x) (.slice A3 (j + M) c3)
    have hO5 := own_kept (own_kept HOW3.out HS4.out (fun q hq h => by injection hq with hq; have := (HOW3.out.lt q h).1; have := HX.out.lt; have := GD.out.size; have h9 : w2.heap.size < wd.heap.size := XD.out.lt; omega)) (gb_set5 (gb_refl w5 (some (w.heap.size + 1 + 1))) (g := w.heap.size + 1 + 1) (.inr rfl) (.int .i64 k) (.int .i64 m) (.string u) (.int .i64 x) (.slice A3 (j + M) c3)) (fun q hq h => by
      injection hq with hq; have := (HOW3.out.lt q h).1; have := HB1.out; have h9 : w2.heap.size < wd.heap.size := XD.out.lt; omega)
    refine ⟨A3, c3, La ++ Lr, by rw [HDl.out], own_rowF (by rw [HDl.out]; exact hO5) (by rw [hDD]; exact HS.out.grow hgf), hgf⟩
set_option maxHeartbeats 1000000 in
theorem specDel_any (f : Forest) (t : Bool) (p : Int) (s : ByteArray) (w : World) (k m : Int) (u : ByteArray) (x : Int) (A : Option Addr) (c : Nat) (L : List Nat) (hr : RowF w f A 0 f.len L) (hc : f.len ≤ c) (hcm : c ≤ maxLen) (hfz : f.size ≤ 1048576) :
    Calls Try.prog 10 #[.agg #[.int .i64 k, .int .i64 m, .string u, .int .i64 x, .slice A f.len c], .agg #[.bool t, .int .i64 p, .string s]] w (CopyPost w k m u x (valDel k t p s f)) := by
  obtain ⟨D, hD0⟩ : ∃ D, valDel k t p s f = D := ⟨_, rfl⟩
  have hDs : D.size ≤ 4194304 := by have := valDel_size k t p s f; rw [hD0] at this; omega
  have C1 := hid (fun w hr => specDrop_any f t p s w k m u x A c L hr hc hcm hfz)
  rw [hD0] at C1 ⊢
  have HR := hid hr
  clear hD0 hr hc hcm
  have HZ := hid (HoldsT.pre2 w #[.int .i64 0, .int .i64 0, .string { data := #[] }, .int .i64 0, .slice none 0 0] 31 (.cells #[.int .i64 k, .int .i64 m, .string u, .int .i64 x, .slice A f.len c] 31) (.cells #[.bool t, .int .i64 p, .string s] 34))
  have G0 := hid (gb_alloc (gb_alloc (gb_alloc (gb_refl w none) (.cells #[.int .i64 k, .int .i64 m, .string u, .int .i64 x, .slice A f.len c] 31)) (.cells #[.bool t, .int .i64 p, .string s] 34)) (.cells #[.int .i64 0, .int .i64 0, .string { data := #[] }, .int .i64 0, .slice none 0 0] 31))
  go_enter Try.func10, Try.ntmps10
  go_wp2_with fail
  refine (C1.out _ (HR.out.grow G0.out)).mono ?_
  rintro e w1 ⟨A1, c1, L1, rfl, hr1, hg⟩
  have HZ1 := hid (HZ.out.grow hg)
  have G1 := hid (gb_trans G0.out hg)
  have hb1 : w.heap.size + 3 ≤ w1.heap.size := by have := hg.size; simpa using this
  have HB1 := hid hb1
  clear hg hb1
  go_wp2_with fail
  refine (specCopy_any D _ k m u x A1 c1 L1 hr1 hDs).mono ?_
  rintro e w2 ⟨A2, c2, L2, rfl, _, hT, hg⟩
  have HZ2 := hid (HZ1.out.grow hg)
  have HT2 := hid hT
  have G2 := hid (gb_trans G1.out hg)
  clear hT hg hr1
  obtain ⟨r0, r1, r2, r3, r4⟩ := HZ2.out.cells5
  have y0 := HZ2.out.frozen 0; have y1 := HZ2.out.frozen 1; have y2 := HZ2.out.frozen 2; have y3 := HZ2.out.frozen 3; have y4 := HZ2.out.frozen 4
  have lz := HZ2.out.lt
  go_wp2_with fail
  refine bodyPost_ret (results_cell_row rfl _ _ _ _ _ (0, 0) _ rfl (HZ2.out.set5 _ _ _ _ _) Try.underlying31 rfl Try.infoV) rfl ?_
  have h9 := HB1.out
  refine ⟨A2, c2, L2, rfl, HT2.out.nil0, (HT2.out.low (g := w.heap.size + 1 + 1) (gb_set5 (gb_refl _ _) (.inr rfl) _ _ _ _ _) (by omega)).mono (lo' := w.heap.size) (by omega), ?_⟩
  exact gb_set5 G2.out (.inl (Nat.le_succ_of_le (Nat.le_succ _))) _ _ _ _ _
end Go.Proofs.Ytlfigoboeogegaa
