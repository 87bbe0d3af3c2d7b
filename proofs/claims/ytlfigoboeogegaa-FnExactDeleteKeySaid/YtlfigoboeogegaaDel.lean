/- The walk of the program's DeleteKey (printed by gendel.py). -/
import Derived.Test.YtlfigoboeogegaaDelMath
namespace Go.Proofs.Ytlfigoboeogegaa
open Go.RowKit
set_option linter.unusedVariables false

set_option maxHeartbeats 4000000 in
theorem implDel_any (f : Forest) (t : Bool) (p : Int) (s : ByteArray) (w : World) (k m : Int) (u : ByteArray) (x : Int) (A : Option Addr) (c : Nat) (L : List Nat) (hr : RowF w f A 0 f.len L) (hfz : f.size ≤ 1048576) :
    Calls Try.prog 13 #[.agg #[.int .i64 k, .int .i64 m, .string u, .int .i64 x, .slice A f.len c], .agg #[.bool t, .int .i64 p, .string s]] w (CopyPost w k m u x (valDel k t p s f)) := by
  obtain ⟨i0, hi, hz0, hz1, hz2⟩ := info_parts Try.infoE3
  have HI := hid (And.intro hi (And.intro hz0 (And.intro hz1 hz2)))
  have hlen : f.len ≤ 1048576 := by have := f.len_le; omega
  obtain ⟨D, hD0⟩ : ∃ D, valDel k t p s f = D := ⟨_, rfl⟩
  rw [hD0]
  have HD0 := hid hD0
  have HR := hid hr
  clear hD0 hr hi hz0 hz1 hz2
  have HV := hid (((HoldsT.new w #[.int .i64 k, .int .i64 m, .string u, .int .i64 x, .slice A f.len c] 31).alloc (.cells #[.bool t, .int .i64 p, .string s] 34)).alloc (.cells #[.int .i64 0, .int .i64 0, .string { data := #[] }, .int .i64 0, .slice none 0 0] 31))
  have HK := hid (HoldsT.pre1 w #[.bool t, .int .i64 p, .string s] 34 (.cells #[.int .i64 k, .int .i64 m, .string u, .int .i64 x, .slice A f.len c] 31) (.cells #[.int .i64 0, .int .i64 0, .string { data := #[] }, .int .i64 0, .slice none 0 0] 31))
  have HZ := hid (HoldsT.pre2 w #[.int .i64 0, .int .i64 0, .string { data := #[] }, .int .i64 0, .slice none 0 0] 31 (.cells #[.int .i64 k, .int .i64 m, .string u, .int .i64 x, .slice A f.len c] 31) (.cells #[.bool t, .int .i64 p, .string s] 34))
  have G0 := hid (gb_alloc (gb_alloc (gb_alloc (gb_refl w none) (.cells #[.int .i64 k, .int .i64 m, .string u, .int .i64 x, .slice A f.len c] 31)) (.cells #[.bool t, .int .i64 p, .string s] 34)) (.cells #[.int .i64 0, .int .i64 0, .string { data := #[] }, .int .i64 0, .slice none 0 0] 31))
  go_enter Try.func13, Try.ntmps13
  go_wp2_with fail
  refine (implCopy_any f _ k m u x A c L (HR.out.grow G0.out) (by omega)).mono ?_
  rintro e w1 ⟨A1, c1, L1, rfl, _, hT0, hg⟩
  have hT : Rw w1 61 (w.heap.size + 3) f A1 c1 L1 := hT0.mono (by simp)
  have HTL := hid (show ∀ b ∈ blk A1 ++ L1, b < w1.heap.size from hT.own.2.lt)
  have HV1 := hid ((HV.out.grow hg).alloc (.cells #[.int .i64 k, .int .i64 m, .string u, .int .i64 x, .slice A1 f.len c1] 31))
  have HK1 := hid ((HK.out.grow hg).alloc (.cells #[.int .i64 k, .int .i64 m, .string u, .int .i64 x, .slice A1 f.len c1] 31))
  have HZ1 := hid ((HZ.out.grow hg).alloc (.cells #[.int .i64 k, .int .i64 m, .string u, .int .i64 x, .slice A1 f.len c1] 31))
  have HX1 := hid (HoldsT.new w1 #[.int .i64 k, .int .i64 m, .string u, .int .i64 x, .slice A1 f.len c1] 31)
  have HT1 := hid (hT.grow (gb_alloc (gb_refl w1 none) (.cells #[.int .i64 k, .int .i64 m, .string u, .int .i64 x, .slice A1 f.len c1] 31)))
  have G1 := hid (gb_alloc (gb_trans G0.out hg) (.cells #[.int .i64 k, .int .i64 m, .string u, .int .i64 x, .slice A1 f.len c1] 31))
  have hb1 : w.heap.size + 3 ≤ w1.heap.size := by have := hg.size; simpa using this
  have HB1 := hid hb1
  obtain ⟨a0, a1, a2, a3, a4⟩ := HV1.out.cells5
  obtain ⟨d0, d1, d2⟩ := HK1.out.cells3
  have la := HV1.out.lt
  have ld := HK1.out.lt
  clear hT hT0 hg hb1
  go_wp2_with fail
  refine (implFind_any f t p s _ k m u x A c L (HR.out.grow G1.out) hfz).mono ?_
  rintro e w2 ⟨rfl, hg⟩
  clear a0 a1 a2 a3 a4 d0 d1 d2 la ld
  have HZ2 := hid (HZ1.out.grow hg)
  have HX2 := hid (HX1.out.grow hg)
  have HT2 := hid (HT1.out.grow hg)
  have G2 := hid (gb_trans G1.out hg)
  clear hg
  rcases valFind_cases k t p s f with ⟨e1, e2⟩ | ⟨pre, t', n', s', kd, nm, uu, xx, sub, suf, hk4, e1, e2, e3, _⟩
  · rw [e1]
    have hDf : D = f := by rw [← HD0.out, e2]
    subst hDf
    obtain ⟨b0, b1, b2, b3, b4⟩ := HX2.out.cells5
    obtain ⟨r0, r1, r2, r3, r4⟩ := HZ2.out.cells5
    have y0 := HZ2.out.frozen 0; have y1 := HZ2.out.frozen 1; have y2 := HZ2.out.frozen 2; have y3 := HZ2.out.frozen 3; have y4 := HZ2.out.frozen 4
    have lz := HZ2.out.lt
    have lx := HX2.out.lt
    clear e1 e2 HD0
    go_wp2_with fail
    refine bodyPost_ret (results_cell_row rfl _ _ _ _ _ (0, 0) _ rfl (HZ2.out.set5 _ _ _ _ _) Try.underlying31 rfl Try.infoV) rfl ?_
    refine ⟨A1, c1, L1, rfl, HT2.out.nil0, (HT2.out.low (g := w.heap.size + 1 + 1) (gb_set5 (gb_refl _ _) (.inr rfl) _ _ _ _ _) (by omega)).mono (lo' := w.heap.size) (by omega), ?_⟩
    exact gb_set5 G2.out (.inl (Nat.le_succ_of_le (Nat.le_succ _))) _ _ _ _ _
  · have hD := HD0.out
    rw [e2]
    obtain ⟨j, hj⟩ : ∃ j, pre.len = j := ⟨_, rfl⟩
    rw [hj]
    obtain ⟨N, hN⟩ : ∃ N, f.len = N := ⟨_, rfl⟩
    obtain ⟨M, hM⟩ : ∃ M, suf.len = M := ⟨_, rfl⟩
    have hNj : N = j + 1 + M := by have := Forest.len_app pre (.cons t' n' s' kd nm uu xx sub suf); rw [← e1] at this; simp only [Forest.len] at this; omega
    have hDl : D.len = j + M := by rw [← hD, e3, Forest.len_app]; omega
    have HD := hid (And.intro hD (And.intro e3 (And.intro e1 (And.intro hj (And.intro hN hM)))))
    obtain ⟨cs, hown, hsub, hol, hnb⟩ := HT2.out
    rw [hN] at hown
    obtain ⟨g, rfl, hnc, hcm, hlg, hgw⟩ := own_some hown (by omega)
    unfold maxLen at hcm
    rw [e1] at hsub
    obtain ⟨cs1, cs2, La, Lb, rfl, rfl, hs1, hs2⟩ := hsub.split
    obtain ⟨SA, sc, cs3, Ls, Lr, rfl, _, _, hs3, rfl⟩ := hs2
    have hl1 := hs1.length
    have hl3 := hs3.length
    have HS := hid (And.intro (hs1.app hs3) (And.intro hol hnb))
    have HO := hid hown
    have HLN := hid (And.intro hl1 hl3)
    have HLG := hid (And.intro hlg hgw)
    rw [hN] at HX2
    have HXo := hid HX2.out
    have hbg : w.heap.size + 3 ≤ g ∧ g < w1.heap.size := ⟨hlg, HTL.out g (List.mem_append.2 (.inl (by simp [blk])))⟩
    have HBG := hid hbg
    have ne1 : some w1.heap.size ≠ some g := by intro e; injection e; omega
    have HNE := hid ne1
    clear hs1 hs3 hol hnb hown hl1 hl3 hlg hgw hbg ne1 hD hj e1 e2 e3 HX2 hN hM hk4 hsub
    go_wp2_with fail
    refine wp_region_E 11 12 rfl (by kernel_rfl) (fun wd w' => wd.grownBy w' (some g)) fun wd gd => ?_
    have GD := hid gd
    have XD := hid (HXo.out.grow GD.out)
    have OD := hid (own_grow HO.out GD.out)
    have g0 : wd.grownBy wd (some g) := gb_refl _ _
    clear gd
    refine E_take 0 rfl (some 14) rfl (by kernel_rfl) (by kernel_rfl) (by kernel_rfl) (by kernel_rfl) (by decide) (fun _ _ _ _ h => h) rfl (.pointer (some ⟨w1.heap.size, 4, none⟩)) (fun w' hw => by go_simp) g0 ?_
    simp only [Act.put, List.setIfInBounds_toArray, List.set_cons_succ, List.set_cons_zero]
    refine E_take 1 rfl (some 15) rfl (by kernel_rfl) (by kernel_rfl) (by kernel_rfl) (by kernel_rfl) (by decide) (fun _ _ _ _ h => h) rfl (.slice (some ⟨g, 0, none⟩) N c1) (fun w' hw => by have fc := hw.cell XD.out.cells5.2.2.2.2 HNE.out; go_simp) g0 ?_
    simp only [Act.put, List.setIfInBounds_toArray, List.set_cons_succ, List.set_cons_zero]
    refine E_take 2 rfl (some 16) rfl (by kernel_rfl) (by kernel_rfl) (by kernel_rfl) (by kernel_rfl) (by decide) (fun _ _ _ _ h => h) rfl (.int .i64 j) (fun w' hw => run_mov (.tmp 6) rfl rfl) g0 ?_
    simp only [Act.put, List.setIfInBounds_toArray, List.set_cons_succ, List.set_cons_zero]
    refine E_take 3 rfl (some 17) rfl (by kernel_rfl) (by kernel_rfl) (by kernel_rfl) (by kernel_rfl) (by decide) (fun _ _ _ _ h => h) rfl (.slice (some ⟨g, 0, none⟩) j c1) (fun w' hw => run_upto (.tmp 15) (.tmp 16) rfl rfl rfl (by omega)) g0 ?_
    simp only [Act.put, List.setIfInBounds_toArray, List.set_cons_succ, List.set_cons_zero]
    refine E_take 4 rfl (some 18) rfl (by kernel_rfl) (by kernel_rfl) (by kernel_rfl) (by kernel_rfl) (by decide) (fun _ _ _ _ h => h) rfl (.pointer (some ⟨w1.heap.size, 4, none⟩)) (fun w' hw => by go_simp) g0 ?_
    simp only [Act.put, List.setIfInBounds_toArray, List.set_cons_succ, List.set_cons_zero]
    refine E_take 5 rfl (some 19) rfl (by kernel_rfl) (by kernel_rfl) (by kernel_rfl) (by kernel_rfl) (by decide) (fun _ _ _ _ h => h) rfl (.slice (some ⟨g, 0, none⟩) N c1) (fun w' hw => by have fc := hw.cell XD.out.cells5.2.2.2.2 HNE.out; go_simp) g0 ?_
    simp only [Act.put, List.setIfInBounds_toArray, List.set_cons_succ, List.set_cons_zero]
    refine E_take 6 rfl (some 20) rfl (by kernel_rfl) (by kernel_rfl) (by kernel_rfl) (by kernel_rfl) (by decide) (fun _ _ _ _ h => h) rfl (.int .i64 j) (fun w' hw => run_mov (.tmp 6) rfl rfl) g0 ?_
    simp only [Act.put, List.setIfInBounds_toArray, List.set_cons_succ, List.set_cons_zero]
    obtain ⟨j1, ej⟩ : ∃ z : Nat, (j : Int) + 1 = (z : Int) := ⟨j + 1, rfl⟩
    have hj1 : j1 ≤ N := by omega
    have hjM : N - j1 = M := by omega
    have HJ := hid hjM
    have hjm : j + M ≤ 1048576 := by have := HD.out.2.2.2.2.1; omega
    have hjb : j ≤ 1048576 := by omega
    have HNj := hid hNj
    have HDl := hid hDl
    clear hjM hNj hDl
    refine E_take 7 rfl (some 21) rfl (by kernel_rfl) (by kernel_rfl) (by kernel_rfl) (by kernel_rfl) (by decide) (fun _ _ _ _ h => h) rfl (.int .i64 j1) (fun w' hw => by go_simp; rw [IntKind.wrap_i64]; omega) g0 ?_
    simp only [Act.put, List.setIfInBounds_toArray, List.set_cons_succ, List.set_cons_zero]
    refine E_takeF 8 rfl (some 22) rfl (by kernel_rfl) (by kernel_rfl) (by kernel_rfl) (by kernel_rfl) (by decide) (fun _ _ _ _ h => h) rfl (.tmp 19) (.tmp 21) rfl rfl rfl (by omega) hnc g0 ?_
    intro ad had
    simp only [Act.put, List.setIfInBounds_toArray, List.set_cons_succ, List.set_cons_zero]
    have hjM := HJ.out
    rw [hjM]
    have had2 : 0 < M → ad = ⟨g, j1 * 8, none⟩ := fun h => had (by omega)
    have h8 : (cs1 ++ ([.bool t', .int .i64 n', .string s', .int .i64 kd, .int .i64 nm, .string uu, .int .i64 xx, .slice SA sub.len sc] : List Value)).length = j1 * 8 := by
      have h1 := HLN.out.1
      rw [HD.out.2.2.2.1] at h1
      simp only [List.length_append, List.length_cons, List.length_nil, h1]
      omega
    have hnews := own_news OD.out h8 (by rw [HLN.out.2, HD.out.2.2.2.2.2]) had2
    have hOP := own_take OD.out (j := j) (by omega)
    have htk : (cs1 ++ (([.bool t', .int .i64 n', .string s', .int .i64 kd, .int .i64 nm, .string uu, .int .i64 xx, .slice SA sub.len sc] : List Value) ++ cs3)).take (j * 8) = cs1 := by
      have h1 := HLN.out.1
      rw [HD.out.2.2.2.1] at h1
      rw [← h1, List.take_left]
    rw [htk] at hOP
    have hc1 := (SubF.cells1 HS.out.1)
    obtain ⟨i0', hI⟩ : ∃ z : TypeInfo, z = i0 := ⟨_, rfl⟩
    clear had hjM htk hI i0'
    refine E_only 9 (by kernel_rfl) (E_append 9 rfl (some 23) rfl rfl (.tmp 17) (.tmp 22) 29 rfl (w.heap.size + 3) 61 i0 entry0 8 96 Try.underlying29 HI.out.1 HI.out.2.1 HI.out.2.2.1 HI.out.2.2.2 rfl (by omega) (.slice (some ⟨g, 0, none⟩) j c1) j cs1 rfl hOP
      ad M (c1 - j1) cs3 rfl (by rw [HLN.out.2, HD.out.2.2.2.2.2]) hnews (fun u hu => hc1 u (List.mem_append.2 (.inr hu))) (by unfold maxLen; omega) (by omega) (by have := GD.out.size; have := HLG.out; omega) ?_)
    intro A3 c3 w3 hown3 hA3 hg3 hat3
    have hg3' : wd.grownBy w3 (some g) := hg3
    refine ⟨fun _ => hg3', ?_⟩
    have HOW3 := hid hown3
    have HA3 := hid hA3
    have HAT := hid hat3
    have HG3 := hid hg3'
    clear hown3 hA3 hat3 hg3 hg3' hnews hOP hc1 had2 h8
    simp only [Act.put, List.setIfInBounds_toArray, List.set_cons_succ, List.set_cons_zero]
    refine E_only 10 (by kernel_rfl) (E_val 10 rfl (some 24) rfl rfl (.pointer (some ⟨w1.heap.size, 4, none⟩)) w3 (by go_simp) ⟨fun _ => HG3.out, ?_⟩)
    simp only [Act.put, List.setIfInBounds_toArray, List.set_cons_succ, List.set_cons_zero]
    have HX3 := hid (XD.out.kept HG3.out (fun e => HNE.out e.symm))
    have fc := HX3.out.cells5.2.2.2.2
    have fz := HX3.out.frozen 4
    have fl := HX3.out.lt
    refine E_only 11 (by kernel_rfl) (E_skip 11 rfl none rfl rfl (w3.setCell ⟨w1.heap.size, 4, none⟩ (.slice A3 (j + M) c3)) (by go_simp) ⟨fun h => absurd rfl h, ?_⟩)
    refine E_done (by kernel_rfl) ?_ _
    simp only [Act.put]
    clear fc fz fl g0
    have s4 : w3.grownBy (w3.setCell ⟨w1.heap.size, 4, none⟩ (.slice A3 (j + M) c3)) (some w1.heap.size) := gb_set (gb_refl _ _) (.inr rfl) _
    have HX4 := hid (show HoldsT (w3.setCell ⟨w1.heap.size, 4, none⟩ (.slice A3 (j + M) c3)) w1.heap.size #[.int .i64 k, .int .i64 m, .string u, .int .i64 x, .slice A3 (j + M) c3] 31 from HX3.out.set 4 _)
    have HZ4 := hid (((HZ2.out.grow GD.out).kept HG3.out (by intro e; injection e with e; have := HBG.out; omega)).kept s4 (by intro e; injection e with e; have := HB1.out; omega))
    have HS4 := hid s4
    clear s4
    generalize hw4 : w3.setCell ⟨w1.heap.size, 4, none⟩ (.slice A3 (j + M) c3) = w4 at HX4 HZ4 HS4 ⊢
    clear hw4
    obtain ⟨b0, b1, b2, b3, b4⟩ := HX4.out.cells5
    obtain ⟨r0, r1, r2, r3, r4⟩ := HZ4.out.cells5
    have y0 := HZ4.out.frozen 0; have y1 := HZ4.out.frozen 1; have y2 := HZ4.out.frozen 2; have y3 := HZ4.out.frozen 3; have y4 := HZ4.out.frozen 4
    have lz := HZ4.out.lt
    have lx := HX4.out.lt
    go_wp2_with fail
    refine bodyPost_ret (results_cell_row rfl _ _ _ _ _ (0, 0) _ rfl (HZ4.out.set5 _ _ _ _ _) Try.underlying31 rfl Try.infoV) rfl ?_
    have hDD : D = pre.app suf := by rw [← HD.out.1, HD.out.2.1]
    have hgL : ∀ q, some g = some q → q ∉ La ++ Lr := fun q hq hm => by
      injection hq with hq
      subst hq
      refine HS.out.2.2 g (by simp [blk]) ?_
      rcases List.mem_append.1 hm with h | h
      · exact List.mem_append.2 (.inl h)
      · exact List.mem_append.2 (.inr (List.mem_append.2 (.inr (List.mem_append.2 (.inr h)))))
    have hOL : OwnL w2 61 (w.heap.size + 3) (La ++ Lr) := by
      have h := HS.out.2.1
      rw [show La ++ (blk SA ++ (Ls ++ Lr)) = La ++ ((blk SA ++ Ls) ++ Lr) by rw [List.append_assoc]] at h
      exact h.drop
    have hOL3 := (hOL.grow GD.out).kept HG3.out hgL
    have hR3 : Rw w3 61 (w.heap.size + 3) D A3 c3 (La ++ Lr) := by
      refine ⟨cs1 ++ cs3, ?_, ?_, hOL3, fun b hb hm => ?_⟩
      · rw [HDl.out]; exact HOW3.out
      · rw [hDD]; exact (HS.out.1.grow GD.out).kept HG3.out hgL
      · rcases HAT.out with h | h
        · have h2 := (blk_own (n := j + M) (c := c3)).2 hb
          exact hgL b (h.symm.trans h2) hm
        · have h2 := (blk_own (n := j + M) (c := c3)).2 hb
          have h3 := h.symm.trans h2
          injection h3 with h3
          have h4 := (hOL.grow GD.out).lt b hm
          omega
    have hne : ∀ q, some w1.heap.size = some q → q ∉ blk A3 ++ (La ++ Lr) := fun q hq hm => by
      injection hq with hq
      subst hq
      rcases List.mem_append.1 hm with h | h
      · have h2 := (blk_own (n := j + M) (c := c3)).2 h
        rcases HAT.out with h3 | h3
        · have h4 := h3.symm.trans h2
          injection h4 with h4
          have h5 : g = w1.heap.size := h4
          have := HBG.out
          omega
        · have h4 := h3.symm.trans h2
          injection h4 with h4
          have h5 : wd.heap.size = w1.heap.size := h4
          have := HXo.out.lt
          have := GD.out.size
          omega
      · refine absurd (HTL.out w1.heap.size (List.mem_append.2 (.inr ?_))) (Nat.lt_irrefl _)
        rcases List.mem_append.1 h with h | h
        · exact List.mem_append.2 (.inl h)
        · exact List.mem_append.2 (.inr (List.mem_append.2 (.inr (List.mem_append.2 (.inr h)))))
    have hR4 := hR3.kept HS4.out hne
    refine ⟨A3, c3, La ++ Lr, by rw [HDl.out], hR4.nil0, (hR4.low (g := w.heap.size + 1 + 1) (gb_set5 (gb_refl _ _) (.inr rfl) _ _ _ _ _) (by omega)).mono (lo' := w.heap.size) (by omega), ?_⟩
    have hgf := gb_fresh (gb_fresh (gb_trans G2.out GD.out) HG3.out (fun q hq => by injection hq with hq; have := HBG.out; omega)) HS4.out (fun q hq => by injection hq with hq; have := HB1.out; omega)
    exact gb_set5 hgf (.inl (Nat.le_succ_of_le (Nat.le_succ _))) _ _ _ _ _
end Go.Proofs.Ytlfigoboeogegaa
