/- The walks of both ValuesOf (printed by genvals.py). -/
import Derived.Test.YtlfigoboeogegaaVals
namespace Go.Proofs.Ytlfigoboeogegaa
open Go.RowKit
set_option linter.unusedVariables false

set_option maxHeartbeats 4000000 in
theorem implVals_any (f : Forest) (w : World) (k m : Int) (u : ByteArray) (x : Int) (A : Option Addr) (c : Nat) (L : List Nat) (hr : RowF w f A 0 f.len L) (hfs : f.size ≤ 1048576) :
    Calls Try.prog 20 #[.agg #[.int .i64 k, .int .i64 m, .string u, .int .i64 x, .slice A f.len c]] w (ValsPost w (valVals k f)) := by
  obtain ⟨i0, hi, hz0, hz1, hz2⟩ := info_parts Try.infoV3
  obtain ⟨N, hN⟩ : ∃ N, f.len = N := ⟨_, rfl⟩
  have hNs : N ≤ 1048576 := by have := f.len_le; omega
  rw [hN] at hr ⊢
  have HR := hid hr
  have HN := hid hN
  have HI := hid (And.intro hi (And.intro hz0 (And.intro hz1 hz2)))
  obtain ⟨D, hD⟩ : ∃ D, valVals k f = D := ⟨_, rfl⟩
  rw [hD]
  have HD0 := hid hD
  clear hr hN hD hi hz0 hz1 hz2
  have tok := hid trivial
  by_cases hk : k = 4
  · subst hk
    have HF : Hid (f = D) := by show _ = _; rw [← HD0.out]; rfl
    go_enter Try.func20, Try.ntmps20
    go_wp2_with fail
    go_loopw [3, 13] (fun sv iv wr => ∃ (i : Nat) (ds r : Forest) (M K : List Nat) (OA : Option Addr) (oc : Nat) (cs : List Value), Hid (f = ds.app r) ∧ Hid (ds.len = i) ∧ i + r.len = N ∧ sv = .slice OA i oc ∧ iv = .int .i64 i ∧ Hid (RowF w r A i N M) ∧ r.size ≤ f.size ∧
      Hid (wr.ownsRow (w.heap.size + 1) 31 5 (.slice OA i oc) i cs) ∧ Hid (SubV wr ds cs K) ∧ Hid (OwnL wr 61 (w.heap.size + 1) K) ∧ Hid (∀ g, (Value.slice OA i oc).ownBlock = some g → g ∉ K) ∧ Hid (HoldsT wr w.heap.size #[.int .i64 4, .int .i64 m, .string u, .int .i64 x, .slice A N c] 31) ∧ Hid (w.grownBy wr none)) (fun _ i _ => N - (intOf i).toNat)
    case atStart =>
      refine ⟨0, .nil, f, L, [], _, _, [], hid rfl, hid rfl, by have := HN.out; omega, rfl, rfl, HR, Nat.le_refl _, ?_, hid ⟨rfl, rfl⟩, hid (OwnL.nil _ _ _), hid (fun g _ h => by cases h), hid ((HoldsT.new w _ _).alloc _), hid (gb_alloc (gb_alloc (gb_refl _ _) _) _)⟩
      have h0 := World.ownsRow_made (base := w.heap.size + 1) (e := 31) (size := 5) (w.alloc (.cells #[.int .i64 4, .int .i64 m, .string u, .int .i64 x, .slice A N c] 31)) #[] 0 (by simp) (by unfold maxLen; omega) (by simp)
      exact hid (by simpa using h0)
    case round =>
      obtain ⟨i, ds, r, M, K, OA, oc, cs, HE, HD, hir, rfl, rfl, HRr, hsz, HO, HSu, HOl, HNb, HX, HG⟩ := hrel
      obtain ⟨a0, a1, a2, a3, a4⟩ := HX.out.cells5
      have la := HX.out.lt
      cases r with
      | nil =>
        have hi : i = N := by simpa [Forest.len] using hir
        subst hi
        go_wp2_with fail
        go_ret
        have e : D = ds := by rw [← HF.out, HE.out, Forest.app_nil]
        have hl := HD.out
        rw [e]
        exact ⟨OA, oc, K, by rw [hl]; rfl, ⟨cs, by rw [hl]; exact own_mono HO.out (Nat.le_succ _), HSu.out, HOl.out.mono (Nat.le_succ _), fun b hb => HNb.out b (blk_own.2 hb)⟩, HG.out⟩
      | cons t n s kd nm v y sub r =>
        have hiN : i < N := by simp only [Forest.len] at hir; omega
        have hiN' : i + 1 + r.len = N := by simp only [Forest.len] at hir; omega
        obtain ⟨b, o, SA, sc, Ls, Lr, rfl, hb, R1, _, hs1, _, _⟩ := (HRr.out.grow HG.out).range
        obtain ⟨_, hs2⟩ := HRr.out.rest
        have HS1 := hid hs1
        have HS2 := hid hs2
        have hsub : sub.size ≤ 4194304 := by simp only [Forest.size] at hsz; omega
        have hsz2 : r.size ≤ f.size := by simp only [Forest.size] at hsz; omega
        obtain ⟨c0, c1, c2x, c3, c4, c5, c6, c7⟩ := range8 R1
        clear hir hs1 hs2 R1 hb hsz
        go_wp2_with fail
        refine (implCopy_any sub (wr.alloc (.cells #[.bool t, .int .i64 n, .string s, .int .i64 kd, .int .i64 nm, .string v, .int .i64 y, .slice SA sub.len sc] 61)) kd nm v y SA sc Ls (HS1.out.grow (gb_alloc (gb_refl wr none) (.cells #[.bool t, .int .i64 n, .string s, .int .i64 kd, .int .i64 nm, .string v, .int .i64 y, .slice SA sub.len sc] 61))) hsub).mono ?_
        rintro e w2 ⟨A2, c2, L2, rfl, hc2, hT2, hg2⟩
        have GG := hid (gb_trans (gb_alloc (gb_refl wr none) (.cells #[.bool t, .int .i64 n, .string s, .int .i64 kd, .int .i64 nm, .string v, .int .i64 y, .slice SA sub.len sc] 61)) hg2)
        have hO2 := own_grow HO.out GG.out
        have HOA := hid (own_grow hO2 (gb_alloc (gb_refl w2 none) (.cells #[.int .i64 kd, .int .i64 nm, .string v, .int .i64 y, .slice A2 sub.len c2] 31)))
        have HX2 := hid ((HX.out.grow GG.out).alloc (.cells #[.int .i64 kd, .int .i64 nm, .string v, .int .i64 y, .slice A2 sub.len c2] 31))
        have HG2 := hid (gb_alloc (gb_trans HG.out GG.out) (.cells #[.int .i64 kd, .int .i64 nm, .string v, .int .i64 y, .slice A2 sub.len c2] 31))
        have hol2 : OwnL (w2.alloc (.cells #[.int .i64 kd, .int .i64 nm, .string v, .int .i64 y, .slice A2 sub.len c2] 31)) 61 (w.heap.size + 1) (K ++ (blk A2 ++ L2)) := by
          refine OwnL.app (w := wr) (Nat.lt_of_lt_of_le HX.out.lt (Nat.le_refl _)) HOl.out (gb_trans GG.out (gb_alloc (gb_refl w2 none) _)) ?_
          exact (hT2.own.2.mono ((by simp))).grow (gb_alloc (gb_refl w2 none) _)
        have HSub := hid (And.intro (HSu.out.grow (gb_trans GG.out (gb_alloc (gb_refl w2 none) (.cells #[.int .i64 kd, .int .i64 nm, .string v, .int .i64 y, .slice A2 sub.len c2] 31)))) (And.intro hol2 (hT2.own.1.grow (gb_alloc (gb_refl w2 none) (.cells #[.int .i64 kd, .int .i64 nm, .string v, .int .i64 y, .slice A2 sub.len c2] 31)))))
        have HRq : Hid (∀ q, (Value.slice OA i oc).ownBlock = some q → (w.heap.size + 1 ≤ q ∧ q < wr.heap.size) ∧ q ∉ K ++ (blk A2 ++ L2)) := hid fun q hq => by
          have hq1 := HO.out.lt q hq
          refine ⟨hq1, fun hm => ?_⟩
          rcases List.mem_append.1 hm with hm | hm
          · exact HNb.out q hq hm
          · have h1 := (hT2.own.2.2 q hm).1
            have h2 : wr.heap.size ≤ (wr.alloc (.cells #[.bool t, .int .i64 n, .string s, .int .i64 kd, .int .i64 nm, .string v, .int .i64 y, .slice SA sub.len sc] 61)).heap.size := (by simp)
            omega
        have HC2 := hid hc2
        have HNW := hid (news_lit w2 [.int .i64 kd, .int .i64 nm, .string v, .int .i64 y, .slice A2 sub.len c2] 31)
        have HSZ := hid (show w.heap.size + 1 ≤ w2.heap.size from Nat.le_trans HX.out.lt (Nat.le_trans (by simp) hg2.size))
        clear hO2 hol2 hT2 hg2 hc2 a0 a1 a2 a3 a4 la c0 c1 c2x c3 c4 c5 c6 c7
        go_wp2_with (at_builtin; refine wpList_append_own_at _ rfl _ _ 41 rfl (w.heap.size + 1) 31 i0 valueZ 5 64 Try.underlying41 HI.out.1 HI.out.2.1 HI.out.2.2.1 HI.out.2.2.2 rfl (by omega) _ i cs rfl HOA.out ⟨w2.heap.size, 0, none⟩ 1 1 [.int .i64 kd, .int .i64 nm, .string v, .int .i64 y, .slice A2 sub.len c2] rfl rfl HNW.out (by simp [Value.oneCell']) (by unfold maxLen; omega) (by omega) (by have := HSZ.out; simp only [World.size_alloc]; omega) ?_; intro v3 w3 hown3 hg3 _ hat3; revert tok)
        intro tok
        obtain ⟨A3, oc3, rfl, hA3⟩ := own_form hown3
        have HD1 := HD.out
        subst HD1
        obtain ⟨cs3, ho3, hs3, hl3, hn3⟩ := rv_snoc (t := t) (n := n) (s := s) hown3 HSub.out.1 HSub.out.2.2 HC2.out HSub.out.2.1 hg3 (fun q hq => (HRq.out q hq).2) hat3
        have hln : (ds.app (.cons t n s kd nm v y sub .nil)).len = ds.len + 1 := by rw [Forest.len_app]; rfl
        rw [hln] at ho3
        have HO3 := hid ho3; have HS3 := hid hs3; have HL3 := hid hl3
        have HN3 := hid (show ∀ g, (Value.slice A3 (ds.len + 1) oc3).ownBlock = some g → g ∉ K ++ (blk A2 ++ L2) from fun g hg => hn3 g (blk_own.1 hg))
        have HX3 := hid (HX2.out.kept hg3 (fun e => by have := (HRq.out _ e).1; omega))
        have HG3 : Hid (w.grownBy w3 none) := hid (gb_fresh HG2.out hg3 (fun g hg => by have := (HRq.out g hg).1; omega))
        have HLn := hid hln
        clear hown3 hg3 hat3 hA3 ho3 hs3 hl3 hn3 hln HX2 HG2 HNW HOA HSub
        go_wp2_with fail
        go_roundw
        case rel => exact ⟨ds.len + 1, _, r, _, _, A3, _, cs3, hid (by rw [Forest.app_assoc]; exact HE.out), HLn, hiN', rfl, by go_num, HS2, hsz2, HO3, HS3, HL3, HN3, HX3, HG3⟩
        case measure => simp [intOf]; omega
  · have hkb : ((k : Int) == 4) = false := by simpa using hk
    have HF : Hid (D = .nil) := by show _ = _; rw [← HD0.out]; unfold valVals; rw [if_neg hk]
    clear hk
    go_enter Try.func20, Try.ntmps20
    go_wp2_with fail
    go_ret
    have h0 := World.ownsRow_made (base := w.heap.size) (e := 31) (size := 5) (w.alloc (.cells #[.int .i64 k, .int .i64 m, .string u, .int .i64 x, .slice A N c] 31)) #[] 0 (by simp) (by unfold maxLen; omega) (by simp)
    have e := HF.out
    subst e
    exact ⟨_, _, [], rfl, ⟨[], by simpa [Forest.len] using h0, ⟨rfl, rfl⟩, OwnL.nil _ _ _, fun b _ h => by cases h⟩, gb_alloc (gb_alloc (gb_refl _ _) _) _⟩
set_option maxHeartbeats 4000000 in
theorem specVals_any (f : Forest) (w : World) (k m : Int) (u : ByteArray) (x : Int) (A : Option Addr) (c : Nat) (L : List Nat) (hr : RowF w f A 0 f.len L) (hfs : f.size ≤ 1048576) :
    Calls Try.prog 19 #[.agg #[.int .i64 k, .int .i64 m, .string u, .int .i64 x, .slice A f.len c]] w (ValsPost w (valVals k f)) := by
  obtain ⟨i0, hi, hz0, hz1, hz2⟩ := info_parts Try.infoV3
  obtain ⟨N, hN⟩ : ∃ N, f.len = N := ⟨_, rfl⟩
  have hNs : N ≤ 1048576 := by have := f.len_le; omega
  rw [hN] at hr ⊢
  have HR := hid hr
  have HN := hid hN
  have HI := hid (And.intro hi (And.intro hz0 (And.intro hz1 hz2)))
  obtain ⟨D, hD⟩ : ∃ D, valVals k f = D := ⟨_, rfl⟩
  rw [hD]
  have HD0 := hid hD
  clear hr hN hD hi hz0 hz1 hz2
  have tok := hid trivial
  by_cases hk : k = 4
  · subst hk
    have HF : Hid (f = D) := by show _ = _; rw [← HD0.out]; rfl
    go_enter Try.func19, Try.ntmps19
    go_wp2_with fail
    go_loopw [3, 4] (fun sv iv wr => ∃ (i : Nat) (ds r : Forest) (M K : List Nat) (OA : Option Addr) (oc : Nat) (cs : List Value), Hid (f = ds.app r) ∧ Hid (ds.len = i) ∧ i + r.len = N ∧ sv = .slice OA i oc ∧ iv = .int .i64 i ∧ Hid (RowF w r A i N M) ∧ r.size ≤ f.size ∧
      Hid (wr.ownsRow (w.heap.size + 1) 31 5 (.slice OA i oc) i cs) ∧ Hid (SubV wr ds cs K) ∧ Hid (OwnL wr 61 (w.heap.size + 1) K) ∧ Hid (∀ g, (Value.slice OA i oc).ownBlock = some g → g ∉ K) ∧ Hid (HoldsT wr w.heap.size #[.int .i64 4, .int .i64 m, .string u, .int .i64 x, .slice A N c] 31) ∧ Hid (w.grownBy wr none)) (fun _ i _ => N - (intOf i).toNat)
    case atStart =>
      refine ⟨0, .nil, f, L, [], _, _, [], hid rfl, hid rfl, by have := HN.out; omega, rfl, rfl, HR, Nat.le_refl _, ?_, hid ⟨rfl, rfl⟩, hid (OwnL.nil _ _ _), hid (fun g _ h => by cases h), hid ((HoldsT.new w _ _).alloc _), hid (gb_alloc (gb_alloc (gb_refl _ _) _) _)⟩
      have h0 := World.ownsRow_made (base := w.heap.size + 1) (e := 31) (size := 5) (w.alloc (.cells #[.int .i64 4, .int .i64 m, .string u, .int .i64 x, .slice A N c] 31)) #[] 0 (by simp) (by unfold maxLen; omega) (by simp)
      exact hid (by simpa using h0)
    case round =>
      obtain ⟨i, ds, r, M, K, OA, oc, cs, HE, HD, hir, rfl, rfl, HRr, hsz, HO, HSu, HOl, HNb, HX, HG⟩ := hrel
      obtain ⟨a0, a1, a2, a3, a4⟩ := HX.out.cells5
      have la := HX.out.lt
      cases r with
      | nil =>
        have hi : i = N := by simpa [Forest.len] using hir
        subst hi
        go_wp2_with fail
        go_ret
        have e : D = ds := by rw [← HF.out, HE.out, Forest.app_nil]
        have hl := HD.out
        rw [e]
        exact ⟨OA, oc, K, by rw [hl]; rfl, ⟨cs, by rw [hl]; exact own_mono HO.out (Nat.le_succ _), HSu.out, HOl.out.mono (Nat.le_succ _), fun b hb => HNb.out b (blk_own.2 hb)⟩, HG.out⟩
      | cons t n s kd nm v y sub r =>
        have hiN : i < N := by simp only [Forest.len] at hir; omega
        have hiN' : i + 1 + r.len = N := by simp only [Forest.len] at hir; omega
        obtain ⟨b, o, SA, sc, Ls, Lr, rfl, hb, R1, _, hs1, _, _⟩ := (HRr.out.grow HG.out).range
        obtain ⟨_, hs2⟩ := HRr.out.rest
        have HS1 := hid hs1
        have HS2 := hid hs2
        have hsub : sub.size ≤ 4194304 := by simp only [Forest.size] at hsz; omega
        have hsz2 : r.size ≤ f.size := by simp only [Forest.size] at hsz; omega
        have c3 := R1 3 _ rfl; have c4 := R1 4 _ rfl; have c5 := R1 5 _ rfl; have c6 := R1 6 _ rfl; have c7 := R1 7 _ rfl
        clear hir hs1 hs2 R1 hb hsz
        go_wp2_with fail
        refine (specCopy_any sub wr kd nm v y SA sc Ls (HS1.out.grow (gb_refl wr none)) hsub).mono ?_
        rintro e w2 ⟨A2, c2, L2, rfl, hc2, hT2, hg2⟩
        have GG := hid (gb_trans (gb_refl wr none) hg2)
        have hO2 := own_grow HO.out GG.out
        have HOA := hid (own_grow hO2 (gb_alloc (gb_refl w2 none) (.cells #[.int .i64 kd, .int .i64 nm, .string v, .int .i64 y, .slice A2 sub.len c2] 31)))
        have HX2 := hid ((HX.out.grow GG.out).alloc (.cells #[.int .i64 kd, .int .i64 nm, .string v, .int .i64 y, .slice A2 sub.len c2] 31))
        have HG2 := hid (gb_alloc (gb_trans HG.out GG.out) (.cells #[.int .i64 kd, .int .i64 nm, .string v, .int .i64 y, .slice A2 sub.len c2] 31))
        have hol2 : OwnL (w2.alloc (.cells #[.int .i64 kd, .int .i64 nm, .string v, .int .i64 y, .slice A2 sub.len c2] 31)) 61 (w.heap.size + 1) (K ++ (blk A2 ++ L2)) := by
          refine OwnL.app (w := wr) (Nat.lt_of_lt_of_le HX.out.lt (Nat.le_refl _)) HOl.out (gb_trans GG.out (gb_alloc (gb_refl w2 none) _)) ?_
          exact (hT2.own.2.mono ((Nat.le_refl _))).grow (gb_alloc (gb_refl w2 none) _)
        have HSub := hid (And.intro (HSu.out.grow (gb_trans GG.out (gb_alloc (gb_refl w2 none) (.cells #[.int .i64 kd, .int .i64 nm, .string v, .int .i64 y, .slice A2 sub.len c2] 31)))) (And.intro hol2 (hT2.own.1.grow (gb_alloc (gb_refl w2 none) (.cells #[.int .i64 kd, .int .i64 nm, .string v, .int .i64 y, .slice A2 sub.len c2] 31)))))
        have HRq : Hid (∀ q, (Value.slice OA i oc).ownBlock = some q → (w.heap.size + 1 ≤ q ∧ q < wr.heap.size) ∧ q ∉ K ++ (blk A2 ++ L2)) := hid fun q hq => by
          have hq1 := HO.out.lt q hq
          refine ⟨hq1, fun hm => ?_⟩
          rcases List.mem_append.1 hm with hm | hm
          · exact HNb.out q hq hm
          · have h1 := (hT2.own.2.2 q hm).1
            have h2 : wr.heap.size ≤ wr.heap.size := (Nat.le_refl _)
            omega
        have HC2 := hid hc2
        have HNW := hid (news_lit w2 [.int .i64 kd, .int .i64 nm, .string v, .int .i64 y, .slice A2 sub.len c2] 31)
        have HSZ := hid (show w.heap.size + 1 ≤ w2.heap.size from Nat.le_trans HX.out.lt (Nat.le_trans (Nat.le_refl _) hg2.size))
        clear hO2 hol2 hT2 hg2 hc2 a0 a1 a2 a3 a4 la c3 c4 c5 c6 c7
        go_wp2_with (at_builtin; refine wpList_append_own_at _ rfl _ _ 41 rfl (w.heap.size + 1) 31 i0 valueZ 5 64 Try.underlying41 HI.out.1 HI.out.2.1 HI.out.2.2.1 HI.out.2.2.2 rfl (by omega) _ i cs rfl HOA.out ⟨w2.heap.size, 0, none⟩ 1 1 [.int .i64 kd, .int .i64 nm, .string v, .int .i64 y, .slice A2 sub.len c2] rfl rfl HNW.out (by simp [Value.oneCell']) (by unfold maxLen; omega) (by omega) (by have := HSZ.out; simp only [World.size_alloc]; omega) ?_; intro v3 w3 hown3 hg3 _ hat3; revert tok)
        intro tok
        obtain ⟨A3, oc3, rfl, hA3⟩ := own_form hown3
        have HD1 := HD.out
        subst HD1
        obtain ⟨cs3, ho3, hs3, hl3, hn3⟩ := rv_snoc (t := t) (n := n) (s := s) hown3 HSub.out.1 HSub.out.2.2 HC2.out HSub.out.2.1 hg3 (fun q hq => (HRq.out q hq).2) hat3
        have hln : (ds.app (.cons t n s kd nm v y sub .nil)).len = ds.len + 1 := by rw [Forest.len_app]; rfl
        rw [hln] at ho3
        have HO3 := hid ho3; have HS3 := hid hs3; have HL3 := hid hl3
        have HN3 := hid (show ∀ g, (Value.slice A3 (ds.len + 1) oc3).ownBlock = some g → g ∉ K ++ (blk A2 ++ L2) from fun g hg => hn3 g (blk_own.1 hg))
        have HX3 := hid (HX2.out.kept hg3 (fun e => by have := (HRq.out _ e).1; omega))
        have HG3 : Hid (w.grownBy w3 none) := hid (gb_fresh HG2.out hg3 (fun g hg => by have := (HRq.out g hg).1; omega))
        have HLn := hid hln
        clear hown3 hg3 hat3 hA3 ho3 hs3 hl3 hn3 hln HX2 HG2 HNW HOA HSub
        go_wp2_with fail
        go_roundw
        case rel => exact ⟨ds.len + 1, _, r, _, _, A3, _, cs3, hid (by rw [Forest.app_assoc]; exact HE.out), HLn, hiN', rfl, by go_num, HS2, hsz2, HO3, HS3, HL3, HN3, HX3, HG3⟩
        case measure => simp [intOf]; omega
  · have hkb : ((k : Int) == 4) = false := by simpa using hk
    have HF : Hid (D = .nil) := by show _ = _; rw [← HD0.out]; unfold valVals; rw [if_neg hk]
    clear hk
    go_enter Try.func19, Try.ntmps19
    go_wp2_with fail
    go_loopw [3, 4] (fun sv iv wr => sv = .slice (some ⟨w.heap.size + 1, 0, none⟩) 0 0 ∧ iv = .int .i64 0 ∧ Hid (wr.ownsRow w.heap.size 31 5 (.slice (some ⟨w.heap.size + 1, 0, none⟩) 0 0) 0 []) ∧ Hid (HoldsT wr w.heap.size #[.int .i64 k, .int .i64 m, .string u, .int .i64 x, .slice A N c] 31) ∧ Hid (w.grownBy wr none)) (fun _ _ _ => 0)
    case atStart =>
      have h0 := World.ownsRow_made (base := w.heap.size) (e := 31) (size := 5) (w.alloc (.cells #[.int .i64 k, .int .i64 m, .string u, .int .i64 x, .slice A N c] 31)) #[] 0 (by simp) (by unfold maxLen; omega) (by simp)
      exact ⟨rfl, rfl, hid (by simpa using h0), hid ((HoldsT.new w _ _).alloc _), hid (gb_alloc (gb_alloc (gb_refl _ _) _) _)⟩
    case round =>
      obtain ⟨rfl, rfl, HO, HX, HG⟩ := hrel
      obtain ⟨a0, a1, a2, a3, a4⟩ := HX.out.cells5
      have la := HX.out.lt
      go_wp2_with fail
      go_ret
      have e := HF.out
      subst e
      exact ⟨_, _, [], rfl, ⟨[], HO.out, ⟨rfl, rfl⟩, OwnL.nil _ _ _, fun b _ h => by cases h⟩, HG.out⟩
end Go.Proofs.Ytlfigoboeogegaa
