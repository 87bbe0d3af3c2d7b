/- The walks of toEntryS, toEntry, toValue. -/
import Derived.Test.YtlfigoboeogegaaKeys
import Derived.Test.YtlfigoboeogegaaOwnT
import Derived.Test.YtlfigoboeogegaaRows8
namespace Go.Proofs.Ytlfigoboeogegaa
open Go.RowKit
set_option linter.unusedVariables false

theorem Try.infoV : (Try.prog.info? 31).map (·.size) = some 5 := by kernel_rfl
theorem Try.infoVL : (Try.prog.info? 24).map (·.size) = some 5 := by kernel_rfl
theorem Try.infoE : (Try.prog.info? 61).map (·.size) = some 8 := by kernel_rfl
def entry0 : Value := .agg #[.bool false, .int .i64 0, .string ByteArray.empty, .int .i64 0, .int .i64 0, .string ByteArray.empty, .int .i64 0, .slice none 0 0]
theorem Try.infoE3 : (Try.prog.info? 61).map (fun i => (i.zero, i.size, i.bytes)) = some (some entry0, 8, 96) := by kernel_rfl
/-- What toEntryS does over a forest. -/
def ToOk (f : Forest) : Prop := ∀ (w : World) (A : Option Addr) (c : Nat) (L : List Nat), RowF w f A 0 f.len L → f.ok → f.size ≤ 1048576 →
  Calls Try.prog 33 #[.slice A f.len c] w fun e w' => ∃ A' c' L', e = .returned (.slice A' f.len c') ∧ ((A' = none → c' = 0) ∧ c' = f.len) ∧ OwnT w' 61 w.heap.size f A' L' ∧ w.grownBy w' none

theorem toValue_any (f : Forest) (hf : ToOk f) (k m : Int) (u : ByteArray) (x : Int) (A : Option Addr) (c : Nat) (L : List Nat) (w : World) (hr : RowF w f A 0 f.len L) (hok : f.ok) (hlen : f.size ≤ 1048576) :
    Calls Try.prog 11 #[.agg #[.int .i64 k, .int .i64 m, .string u, .int .i64 x, .slice A f.len c]] w fun e w' => ∃ A' c' L', e = .returned (.agg #[.int .i64 k, .int .i64 m, .string u, .int .i64 x, .slice A' f.len c']) ∧
      ((A' = none → c' = 0) ∧ c' = f.len) ∧ OwnT w' 61 w.heap.size f A' L' ∧ w.grownBy w' none := by
  have HR := hid hr
  have HF := hid hf
  have HO := hid (And.intro hok hlen)
  clear hf hr hok hlen
  go_enter Try.func11, Try.ntmps11
  go_wp2_with fail
  refine (HF.out _ A c L (HR.out.grow (gb_alloc (gb_alloc (gb_alloc (gb_refl _ _) _) _) _)) HO.out.1 HO.out.2).mono ?_
  rintro e w1 ⟨A', c', L', rfl, hc', ho, hg⟩
  have HC := hid hc'
  have HA := hid ((HoldsT.pre1 w _ _ _ _).grow hg)
  have HB := hid ((HoldsT.pre2 w _ _ _ _).grow hg)
  have HW := hid ho
  have HG := hid (gb_trans (gb_alloc (gb_alloc (gb_alloc (gb_refl w none) _) _) _) hg)
  obtain ⟨a0, a1, a2, a3, a4⟩ := HA.out.cells5
  obtain ⟨b0, b1, b2, b3, b4⟩ := HB.out.cells5
  have y0 := HA.out.frozen 0; have y1 := HA.out.frozen 1; have y2 := HA.out.frozen 2; have y3 := HA.out.frozen 3; have y4 := HA.out.frozen 4
  have z4 := HB.out.frozen 4
  have lta := HA.out.lt
  have ltb := HB.out.lt
  clear hc' ho hg
  go_wp2_with fail
  refine bodyPost_ret (results_cell_row rfl _ _ _ _ _ (0, 0) _ rfl ((HA.out.setOther (by simp) _).set5 _ _ _ _ _) Try.underlying31 rfl Try.infoV) rfl ?_
  refine ⟨A', c', L', rfl, HC.out, ?_, ?_⟩
  · have h0 : OwnT w1 61 (w.heap.size + 1 + 1 + 1) f A' L' := by simpa using HW.out
    exact ((h0.low (g := w.heap.size + 1 + 1) (gb_set (gb_refl _ _) (.inr rfl) _) (by omega)).low (g := w.heap.size + 1) (gb_set5 (gb_refl _ _) (.inr rfl) _ _ _ _ _) (by omega)).mono (by omega)
  · exact gb_set5 (gb_set HG.out (.inl (Nat.le_succ_of_le (Nat.le_succ _))) _) (.inl (Nat.le_succ _)) _ _ _ _ _
set_option maxHeartbeats 1000000 in
theorem toEntry_any (f : Forest) (hf : ToOk f) (t : Bool) (n : Int) (s : ByteArray) (k m : Int) (u : ByteArray) (x : Int) (A : Option Addr) (c : Nat) (L : List Nat) (w : World) (hr : RowF w f A 0 f.len L) (hok : f.ok) (hlen : f.size ≤ 1048576) :
    Calls Try.prog 51 #[.agg #[.bool t, .int .i64 n, .string s, .int .i64 k, .int .i64 m, .string u, .int .i64 x, .slice A f.len c]] w fun e w' => ∃ A' c' L',
      e = .returned (.agg #[.bool t, .int .i64 n, .string s, .int .i64 k, .int .i64 m, .string u, .int .i64 x, .slice A' f.len c']) ∧ (A' = none → c' = 0) ∧ OwnT w' 61 w.heap.size f A' L' ∧ w.grownBy w' none := by
  have HR := hid hr
  have HF := hid hf
  have HO := hid (And.intro hok hlen)
  clear hf hr hok hlen
  have tok : True := trivial
  go_enter Try.func51, Try.ntmps51
  go_wp2_with fail
  refine (toKey_any _ _ _ _).mono ?_
  rintro e w1 ⟨rfl, hg1⟩
  have HB1 := hid ((HoldsT.pre2 w _ _ _ _).grow hg1)
  have HA1 := hid ((HoldsT.pre1 w _ _ _ _).grow hg1)
  have HX1 := hid (((HoldsT.new w #[.bool t, .int .i64 n, .string s, .int .i64 k, .int .i64 m, .string u, .int .i64 x, .slice A f.len c] 70).grow (gb_alloc (gb_alloc (gb_refl _ none) _) _)).grow hg1)
  have G1 := hid (gb_trans (gb_alloc (gb_alloc (gb_alloc (gb_refl w none) _) _) _) hg1)
  clear hg1
  have HB2 := hid (HB1.out.setCells [.bool t, .int .i64 n, .string s] 0)
  have HA2 := hid (HA1.out.apart (g' := w.heap.size + 1 + 1) (by simp) 0 [.bool t, .int .i64 n, .string s])
  have HX2 := hid (HX1.out.apart (g' := w.heap.size + 1 + 1) (by omega) 0 [.bool t, .int .i64 n, .string s])
  have G2 := hid (gb_setCells (g := w.heap.size + 1 + 1) (.inl (Nat.le_succ_of_le (Nat.le_succ _))) [.bool t, .int .i64 n, .string s] 0 G1.out)
  go_wp2_with ((with_reducible show wpList _ _ _ (⟨_, .store 34 _ _, _, _, _, _⟩ :: _) _ _); revert tok)
  intro tok
  refine wpList_storeT rfl 34 (.tmp 7) (.tmp 6) rfl (w.heap.size + 1 + 1) 0 [.bool t, .int .i64 n, .string s] rfl rfl HB1.out (by simp) Try.infoK rfl ?_
  go_wp2_with ((with_reducible show wpList _ _ _ (⟨_, .load 24 _, _, _, _, _⟩ :: _) _ _); revert tok)
  intro tok
  refine wpList_loadT rfl 24 (.tmp 8) rfl w.heap.size 3 rfl HX2.out [.int .i64 k, .int .i64 m, .string u, .int .i64 x, .slice A f.len c] (cut35 _ _ _ _ _ _ _ _) Try.underlying24 rfl Try.infoVL ?_
  go_wp2_with fail
  refine (toValue_any f HF.out k m u x A c L _ (HR.out.grow G2.out) HO.out.1 HO.out.2).mono ?_
  rintro e w2 ⟨A', c', L', rfl, hc', ho, hg⟩
  have HC := hid hc'.1
  have HW := hid ho
  have HB3 := hid (HB2.out.grow hg)
  have HA3 := hid (HA2.out.grow hg)
  have G3 := hid (gb_trans G2.out hg)
  have hsz0 : w.heap.size + 1 + 1 < (w1.setCells (w.heap.size + 1 + 1) 0 [.bool t, .int .i64 n, .string s]).heap.size := HB2.out.lt
  have HS := hid hsz0
  clear hsz0 hc' ho hg
  have HB4 := hid (show HoldsT (w2.setCells (w.heap.size + 1 + 1) 3 [.int .i64 k, .int .i64 m, .string u, .int .i64 x, .slice A' f.len c']) (w.heap.size + 1 + 1)
      #[.bool t, .int .i64 n, .string s, .int .i64 k, .int .i64 m, .string u, .int .i64 x, .slice A' f.len c'] 61 by
    have := HB3.out.setCells [.int .i64 k, .int .i64 m, .string u, .int .i64 x, .slice A' f.len c'] 3
    simpa [setArr] using this)
  have HA4 := hid (HA3.out.apart (g' := w.heap.size + 1 + 1) (by simp) 3 [.int .i64 k, .int .i64 m, .string u, .int .i64 x, .slice A' f.len c'])
  have HA5 := hid (show HoldsT ((w2.setCells (w.heap.size + 1 + 1) 3 [.int .i64 k, .int .i64 m, .string u, .int .i64 x, .slice A' f.len c']).setCells (w.heap.size + 1) 0 [.bool t, .int .i64 n, .string s, .int .i64 k, .int .i64 m, .string u, .int .i64 x, .slice A' f.len c']) (w.heap.size + 1)
      #[.bool t, .int .i64 n, .string s, .int .i64 k, .int .i64 m, .string u, .int .i64 x, .slice A' f.len c'] 61 by
    have := HA4.out.setCells [.bool t, .int .i64 n, .string s, .int .i64 k, .int .i64 m, .string u, .int .i64 x, .slice A' f.len c'] 0
    simpa [setArr] using this)
  go_wp2_with ((with_reducible show wpList _ _ _ (⟨_, .store 31 _ _, _, _, _, _⟩ :: _) _ _); revert tok)
  intro tok
  refine wpList_storeT rfl 31 (.tmp 11) (.tmp 10) rfl (w.heap.size + 1 + 1) 3 [.int .i64 k, .int .i64 m, .string u, .int .i64 x, .slice A' f.len c'] rfl rfl HB3.out (by simp) Try.infoV rfl ?_
  go_wp2_with ((with_reducible show wpList _ _ _ (⟨_, .load 61 _, _, _, _, _⟩ :: _) _ _); revert tok)
  intro tok
  refine wpList_loadT rfl 61 (.tmp 3) rfl (w.heap.size + 1 + 1) 0 rfl HB4.out [.bool t, .int .i64 n, .string s, .int .i64 k, .int .i64 m, .string u, .int .i64 x, .slice A' f.len c'] (cut8 _ _ _ _ _ _ _ _) Try.underlying61 rfl Try.infoE ?_
  simp only [Act.put, List.setIfInBounds_toArray, List.set_cons_succ, List.set_cons_zero]
  refine wpList_storeT rfl 61 (.tmp 2) (.tmp 12) rfl (w.heap.size + 1) 0 [.bool t, .int .i64 n, .string s, .int .i64 k, .int .i64 m, .string u, .int .i64 x, .slice A' f.len c'] rfl rfl HA4.out (by simp) Try.infoE rfl ?_
  iterate 4 (first | go_skip | go_guarded | go_step | go_upon | go_back)
  refine bodyPost_ret (results_cell_row rfl _ _ _ _ _ (0, 0) _ rfl HA5.out Try.underlying61 rfl Try.infoE) rfl ?_
  refine ⟨A', c', L', rfl, HC.out, ?_, ?_⟩
  · have h1 := HS.out
    exact ((HW.out.low (g := w.heap.size + 1 + 1) (gb_setCells (.inr rfl) _ _ (gb_refl _ _)) (by omega)).low (g := w.heap.size + 1) (gb_setCells (.inr rfl) _ _ (gb_refl _ _)) (by omega)).mono (by omega)
  · exact gb_setCells (.inl (Nat.le_succ _)) _ _ (gb_setCells (.inl (Nat.le_succ_of_le (Nat.le_succ _))) _ _ G3.out)
set_option maxHeartbeats 1000000 in
theorem toEntryS_step (f : Forest) (ih : ∀ g : Forest, g.size < f.size → ToOk g) : ToOk f := by
  intro w A c L hr hok hlen
  obtain ⟨i0, hi, hz0, hz1, hz2⟩ := info_parts Try.infoE3
  have IH := hid ih
  have HR := hid hr
  have HO := hid hok
  obtain ⟨N, hN⟩ : ∃ N, f.len = N := ⟨_, rfl⟩
  have hNs : N ≤ 1048576 := by have := f.len_le; omega
  rw [hN] at HR
  have HN := hid hN
  have hNm : N ≤ maxLen := by unfold maxLen; omega
  rw [hN]
  clear ih hr hok hN
  have tok : True := trivial
  go_enter Try.func33, Try.ntmps33
  go_wp2_with (at_make; refine wpList_make_full _ rfl _ _ _ rfl w.heap.size 61 i0 entry0 8 Try.underlying29 hi hz0 hz1 .i64 .i64 _ _ N rfl rfl rfl rfl (by rw [hz2]; omega) hNm (Nat.le_refl _) ?_; intro w1 hown hgr)
  have HW := hid hown
  have HG := hid hgr
  clear hown hgr hi hz0 hz1 hz2 hNm
  go_loopw [4] (fun iv wr => ∃ (i : Nat) (dn r : Forest) (M K : List Nat) (cs rs : List Value), Hid (f = dn.app r) ∧ i + r.len = N ∧ iv = .int .i64 i ∧ Hid (RowF w r A i N M) ∧ r.size ≤ f.size ∧ Hid r.ok ∧ Hid (SubF wr dn cs K) ∧ Hid (OwnL wr 61 (w.heap.size + 1) K) ∧
      Hid (wr.ownsRow w.heap.size 61 8 (.slice (some ⟨w.heap.size, 0, none⟩) N N) N (cs ++ rs)) ∧ Hid (w.grownBy wr none)) (fun i _ => N - (intOf i).toNat)
  case atStart => exact ⟨0, .nil, f, L, [], [], _, hid rfl, by rw [HN.out]; omega, rfl, HR, Nat.le_refl _, HO, hid ⟨rfl, rfl⟩, hid (OwnL.nil _ _ _), HW, HG⟩
  case round =>
    obtain ⟨i, dn, r, M, K, cs, rs, HE, hir, rfl, HRr, hsz, HK, HS, HL, HOw, HGr⟩ := hrel
    cases r with
    | nil =>
      have hi : i = N := by simpa [Forest.len] using hir
      subst hi
      go_wp2_with fail
      go_ret
      have hf : f = dn := by rw [HE.out, Forest.app_nil]
      subst hf
      have hOw := HOw.out
      have hlt : w.heap.size < wr.heap.size := by
        rcases hOw.2 with ⟨h, _⟩ | ⟨g, _, _, h, _, hh, _⟩
        · cases h
        · injection h with h1
          injection h1 with h1
          injection h1 with h1
          subst h1
          exact (Array.getElem?_eq_some_iff.1 hh).1
      have hOw2 : wr.ownsRow w.heap.size 61 8 (.slice (some ⟨w.heap.size, 0, none⟩) i i) f.len (cs ++ rs) := by rw [HN.out]; exact hOw
      obtain ⟨_, ht⟩ := own_tree hOw2 HS.out (HL.out.mono (Nat.le_succ _)) (fun b hb hm => by
        obtain rfl : b = w.heap.size := by simpa [blk] using hb
        have := (HL.out.2 _ hm).1
        omega)
      exact ⟨_, _, K, rfl, ⟨(by intro h; cases h), rfl⟩, ht, HGr.out⟩
    | cons t n s k m u x sub r =>
      have hiN : i < N := by simp only [Forest.len] at hir; omega
      have hiN' : i + 1 + r.len = N := by simp only [Forest.len] at hir; omega
      obtain ⟨b, o, SA, sn, sc, Ls, Lr, rfl, hb0, hcc, hz, hs1, hs2, hL⟩ := HRr.out.grow HGr.out
      obtain ⟨b', o', SA', sn', sc', Ls', Lr', hA', hb1, _, _, _, hs2', _⟩ := HRr.out
      have hsn : sub.len = sn := by have := hs1.len; omega
      subst hsn
      obtain ⟨hb, ⟨c0, c1, c2, c3, c4, c5, c6, c7⟩⟩ := And.intro hb0 hcc
      have HS1 := hid hs1
      have HS2 := hid hs2'
      have HKs := hid HK.out.2
      have hsz1 : sub.size < f.size := by simp only [Forest.size] at hsz; omega
      have hsz2 : r.size ≤ f.size := by simp only [Forest.size] at hsz; omega
      have hsub : sub.size ≤ 1048576 := by simp only [Forest.size] at hsz; omega
      have hcl : cs.length = i * 8 := by
        have h1 := HS.out.length
        have h2 : dn.len = i := by
          have := HN.out
          rw [HE.out, Forest.len_app] at this
          simp only [Forest.len] at this
          omega
        rw [h1, h2]
      have HC := hid hcl
      clear hz hs1 hs2 hs2' hL hir hsz hA' hb1 hcl hb0 hcc
      go_wp2_with fail
      refine (toEntry_any sub (IH.out sub hsz1) t n s k m u x SA sc Ls wr HS1.out HKs.out.1 hsub).mono ?_
      rintro e w2 ⟨A2, c2', L2, rfl, hc', ho, hg⟩
      clear c0 c1 c2 c3 c4 c5 c6 c7 hb
      have HC2 := hid hc'
      have HT := hid ho
      have HG2 := hid (gb_trans HGr.out hg)
      have HOw2 := hid (own_grow HOw.out hg)
      have HSg := hid (HS.out.grow hg)
      have hlt : w.heap.size + 1 ≤ wr.heap.size := by
        rcases HOw.out.2 with ⟨h, _⟩ | ⟨g, _, _, h, _, hh, _⟩
        · cases h
        · injection h with h1
          injection h1 with h1
          injection h1 with h1
          subst h1
          exact (Array.getElem?_eq_some_iff.1 hh).1
      have HLg := hid (OwnL.app hlt HL.out hg ho.2)
      clear hlt
      clear hc' ho hg
      go_wp2_with ((with_reducible show wpList _ _ _ (⟨_, .store 61 _ _, _, _, _, _⟩ :: _) _ _); revert tok)
      intro tok
      refine wpList_storeO rfl 61 (.tmp 21) (.tmp 20) rfl w.heap.size (i * 8) [.bool t, .int .i64 n, .string s, .int .i64 k, .int .i64 m, .string u, .int .i64 x, .slice A2 sub.len c2'] rfl rfl HOw2.out (by simp only [List.length_cons, List.length_nil]; omega) Try.infoE rfl ?_
      simp only [Act.put]
      go_wp2_with fail
      go_roundw
      case rel =>
        have hg' : ∀ (q : World), q.grownBy (q.setCells w.heap.size (i * 8) [.bool t, .int .i64 n, .string s, .int .i64 k, .int .i64 m, .string u, .int .i64 x, .slice A2 sub.len c2']) (some w.heap.size) := fun q => gb_setCells (.inr rfl) _ _ (gb_refl _ _)
        have hne : ∀ b ∈ K ++ (blk A2 ++ L2), b ≠ w.heap.size := fun b hb e => by have := (HLg.out.2 b hb).1; omega
        have hnn : ∀ g, some w.heap.size = some g → g ∉ K ++ (blk A2 ++ L2) := fun g hg hm => hne g hm (by injection hg with hg; exact hg.symm)
        have hsub' := (HSg.out.app (SubF.one t n s k m u x HC2.out HT.out.1))
        have hlen8 : 8 ≤ rs.length := by
          have := HOw2.out.1
          rw [List.length_append, HC.out] at this
          omega
        have hown := own_setCells [.bool t, .int .i64 n, .string s, .int .i64 k, .int .i64 m, .string u, .int .i64 x, .slice A2 sub.len c2'] (i * 8) HOw2.out
        have e := setL_app [.bool t, .int .i64 n, .string s, .int .i64 k, .int .i64 m, .string u, .int .i64 x, .slice A2 sub.len c2'] cs rs hlen8
        rw [HC.out] at e
        rw [e] at hown
        exact ⟨i + 1, dn.app (.cons t n s k m u x sub .nil), r, Lr', K ++ (blk A2 ++ L2), cs ++ [.bool t, .int .i64 n, .string s, .int .i64 k, .int .i64 m, .string u, .int .i64 x, .slice A2 sub.len c2'], rs.drop 8,
          hid (by rw [Forest.app_assoc]; exact HE.out), hiN', by go_num, HS2, hsz2, hid HKs.out.2, hid (hsub'.kept (hg' _) hnn), hid (HLg.out.kept (hg' _) hnn), hid hown, hid (gb_setCells (.inl (Nat.le_refl _)) _ _ HG2.out)⟩
      case measure => simp [intOf]; omega
theorem toEntryS_any (f : Forest) : ToOk f := by
  obtain ⟨n, hn⟩ : ∃ n, f.size = n := ⟨_, rfl⟩
  induction n using Nat.strongRecOn generalizing f with
  | ind n ih => exact toEntryS_step f fun g hg => ih g.size (by omega) g rfl
end Go.Proofs.Ytlfigoboeogegaa
