/- The walk of toValueS. -/
import Derived.Test.YtlfigoboeogegaaVals
import Derived.Test.YtlfigoboeogegaaTo
namespace Go.Proofs.Ytlfigoboeogegaa
open Go.RowKit
set_option linter.unusedVariables false

set_option maxHeartbeats 1000000 in
theorem toValueS_any (f : Forest) (w : World) (A : Option Addr) (c : Nat) (L : List Nat) (hr : RowV w f A 0 f.len L) (hok : f.ok) (hlen : f.size ≤ 1048576) :
    Calls Try.prog 26 #[.slice A f.len c] w (ValsPost w f) := by
  obtain ⟨i0, hi, hz0, hz1, hz2⟩ := info_parts Try.infoV3
  have HR := hid hr
  have HO := hid hok
  obtain ⟨N, hN⟩ : ∃ N, f.len = N := ⟨_, rfl⟩
  have hNs : N ≤ 1048576 := by have := f.len_le; omega
  rw [hN] at HR
  have HN := hid hN
  have hNm : N ≤ maxLen := by unfold maxLen; omega
  rw [hN]
  clear hr hok hN
  have tok : True := trivial
  go_enter Try.func26, Try.ntmps26
  go_wp2_with (at_make; refine wpList_make_full _ rfl _ _ _ rfl w.heap.size 31 i0 valueZ 5 Try.underlying41 hi hz0 hz1 .i64 .i64 _ _ N rfl rfl rfl rfl (by rw [hz2]; omega) hNm (Nat.le_refl _) ?_; intro w1 hown hgr)
  have HW := hid hown
  have HG := hid hgr
  clear hown hgr hi hz0 hz1 hz2 hNm
  go_loopw [4] (fun iv wr => ∃ (i : Nat) (dn r : Forest) (M K : List Nat) (cs rs : List Value), Hid (f = dn.app r) ∧ i + r.len = N ∧ iv = .int .i64 i ∧ Hid (RowV w r A i N M) ∧ r.size ≤ f.size ∧ Hid r.ok ∧ Hid (SubV wr dn cs K) ∧ Hid (OwnL wr 61 (w.heap.size + 1) K) ∧
      Hid (wr.ownsRow w.heap.size 31 5 (.slice (some ⟨w.heap.size, 0, none⟩) N N) N (cs ++ rs)) ∧ Hid (w.grownBy wr none)) (fun i _ => N - (intOf i).toNat)
  case atStart => exact ⟨0, .nil, f, L, [], [], _, hid rfl, by rw [HN.out]; omega, rfl, HR, Nat.le_refl _, HO, hid ⟨rfl, rfl⟩, hid (OwnL.nil _ _ _), HW, HG⟩
  case round =>
    obtain ⟨i, dn, r, M, K, cs, rs, HE, hir, rfl, HRr, hsz, HK, HS, HL, HOw, HGr⟩ := hrel
    cases r with
    | nil =>
      have hi : i = N := by simpa [Forest.len] using hir
      subst hi
      go_wp2_with fail
      go_ret
      have hf : f = dn := by rw [HE.out, Forest.app_nil]
      subst hf
      have hOw := HOw.out
      have hrs : rs = [] := by
        have h1 := hOw.1
        have h2 := HS.out.length
        have h3 := HN.out
        rw [List.length_append, h2, h3] at h1
        exact List.eq_nil_of_length_eq_zero (by omega)
      subst hrs
      rw [List.append_nil] at hOw
      refine ⟨_, _, K, by rw [HN.out]; rfl, ⟨cs, by rw [HN.out]; exact hOw, HS.out, HL.out.mono (Nat.le_succ _), fun b hb hm => ?_⟩, HGr.out⟩
      obtain rfl : b = w.heap.size := by simpa [blk] using hb
      have := (HL.out.2 _ hm).1
      omega
    | cons t n s k m u x sub r =>
      have hiN : i < N := by simp only [Forest.len] at hir; omega
      have hiN' : i + 1 + r.len = N := by simp only [Forest.len] at hir; omega
      obtain ⟨b, o, SA, sc, Ls, Lr, rfl, hb, R1, hz, hs1, _, hL⟩ := HRr.out.grow HGr.out
      obtain ⟨Lr', hs2'⟩ := HRr.out.rest
      obtain ⟨c0, c1, c2, c3, c4⟩ := range5 R1
      have HS1 := hid hs1
      have HS2 := hid hs2'
      have HKs := hid HK.out.2
      have hsz2 : r.size ≤ f.size := by simp only [Forest.size] at hsz; omega
      have hsub : sub.size ≤ 1048576 := by simp only [Forest.size] at hsz; omega
      have hcl : cs.length = i * 5 := by
        have h1 := HS.out.length
        have h2 : dn.len = i := by
          have := HN.out
          rw [HE.out, Forest.len_app] at this
          simp only [Forest.len] at this
          omega
        rw [h1, h2]
      have HC := hid hcl
      clear hz hs1 hs2' hL hir hsz hcl R1
      go_wp2_with fail
      refine (toValue_any sub (toEntryS_any sub) k m u x SA sc Ls wr HS1.out HKs.out.1 hsub).mono ?_
      rintro e w2 ⟨A2, c2', L2, rfl, hc', ho, hg⟩
      clear c0 c1 c2 c3 c4 hb
      have HC2 := hid hc'.1
      have HT := hid ho
      have HG2 := hid (gb_trans HGr.out hg)
      have HOw2 := hid (own_grow HOw.out hg)
      have HSg := hid (HS.out.grow hg)
      have hlt : w.heap.size + 1 ≤ wr.heap.size := by
        rcases HOw.out.2 with ⟨h, _⟩ | ⟨g, _, _, h, _, hh, _⟩
        · cases h
        · injection h with h1
          injection h1 with h1
          injection h1 with h1
          subst h1
          exact (Array.getElem?_eq_some_iff.1 hh).1
      have HLg := hid (OwnL.app hlt HL.out hg ho.2)
      clear hlt
      clear hc' ho hg
      go_wp2_with ((with_reducible show wpList _ _ _ (⟨_, .store 31 _ _, _, _, _, _⟩ :: _) _ _); revert tok)
      intro tok
      refine wpList_storeO rfl 31 (.tmp 21) (.tmp 20) rfl w.heap.size (i * 5) [.int .i64 k, .int .i64 m, .string u, .int .i64 x, .slice A2 sub.len c2'] rfl rfl HOw2.out (by simp only [List.length_cons, List.length_nil]; omega) Try.infoV rfl ?_
      simp only [Act.put]
      go_wp2_with fail
      go_roundw
      case rel =>
        have hg' : ∀ (q : World), q.grownBy (q.setCells w.heap.size (i * 5) [.int .i64 k, .int .i64 m, .string u, .int .i64 x, .slice A2 sub.len c2']) (some w.heap.size) := fun q => gb_setCells (.inr rfl) _ _ (gb_refl _ _)
        have hne : ∀ b ∈ K ++ (blk A2 ++ L2), b ≠ w.heap.size := fun b hb e => by have := (HLg.out.2 b hb).1; omega
        have hnn : ∀ g, some w.heap.size = some g → g ∉ K ++ (blk A2 ++ L2) := fun g hg hm => hne g hm (by injection hg with hg; exact hg.symm)
        have hsub' := (HSg.out.app (SubV.one t n s k m u x HC2.out HT.out.1))
        have hlen5 : 5 ≤ rs.length := by
          have := HOw2.out.1
          rw [List.length_append, HC.out] at this
          omega
        have hown := own_setCells [.int .i64 k, .int .i64 m, .string u, .int .i64 x, .slice A2 sub.len c2'] (i * 5) HOw2.out
        have e := setL_app [.int .i64 k, .int .i64 m, .string u, .int .i64 x, .slice A2 sub.len c2'] cs rs hlen5
        rw [HC.out] at e
        rw [e] at hown
        exact ⟨i + 1, dn.app (.cons t n s k m u x sub .nil), r, Lr', K ++ (blk A2 ++ L2), cs ++ [.int .i64 k, .int .i64 m, .string u, .int .i64 x, .slice A2 sub.len c2'], rs.drop 5,
          hid (by rw [Forest.app_assoc]; exact HE.out), hiN', by go_num, HS2, hsz2, hid HKs.out.2, hid (hsub'.kept (hg' _) hnn), hid (HLg.out.kept (hg' _) hnn), hid hown, hid (gb_setCells (.inl (Nat.le_refl _)) _ _ HG2.out)⟩
      case measure => simp [intOf]; omega
end Go.Proofs.Ytlfigoboeogegaa
