/- The walks of szEntryS, szEntry, szValue. -/
import Derived.Test.YtlfigoboeogegaaKeys
import Derived.Test.YtlfigoboeogegaaTreeMath
namespace Go.Proofs.Ytlfigoboeogegaa
open Go.RowKit
set_option linter.unusedVariables false

/-- What szEntryS does over a forest. -/
def SzOk (f : Forest) : Prop := ∀ (w : World) (A : Option Addr) (c l : Nat) (L : List Nat), RowF w f A 0 f.len L → f.ok → f.len ≤ maxLen → l ≤ 1048576 →
  Calls Try.prog 30 #[.slice A f.len c, .int .i64 l] w fun e w' => e = .returned (.int .i64 (leftI l (f.len + f.sz))) ∧ w.grownBy w' none

theorem szValue_any (f : Forest) (hf : SzOk f) (k m : Int) (u : ByteArray) (x : Int) (A : Option Addr) (c l : Nat) (L : List Nat) (w : World) (hr : RowF w f A 0 f.len L) (hok : f.ok) (hlen : f.len ≤ maxLen) (hl : l ≤ 1048576) (hu : u.size ≤ maxLen) :
    Calls Try.prog 8 #[.agg #[.int .i64 k, .int .i64 m, .string u, .int .i64 x, .slice A f.len c], .int .i64 l] w fun e w' => e = .returned (.int .i64 (leftI l (u.size + (f.len + f.sz)))) ∧ w.grownBy w' none := by
  unfold maxLen at hu
  by_cases h : u.size ≤ l
  · have hsub : ∃ q : Nat, (l : Int) - (u.size : Int) = (q : Int) ∧ q = l - u.size := ⟨l - u.size, by omega, rfl⟩
    obtain ⟨q, hq, hq'⟩ := hsub
    have hql : q ≤ 1048576 := by omega
    have HQ : Hid (leftI q (f.len + f.sz) = leftI l (u.size + (f.len + f.sz))) := by show _ = _; rw [hq', leftI_step h]
    have HR := hid (hr.grow (gb_alloc (gb_refl w none) (.cells #[.int .i64 k, .int .i64 m, .string u, .int .i64 x, .slice A f.len c] 24)))
    have HF := hid hf
    have HO := hid (And.intro hok hlen)
    clear hf hr hq' hok hlen
    go_enter Try.func8, Try.ntmps8
    go_wp2_with fail
    refine (HF.out _ A c q L HR.out HO.out.1 HO.out.2 hql).mono ?_
    rintro e w1 ⟨rfl, hg⟩
    rcases leftI_cases q (f.len + f.sz) with ⟨e1, _⟩ | ⟨r, e1, _⟩
    · have E1 := hid e1
      rw [e1]
      clear e1
      go_wp2_with fail
      go_ret
      exact ⟨ret_int (by rw [← HQ.out, E1.out]), gb_trans (gb_alloc (gb_refl _ _) _) hg⟩
    · have E1 := hid e1
      rw [e1]
      clear e1
      go_wp2_with fail
      go_ret
      exact ⟨ret_int (by rw [← HQ.out, E1.out]), gb_trans (gb_alloc (gb_refl _ _) _) hg⟩
  · have HQ : Hid (leftI l (u.size + (f.len + f.sz)) = -1) := by show _ = _; exact leftI_no (by omega)
    clear hf hr hok hlen
    go_enter Try.func8, Try.ntmps8
    go_wp2_with fail
    go_ret
    exact ⟨ret_int (by rw [HQ.out]), gb_alloc (gb_refl _ _) _⟩

theorem szEntry_any (f : Forest) (hf : SzOk f) (t : Bool) (n : Int) (s : ByteArray) (k m : Int) (u : ByteArray) (x : Int) (A : Option Addr) (c l : Nat) (L : List Nat) (w : World) (hr : RowF w f A 0 f.len L) (hok : f.ok) (hlen : f.len ≤ maxLen) (hl : l ≤ 1048576) (hs : s.size ≤ maxLen) (hu : u.size ≤ maxLen) :
    Calls Try.prog 49 #[.agg #[.bool t, .int .i64 n, .string s, .int .i64 k, .int .i64 m, .string u, .int .i64 x, .slice A f.len c], .int .i64 l] w fun e w' => e = .returned (.int .i64 (leftI l (s.size + (u.size + (f.len + f.sz))))) ∧ w.grownBy w' none := by
  have H0 := hid (HoldsT.new w #[.bool t, .int .i64 n, .string s, .int .i64 k, .int .i64 m, .string u, .int .i64 x, .slice A f.len c] 70)
  have HR := hid (hr.grow (gb_alloc (gb_refl w none) (.cells #[.bool t, .int .i64 n, .string s, .int .i64 k, .int .i64 m, .string u, .int .i64 x, .slice A f.len c] 70)))
  have HF := hid hf
  have HO := hid (And.intro hok hlen)
  have HS := hid (And.intro hs hu)
  clear hf hr hok hlen hs hu
  go_enter Try.func49, Try.ntmps49
  go_wp2_with fail
  refine (szKey_any _ _ _ l _ HS.out.1 hl).mono ?_
  rintro e w1 ⟨rfl, hg1⟩
  by_cases h : s.size ≤ l
  · rw [if_pos h]
    obtain ⟨q, hq'⟩ : ∃ q : Nat, l - s.size = q := ⟨_, rfl⟩
    rw [hq']
    have hql : q ≤ 1048576 := by omega
    have HQ : Hid (leftI q (u.size + (f.len + f.sz)) = leftI l (s.size + (u.size + (f.len + f.sz)))) := by show _ = _; rw [← hq', leftI_step h]
    have H1 := hid (H0.out.grow hg1)
    obtain ⟨c0, c1, c2, c3, c4, c5, c6, c7⟩ := H1.out.cells8
    have lt := H1.out.lt
    clear hq'
    go_wp2_with fail
    refine (szValue_any f HF.out k m u x A c q L _ (HR.out.grow hg1) HO.out.1 HO.out.2 hql HS.out.2).mono ?_
    rintro e w2 ⟨rfl, hg2⟩
    clear c0 c1 c2 c3 c4 c5 c6 c7 lt
    rcases leftI_cases q (u.size + (f.len + f.sz)) with ⟨e1, _⟩ | ⟨r, e1, _⟩
    · have E1 := hid e1
      rw [e1]
      clear e1
      go_wp2_with fail
      go_ret
      exact ⟨ret_int (by rw [← HQ.out, E1.out]), gb_trans (gb_trans (gb_alloc (gb_refl _ _) _) hg1) hg2⟩
    · have E1 := hid e1
      rw [e1]
      clear e1
      go_wp2_with fail
      go_ret
      exact ⟨ret_int (by rw [← HQ.out, E1.out]), gb_trans (gb_trans (gb_alloc (gb_refl _ _) _) hg1) hg2⟩
  · rw [if_neg h]
    have HQ : Hid (leftI l (s.size + (u.size + (f.len + f.sz))) = -1) := by show _ = _; exact leftI_no (by omega)
    go_wp2_with fail
    go_ret
    exact ⟨ret_int (by rw [HQ.out]), gb_trans (gb_alloc (gb_refl _ _) _) hg1⟩

theorem szEntryS_step (f : Forest) (ih : ∀ g : Forest, g.size < f.size → SzOk g) : SzOk f := by
  intro w A c l L hr hok hlen hl
  unfold maxLen at hlen
  have IH := hid ih
  have HR := hid hr
  have HO := hid hok
  clear ih hr hok
  by_cases h : f.len ≤ l
  · obtain ⟨q, hq, hq'⟩ : ∃ q : Nat, (l : Int) - (f.len : Int) = (q : Int) ∧ q = l - f.len := ⟨l - f.len, by omega, rfl⟩
    have hql : q ≤ 1048576 := by omega
    have HQ : Hid (leftI q f.sz = leftI l (f.len + f.sz)) := by show _ = _; rw [hq', leftI_step h]
    clear hq'
    obtain ⟨N, hN⟩ : ∃ N, f.len = N := ⟨_, rfl⟩
    rw [hN] at hlen h hq HQ
    have HN := hid hN
    rw [hN]
    clear hN
    go_enter Try.func30, Try.ntmps30
    go_wp2_with fail
    go_loopw [1, 5] (fun lv iv wr => ∃ (i p : Nat) (r : Forest) (M : List Nat), Hid (leftI p r.sz = leftI q f.sz) ∧ i + r.len = N ∧ p ≤ q ∧ iv = .int .i64 i ∧ lv = .int .i64 p ∧ Hid (RowF wr r A i N M) ∧ r.size ≤ f.size ∧ Hid r.ok ∧ Hid (w.grownBy wr none)) (fun _ i _ => N - (intOf i).toNat)
    case atStart => exact ⟨0, q, f, L, hid rfl, by rw [HN.out]; omega, Nat.le_refl _, rfl, rfl, hid (HN.out ▸ HR.out), Nat.le_refl _, HO, hid (gb_refl _ _)⟩
    case round =>
      obtain ⟨i, p, r, M, HE, hir, hpq, rfl, rfl, HW, hsz, HK, HG⟩ := hrel
      cases r with
      | nil =>
        have hi : i = N := by simpa [Forest.len] using hir
        subst hi
        go_wp2_with fail
        go_ret
        exact ⟨ret_int (by rw [← HQ.out, ← HE.out]; simp [Forest.sz, leftI]), HG.out⟩
      | cons t n s k m u x sub r =>
        have hir' : i + (r.len + 1) = N := hir
        have hiN : i < N := by omega
        have hiN' : i + 1 + r.len = N := by omega
        obtain ⟨b, o, SA, sn, sc, Ls, Lr, rfl, hb, ⟨c0, c1, c2, c3, c4, c5, c6, c7⟩, hz, hs1, hs2, hL⟩ := HW.out
        have hsn : sub.len = sn := by have := hs1.len; omega
        subst hsn
        have HS := hid (And.intro hs1 hs2)
        obtain ⟨⟨k1, k2, _, _, _, _, hsl⟩, k3, k4⟩ := HK.out
        have HKs := hid (And.intro k3 k4)
        have hsz1 : sub.size < f.size := by simp only [Forest.size] at hsz; omega
        have hsz2 : r.size ≤ f.size := by simp only [Forest.size] at hsz; omega
        have HK1 := hid (And.intro (And.intro k1 k2) hsl)
        clear hsl hz hs1 hs2 hL k1 k2 k3 k4 hir hir' hsz
        go_wp2_with fail
        refine (szEntry_any sub (IH.out sub hsz1) t n s k m u x SA sc p Ls wr HS.out.1 HKs.out.1 HK1.out.2 (by omega) HK1.out.1.1 HK1.out.1.2).mono ?_
        rintro e w1 ⟨rfl, hg⟩
        clear c0 c1 c2 c3 c4 c5 c6 c7 hb
        have HG1 := hid (gb_trans HG.out hg)
        have HS1 := hid (HS.out.2.grow hg)
        clear hg
        rcases leftI_cases p (s.size + (u.size + (sub.len + sub.sz))) with ⟨e1, hlt⟩ | ⟨v, e1, hv⟩
        · have E1 : Hid (-1 = leftI l (N + f.sz)) := by
            show _ = _
            rw [← HQ.out, ← HE.out, leftI_no (by simp only [Forest.sz]; omega)]
          rw [e1]
          clear e1 hlt
          go_wp2_with fail
          go_ret
          exact ⟨ret_int E1.out, HG1.out⟩
        · have E1 : Hid (leftI v r.sz = leftI q f.sz) := by
            show _ = _
            have : v = p - (s.size + (u.size + (sub.len + sub.sz))) := by omega
            rw [← HE.out, this, leftI_step (by omega), Forest.sz]
          rw [e1]
          have hvp : v ≤ q := by omega
          clear e1 hv
          go_wp2_with fail
          go_roundw
          case rel => exact ⟨i + 1, v, r, Lr, E1, hiN', hvp, by go_num, rfl, HS1, hsz2, hid HKs.out.2, HG1⟩
          case measure => simp [intOf]; omega
  · have HQ : Hid (leftI l (f.len + f.sz) = -1) := by show _ = _; exact leftI_no (by omega)
    obtain ⟨N, hN⟩ : ∃ N, f.len = N := ⟨_, rfl⟩
    rw [hN] at HQ hlen h ⊢
    clear hN
    go_enter Try.func30, Try.ntmps30
    go_wp2_with fail
    go_ret
    exact ⟨ret_int (by rw [HQ.out]), gb_refl _ _⟩
theorem szEntryS_any (f : Forest) : SzOk f := by
  obtain ⟨n, hn⟩ : ∃ n, f.size = n := ⟨_, rfl⟩
  induction n using Nat.strongRecOn generalizing f with
  | ind n ih => exact szEntryS_step f fun g hg => ih g.size (by omega) g rfl
end Go.Proofs.Ytlfigoboeogegaa
