/- The walk of szValueS; a row of values as the entries of a list. -/
import Derived.Test.YtlfigoboeogegaaVals
import Derived.Test.YtlfigoboeogegaaSz
namespace Go.Proofs.Ytlfigoboeogegaa
open Go.RowKit
set_option linter.unusedVariables false

/-- What is taken off the bound for a row of values, beside their number. -/
def Forest.szv : Forest → Nat
  | .nil => 0
  | .cons _ _ _ _ _ u _ b r => (u.size + (b.len + b.sz)) + r.szv
theorem Forest.size_szv (f : Forest) : f.size ≤ f.len + f.szv := by
  induction f with
  | nil => simp [Forest.size]
  | cons t n s k m u x b r ih1 ih2 => have := b.size_sz; simp only [Forest.size, Forest.len, Forest.szv]; omega
/-- The values of a row under the keys i, i + 1, .. -/
def Forest.listF : Forest → Nat → Forest
  | .nil, _ => .nil
  | .cons _ _ _ k m u x b r, i => .cons false (i : Int) { data := #[] } k m u x b (r.listF (i + 1))
theorem Forest.listF_len : ∀ (f : Forest) (i : Nat), (f.listF i).len = f.len
  | .nil, _ => rfl
  | .cons _ _ _ _ _ _ _ _ r, i => by simp only [Forest.listF, Forest.len, Forest.listF_len r]
theorem Forest.listF_size : ∀ (f : Forest) (i : Nat), (f.listF i).size = f.size
  | .nil, _ => rfl
  | .cons _ _ _ _ _ _ _ _ r, i => by simp only [Forest.listF, Forest.size, Forest.listF_size r]
theorem szValueS_any (f : Forest) (w : World) (A : Option Addr) (c l : Nat) (L : List Nat) (hr : RowV w f A 0 f.len L) (hok : f.ok) (hlen : f.len ≤ maxLen) (hl : l ≤ 1048576) :
    Calls Try.prog 24 #[.slice A f.len c, .int .i64 l] w fun e w' => e = .returned (.int .i64 (leftI l (f.len + f.szv))) ∧ w.grownBy w' none := by
  unfold maxLen at hlen
  have HR := hid hr
  have HO := hid hok
  clear hr hok
  by_cases h : f.len ≤ l
  · obtain ⟨q, hq, hq'⟩ : ∃ q : Nat, (l : Int) - (f.len : Int) = (q : Int) ∧ q = l - f.len := ⟨l - f.len, by omega, rfl⟩
    have hql : q ≤ 1048576 := by omega
    have HQ : Hid (leftI q f.szv = leftI l (f.len + f.szv)) := by show _ = _; rw [hq', leftI_step h]
    clear hq'
    obtain ⟨N, hN⟩ : ∃ N, f.len = N := ⟨_, rfl⟩
    rw [hN] at hlen h hq HQ
    have HN := hid hN
    rw [hN]
    clear hN
    go_enter Try.func24, Try.ntmps24
    go_wp2_with fail
    go_loopw [1, 5] (fun lv iv wr => ∃ (i p : Nat) (r : Forest) (M : List Nat), Hid (leftI p r.szv = leftI q f.szv) ∧ i + r.len = N ∧ p ≤ q ∧ iv = .int .i64 i ∧ lv = .int .i64 p ∧ Hid (RowV wr r A i N M) ∧ r.size ≤ f.size ∧ Hid r.ok ∧ Hid (w.grownBy wr none)) (fun _ i _ => N - (intOf i).toNat)
    case atStart => exact ⟨0, q, f, L, hid rfl, by rw [HN.out]; omega, Nat.le_refl _, rfl, rfl, hid (HN.out ▸ HR.out), Nat.le_refl _, HO, hid (gb_refl _ _)⟩
    case round =>
      obtain ⟨i, p, r, M, HE, hir, hpq, rfl, rfl, HW, hsz, HK, HG⟩ := hrel
      cases r with
      | nil =>
        have hi : i = N := by simpa [Forest.len] using hir
        subst hi
        go_wp2_with fail
        go_ret
        exact ⟨ret_int (by rw [← HQ.out, ← HE.out]; simp [Forest.szv, leftI]), HG.out⟩
      | cons t n s k m u x sub r =>
        have hir' : i + (r.len + 1) = N := hir
        have hiN : i < N := by omega
        have hiN' : i + 1 + r.len = N := by omega
        obtain ⟨b, o, SA, sc, Ls, Lr, rfl, hb, R1, hz, hs1, hs2, hL⟩ := HW.out
        obtain ⟨c0, c1, c2, c3, c4⟩ := range5 R1
        have HS := hid (And.intro hs1 hs2)
        obtain ⟨⟨k1, k2, _, _, _, _, hsl⟩, k3, k4⟩ := HK.out
        have HKs := hid (And.intro k3 k4)
        have hsz2 : r.size ≤ f.size := by simp only [Forest.size] at hsz; omega
        have HK1 := hid (And.intro (And.intro k1 k2) hsl)
        clear hsl hz hs1 hs2 hL k1 k2 k3 k4 hir hir' hsz R1
        go_wp2_with fail
        refine (szValue_any sub (szEntryS_any sub) k m u x SA sc p Ls wr HS.out.1 HKs.out.1 HK1.out.2 (by omega) HK1.out.1.2).mono ?_
        rintro e w1 ⟨rfl, hg⟩
        clear c0 c1 c2 c3 c4 hb
        have HG1 := hid (gb_trans HG.out hg)
        have HS1 := hid (HS.out.2.grow hg)
        clear hg
        rcases leftI_cases p (u.size + (sub.len + sub.sz)) with ⟨e1, hlt⟩ | ⟨v, e1, hv⟩
        · have E1 : Hid (-1 = leftI l (N + f.szv)) := by
            show _ = _
            rw [← HQ.out, ← HE.out, leftI_no (by simp only [Forest.szv]; omega)]
          rw [e1]
          clear e1 hlt
          go_wp2_with fail
          go_ret
          exact ⟨ret_int E1.out, HG1.out⟩
        · have E1 : Hid (leftI v r.szv = leftI q f.szv) := by
            show _ = _
            have : v = p - (u.size + (sub.len + sub.sz)) := by omega
            rw [← HE.out, this, leftI_step (by omega), Forest.szv]
          rw [e1]
          have hvp : v ≤ q := by omega
          clear e1 hv
          go_wp2_with fail
          go_roundw
          case rel => exact ⟨i + 1, v, r, Lr, E1, hiN', hvp, by go_num, rfl, HS1, hsz2, hid HKs.out.2, HG1⟩
          case measure => simp [intOf]; omega
  · have HQ : Hid (leftI l (f.len + f.szv) = -1) := by show _ = _; exact leftI_no (by omega)
    obtain ⟨N, hN⟩ : ∃ N, f.len = N := ⟨_, rfl⟩
    rw [hN] at HQ hlen h ⊢
    clear hN
    go_enter Try.func24, Try.ntmps24
    go_wp2_with fail
    go_ret
    exact ⟨ret_int (by rw [HQ.out]), gb_refl _ _⟩
end Go.Proofs.Ytlfigoboeogegaa
