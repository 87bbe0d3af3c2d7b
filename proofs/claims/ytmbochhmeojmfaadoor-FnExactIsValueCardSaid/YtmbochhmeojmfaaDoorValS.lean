/- The walk of l5Valid (printed by genvalid.py). -/
import Derived.Test.YtmbochhmeojmfaaDoorValid
import Derived.Test.YtmbochhmeojmfaaDoorSet
namespace Go.Proofs.YtmbochhmeojmfaaDoor
set_option maxRecDepth 20000
open Go.RowKit
set_option linter.unusedVariables false
set_option linter.unusedSimpArgs false

set_option maxHeartbeats 4000000 in
theorem specValid_no4 (f : Forest) (w : World) (k m : Int) (u : ByteArray) (x : Int) (A : Option Addr) (c : Nat) (hk4 : k ≠ 4) (hfs : f.size ≤ 1048576) : Calls Tryd.prog 40 #[.agg #[.int .i64 k, .int .i64 m, .string u, .int .i64 x, .slice A f.len c]] w (VPost k m u x f w) := by
  obtain ⟨N, hN⟩ : ∃ N, f.len = N := ⟨_, rfl⟩
  have hNs : N ≤ 1048576 := by have := f.len_le; omega
  rw [hN]
  have HN := hid hN
  clear hN
  by_cases h_k_3 : k = 3
  · subst h_k_3
    by_cases h_x_0 : x = 0
    · subst h_x_0
      by_cases hn : N = 0
      · subst hn
        by_cases h_m_0 : m = 0
        · subst h_m_0
          by_cases hz : u.size ≤ 400
          · skip
            go_enter Tryd.func40, Tryd.ntmps40
            go_wp2_with fail
            go_ret
            exact ⟨true, ret_bool (by simp; omega), vyes HN.out (by unfold scalV; omega) (by omega), gb_alloc (gb_refl _ _) _⟩
          · have hz2 : 400 < u.size := by omega
            go_enter Tryd.func40, Tryd.ntmps40
            go_wp2_with fail
            go_ret
            exact ⟨false, ret_bool (by simp; omega), vno HN.out (by unfold scalV; omega), gb_alloc (gb_refl _ _) _⟩
        · skip
          have n_m_0 : ((m : Int) != 0) = true := by simpa using h_m_0
          have e_m_0 : ((m : Int) == 0) = false := by simpa using h_m_0
          go_enter Tryd.func40, Tryd.ntmps40
          go_wp2_with fail
          go_ret
          exact ⟨false, rfl, vno HN.out (by unfold scalV; omega), gb_alloc (gb_refl _ _) _⟩
      · have hn2 : 0 < N := by omega
        go_enter Tryd.func40, Tryd.ntmps40
        go_wp2_with fail
        go_ret
        exact ⟨false, rfl, vno HN.out (by unfold scalV; omega), gb_alloc (gb_refl _ _) _⟩
    · skip
      have n_x_0 : ((x : Int) != 0) = true := by simpa using h_x_0
      have e_x_0 : ((x : Int) == 0) = false := by simpa using h_x_0
      go_enter Tryd.func40, Tryd.ntmps40
      go_wp2_with fail
      go_ret
      exact ⟨false, rfl, vno HN.out (by unfold scalV; omega), gb_alloc (gb_refl _ _) _⟩
  by_cases hu : u = ByteArray.empty
  · subst hu
    by_cases h_x_0 : x = 0
    · subst h_x_0
      by_cases hn : N = 0
      · subst hn
        by_cases h_k_0 : k = 0
        · subst h_k_0
          by_cases h_m_0 : m = 0
          · subst h_m_0
            go_enter Tryd.func40, Tryd.ntmps40
            go_wp2_with fail
            go_ret
            exact ⟨true, rfl, vyes HN.out (by show scalV _ _ _ 0 _; unfold scalV; omega) (by omega), gb_alloc (gb_refl _ _) _⟩
          · skip
            have n_m_0 : ((m : Int) != 0) = true := by simpa using h_m_0
            have e_m_0 : ((m : Int) == 0) = false := by simpa using h_m_0
            go_enter Tryd.func40, Tryd.ntmps40
            go_wp2_with fail
            go_ret
            exact ⟨false, rfl, vno HN.out (by show ¬ scalV _ _ _ 0 _; unfold scalV; omega), gb_alloc (gb_refl _ _) _⟩
        by_cases h_k_1 : k = 1
        · subst h_k_1
          by_cases hr : 0 ≤ m ∧ m ≤ 1
          · have HRg := hid hr
            go_enter Tryd.func40, Tryd.ntmps40
            go_wp2_with (go_at_call 61; refine (l1In_t _ _ _ _ HRg.out.1 HRg.out.2).mono ?_; rintro e w' ⟨rfl, rfl⟩)
            go_ret
            exact ⟨true, rfl, vyes HN.out (by show scalV _ _ _ 0 _; unfold scalV; omega) (by omega), gb_alloc (gb_refl _ _) _⟩
          · have HRg : Hid (m < 0 ∨ 1 < m) := hid (by omega)
            go_enter Tryd.func40, Tryd.ntmps40
            go_wp2_with (go_at_call 61; refine (l1In_f _ _ _ _ HRg.out).mono ?_; rintro e w' ⟨rfl, rfl⟩)
            go_ret
            exact ⟨false, rfl, vno HN.out (by show ¬ scalV _ _ _ 0 _; unfold scalV; omega), gb_alloc (gb_refl _ _) _⟩
        by_cases h_k_2 : k = 2
        · subst h_k_2
          by_cases hr : -1000000000 ≤ m ∧ m ≤ 1000000000
          · have HRg := hid hr
            go_enter Tryd.func40, Tryd.ntmps40
            go_wp2_with (go_at_call 61; refine (l1In_t _ _ _ _ HRg.out.1 HRg.out.2).mono ?_; rintro e w' ⟨rfl, rfl⟩)
            go_ret
            exact ⟨true, rfl, vyes HN.out (by show scalV _ _ _ 0 _; unfold scalV; omega) (by omega), gb_alloc (gb_refl _ _) _⟩
          · have HRg : Hid (m < -1000000000 ∨ 1000000000 < m) := hid (by omega)
            go_enter Tryd.func40, Tryd.ntmps40
            go_wp2_with (go_at_call 61; refine (l1In_f _ _ _ _ HRg.out).mono ?_; rintro e w' ⟨rfl, rfl⟩)
            go_ret
            exact ⟨false, rfl, vno HN.out (by show ¬ scalV _ _ _ 0 _; unfold scalV; omega), gb_alloc (gb_refl _ _) _⟩
        by_cases h_k_6 : k = 6
        · subst h_k_6
          by_cases hr : 0 ≤ m ∧ m ≤ 255
          · have HRg := hid hr
            go_enter Tryd.func40, Tryd.ntmps40
            go_wp2_with (go_at_call 61; refine (l1In_t _ _ _ _ HRg.out.1 HRg.out.2).mono ?_; rintro e w' ⟨rfl, rfl⟩)
            go_ret
            exact ⟨true, rfl, vyes HN.out (by show scalV _ _ _ 0 _; unfold scalV; omega) (by omega), gb_alloc (gb_refl _ _) _⟩
          · have HRg : Hid (m < 0 ∨ 255 < m) := hid (by omega)
            go_enter Tryd.func40, Tryd.ntmps40
            go_wp2_with (go_at_call 61; refine (l1In_f _ _ _ _ HRg.out).mono ?_; rintro e w' ⟨rfl, rfl⟩)
            go_ret
            exact ⟨false, rfl, vno HN.out (by show ¬ scalV _ _ _ 0 _; unfold scalV; omega), gb_alloc (gb_refl _ _) _⟩
        by_cases h_k_7 : k = 7
        · subst h_k_7
          by_cases hr : 0 ≤ m ∧ m ≤ 255
          · have HRg := hid hr
            go_enter Tryd.func40, Tryd.ntmps40
            go_wp2_with (go_at_call 61; refine (l1In_t _ _ _ _ HRg.out.1 HRg.out.2).mono ?_; rintro e w' ⟨rfl, rfl⟩)
            go_ret
            exact ⟨true, rfl, vyes HN.out (by show scalV _ _ _ 0 _; unfold scalV; omega) (by omega), gb_alloc (gb_refl _ _) _⟩
          · have HRg : Hid (m < 0 ∨ 255 < m) := hid (by omega)
            go_enter Tryd.func40, Tryd.ntmps40
            go_wp2_with (go_at_call 61; refine (l1In_f _ _ _ _ HRg.out).mono ?_; rintro e w' ⟨rfl, rfl⟩)
            go_ret
            exact ⟨false, rfl, vno HN.out (by show ¬ scalV _ _ _ 0 _; unfold scalV; omega), gb_alloc (gb_refl _ _) _⟩
        by_cases h_k_8 : k = 8
        · subst h_k_8
          by_cases hr : 0 ≤ m ∧ m ≤ 255
          · have HRg := hid hr
            go_enter Tryd.func40, Tryd.ntmps40
            go_wp2_with (go_at_call 61; refine (l1In_t _ _ _ _ HRg.out.1 HRg.out.2).mono ?_; rintro e w' ⟨rfl, rfl⟩)
            go_ret
            exact ⟨true, rfl, vyes HN.out (by show scalV _ _ _ 0 _; unfold scalV; omega) (by omega), gb_alloc (gb_refl _ _) _⟩
          · have HRg : Hid (m < 0 ∨ 255 < m) := hid (by omega)
            go_enter Tryd.func40, Tryd.ntmps40
            go_wp2_with (go_at_call 61; refine (l1In_f _ _ _ _ HRg.out).mono ?_; rintro e w' ⟨rfl, rfl⟩)
            go_ret
            exact ⟨false, rfl, vno HN.out (by show ¬ scalV _ _ _ 0 _; unfold scalV; omega), gb_alloc (gb_refl _ _) _⟩
        have h_k_4 := hk4
        have n_k_0 : ((k : Int) != 0) = true := by simpa using h_k_0
        have e_k_0 : ((k : Int) == 0) = false := by simpa using h_k_0
        have n_k_1 : ((k : Int) != 1) = true := by simpa using h_k_1
        have e_k_1 : ((k : Int) == 1) = false := by simpa using h_k_1
        have n_k_2 : ((k : Int) != 2) = true := by simpa using h_k_2
        have e_k_2 : ((k : Int) == 2) = false := by simpa using h_k_2
        have n_k_3 : ((k : Int) != 3) = true := by simpa using h_k_3
        have e_k_3 : ((k : Int) == 3) = false := by simpa using h_k_3
        have n_k_4 : ((k : Int) != 4) = true := by simpa using h_k_4
        have e_k_4 : ((k : Int) == 4) = false := by simpa using h_k_4
        have n_k_6 : ((k : Int) != 6) = true := by simpa using h_k_6
        have e_k_6 : ((k : Int) == 6) = false := by simpa using h_k_6
        have n_k_7 : ((k : Int) != 7) = true := by simpa using h_k_7
        have e_k_7 : ((k : Int) == 7) = false := by simpa using h_k_7
        have n_k_8 : ((k : Int) != 8) = true := by simpa using h_k_8
        have e_k_8 : ((k : Int) == 8) = false := by simpa using h_k_8
        go_enter Tryd.func40, Tryd.ntmps40
        go_wp2_with fail
        go_ret
        exact ⟨false, rfl, vno HN.out (by show ¬ scalV _ _ _ 0 _; unfold scalV; omega), gb_alloc (gb_refl _ _) _⟩
      · have hn2 : 0 < N := by omega
        have h_k_4 := hk4
        have n_k_3 : ((k : Int) != 3) = true := by simpa using h_k_3
        have e_k_3 : ((k : Int) == 3) = false := by simpa using h_k_3
        have n_k_4 : ((k : Int) != 4) = true := by simpa using h_k_4
        have e_k_4 : ((k : Int) == 4) = false := by simpa using h_k_4
        go_enter Tryd.func40, Tryd.ntmps40
        go_wp2_with fail
        go_ret
        exact ⟨false, rfl, vno HN.out (by show ¬ scalV _ _ _ 0 _; unfold scalV; omega), gb_alloc (gb_refl _ _) _⟩
    · have h_k_4 := hk4
      have n_k_3 : ((k : Int) != 3) = true := by simpa using h_k_3
      have e_k_3 : ((k : Int) == 3) = false := by simpa using h_k_3
      have n_k_4 : ((k : Int) != 4) = true := by simpa using h_k_4
      have e_k_4 : ((k : Int) == 4) = false := by simpa using h_k_4
      have n_x_0 : ((x : Int) != 0) = true := by simpa using h_x_0
      have e_x_0 : ((x : Int) == 0) = false := by simpa using h_x_0
      go_enter Tryd.func40, Tryd.ntmps40
      go_wp2_with fail
      go_ret
      exact ⟨false, rfl, vno HN.out (by show ¬ scalV _ _ _ 0 _; unfold scalV; omega), gb_alloc (gb_refl _ _) _⟩
  · have q1 := str_full hu
    have hus := full_size hu
    have n_k_3 : ((k : Int) != 3) = true := by simpa using h_k_3
    have e_k_3 : ((k : Int) == 3) = false := by simpa using h_k_3
    go_enter Tryd.func40, Tryd.ntmps40
    go_wp2_with fail
    go_ret
    exact ⟨false, rfl, vno HN.out (by unfold scalV; omega), gb_alloc (gb_refl _ _) _⟩
set_option maxHeartbeats 8000000 in
theorem specValid_step (f : Forest) (ih : ∀ g : Forest, g.size < f.size → ValidOk 40 g) : ValidOk 40 f := by
  intro w k m u x A c L hr hfs hfz hok hL
  by_cases hk : k = 4
  · subst hk
    obtain ⟨N, hN⟩ : ∃ N, f.len = N := ⟨_, rfl⟩
    have hNs : N ≤ 1048576 := by have := f.len_le; omega
    have HR := hid hr
    have HOK := hid hok
    have HL := hid hL
    have IH := hid ih
    rw [hN]
    have HN := hid hN
    clear hr hok hL ih
    by_cases hu : u = ByteArray.empty
    · subst hu
      by_cases h_m_0 : m = 0
      · subst h_m_0
        by_cases hr : 0 ≤ x ∧ x ≤ 1000000001
        · have HRg := hid hr
          clear hr
          have H0 := hid (HoldsT.new w #[.int .i64 4, .int .i64 0, .string ByteArray.empty, .int .i64 x, .slice A N c] 26)
          have HR1 := hid (HR.out.grow (gb_alloc (gb_refl w none) (.cells #[.int .i64 4, .int .i64 0, .string ByteArray.empty, .int .i64 x, .slice A N c] 26)))
          rw [hN] at HR1
          have CF : Hid (∀ (w' : World) (t : Bool) (n : Int) (s : ByteArray), w.grownBy w' none → Calls Tryd.prog 62 #[.agg #[.int .i64 4, .int .i64 0, .string ByteArray.empty, .int .i64 x, .slice A N c], .agg #[.bool t, .int .i64 n, .string s]] w' fun e w'' => e = .returned (.int .i64 (f.find t n s 0)) ∧ w'.grownBy w'' none) := hid fun w' t n s hg => by
            have h1 := specL5Find_any f t n s w' 4 0 ByteArray.empty x A c L (HR.out.grow hg) hfs
            rw [hN, show valFind 4 t n s f = f.find t n s 0 from if_pos rfl] at h1
            exact h1
          have HLE := hid (show ∀ g : Forest, True from fun _ => trivial)
          clear hN HLE
          go_enter Tryd.func40, Tryd.ntmps40
          go_wp2_with (go_at_call 61; refine (l1In_t _ _ _ _ HRg.out.1 HRg.out.2).mono ?_; rintro e w' ⟨rfl, rfl⟩)
          go_loopw [3] (fun iv wr => ∃ (i : Nat) (dn r : Forest) (M : List Nat) (seen : List (Bool × Int × ByteArray)), Hid (f = dn.app r) ∧ Hid (dn.len = i) ∧ i + r.len = N ∧ iv = .int .i64 i ∧ Hid (RowF wr r A i N M) ∧ r.size ≤ f.size ∧ r.sz ≤ f.sz ∧ Hid r.ok ∧ Hid (f.rowV x [] ↔ r.rowV x seen) ∧ Hid (∀ q, q ∈ seen ↔ q ∈ dn.keysV) ∧ 
              Hid (HoldsT wr w.heap.size #[.int .i64 4, .int .i64 0, .string ByteArray.empty, .int .i64 x, .slice A N c] 26) ∧ Hid (w.grownBy wr none)) (fun i _ => N - (intOf i).toNat)
          case atStart => exact ⟨0, .nil, f, L, [], hid rfl, hid rfl, by have := HN.out; omega, rfl, HR1, Nat.le_refl _, Nat.le_refl _, HOK, hid Iff.rfl, hid (fun q => by simp [Forest.keysV]), H0, hid (gb_alloc (gb_refl _ _) _)⟩
          case round =>
            obtain ⟨i, dn, r, M, seen, HE, HD, hir, rfl, HRr, hsz, hszz, HKr, HV, HSe, HB, HG⟩ := hrel
            obtain ⟨a0, a1, a2, a3, a4⟩ := HB.out.cells5
            have lt := HB.out.lt
            cases r with
            | nil =>
              have hi : i = N := by simpa [Forest.len] using hir
              subst hi
              go_wp2_with fail
              go_ret
              exact ⟨true, rfl, ⟨fun _ => ⟨by rw [HN.out]; show scalV _ _ _ 0 _; have := HRg.out; unfold scalV; omega, fun _ => HV.out.2 trivial⟩, fun _ => rfl⟩, HG.out⟩
            | cons t n s kd nm v y sub r =>
              have hiN : i < N := by simp only [Forest.len] at hir; omega
              have hiN' : i + 1 + r.len = N := by simp only [Forest.len] at hir; omega
              obtain ⟨b, o, SA, sc, Ls, Lr, rfl, hb, R1, _, hs1, hs2, _⟩ := HRr.out.range
              have HS1 := hid hs1
              have HS2 := hid hs2
              have HR9 := hid (And.intro R1 hb)
              have hsz1 : sub.size < f.size := by simp only [Forest.size] at hsz; omega
              have hsz2 : r.size ≤ f.size := by simp only [Forest.size] at hsz; omega
              rw [Forest.sz_cons] at hszz
              have hzz2 : r.sz ≤ f.sz := by omega
              have hss : s.size ≤ 1048576 ∧ sub.sz ≤ 1048576 := by omega
              have HSS := hid hss
              have HKs := hid HKr.out.2
              have HK1 := hid HKr.out.1
              have hfail : ∀ {Q : Prop}, (((Forest.cons t n s kd nm v y sub r).rowV x seen) → False) → (false = true ↔ valV 4 0 ByteArray.empty x f) := fun h => ⟨fun h' => (by cases h'), fun hv => (h (HV.out.1 (hv.2 rfl))).elim⟩
              have HF := hid (fun h => hfail (Q := True) h)
              have HHere := hid (show f.find t n s 0 = (i : Int) ↔ (t, n, s) ∉ dn.keysV by
                have h := Forest.find_here t n s kd nm v y sub r dn 0
                rw [Nat.zero_add, HD.out, ← HE.out] at h
                exact h)
              obtain ⟨c0, c1, c2, c3, c4, c5, c6, c7⟩ := range8 R1
              clear hs1 hs2 hir hsz hszz R1 hss hb hfail
              go_wp2_with fail
              refine (specIsKey t n s _ HSS.out.1).mono ?_
              rintro e w2 ⟨bk, rfl, hK, hg⟩
              have GG := hid (gb_trans (gb_alloc (gb_refl wr none) (.cells #[.bool t, .int .i64 n, .string s] 33)) hg)
              have HB2 := hid (HB.out.grow GG.out)
              have HKy := hid ((HoldsT.new wr #[.bool t, .int .i64 n, .string s] 33).grow hg)
              have HG2 := hid (gb_trans HG.out GG.out)
              have HIK := hid hK
              clear hK hg a0 a1 a2 a3 a4 lt c0 c1 c2 c3 c4 c5 c6 c7
              obtain ⟨a0, a1, a2, a3, a4⟩ := HB2.out.cells5
              have lt := HB2.out.lt
              obtain ⟨d0, d1, d2⟩ := HKy.out.cells3
              have lk := HKy.out.lt
              cases bk with
              | false =>
                go_wp2_with fail
                go_ret
                exact ⟨false, rfl, HF.out (fun h => absurd (HIK.out.unique (rowV_cons .. |>.1 h).1) (by simp)), HG2.out⟩
              | true =>
                cases t with
                | true =>
                  go_wp2_with fail
                  refine (CF.out _ true n s HG2.out).mono ?_
                  rintro e w3 ⟨rfl, hg3⟩
                  have HG3 := hid (gb_trans HG2.out hg3)
                  have HB3 := hid (HB2.out.grow hg3)
                  clear a0 a1 a2 a3 a4 lt d0 d1 d2 lk
                  obtain ⟨a0, a1, a2, a3, a4⟩ := HB3.out.cells5
                  have lt := HB3.out.lt
                  by_cases hmem : (true, n, s) ∈ seen
                  · obtain ⟨z, hz⟩ : ∃ z, f.find true n s 0 = z := ⟨_, rfl⟩
                    have hne : z ≠ (i : Int) := fun e => HHere.out.1 (hz.trans e) ((HSe.out _).1 hmem)
                    have n1 : (z != (i : Int)) = true := by simpa using hne
                    have n2 : (z == (i : Int)) = false := by simpa using hne
                    rw [hz]
                    clear hz hne
                    go_wp2_with fail
                    go_ret
                    exact ⟨false, rfl, HF.out (fun h => (rowV_cons .. |>.1 h).2.1 hmem), HG3.out⟩
                  · rw [HHere.out.2 (fun h => hmem ((HSe.out _).2 h))]
                    have HMem := hid hmem
                    clear hmem
                    obtain ⟨_, _, _, c3, c4, c5, c6, c7⟩ := range8 (rangeAt_grow HR9.out.1 (gb_trans GG.out hg3) HR9.out.2)
                    have d0 : True := trivial; have d1 : True := trivial; have d2 : True := trivial; have lk : True := trivial
                    have HS9 := hid (HS1.out.grow (gb_trans GG.out hg3))
                    go_wp2_with fail
                    refine (IH.out sub hsz1 w3 kd nm v y SA sc Ls HS9.out (by omega) HSS.out.2 HKs.out.1 (HL.out.grow HG3.out)).mono ?_
                    rintro e w4 ⟨b2, rfl, hV, hg4⟩
                    have HVc := hid hV
                    have HG4 := hid (gb_trans HG3.out hg4)
                    have HB4 := hid (HB3.out.grow hg4)
                    have HS4 := hid (HS2.out.grow (gb_trans GG.out (gb_trans hg3 hg4)))
                    clear hV hg4 c3 c4 c5 c6 c7 hg3 a0 a1 a2 a3 a4 lt d0 d1 d2 lk
                    cases b2 with
                    | false =>
                      go_wp2_with fail
                      go_ret
                      exact ⟨false, rfl, HF.out (fun h => absurd (HVc.out.2 (rowV_cons .. |>.1 h).2.2.2.1) (by simp)), HG4.out⟩
                    | true =>
                      have HVt := hid (HVc.out.1 rfl)
                      clear HVc
                      go_wp2_with fail
                      go_roundw
                      case rel => exact ⟨i + 1, dn.app (.cons true n s kd nm v y sub .nil), r, _, (true, n, s) :: seen, hid (by rw [Forest.app_assoc]; exact HE.out), hid (by rw [Forest.len_app, HD.out]; rfl), hiN', by go_num, HS4, hsz2, hzz2, hid HKs.out.2, hid (HV.out.trans ((rowV_cons ..).trans ⟨fun h => h.2.2.2.2, fun h => ⟨HIK.out, HMem.out, (fun h => by cases h), HVt.out, h⟩⟩)), hid (fun q => by rw [Forest.keysV_app, List.mem_append, List.mem_cons, HSe.out]; simp only [Forest.keysV, List.mem_singleton]; exact or_comm), HB4, HG4⟩
                      case measure => simp [intOf]; omega
                | false =>
                  by_cases hlt : n < x
                  · have HLt := hid hlt
                    have hd : decide (x ≤ n) = false := by simp; omega
                    go_wp2_with fail
                    refine (CF.out _ false n s HG2.out).mono ?_
                    rintro e w3 ⟨rfl, hg3⟩
                    have HG3 := hid (gb_trans HG2.out hg3)
                    have HB3 := hid (HB2.out.grow hg3)
                    clear a0 a1 a2 a3 a4 lt d0 d1 d2 lk
                    obtain ⟨a0, a1, a2, a3, a4⟩ := HB3.out.cells5
                    have lt := HB3.out.lt
                    by_cases hmem : (false, n, s) ∈ seen
                    · obtain ⟨z, hz⟩ : ∃ z, f.find false n s 0 = z := ⟨_, rfl⟩
                      have hne : z ≠ (i : Int) := fun e => HHere.out.1 (hz.trans e) ((HSe.out _).1 hmem)
                      have n1 : (z != (i : Int)) = true := by simpa using hne
                      have n2 : (z == (i : Int)) = false := by simpa using hne
                      rw [hz]
                      clear hz hne
                      go_wp2_with fail
                      go_ret
                      exact ⟨false, rfl, HF.out (fun h => (rowV_cons .. |>.1 h).2.1 hmem), HG3.out⟩
                    · rw [HHere.out.2 (fun h => hmem ((HSe.out _).2 h))]
                      have HMem := hid hmem
                      clear hmem
                      obtain ⟨_, _, _, c3, c4, c5, c6, c7⟩ := range8 (rangeAt_grow HR9.out.1 (gb_trans GG.out hg3) HR9.out.2)
                      have d0 : True := trivial; have d1 : True := trivial; have d2 : True := trivial; have lk : True := trivial
                      have HS9 := hid (HS1.out.grow (gb_trans GG.out hg3))
                      go_wp2_with fail
                      refine (IH.out sub hsz1 w3 kd nm v y SA sc Ls HS9.out (by omega) HSS.out.2 HKs.out.1 (HL.out.grow HG3.out)).mono ?_
                      rintro e w4 ⟨b2, rfl, hV, hg4⟩
                      have HVc := hid hV
                      have HG4 := hid (gb_trans HG3.out hg4)
                      have HB4 := hid (HB3.out.grow hg4)
                      have HS4 := hid (HS2.out.grow (gb_trans GG.out (gb_trans hg3 hg4)))
                      clear hV hg4 c3 c4 c5 c6 c7 hg3 a0 a1 a2 a3 a4 lt d0 d1 d2 lk
                      cases b2 with
                      | false =>
                        go_wp2_with fail
                        go_ret
                        exact ⟨false, rfl, HF.out (fun h => absurd (HVc.out.2 (rowV_cons .. |>.1 h).2.2.2.1) (by simp)), HG4.out⟩
                      | true =>
                        have HVt := hid (HVc.out.1 rfl)
                        clear HVc
                        go_wp2_with fail
                        go_roundw
                        case rel => exact ⟨i + 1, dn.app (.cons false n s kd nm v y sub .nil), r, _, (false, n, s) :: seen, hid (by rw [Forest.app_assoc]; exact HE.out), hid (by rw [Forest.len_app, HD.out]; rfl), hiN', by go_num, HS4, hsz2, hzz2, hid HKs.out.2, hid (HV.out.trans ((rowV_cons ..).trans ⟨fun h => h.2.2.2.2, fun h => ⟨HIK.out, HMem.out, (fun _ => HLt.out), HVt.out, h⟩⟩)), hid (fun q => by rw [Forest.keysV_app, List.mem_append, List.mem_cons, HSe.out]; simp only [Forest.keysV, List.mem_singleton]; exact or_comm), HB4, HG4⟩
                        case measure => simp [intOf]; omega
                  · have hge : x ≤ n := by omega
                    have hd : decide (x ≤ n) = true := by simpa using hge
                    go_wp2_with fail
                    go_ret
                    exact ⟨false, rfl, HF.out (fun h => by have h9 := (rowV_cons .. |>.1 h).2.2.1 rfl; omega), HG2.out⟩
        · have HRg : Hid (x < 0 ∨ 1000000001 < x) := hid (by omega)
          clear hN
          go_enter Tryd.func40, Tryd.ntmps40
          go_wp2_with (go_at_call 61; refine (l1In_f _ _ _ _ HRg.out).mono ?_; rintro e w' ⟨rfl, rfl⟩)
          go_ret
          exact ⟨false, rfl, vno HN.out (by show ¬ scalV _ _ _ 0 _; unfold scalV; omega), gb_alloc (gb_refl _ _) _⟩
      · clear hN
        have n_m_0 : ((m : Int) != 0) = true := by simpa using h_m_0
        have e_m_0 : ((m : Int) == 0) = false := by simpa using h_m_0
        go_enter Tryd.func40, Tryd.ntmps40
        go_wp2_with fail
        go_ret
        exact ⟨false, rfl, vno HN.out (by show ¬ scalV _ _ _ 0 _; unfold scalV; omega), gb_alloc (gb_refl _ _) _⟩
    · have q1 := str_full hu
      have hus := full_size hu
      clear hN
      go_enter Tryd.func40, Tryd.ntmps40
      go_wp2_with fail
      go_ret
      exact ⟨false, rfl, vno HN.out (by unfold scalV; omega), gb_alloc (gb_refl _ _) _⟩
  · exact specValid_no4 f w k m u x A c hk hfs
theorem specValid_any (f : Forest) : ValidOk 40 f := by
  obtain ⟨n, hn⟩ : ∃ n, f.size = n := ⟨_, rfl⟩
  induction n using Nat.strongRecOn generalizing f with
  | ind n ih => exact specValid_step f fun g hg => ih g.size (by omega) g rfl
end Go.Proofs.YtmbochhmeojmfaaDoor
