/- The walks of FindKey. -/
import Derived.Test.YtlfigoboeogegaaKeys
import Derived.Test.YtlfigoboeogegaaTreeMath
import Derived.Test.YtlfigoboeogegaaStill
namespace Go.Proofs.Ytlfigoboeogegaa
open Go.RowKit
set_option linter.unusedVariables false

def keyEq (t : Bool) (n : Int) (s : ByteArray) (t' : Bool) (n' : Int) (s' : ByteArray) : Bool := decide (t = t' ∧ n = n' ∧ s = s')
theorem bytes_ext {s s' : ByteArray} (h : s.toList = s'.toList) : s = s' := by
  rw [ByteArray.toList_eq, ByteArray.toList_eq] at h
  obtain ⟨⟨x⟩⟩ := s
  obtain ⟨⟨y⟩⟩ := s'
  simpa using h
theorem keyEq_run (t : Bool) (n : Int) (s : ByteArray) (t' : Bool) (n' : Int) (s' : ByteArray) : (decide (t = t') && (n == n' && (s.toList == s'.toList))) = keyEq t n s t' n' s' := by
  unfold keyEq
  have e : (s.toList == s'.toList) = decide (s = s') := by
    by_cases h : s.toList = s'.toList
    · have := bytes_ext h
      subst this
      simp
    · have h2 : s ≠ s' := fun e => h (by rw [e])
      rw [decide_eq_false h2]
      simpa using h
  rw [e]
  by_cases h1 : t = t' <;> by_cases h2 : n = n' <;> by_cases h3 : s = s' <;> simp [h1, h2, h3]
theorem run_keyEql (t : Bool) (n : Int) (s : ByteArray) (t' : Bool) (n' : Int) (s' : ByteArray) (w : World) :
    (binOp .eql 34 (.agg #[.bool t, .int .i64 n, .string s]) (.agg #[.bool t', .int .i64 n', .string s'])).run Try.prog w = .ok (.bool (keyEq t n s t' n' s')) w := by
  rw [← keyEq_run]
  cases t <;> cases t' <;> by_cases h2 : n = n' <;> by_cases h3 : s.toList = s'.toList <;> simp [go_sem, Try.underlying34, h2, h3]
theorem run_keyNeq (t : Bool) (n : Int) (s : ByteArray) (t' : Bool) (n' : Int) (s' : ByteArray) (w : World) :
    (binOp .neq 34 (.agg #[.bool t, .int .i64 n, .string s]) (.agg #[.bool t', .int .i64 n', .string s'])).run Try.prog w = .ok (.bool (!keyEq t n s t' n' s')) w := by
  rw [← keyEq_run]
  cases t <;> cases t' <;> by_cases h2 : n = n' <;> by_cases h3 : s.toList = s'.toList <;> simp [go_sem, Try.underlying34, h2, h3]
theorem Forest.find_cons (t : Bool) (n : Int) (s : ByteArray) (t' : Bool) (n' : Int) (s' : ByteArray) (k m : Int) (u : ByteArray) (x : Int) (b r : Forest) (i : Nat) :
    (Forest.cons t' n' s' k m u x b r).find t n s i = if keyEq t' n' s' t n s = true then (i : Int) else r.find t n s (i + 1) := by
  simp only [Forest.find, keyEq, decide_eq_true_eq]
theorem Forest.find_lt (t : Bool) (n : Int) (s : ByteArray) : ∀ (f : Forest) (i : Nat), f.find t n s i = -1 ∨ ∃ j : Nat, f.find t n s i = (j : Int) ∧ i ≤ j ∧ j < i + f.len := by
  intro f
  induction f with
  | nil => intro i; exact .inl rfl
  | cons t' n' s' k m u x b r _ ih =>
    intro i
    rw [Forest.find_cons]
    by_cases h : keyEq t' n' s' t n s = true
    · rw [if_pos h]
      exact .inr ⟨i, rfl, Nat.le_refl _, by simp only [Forest.len]; omega⟩
    · rw [if_neg h]
      rcases ih (i + 1) with h1 | ⟨j, h1, h2, h3⟩
      · exact .inl h1
      · exact .inr ⟨j, h1, by omega, by simp only [Forest.len]; omega⟩
def valFind (k : Int) (t : Bool) (n : Int) (s : ByteArray) (f : Forest) : Int := if k = 4 then f.find t n s 0 else -1
theorem valFind_no {k : Int} (h : k ≠ 4) (t : Bool) (n : Int) (s : ByteArray) (f : Forest) : valFind k t n s f = -1 := by unfold valFind; rw [if_neg h]
set_option maxHeartbeats 1000000 in
theorem implFind_any (f : Forest) (t : Bool) (p : Int) (s : ByteArray) (w : World) (k m : Int) (u : ByteArray) (x : Int) (A : Option Addr) (c : Nat) (L : List Nat) (hr : RowF w f A 0 f.len L) (hfs : f.size ≤ 1048576) :
    Calls Try.prog 35 #[.agg #[.int .i64 k, .int .i64 m, .string u, .int .i64 x, .slice A f.len c], .agg #[.bool t, .int .i64 p, .string s]] w fun e w' => e = .returned (.int .i64 (valFind k t p s f)) ∧ w.grownBy w' none := by
  obtain ⟨N, hN⟩ : ∃ N, f.len = N := ⟨_, rfl⟩
  have hNs : N ≤ 1048576 := by have := f.len_le; omega
  rw [hN] at hr ⊢
  have HR := hid (hr.grow (gb_alloc (gb_alloc (gb_refl w none) (.cells #[.int .i64 k, .int .i64 m, .string u, .int .i64 x, .slice A N c] 31)) (.cells #[.bool t, .int .i64 p, .string s] 34)))
  have HN := hid hN
  have H0 := hid (show HoldsT ((w.alloc (.cells #[.int .i64 k, .int .i64 m, .string u, .int .i64 x, .slice A N c] 31)).alloc (.cells #[.bool t, .int .i64 p, .string s] 34)) (w.heap.size + 1) #[.bool t, .int .i64 p, .string s] 34 by
    have := HoldsT.new (w.alloc (.cells #[.int .i64 k, .int .i64 m, .string u, .int .i64 x, .slice A N c] 31)) #[.bool t, .int .i64 p, .string s] 34
    simpa using this)
  clear hr hN
  by_cases hk : k = 4
  · subst hk
    obtain ⟨W, hW⟩ : ∃ W, valFind 4 t p s f = W := ⟨_, rfl⟩
    rw [hW]
    have HW : Hid (f.find t p s 0 = W) := by show _ = _; rw [← hW]; rfl
    clear hW
    have ke := fun (t1 : Bool) (n1 : Int) (s1 : ByteArray) (w : World) => run_keyEql t1 n1 s1 t p s w
    go_enter Try.func35, Try.ntmps35
    go_wp2_with fail
    go_loopw [13] (fun iv wr => ∃ (i : Nat) (r : Forest) (M : List Nat), Hid (r.find t p s i = W) ∧ i + r.len = N ∧ iv = .int .i64 i ∧ Hid (RowF wr r A i N M) ∧ Hid (HoldsT wr (w.heap.size + 1) #[.bool t, .int .i64 p, .string s] 34) ∧ Hid (w.grownBy wr none)) (fun i _ => N - (intOf i).toNat)
    case atStart => exact ⟨0, f, L, HW, by have := HN.out; omega, rfl, HR, H0, hid (gb_alloc (gb_alloc (gb_refl _ _) _) _)⟩
    case round =>
      obtain ⟨i, r, M, HE, hir, rfl, HRr, HB, HG⟩ := hrel
      cases r with
      | nil =>
        have hi : i = N := by simpa [Forest.len] using hir
        subst hi
        go_wp2_with fail
        go_ret
        exact ⟨ret_int (by rw [← HE.out]; rfl), HG.out⟩
      | cons t1 n1 s1 kd nm v y sub r =>
        have hiN : i < N := by simp only [Forest.len] at hir; omega
        have hiN' : i + 1 + r.len = N := by simp only [Forest.len] at hir; omega
        obtain ⟨b, o, SA, sc, Ls, Lr, rfl, hb, R1, _, hs1, hs2, _⟩ := HRr.out.range
        have HS2 := hid (hs2.grow (gb_alloc (gb_refl _ _) (.cells #[.bool t1, .int .i64 n1, .string s1, .int .i64 kd, .int .i64 nm, .string v, .int .i64 y, .slice SA sub.len sc] 61)))
        have HB2 := hid (HB.out.alloc (.cells #[.bool t1, .int .i64 n1, .string s1, .int .i64 kd, .int .i64 nm, .string v, .int .i64 y, .slice SA sub.len sc] 61))
        have HG2 := hid (gb_alloc HG.out (.cells #[.bool t1, .int .i64 n1, .string s1, .int .i64 kd, .int .i64 nm, .string v, .int .i64 y, .slice SA sub.len sc] 61))
        obtain ⟨q0, q1, q2⟩ := HB.out.cells3
        have lq := HB.out.lt
        obtain ⟨c0, c1, c2, c3, c4, c5, c6, c7⟩ := range8 R1
        clear hs1 hs2 hir R1
        cases hq : keyEq t1 n1 s1 t p s with
        | true =>
          have HE2 : Hid ((i : Int) = W) := by have := HE.out; rw [Forest.find_cons, hq, if_pos rfl] at this; exact this
          go_wp2_with fail
          go_ret
          exact ⟨ret_int HE2.out, HG2.out⟩
        | false =>
          have HE2 : Hid (r.find t p s (i + 1) = W) := by have := HE.out; rw [Forest.find_cons, hq, if_neg (by simp)] at this; exact this
          go_wp2_with fail
          go_roundw
          case rel => exact ⟨i + 1, r, _, HE2, hiN', by go_num, HS2, HB2, HG2⟩
          case measure => simp [intOf]; omega
  · have hkb : ((k : Int) != 4) = true := by simpa using hk
    rw [valFind_no hk]
    clear hk
    go_enter Try.func35, Try.ntmps35
    go_wp2_with fail
    go_ret
    exact ⟨rfl, gb_alloc (gb_alloc (gb_refl _ _) _) _⟩
set_option maxHeartbeats 1000000 in
theorem specL5Find_any (f : Forest) (t : Bool) (p : Int) (s : ByteArray) (w : World) (k m : Int) (u : ByteArray) (x : Int) (A : Option Addr) (c : Nat) (L : List Nat) (hr : RowF w f A 0 f.len L) (hfs : f.size ≤ 1048576) :
    Calls Try.prog 50 #[.agg #[.int .i64 k, .int .i64 m, .string u, .int .i64 x, .slice A f.len c], .agg #[.bool t, .int .i64 p, .string s]] w fun e w' => e = .returned (.int .i64 (valFind k t p s f)) ∧ w.grownBy w' none := by
  obtain ⟨N, hN⟩ : ∃ N, f.len = N := ⟨_, rfl⟩
  have hNs : N ≤ 1048576 := by have := f.len_le; omega
  rw [hN] at hr ⊢
  have HR := hid (hr.grow (gb_alloc (gb_alloc (gb_refl w none) (.cells #[.int .i64 k, .int .i64 m, .string u, .int .i64 x, .slice A N c] 31)) (.cells #[.bool t, .int .i64 p, .string s] 34)))
  have HN := hid hN
  have HV := hid (HoldsT.pre w #[.int .i64 k, .int .i64 m, .string u, .int .i64 x, .slice A N c] 31 (.cells #[.bool t, .int .i64 p, .string s] 34))
  have H0 := hid (show HoldsT ((w.alloc (.cells #[.int .i64 k, .int .i64 m, .string u, .int .i64 x, .slice A N c] 31)).alloc (.cells #[.bool t, .int .i64 p, .string s] 34)) (w.heap.size + 1) #[.bool t, .int .i64 p, .string s] 34 by
    have := HoldsT.new (w.alloc (.cells #[.int .i64 k, .int .i64 m, .string u, .int .i64 x, .slice A N c] 31)) #[.bool t, .int .i64 p, .string s] 34
    simpa using this)
  clear hr hN
  by_cases hk : k = 4
  · subst hk
    obtain ⟨W, hW⟩ : ∃ W, valFind 4 t p s f = W := ⟨_, rfl⟩
    rw [hW]
    have HW : Hid (f.find t p s 0 = W) := by show _ = _; rw [← hW]; rfl
    clear hW
    have ke := fun (t1 : Bool) (n1 : Int) (s1 : ByteArray) (w : World) => run_keyEql t1 n1 s1 t p s w
    go_enter Try.func50, Try.ntmps50
    go_wp2_with fail
    go_loopw [5] (fun iv wr => ∃ (i : Nat) (r : Forest) (M : List Nat), Hid (r.find t p s i = W) ∧ i + r.len = N ∧ iv = .int .i64 i ∧ Hid (RowF wr r A i N M) ∧ Hid (HoldsT wr w.heap.size #[.int .i64 4, .int .i64 m, .string u, .int .i64 x, .slice A N c] 31) ∧ Hid (HoldsT wr (w.heap.size + 1) #[.bool t, .int .i64 p, .string s] 34) ∧ Hid (w.grownBy wr none)) (fun i _ => N - (intOf i).toNat)
    case atStart => exact ⟨0, f, L, HW, by have := HN.out; omega, rfl, HR, HV, H0, hid (gb_alloc (gb_alloc (gb_refl _ _) _) _)⟩
    case round =>
      obtain ⟨i, r, M, HE, hir, rfl, HRr, HX, HB, HG⟩ := hrel
      obtain ⟨a0, a1, a2, a3, a4⟩ := HX.out.cells5
      have la := HX.out.lt
      cases r with
      | nil =>
        have hi : i = N := by simpa [Forest.len] using hir
        subst hi
        go_wp2_with fail
        go_ret
        exact ⟨ret_int (by rw [← HE.out]; rfl), HG.out⟩
      | cons t1 n1 s1 kd nm v y sub r =>
        have hiN : i < N := by simp only [Forest.len] at hir; omega
        have hiN' : i + 1 + r.len = N := by simp only [Forest.len] at hir; omega
        obtain ⟨b, o, SA, sc, Ls, Lr, rfl, hb, R1, _, hs1, hs2, _⟩ := HRr.out.range
        have HS2 := hid hs2
        have HR1 := hid (And.intro R1 hb)
        clear hs1 hs2 hir R1 hb
        go_wp2_with fail
        refine wp_region_tail 7 (by kernel_rfl) (by kernel_rfl) ?_
        intro wd gd
        clear a0 a1 a2 a3 a4 la
        obtain ⟨a0, a1, a2, a3, a4⟩ := (HX.out.grow gd).cells5
        have la := (HX.out.grow gd).lt
        have GD := hid gd
        clear gd
        simp only [List.take_succ_cons, List.take_zero, List.drop_succ_cons, List.drop_zero]
        iterate 5 still_step
        refine wpStill_loadR rfl 34 (.tmp 22) rfl b (o + i * 8) rfl [.bool t1, .int .i64 n1, .string s1] (rangeAt_part (rangeAt_grow HR1.out.1 GD.out HR1.out.2) 0 3) Try.underlying34 rfl Try.infoK ?_
        simp only [Act.put]
        refine wpStill_loadR rfl 34 (.tmp 3) rfl (w.heap.size + 1) 0 rfl _ ((HB.out.grow GD.out).range 0 [.bool t, .int .i64 p, .string s] rfl) Try.underlying34 rfl Try.infoK ?_
        simp only [Act.put]
        refine wpStill_nil ?_
        cases hq : keyEq t1 n1 s1 t p s with
        | true =>
          have HE2 : Hid ((i : Int) = W) := by have := HE.out; rw [Forest.find_cons, hq, if_pos rfl] at this; exact this
          go_wp2_with fail
          go_ret
          exact ⟨ret_int HE2.out, gb_trans HG.out GD.out⟩
        | false =>
          have HE2 : Hid (r.find t p s (i + 1) = W) := by have := HE.out; rw [Forest.find_cons, hq, if_neg (by simp)] at this; exact this
          go_wp2_with fail
          go_roundw
          case rel => exact ⟨i + 1, r, _, HE2, hiN', by go_num, hid (HS2.out.grow GD.out), hid (HX.out.grow GD.out), hid (HB.out.grow GD.out), hid (gb_trans HG.out GD.out)⟩
          case measure => simp [intOf]; omega
  · have hkb : ((k : Int) == 4) = false := by simpa using hk
    rw [valFind_no hk]
    clear hk
    go_enter Try.func50, Try.ntmps50
    go_wp2_with fail
    go_loopw [5] (fun iv wr => iv = .int .i64 0 ∧ Hid (HoldsT wr w.heap.size #[.int .i64 k, .int .i64 m, .string u, .int .i64 x, .slice A N c] 31) ∧ Hid (w.grownBy wr none)) (fun _ _ => 0)
    case atStart => exact ⟨rfl, HV, hid (gb_alloc (gb_alloc (gb_refl _ _) _) _)⟩
    case round =>
      obtain ⟨rfl, HX, HG⟩ := hrel
      obtain ⟨a0, a1, a2, a3, a4⟩ := HX.out.cells5
      have la := HX.out.lt
      go_wp2_with fail
      go_ret
      exact ⟨rfl, HG.out⟩
end Go.Proofs.Ytlfigoboeogegaa
