/- The walk of putKey (printed by genput.py). -/
import Derived.Test.YtmbochhmeojmfaaDoorSet
import Derived.Test.YtmbochhmeojmfaaDoorHeldF
namespace Go.Proofs.YtmbochhmeojmfaaDoor
set_option maxRecDepth 20000
open Go.RowKit
set_option linter.unusedVariables false
set_option linter.unusedSimpArgs false

theorem implMaxI_any (a b : Int) (w : World) : Calls Tryd.prog 36 #[.int .i64 a, .int .i64 b] w fun e w' => e = .returned (.int .i64 (if a < b then b else a)) ∧ w = w' := by
  by_cases h : a < b
  · rw [if_pos h]
    go_enter Tryd.func36, Tryd.ntmps36
    go_wp2
    go_ret
    exact ⟨rfl, rfl⟩
  · rw [if_neg h]
    go_enter Tryd.func36, Tryd.ntmps36
    go_wp2
    go_ret
    exact ⟨rfl, rfl⟩
def PutPost (w : World) (lo gv : Nat) (m : Int) (u : ByteArray) (x : Int) (D : Forest) (e : Ending) (w' : World) : Prop := ∃ A' c' L', e = .returned (.tuple #[]) ∧ HoldsT w' gv #[.int .i64 4, .int .i64 m, .string u, .int .i64 x, .slice A' D.len c'] 26 ∧ Rw w' 35 lo D A' c' L' ∧ Below lo w w'
set_option maxHeartbeats 4000000 in
theorem implPut_any (f xf : Forest) (t : Bool) (p : Int) (s : ByteArray) (hp : -1000000000 ≤ p ∧ p ≤ 1000000000) (w : World) (m : Int) (u : ByteArray) (x : Int) (A : Option Addr) (c : Nat) (L : List Nat) (xk xm : Int) (xu : ByteArray) (xx : Int) (XA : Option Addr) (xc : Nat) (XL : List Nat) (lo gv : Nat)
    (hv : HoldsT w gv #[.int .i64 4, .int .i64 m, .string u, .int .i64 x, .slice A f.len c] 26) (hgv : lo ≤ gv) (hT : Rw w 35 lo f A c L) (hgn : gv ∉ blk A ++ L) (hX : OwnT w 35 lo xf XA XL) (hx0 : XA = none → xc = 0) (hxd : ∀ b ∈ blk XA ++ XL, b ∉ blk A ++ L ∧ b ≠ gv) (hfz : f.size ≤ 1048576) :
    Calls Tryd.prog 48 #[.pointer (some ⟨gv, 0, none⟩), .agg #[.bool t, .int .i64 p, .string s], .agg #[.int .i64 xk, .int .i64 xm, .string xu, .int .i64 xx, .slice XA xf.len xc]] w (PutPost w lo gv m u (putX t p x (f.find t p s 0)) (f.put t p s xk xm xu xx xf)) := by
  obtain ⟨i0, hi, hz0, hz1, hz2⟩ := info_parts Tryd.infoE3
  have HI := hid (And.intro hi (And.intro hz0 (And.intro hz1 hz2)))
  obtain ⟨N, hN⟩ : ∃ N, f.len = N := ⟨_, rfl⟩
  have hNs : N ≤ 1048576 := by have := f.len_le; omega
  obtain ⟨D, hD⟩ : ∃ D, f.put t p s xk xm xu xx xf = D := ⟨_, rfl⟩
  obtain ⟨y, hy⟩ : ∃ y, putX t p x (f.find t p s 0) = y := ⟨_, rfl⟩
  rw [hD, hy]
  have HD := hid (And.intro hD hy)
  have HR := hid hT.own.1
  rw [hN] at hv
  have HN := hid hN
  have HP := hid hp
  have lgv := hv.lt
  have HLV := hid (And.intro hgv lgv)
  obtain ⟨cs, hown, hsub, hol, hnb⟩ := hT
  rw [hN] at hown
  have hRB : ∀ g, (Value.slice A N c).ownBlock = some g → lo ≤ g ∧ g < w.heap.size ∧ g ≠ gv := fun g hg => ⟨(hown.lt g hg).1, (hown.lt g hg).2, fun e => hgn (List.mem_append.2 (.inl (blk_own.1 (e ▸ hg))))⟩
  have HRB := hid hRB
  have HO := hid (And.intro hsub (And.intro hol hnb))
  have HXT := hid (And.intro hX (And.intro hx0 (And.intro hxd hgn)))
  have CF : Hid (∀ w', RowF w' f A 0 f.len L → Calls Tryd.prog 68 #[.agg #[.int .i64 4, .int .i64 m, .string u, .int .i64 x, .slice A N c], .agg #[.bool t, .int .i64 p, .string s]] w' fun e w'' => e = .returned (.int .i64 (f.find t p s 0)) ∧ w'.grownBy w'' none) := hid fun w' h => by
    have h1 := implFind_any f t p s w' 4 m u x A c L h hfz
    rw [hN, show valFind 4 t p s f = f.find t p s 0 from if_pos rfl] at h1
    exact h1
  have G0 := hid (gb_alloc (gb_alloc (gb_refl w none) (.cells #[.bool t, .int .i64 p, .string s] 33)) (.cells #[.int .i64 xk, .int .i64 xm, .string xu, .int .i64 xx, .slice XA xf.len xc] 26))
  have HV := hid (hv.grow G0.out)
  have HOW := hid (own_grow hown G0.out)
  have HK := hid ((HoldsT.new w #[.bool t, .int .i64 p, .string s] 33).alloc (.cells #[.int .i64 xk, .int .i64 xm, .string xu, .int .i64 xx, .slice XA xf.len xc] 26))
  have HX := hid (show HoldsT ((w.alloc (.cells #[.bool t, .int .i64 p, .string s] 33)).alloc (.cells #[.int .i64 xk, .int .i64 xm, .string xu, .int .i64 xx, .slice XA xf.len xc] 26)) (w.heap.size + 1) #[.int .i64 xk, .int .i64 xm, .string xu, .int .i64 xx, .slice XA xf.len xc] 26 by simpa using HoldsT.new (w.alloc (.cells #[.bool t, .int .i64 p, .string s] 33)) #[.int .i64 xk, .int .i64 xm, .string xu, .int .i64 xx, .slice XA xf.len xc] 26)
  clear hD hy hN hp hi hz0 hz1 hz2 hv hown hsub hol hnb hX hx0 hxd hgn hRB lgv hgv
  go_enter Tryd.func48, Tryd.ntmps48
  go_wp2_with fail
  refine wp_region_E 5 6 rfl (by kernel_rfl) (fun wd w' => wd.grownBy w' none) fun wd gd => ?_
  have VD := hid (HV.out.grow gd)
  have KD := hid (HK.out.grow gd)
  have XD := hid (HX.out.grow gd)
  have OD := hid (own_grow HOW.out gd)
  have GD := hid (gb_trans G0.out gd)
  have g0 : wd.grownBy wd none := gb_refl _ _
  clear gd
  refine E_take 0 rfl (some 7) rfl (by kernel_rfl) (by kernel_rfl) (by kernel_rfl) (by kernel_rfl) (by decide) (fun _ _ _ _ h => h) rfl (.pointer (some ⟨gv, 0, none⟩)) (fun w' hw => run_mov (.tmp 0) rfl rfl) g0 ?_
  simp only [Act.put, List.setIfInBounds_toArray, List.set_cons_succ, List.set_cons_zero]
  refine E_take 1 rfl (some 8) rfl (by kernel_rfl) (by kernel_rfl) (by kernel_rfl) (by kernel_rfl) (by decide) (fun _ _ _ _ h => h) rfl (.pointer (some ⟨gv, 0, none⟩)) (fun w' hw => by go_simp) g0 ?_
  simp only [Act.put, List.setIfInBounds_toArray, List.set_cons_succ, List.set_cons_zero]
  refine E_load 2 rfl (some 9) rfl (by kernel_rfl) (by kernel_rfl) (by kernel_rfl) (by kernel_rfl) (by decide) (fun _ _ _ _ h => h) rfl 26 (.tmp 8) rfl gv 0 rfl [.int .i64 4, .int .i64 m, .string u, .int .i64 x, .slice A N c] (fun w' hw => (VD.out.grow hw).rangeV) Tryd.underlying26 rfl Tryd.infoV g0 ?_
  simp only [Act.put, List.setIfInBounds_toArray, List.set_cons_succ, List.set_cons_zero]
  refine E_load 3 rfl (some 10) rfl (by kernel_rfl) (by kernel_rfl) (by kernel_rfl) (by kernel_rfl) (by decide) (fun _ _ _ _ h => h) rfl 33 (.tmp 4) rfl w.heap.size 0 rfl [.bool t, .int .i64 p, .string s] (fun w' hw => (KD.out.grow hw).rangeV) Tryd.underlying33 rfl Tryd.infoK g0 ?_
  simp only [Act.put, List.setIfInBounds_toArray, List.set_cons_succ, List.set_cons_zero]
  refine E_only 4 (by kernel_rfl) (E_call 4 rfl (some 11) rfl rfl 68 _ (run_call2 _ (by kernel_rfl) (.tmp 9) (.tmp 10) _ (.agg #[.int .i64 4, .int .i64 m, .string u, .int .i64 x, .slice A N c]) (.agg #[.bool t, .int .i64 p, .string s]) rfl rfl rfl) (CF.out wd (HR.out.grow GD.out)) ?_)
  rintro e w2 ⟨rfl, hg⟩
  refine ⟨_, rfl, fun _ => hg, ?_⟩
  simp only [Act.put, List.setIfInBounds_toArray, List.set_cons_succ, List.set_cons_zero]
  refine E_only 5 (by kernel_rfl) (E_val 5 rfl (some 6) rfl rfl (.int .i64 (f.find t p s 0)) w2 (run_asg (.tmp 11) rfl rfl) ⟨fun h => absurd rfl h, ?_⟩)
  refine E_done (by kernel_rfl) ?_ _
  simp only [Act.put, List.setIfInBounds_toArray, List.set_cons_succ, List.set_cons_zero]
  have HV2 := hid (VD.out.grow hg)
  have HK2 := hid (KD.out.grow hg)
  have HX2 := hid (XD.out.grow hg)
  have HOW2 := hid (own_grow OD.out hg)
  have G2 := hid (gb_trans GD.out hg)
  clear hg g0 VD KD XD OD GD HV HK HX HOW G0 CF
  have hws : w.heap.size + 2 ≤ w2.heap.size := HX2.out.lt
  have HWS := hid hws
  clear hws
  rcases Forest.put_cases t p s xk xm xu xx xf f 0 with ⟨h1, h2⟩ | ⟨pre, t', n', s', kd, nm, uu, yy, sub, suf, h1, h2, h3⟩
  · have hD : D = f.app (.cons t p s xk xm xu xx xf .nil) := HD.out.1.symm.trans h2
    have hy : putX t p x (-1) = y := by have := HD.out.2; rw [h1] at this; exact this
    rw [h1]
    have HD2 := hid (And.intro hD hy)
    clear hD hy h1 h2 HD
    obtain ⟨RB, hRB⟩ : ∃ z, (Value.slice A N c).ownBlock = z := ⟨_, rfl⟩
    have hbase : ∀ g, RB = some g → lo ≤ g ∧ g < w.heap.size ∧ g ≠ gv := fun g hg => HRB.out g (hRB.trans hg)
    have HRE := hid (And.intro hRB hbase)
    have neV : some gv ≠ RB := fun e => (hbase _ e.symm).2.2 rfl
    have neK : some w.heap.size ≠ RB := fun e => by have := hbase _ e.symm; omega
    have neX : some (w.heap.size + 1) ≠ RB := fun e => by have := hbase _ e.symm; omega
    have HNE := hid (And.intro neV (And.intro neK neX))
    clear hRB hbase neV neK neX
    go_wp2_with fail
    refine wp_region_puts (X := Nat × Nat × Nat) (fun q w' => HoldsT w' gv #[.int .i64 4, .int .i64 m, .string u, .int .i64 x, .slice (some ⟨q.1, 0, none⟩) (N + 1) q.2.1] 26 ∧ HoldsT w' w.heap.size #[.bool t, .int .i64 p, .string s] 33 ∧ w'.ownsRow lo 35 8 (.slice (some ⟨q.1, 0, none⟩) (N + 1) q.2.1) (N + 1) (cs ++ [.bool t, .int .i64 p, .string s, .int .i64 xk, .int .i64 xm, .string xu, .int .i64 xx, .slice XA xf.len xc]) ∧
      (∀ b, b < w.heap.size → some b ≠ RB → b ≠ gv → w'.heap[b]? = w.heap[b]?) ∧ w.heap.size ≤ w'.heap.size ∧ w'.os = w.os ∧ w'.tape = w.tape ∧ w'.output = w.output ∧ q.1 ≠ gv ∧ q.1 ∉ L ++ (blk XA ++ XL))
      (fun q => [(some 22, .pointer (some ⟨gv, 0, none⟩)), (some 23, .pointer (some ⟨gv, 0, none⟩)), (some 24, .pointer (some ⟨gv, 4, none⟩)), (some 25, .slice A N c), (some 26, .agg #[.bool t, .int .i64 p, .string s]), (some 27, .agg #[.int .i64 xk, .int .i64 xm, .string xu, .int .i64 xx, .slice XA xf.len xc]), (some 28, .agg #[.bool t, .int .i64 p, .string s, .int .i64 xk, .int .i64 xm, .string xu, .int .i64 xx, .slice XA xf.len xc]), (some 29, .int .i64 N), (some 30, .slice (some ⟨q.2.2, 0, none⟩) 1 1), (some 31, .slice (some ⟨q.1, 0, none⟩) (N + 1) q.2.1), (some 32, .pointer (some ⟨q.1, N * 8, none⟩)), (some 33, .pointer (some ⟨gv, 0, none⟩)), (some 34, .pointer (some ⟨gv, 4, none⟩))]) ?_ ?_
    · skip
      refine wp_region_F 10 15 rfl (by kernel_rfl) (fun wd w' => wd.grownBy w' RB) fun wd gd => ?_
      have VD := hid (HV2.out.grow gd)
      have KD := hid (HK2.out.grow gd)
      have XD := hid (HX2.out.grow gd)
      have OD := hid (own_grow HOW2.out gd)
      have GD := hid (gb_trans G2.out gd)
      have g0 : wd.grownBy wd RB := gb_refl _ _
      clear gd
      refine F_take 0 rfl (some 22) rfl (by kernel_rfl) (by kernel_rfl) (by kernel_rfl) (by kernel_rfl) (by kernel_rfl) (fun _ _ _ _ h => by cases h.1) rfl (.pointer (some ⟨gv, 0, none⟩)) (fun w' hw => run_mov (.tmp 0) rfl rfl) g0 ?_
      simp only [Act.put, List.setIfInBounds_toArray, List.set_cons_succ, List.set_cons_zero]
      refine F_take 1 rfl (some 23) rfl (by kernel_rfl) (by kernel_rfl) (by kernel_rfl) (by kernel_rfl) (by kernel_rfl) (fun _ _ _ _ h => by cases h.1) rfl (.pointer (some ⟨gv, 0, none⟩)) (fun w' hw => by go_simp) g0 ?_
      simp only [Act.put, List.setIfInBounds_toArray, List.set_cons_succ, List.set_cons_zero]
      refine F_take 2 rfl (some 24) rfl (by kernel_rfl) (by kernel_rfl) (by kernel_rfl) (by kernel_rfl) (by kernel_rfl) (fun _ _ _ _ h => by cases h.1) rfl (.pointer (some ⟨gv, 4, none⟩)) (fun w' hw => by go_simp) g0 ?_
      simp only [Act.put, List.setIfInBounds_toArray, List.set_cons_succ, List.set_cons_zero]
      refine F_take 3 rfl (some 25) rfl (by kernel_rfl) (by kernel_rfl) (by kernel_rfl) (by kernel_rfl) (by kernel_rfl) (fun _ _ _ _ h => by cases h.1) rfl (.slice A N c) (fun w' hw => by have fc := (VD.out.kept hw (fun e => HNE.out.1 e.symm)).cells5.2.2.2.2; go_simp) g0 ?_
      simp only [Act.put, List.setIfInBounds_toArray, List.set_cons_succ, List.set_cons_zero]
      refine F_load 4 rfl (some 26) rfl (by kernel_rfl) (by kernel_rfl) (by kernel_rfl) (by kernel_rfl) (by kernel_rfl) (fun _ _ _ _ h => by cases h.1) rfl 33 (.tmp 4) rfl w.heap.size 0 rfl [.bool t, .int .i64 p, .string s] (fun w' hw => (KD.out.kept hw (fun e => HNE.out.2.1 e.symm)).rangeV) Tryd.underlying33 rfl Tryd.infoK g0 ?_
      simp only [Act.put, List.setIfInBounds_toArray, List.set_cons_succ, List.set_cons_zero]
      refine F_load 5 rfl (some 27) rfl (by kernel_rfl) (by kernel_rfl) (by kernel_rfl) (by kernel_rfl) (by kernel_rfl) (fun _ _ _ _ h => by cases h.1) rfl 26 (.tmp 5) rfl (w.heap.size + 1) 0 rfl [.int .i64 xk, .int .i64 xm, .string xu, .int .i64 xx, .slice XA xf.len xc] (fun w' hw => (XD.out.kept hw (fun e => HNE.out.2.2 e.symm)).rangeV) Tryd.underlying26 rfl Tryd.infoV g0 ?_
      simp only [Act.put, List.setIfInBounds_toArray, List.set_cons_succ, List.set_cons_zero]
      refine F_take 6 rfl (some 28) rfl (by kernel_rfl) (by kernel_rfl) (by kernel_rfl) (by kernel_rfl) (by kernel_rfl) (fun _ _ _ _ h => by cases h.1) rfl (.agg #[.bool t, .int .i64 p, .string s, .int .i64 xk, .int .i64 xm, .string xu, .int .i64 xx, .slice XA xf.len xc]) (fun w' hw => by go_simp) g0 ?_
      simp only [Act.put, List.setIfInBounds_toArray, List.set_cons_succ, List.set_cons_zero]
      refine F_take 7 rfl (some 29) rfl (by kernel_rfl) (by kernel_rfl) (by kernel_rfl) (by kernel_rfl) (by kernel_rfl) (fun _ _ _ _ h => by cases h.1) rfl (.int .i64 N) (fun w' hw => by go_simp) g0 ?_
      simp only [Act.put, List.setIfInBounds_toArray, List.set_cons_succ, List.set_cons_zero]
      have GA := hid (gb_alloc (gb_refl wd RB) (.cells #[.bool false, .int .i64 0, .string { data := #[] }, .int .i64 0, .int .i64 0, .string { data := #[] }, .int .i64 0, .slice none 0 0] 35))
      refine F_only 8 (by kernel_rfl) (E_val 8 rfl (some 30) rfl rfl (.slice (some ⟨wd.heap.size, 0, none⟩) 1 1) (wd.alloc (.cells #[.bool false, .int .i64 0, .string { data := #[] }, .int .i64 0, .int .i64 0, .string { data := #[] }, .int .i64 0, .slice none 0 0] 35)) (by go_simp) ⟨fun _ => GA.out, ?_⟩)
      simp only [Act.put, List.setIfInBounds_toArray, List.set_cons_succ, List.set_cons_zero]
      have OA := own_grow OD.out (gb_alloc (gb_refl wd none) (.cells #[.bool false, .int .i64 0, .string { data := #[] }, .int .i64 0, .int .i64 0, .string { data := #[] }, .int .i64 0, .slice none 0 0] 35))
      refine F_only 9 (by kernel_rfl) (E_append 9 rfl (some 31) rfl rfl (.tmp 25) (.tmp 30) 24 rfl lo 35 i0 entry0 8 96 Tryd.underlying24 HI.out.1 HI.out.2.1 HI.out.2.2.1 HI.out.2.2.2 rfl (by omega) (.slice A N c) N cs rfl OA
        ⟨wd.heap.size, 0, none⟩ 1 1 [.bool false, .int .i64 0, .string { data := #[] }, .int .i64 0, .int .i64 0, .string { data := #[] }, .int .i64 0, .slice none 0 0] rfl rfl (news_lit wd [.bool false, .int .i64 0, .string { data := #[] }, .int .i64 0, .int .i64 0, .string { data := #[] }, .int .i64 0, .slice none 0 0] 35) (by simp [Value.oneCell']) (by unfold maxLen; omega) (by omega) (by have := HLV.out; have := GD.out.size; simp only [World.size_alloc]; omega) ?_)
      intro A3 c3 w3 hown3 hA3 hg3 hat3
      rw [HRE.out.1] at hg3 hat3
      have GS := hid (gb_trans GA.out hg3)
      refine ⟨fun _ => GS.out, ?_⟩
      obtain ⟨g3, rfl, hNc3, hcm3, hgl3, hgw3⟩ := own_some hown3 (by omega)
      have hg3r : wd.heap.size ≤ g3 ∨ RB = some g3 := by
        rcases hat3 with h | h
        · exact .inr h.symm
        · have h4 : g3 = (wd.alloc (.cells #[.bool false, .int .i64 0, .string { data := #[] }, .int .i64 0, .int .i64 0, .string { data := #[] }, .int .i64 0, .slice none 0 0] 35)).heap.size := Option.some.inj h
          rw [h4]; simp
      have HG3 := hid (And.intro hg3r (And.intro hgl3 hgw3))
      have HOW3 := hid hown3
      clear hown3 hA3 hg3 hat3 OA hg3r hgl3 hgw3 hcm3
      simp only [Act.put, List.setIfInBounds_toArray, List.set_cons_succ, List.set_cons_zero]
      have hlc : cs.length = N * 8 := by have := HO.out.1.length; rw [HN.out] at this; exact this
      have hset : setL (cs ++ [.bool false, .int .i64 0, .string { data := #[] }, .int .i64 0, .int .i64 0, .string { data := #[] }, .int .i64 0, .slice none 0 0]) (N * 8) [.bool t, .int .i64 p, .string s, .int .i64 xk, .int .i64 xm, .string xu, .int .i64 xx, .slice XA xf.len xc] = cs ++ [.bool t, .int .i64 p, .string s, .int .i64 xk, .int .i64 xm, .string xu, .int .i64 xx, .slice XA xf.len xc] := by
        have h := setL_app [.bool t, .int .i64 p, .string s, .int .i64 xk, .int .i64 xm, .string xu, .int .i64 xx, .slice XA xf.len xc] cs [.bool false, .int .i64 0, .string { data := #[] }, .int .i64 0, .int .i64 0, .string { data := #[] }, .int .i64 0, .slice none 0 0] (by simp)
        rw [hlc] at h
        simpa using h
      have HSet := hid hset
      have hg3v : g3 ≠ gv := fun e => by
        rcases HG3.out.1 with h | h
        · have := HLV.out; have := G2.out.size; have := GD.out.size; omega
        · exact HNE.out.1 (e ▸ h.symm)
      have HG4 := hid hg3v
      have hg3n : g3 ∉ L ++ (blk XA ++ XL) := fun hm => by
        rcases HG3.out.1 with h | h
        · have h5 : g3 < w.heap.size := by
            rcases List.mem_append.1 hm with hm | hm
            · exact HO.out.2.1.lt g3 hm
            · exact HXT.out.1.2.lt g3 hm
          have := GD.out.size
          omega
        · have h6 := blk_own.1 (HRE.out.1.trans h)
          rcases List.mem_append.1 hm with hm | hm
          · exact HO.out.2.2 g3 h6 hm
          · exact (HXT.out.2.2.1 g3 hm).1 (List.mem_append.2 (.inl h6))
      have HG3N := hid hg3n
      have HV3 := hid (VD.out.kept GS.out (fun e => HNE.out.1 e.symm))
      have HK3 := hid (KD.out.kept GS.out (fun e => HNE.out.2.1 e.symm))
      have hkw : w.heap.size ≠ gv ∧ w.heap.size ≠ g3 := ⟨by have := HLV.out; omega, fun e => by
        rcases HG3.out.1 with h | h
        · have := HWS.out; have := GD.out.size; have := KD.out.lt; omega
        · exact HNE.out.2.1 (e ▸ h.symm)⟩
      have HKW := hid hkw
      have hfin : ∀ (w4 w5 : World) (r1 r2 : Nat), w3.grownBy w4 (some r1) → w4.grownBy w5 (some r2) → (r1 = g3 ∨ r1 = gv) → (r2 = g3 ∨ r2 = gv) → HoldsT w5 gv #[.int .i64 4, .int .i64 m, .string u, .int .i64 x, .slice (some ⟨g3, 0, none⟩) (N + 1) c3] 26 → w5.ownsRow lo 35 8 (.slice (some ⟨g3, 0, none⟩) (N + 1) c3) (N + 1) (cs ++ [.bool t, .int .i64 p, .string s, .int .i64 xk, .int .i64 xm, .string xu, .int .i64 xx, .slice XA xf.len xc]) →
          HoldsT w5 gv #[.int .i64 4, .int .i64 m, .string u, .int .i64 x, .slice (some ⟨g3, 0, none⟩) (N + 1) c3] 26 ∧ HoldsT w5 w.heap.size #[.bool t, .int .i64 p, .string s] 33 ∧ w5.ownsRow lo 35 8 (.slice (some ⟨g3, 0, none⟩) (N + 1) c3) (N + 1) (cs ++ [.bool t, .int .i64 p, .string s, .int .i64 xk, .int .i64 xm, .string xu, .int .i64 xx, .slice XA xf.len xc]) ∧
          (∀ b, b < w.heap.size → some b ≠ RB → b ≠ gv → w5.heap[b]? = w.heap[b]?) ∧ w.heap.size ≤ w5.heap.size ∧ w5.os = w.os ∧ w5.tape = w.tape ∧ w5.output = w.output ∧ g3 ≠ gv ∧ g3 ∉ L ++ (blk XA ++ XL) := fun w4 w5 r1 r2 h1 h2 e1 e2 hV hO => by
        have hk : ∀ r, (r = g3 ∨ r = gv) → some r ≠ some w.heap.size := fun r hr e => by
          have := Option.some.inj e
          rcases hr with rfl | rfl
          · exact HKW.out.2 this.symm
          · exact HKW.out.1 this.symm
        refine ⟨hV, (HK3.out.kept h1 (hk _ e1)).kept h2 (hk _ e2), hO, fun b hb hR hv => ?_, Nat.le_trans GD.out.size (Nat.le_trans GS.out.size (Nat.le_trans h1.size h2.size)), ((h2.os.trans h1.os).trans GS.out.os).trans GD.out.os, ((h2.tape.trans h1.tape).trans GS.out.tape).trans GD.out.tape, ((h2.output.trans h1.output).trans GS.out.output).trans GD.out.output, HG4.out, HG3N.out⟩
        have hbd : b < wd.heap.size := Nat.lt_of_lt_of_le hb GD.out.size
        have hb3 : b < w3.heap.size := Nat.lt_of_lt_of_le hbd GS.out.size
        have hbg : b ≠ g3 := fun e => by
          rcases HG3.out.1 with h | h
          · omega
          · exact hR (by rw [e]; exact h.symm)
        have hr : ∀ r, (r = g3 ∨ r = gv) → some b ≠ some r := fun r hr e => by
          have := Option.some.inj e
          rcases hr with rfl | rfl
          · exact hbg this
          · exact hv this
        exact (h2.block b (Nat.lt_of_lt_of_le hb3 h1.size) (hr _ e2)).trans ((h1.block b hb3 (hr _ e1)).trans ((GS.out.block b hbd hR).trans (GD.out.block b hb (by simp))))
      clear hset hg3v hg3n hkw hlc
      refine F_pure 10 rfl (some 32) rfl (by kernel_rfl) (by kernel_rfl) (by kernel_rfl) (by kernel_rfl) (by decide) (fun _ _ _ _ h => by cases h.1) rfl (.pointer (some ⟨g3, N * 8, none⟩)) (fun w' => by go_simp; intro h9; omega) ?_
      simp only [Act.put, List.setIfInBounds_toArray, List.set_cons_succ, List.set_cons_zero]
      refine F_pure 12 rfl (some 33) rfl (by kernel_rfl) (by kernel_rfl) (by kernel_rfl) (by kernel_rfl) (by decide) (fun _ _ _ _ h => by cases h.1) rfl (.pointer (some ⟨gv, 0, none⟩)) (fun w' => by go_simp) ?_
      simp only [Act.put, List.setIfInBounds_toArray, List.set_cons_succ, List.set_cons_zero]
      refine F_pure 13 rfl (some 34) rfl (by kernel_rfl) (by kernel_rfl) (by kernel_rfl) (by kernel_rfl) (by decide) (fun _ _ _ _ h => by cases h.1) rfl (.pointer (some ⟨gv, 4, none⟩)) (fun w' => by go_simp) ?_
      simp only [Act.put, List.setIfInBounds_toArray, List.set_cons_succ, List.set_cons_zero]
      refine F_two 11 14 (by kernel_rfl) ?_ ?_
      · refine E_storeO 11 rfl none rfl rfl 35 (.tmp 32) (.tmp 28) rfl g3 (N * 8) [.bool t, .int .i64 p, .string s, .int .i64 xk, .int .i64 xm, .string xu, .int .i64 xx, .slice XA xf.len xc] rfl rfl HOW3.out (by simp only [List.length_cons, List.length_nil]; omega) Tryd.infoE rfl ⟨fun h => absurd h (by omega), ?_⟩
        simp only [Act.put, List.setIfInBounds_toArray, List.set_cons_succ, List.set_cons_zero]
        have s1 := gb_setCells (r := some g3) (.inr rfl) [.bool t, .int .i64 p, .string s, .int .i64 xk, .int .i64 xm, .string xu, .int .i64 xx, .slice XA xf.len xc] (N * 8) (gb_refl w3 (some g3))
        have hO4 := own_setCells [.bool t, .int .i64 p, .string s, .int .i64 xk, .int .i64 xm, .string xu, .int .i64 xx, .slice XA xf.len xc] (N * 8) HOW3.out
        rw [HSet.out] at hO4
        have HO4 := hid hO4
        have HV4 := hid (HV3.out.apart HG4.out (N * 8) [.bool t, .int .i64 p, .string s, .int .i64 xk, .int .i64 xm, .string xu, .int .i64 xx, .slice XA xf.len xc])
        have S1 := hid s1
        clear s1 hO4
        generalize hw4 : w3.setCells g3 (N * 8) [.bool t, .int .i64 p, .string s, .int .i64 xk, .int .i64 xm, .string xu, .int .i64 xx, .slice XA xf.len xc] = w4 at HV4 HO4 S1 ⊢
        clear hw4
        have fc := HV4.out.cells5.2.2.2.2
        have fz := HV4.out.frozen 4
        have fl := HV4.out.lt
        refine F_only 14 (by kernel_rfl) (E_skip 14 rfl none rfl rfl (w4.setCell ⟨gv, 4, none⟩ (.slice (some ⟨g3, 0, none⟩) (N + 1) c3)) (by go_simp) ⟨fun h => absurd h (by omega), ?_⟩)
        refine F_done (by kernel_rfl) ?_ _
        have s2 : w4.grownBy (w4.setCell ⟨gv, 4, none⟩ (.slice (some ⟨g3, 0, none⟩) (N + 1) c3)) (some gv) := gb_set (gb_refl _ _) (.inr rfl) _
        exact ⟨rfl, ⟨g3, c3, wd.heap.size⟩, hfin w4 _ g3 gv S1.out s2 (.inl rfl) (.inr rfl) (HV4.out.set 4 _) (own_kept HO4.out s2 (fun q hq h => HG4.out ((Option.some.inj h).trans (Option.some.inj hq).symm))), by simp only [List.foldl, Act.put, List.setIfInBounds_toArray, List.set_cons_succ, List.set_cons_zero]⟩
      · have fc := HV3.out.cells5.2.2.2.2
        have fz := HV3.out.frozen 4
        have fl := HV3.out.lt
        refine E_skip 14 rfl none rfl rfl (w3.setCell ⟨gv, 4, none⟩ (.slice (some ⟨g3, 0, none⟩) (N + 1) c3)) (by go_simp) ⟨fun h => absurd h (by omega), ?_⟩
        have s1 : w3.grownBy (w3.setCell ⟨gv, 4, none⟩ (.slice (some ⟨g3, 0, none⟩) (N + 1) c3)) (some gv) := gb_set (gb_refl _ _) (.inr rfl) _
        have S1 := hid s1
        have HV4 := hid (show HoldsT (w3.setCell ⟨gv, 4, none⟩ (.slice (some ⟨g3, 0, none⟩) (N + 1) c3)) gv #[.int .i64 4, .int .i64 m, .string u, .int .i64 x, .slice (some ⟨g3, 0, none⟩) (N + 1) c3] 26 from HV3.out.set 4 _)
        have HO4 := hid (own_kept HOW3.out s1 (fun q hq h => HG4.out ((Option.some.inj h).trans (Option.some.inj hq).symm)))
        clear s1 fc fz fl
        generalize hw4 : w3.setCell ⟨gv, 4, none⟩ (.slice (some ⟨g3, 0, none⟩) (N + 1) c3) = w4 at HV4 HO4 S1 ⊢
        clear hw4
        simp only [Act.put, List.setIfInBounds_toArray, List.set_cons_succ, List.set_cons_zero]
        refine F_only 11 (by kernel_rfl) (E_storeO 11 rfl none rfl rfl 35 (.tmp 32) (.tmp 28) rfl g3 (N * 8) [.bool t, .int .i64 p, .string s, .int .i64 xk, .int .i64 xm, .string xu, .int .i64 xx, .slice XA xf.len xc] rfl rfl HO4.out (by simp only [List.length_cons, List.length_nil]; omega) Tryd.infoE rfl ⟨fun h => absurd h (by omega), ?_⟩)
        refine F_done (by kernel_rfl) ?_ _
        have s2 := gb_setCells (r := some g3) (.inr rfl) [.bool t, .int .i64 p, .string s, .int .i64 xk, .int .i64 xm, .string xu, .int .i64 xx, .slice XA xf.len xc] (N * 8) (gb_refl w4 (some g3))
        have hO5 := own_setCells [.bool t, .int .i64 p, .string s, .int .i64 xk, .int .i64 xm, .string xu, .int .i64 xx, .slice XA xf.len xc] (N * 8) HO4.out
        rw [HSet.out] at hO5
        exact ⟨rfl, ⟨g3, c3, wd.heap.size⟩, hfin w4 _ gv g3 S1.out s2 (.inr rfl) (.inl rfl) (HV4.out.apart HG4.out (N * 8) [.bool t, .int .i64 p, .string s, .int .i64 xk, .int .i64 xm, .string xu, .int .i64 xx, .slice XA xf.len xc]) hO5, by simp only [List.foldl, Act.put, List.setIfInBounds_toArray, List.set_cons_succ, List.set_cons_zero]⟩
    rintro ⟨g3, c3, bb⟩ w5 ⟨hV5, hK5, hO5, hfr, hsz, hos, htape, hout, hg3v, hg3n⟩
    dsimp only at hV5 hO5 hg3v hg3n
    have HV5 := hid hV5
    have HK5 := hid hK5
    have HO5 := hid hO5
    have HFR := hid (And.intro hfr (And.intro hsz (And.intro hos (And.intro htape hout))))
    have HG4 := hid hg3v
    have HG3N := hid hg3n
    simp only [List.foldl, Act.put, List.setIfInBounds_toArray, List.set_cons_succ, List.set_cons_zero]
    clear hV5 hK5 hO5 hfr hsz hos htape hout hg3v hg3n
    have hN1 : D.len = N + 1 := by rw [HD2.out.1, Forest.len_app, HN.out]; rfl
    have hKeep : ∀ w9 : World, w5.grownBy w9 (some gv) → Below lo w w9 ∧ Rw w9 35 lo D (some ⟨g3, 0, none⟩) c3 (L ++ (blk XA ++ XL)) := fun w9 h9 => by
      have hb9 : ∀ b, b < w.heap.size → some b ≠ RB → b ≠ gv → w9.heap[b]? = w.heap[b]? := fun b hb h1 h2 => (h9.block b (Nat.lt_of_lt_of_le hb HFR.out.2.1) (fun e => h2 (Option.some.inj e))).trans (HFR.out.1 b hb h1 h2)
      have hL : ∀ b ∈ L, some b ≠ RB ∧ b ≠ gv := fun b hb => ⟨fun e => HO.out.2.2 b (blk_own.1 (HRE.out.1.trans e.symm)) hb, fun e => HXT.out.2.2.2 (List.mem_append.2 (.inr (e ▸ hb)))⟩
      have hXL : ∀ b ∈ blk XA ++ XL, some b ≠ RB ∧ b ≠ gv := fun b hb => ⟨fun e => (HXT.out.2.2.1 b hb).1 (List.mem_append.2 (.inl (blk_own.1 (HRE.out.1.trans e.symm)))), (HXT.out.2.2.1 b hb).2⟩
      have hsz9 := Nat.le_trans HFR.out.2.1 h9.size
      refine ⟨⟨h9.os.trans HFR.out.2.2.1, h9.tape.trans HFR.out.2.2.2.1, h9.output.trans HFR.out.2.2.2.2, hsz9, fun b hb => hb9 b (Nat.lt_of_lt_of_le hb (Nat.le_trans HLV.out.1 (Nat.le_of_lt HLV.out.2))) (fun e => by have := HRE.out.2 b e.symm; omega) (fun e => by have := HLV.out.1; omega)⟩,
        cs ++ [.bool t, .int .i64 p, .string s, .int .i64 xk, .int .i64 xm, .string xu, .int .i64 xx, .slice XA xf.len xc], ?_, ?_, ?_, fun b hb => ?_⟩
      · rw [hN1]
        exact own_kept HO5.out h9 (fun q hq h => by
          have h1 : gv = q := Option.some.inj hq
          have h2 : g3 = q := Option.some.inj h
          exact HG4.out (h2.trans h1.symm))
      · rw [HD2.out.1]
        exact (HO.out.1.same hsz9 fun b hb hlt => hb9 b hlt (hL b hb).1 (hL b hb).2).app (SubF.one t p s xk xm xu xx HXT.out.2.1 (HXT.out.1.1.same hsz9 fun b hb hlt => hb9 b hlt (hXL b hb).1 (hXL b hb).2))
      · refine ⟨List.nodup_append.2 ⟨HO.out.2.1.1, HXT.out.1.2.1, fun a ha b hb e => (HXT.out.2.2.1 b hb).1 (List.mem_append.2 (.inr (e ▸ ha)))⟩, fun b hb => ?_⟩
        rcases List.mem_append.1 hb with hb | hb
        · exact ⟨(HO.out.2.1.2 b hb).1, (HO.out.2.1.2 b hb).2.same (hb9 b (HO.out.2.1.lt b hb) (hL b hb).1 (hL b hb).2)⟩
        · exact ⟨(HXT.out.1.2.2 b hb).1, (HXT.out.1.2.2 b hb).2.same (hb9 b (HXT.out.1.2.lt b hb) (hXL b hb).1 (hXL b hb).2)⟩
      · obtain rfl : b = g3 := by simpa [blk] using hb
        exact HG3N.out
    have HKeep := hid hKeep
    have HN1 := hid hN1
    clear hKeep hN1
    obtain ⟨d0, d1, d2⟩ := HK5.out.cells3
    have ld := HK5.out.lt
    cases t with
    | true =>
      have hy : y = x := by rw [← HD2.out.2, putX_t]
      subst hy
      go_wp2_with fail
      refine bodyPost_end (results_none rfl _ _ _) rfl ?_
      exact ⟨_, c3, _, rfl, by rw [HN1.out]; exact HV5.out, (HKeep.out _ (gb_refl _ _)).2, (HKeep.out _ (gb_refl _ _)).1⟩
    | false =>
      have hy : (if x < p + 1 then p + 1 else x) = y := by rw [← HD2.out.2, putX_f]
      have HY := hid hy
      clear hy
      go_wp2_with fail
      refine wp_region_E 11 12 rfl (by kernel_rfl) (fun wd w' => wd.grownBy w' none) fun wd6 gd => ?_
      have VD := hid (HV5.out.grow gd)
      have KD := hid (HK5.out.grow gd)
      have GD6 := hid gd
      have g0 : wd6.grownBy wd6 none := gb_refl _ _
      clear gd d0 d1 d2 ld
      refine E_take 0 rfl (some 38) rfl (by kernel_rfl) (by kernel_rfl) (by kernel_rfl) (by kernel_rfl) (by decide) (fun _ _ _ _ h => h) rfl (.pointer (some ⟨gv, 0, none⟩)) (fun w' hw => run_mov (.tmp 0) rfl rfl) g0 ?_
      simp only [Act.put, List.setIfInBounds_toArray, List.set_cons_succ, List.set_cons_zero]
      refine E_take 1 rfl (some 39) rfl (by kernel_rfl) (by kernel_rfl) (by kernel_rfl) (by kernel_rfl) (by decide) (fun _ _ _ _ h => h) rfl (.pointer (some ⟨gv, 0, none⟩)) (fun w' hw => run_mov (.tmp 0) rfl rfl) g0 ?_
      simp only [Act.put, List.setIfInBounds_toArray, List.set_cons_succ, List.set_cons_zero]
      refine E_take 2 rfl (some 40) rfl (by kernel_rfl) (by kernel_rfl) (by kernel_rfl) (by kernel_rfl) (by decide) (fun _ _ _ _ h => h) rfl (.pointer (some ⟨gv, 0, none⟩)) (fun w' hw => by go_simp) g0 ?_
      simp only [Act.put, List.setIfInBounds_toArray, List.set_cons_succ, List.set_cons_zero]
      refine E_take 3 rfl (some 41) rfl (by kernel_rfl) (by kernel_rfl) (by kernel_rfl) (by kernel_rfl) (by decide) (fun _ _ _ _ h => h) rfl (.pointer (some ⟨gv, 3, none⟩)) (fun w' hw => by go_simp) g0 ?_
      simp only [Act.put, List.setIfInBounds_toArray, List.set_cons_succ, List.set_cons_zero]
      refine E_take 4 rfl (some 42) rfl (by kernel_rfl) (by kernel_rfl) (by kernel_rfl) (by kernel_rfl) (by decide) (fun _ _ _ _ h => h) rfl (.int .i64 x) (fun w' hw => by have fc := (VD.out.grow hw).cells5.2.2.2.1; go_simp) g0 ?_
      simp only [Act.put, List.setIfInBounds_toArray, List.set_cons_succ, List.set_cons_zero]
      refine E_take 5 rfl (some 43) rfl (by kernel_rfl) (by kernel_rfl) (by kernel_rfl) (by kernel_rfl) (by decide) (fun _ _ _ _ h => h) rfl (.pointer (some ⟨w.heap.size, 1, none⟩)) (fun w' hw => by go_simp) g0 ?_
      simp only [Act.put, List.setIfInBounds_toArray, List.set_cons_succ, List.set_cons_zero]
      refine E_take 6 rfl (some 44) rfl (by kernel_rfl) (by kernel_rfl) (by kernel_rfl) (by kernel_rfl) (by decide) (fun _ _ _ _ h => h) rfl (.int .i64 p) (fun w' hw => by have fc := (KD.out.grow hw).cells3.2.1; go_simp) g0 ?_
      simp only [Act.put, List.setIfInBounds_toArray, List.set_cons_succ, List.set_cons_zero]
      refine E_take 7 rfl (some 45) rfl (by kernel_rfl) (by kernel_rfl) (by kernel_rfl) (by kernel_rfl) (by decide) (fun _ _ _ _ h => h) rfl (.int .i64 (p + 1)) (fun w' hw => by have h9 := HP.out; go_simp; rw [IntKind.wrap_i64] <;> omega) g0 ?_
      simp only [Act.put, List.setIfInBounds_toArray, List.set_cons_succ, List.set_cons_zero]
      refine E_only 8 (by kernel_rfl) (E_call 8 rfl (some 46) rfl rfl 36 _ (run_call2 _ (by kernel_rfl) (.tmp 42) (.tmp 45) _ (.int .i64 x) (.int .i64 (p + 1)) rfl rfl rfl) (implMaxI_any x (p + 1) wd6) ?_)
      rintro e w8 ⟨rfl, rfl⟩
      rw [HY.out]
      refine ⟨_, rfl, fun _ => g0, ?_⟩
      simp only [Act.put, List.setIfInBounds_toArray, List.set_cons_succ, List.set_cons_zero]
      refine E_only 9 (by kernel_rfl) (E_val 9 rfl (some 47) rfl rfl (.pointer (some ⟨gv, 0, none⟩)) wd6 (by go_simp) ⟨fun _ => g0, ?_⟩)
      simp only [Act.put, List.setIfInBounds_toArray, List.set_cons_succ, List.set_cons_zero]
      refine E_only 10 (by kernel_rfl) (E_val 10 rfl (some 48) rfl rfl (.pointer (some ⟨gv, 3, none⟩)) wd6 (by go_simp) ⟨fun _ => g0, ?_⟩)
      simp only [Act.put, List.setIfInBounds_toArray, List.set_cons_succ, List.set_cons_zero]
      have fc := VD.out.cells5.2.2.2.1
      have fz := VD.out.frozen 3
      have fl := VD.out.lt
      refine E_only 11 (by kernel_rfl) (E_skip 11 rfl none rfl rfl (wd6.setCell ⟨gv, 3, none⟩ (.int .i64 y)) (by go_simp) ⟨fun h => absurd rfl h, ?_⟩)
      refine E_done (by kernel_rfl) ?_ _
      simp only [Act.put, List.setIfInBounds_toArray, List.set_cons_succ, List.set_cons_zero]
      go_wp2_with fail
      refine bodyPost_end (results_none rfl _ _ _) rfl ?_
      have s9 : w5.grownBy (wd6.setCell ⟨gv, 3, none⟩ (.int .i64 y)) (some gv) := gb_set (gb_any GD6.out) (.inr rfl) _
      exact ⟨_, c3, _, rfl, by rw [HN1.out]; exact VD.out.set 3 _, (HKeep.out _ s9).2, (HKeep.out _ s9).1⟩
  · obtain ⟨j, hj⟩ : ∃ j, pre.len = j := ⟨_, rfl⟩
    have hD : D = pre.app (.cons t' n' s' xk xm xu xx xf suf) := HD.out.1.symm.trans h3
    have hy : y = x := by have := HD.out.2; rw [h2, putX_at] at this; exact this.symm
    rw [h2, hj, Nat.zero_add]
    subst hy
    have hjN : j < N := by have := HN.out; rw [h1, Forest.len_app] at this; simp only [Forest.len] at this; omega
    have hDN : D.len = N := by have := HN.out; rw [h1, Forest.len_app] at this; rw [hD, Forest.len_app]; simp only [Forest.len] at this ⊢; omega
    obtain ⟨hs, hol, hnb⟩ := HO.out
    rw [h1] at hs
    obtain ⟨cs1, cs2, La, Lb, rfl, rfl, hs1, hs2⟩ := hs.split
    obtain ⟨SA, sc, cs3, Ls, Lr, rfl, _, _, hs3, rfl⟩ := hs2
    have hl1 := hs1.length
    rw [hj] at hl1
    obtain ⟨g, rfl, hNc, _, hgl, hgw⟩ := own_some HOW2.out (by omega)
    have hgv := HRB.out g rfl
    have HGV := hid hgv
    have hjv : hid True.intro = hid True.intro := rfl
    have hDN2 := hid hDN
    -- what the store leaves
    have hfin : ∀ w8 w9 : World, w2.grownBy w8 none → w9 = w8.setCells g (j * 8 + 3) [.int .i64 xk, .int .i64 xm, .string xu, .int .i64 xx, .slice XA xf.len xc] → HoldsT w8 gv #[.int .i64 4, .int .i64 m, .string u, .int .i64 y, .slice (some ⟨g, 0, none⟩) N c] 26 → w8.ownsRow lo 35 8 (.slice (some ⟨g, 0, none⟩) N c) N (cs1 ++ ([.bool t', .int .i64 n', .string s', .int .i64 kd, .int .i64 nm, .string uu, .int .i64 yy, .slice SA sub.len sc] ++ cs3)) →
        PutPost w lo gv m u y D (.returned (.tuple #[])) w9 := fun w8 w9 h8 e hV hO => by
      subst e
      have hset : setL (cs1 ++ ([.bool t', .int .i64 n', .string s', .int .i64 kd, .int .i64 nm, .string uu, .int .i64 yy, .slice SA sub.len sc] ++ cs3)) (j * 8 + 3) [.int .i64 xk, .int .i64 xm, .string xu, .int .i64 xx, .slice XA xf.len xc] = cs1 ++ ([.bool t', .int .i64 n', .string s', .int .i64 xk, .int .i64 xm, .string xu, .int .i64 xx, .slice XA xf.len xc] ++ cs3) := by
        have h := setL_app [.int .i64 xk, .int .i64 xm, .string xu, .int .i64 xx, .slice XA xf.len xc] (cs1 ++ [.bool t', .int .i64 n', .string s']) ([.int .i64 kd, .int .i64 nm, .string uu, .int .i64 yy, .slice SA sub.len sc] ++ cs3) (by simp)
        rw [show (cs1 ++ [Value.bool t', .int .i64 n', .string s']).length = j * 8 + 3 by simp only [List.length_append, List.length_cons, List.length_nil, hl1]] at h
        simpa [List.append_assoc] using h
      have hO9 := own_setCells [.int .i64 xk, .int .i64 xm, .string xu, .int .i64 xx, .slice XA xf.len xc] (j * 8 + 3) hO
      rw [hset] at hO9
      have s9 := gb_setCells (r := some g) (.inr rfl) [.int .i64 xk, .int .i64 xm, .string xu, .int .i64 xx, .slice XA xf.len xc] (j * 8 + 3) (gb_refl w8 (some g))
      have G8 := gb_trans G2.out h8
      have gk : ∀ b, b < w.heap.size → b ≠ g → (w8.setCells g (j * 8 + 3) [.int .i64 xk, .int .i64 xm, .string xu, .int .i64 xx, .slice XA xf.len xc]).heap[b]? = w.heap[b]? := fun b hb hne => (s9.block b (Nat.lt_of_lt_of_le hb G8.size) (fun e => hne (Option.some.inj e))).trans (G8.block b hb (by simp))
      have hgL : ∀ b ∈ La ++ (blk SA ++ (Ls ++ Lr)), b ≠ g := fun b hb e => hnb g (by simp [blk]) (e ▸ hb)
      have hgX : ∀ b ∈ blk XA ++ XL, b ≠ g := fun b hb e => (HXT.out.2.2.1 b hb).1 (List.mem_append.2 (.inl (by simp [blk, e])))
      have hsz := Nat.le_trans G8.size s9.size
      have hmem : ∀ b, b ∈ La ++ (blk XA ++ (XL ++ Lr)) → b ∈ La ++ (blk SA ++ (Ls ++ Lr)) ∨ b ∈ blk XA ++ XL := fun b hb => by
        simp only [List.mem_append] at hb ⊢
        rcases hb with h | h | h | h
        · exact .inl (.inl h)
        · exact .inr (.inl h)
        · exact .inr (.inr h)
        · exact .inl (.inr (.inr (.inr h)))
      refine ⟨some ⟨g, 0, none⟩, c, La ++ (blk XA ++ (XL ++ Lr)), rfl, by rw [hDN2.out]; exact hV.apart HGV.out.2.2 (j * 8 + 3) [.int .i64 xk, .int .i64 xm, .string xu, .int .i64 xx, .slice XA xf.len xc], ⟨_, by rw [hDN2.out]; exact hO9, ?_, ?_, fun b hb hm => ?_⟩, ?_⟩
      · rw [hD]
        refine (hs1.same hsz fun b hb hlt => gk b hlt (hgL b (List.mem_append.2 (.inl hb)))).app ⟨XA, xc, cs3, XL, Lr, rfl, HXT.out.2.1, HXT.out.1.1.same hsz fun b hb hlt => gk b hlt (hgX b hb), hs3.same hsz fun b hb hlt => gk b hlt (hgL b ?_), rfl⟩
        simp only [List.mem_append]
        exact .inr (.inr (.inr hb))
      · have hd : OwnL w 35 lo (La ++ Lr) := by
          rw [show La ++ (blk SA ++ (Ls ++ Lr)) = La ++ ((blk SA ++ Ls) ++ Lr) by rw [List.append_assoc]] at hol
          exact hol.drop
        obtain ⟨n1, n2, n3⟩ := List.nodup_append.1 hd.1
        have hXn := HXT.out.1.2.1
        have hsep : ∀ a ∈ La ++ Lr, ∀ b ∈ blk XA ++ XL, a ≠ b := fun a ha b hb e => by
          refine (HXT.out.2.2.1 b hb).1 (List.mem_append.2 (.inr ?_))
          subst e
          simp only [List.mem_append] at ha ⊢
          rcases ha with h | h
          · exact .inl h
          · exact .inr (.inr (.inr h))
        refine ⟨?_, fun b hb => ?_⟩
        · rw [← List.append_assoc (blk XA)]
          refine List.nodup_append.2 ⟨n1, List.nodup_append.2 ⟨hXn, n2, fun a ha b hb e => hsep b (List.mem_append.2 (.inr hb)) a ha e.symm⟩, fun a ha b hb => ?_⟩
          rcases List.mem_append.1 hb with hb | hb
          · exact hsep a (List.mem_append.2 (.inl ha)) b hb
          · exact n3 a ha b hb
        · rcases hmem b hb with h | h
          · exact ⟨(hol.2 b h).1, (hol.2 b h).2.same (gk b (hol.lt b h) (hgL b h))⟩
          · exact ⟨(HXT.out.1.2.2 b h).1, (HXT.out.1.2.2 b h).2.same (gk b (HXT.out.1.2.lt b h) (hgX b h))⟩
      · obtain rfl : b = g := by simpa [blk] using hb
        rcases hmem b hm with h | h
        · exact hgL b h rfl
        · exact hgX b h rfl
      · exact ⟨s9.os.trans G8.os, s9.tape.trans G8.tape, s9.output.trans G8.output, hsz, fun b hb => gk b (Nat.lt_of_lt_of_le hb (Nat.le_trans HLV.out.1 (Nat.le_of_lt HLV.out.2))) (fun e => by have := HGV.out.1; omega)⟩
    have HFin := hid hfin
    clear hfin hD h1 h2 h3 hs hs1 hs3 hl1 hgl hDN hol hnb HD hgw hgv hjv
    go_wp2_with fail
    refine wp_region_E 8 9 rfl (by kernel_rfl) (fun wd w' => wd.grownBy w' none) fun wd gd => ?_
    have VD := hid (HV2.out.grow gd)
    have XD := hid (HX2.out.grow gd)
    have OD := hid (own_grow HOW2.out gd)
    have GD := hid gd
    have g0 : wd.grownBy wd none := gb_refl _ _
    clear gd
    refine E_take 0 rfl (some 14) rfl (by kernel_rfl) (by kernel_rfl) (by kernel_rfl) (by kernel_rfl) (by decide) (fun _ _ _ _ h => h) rfl (.pointer (some ⟨gv, 0, none⟩)) (fun w' hw => run_mov (.tmp 0) rfl rfl) g0 ?_
    simp only [Act.put, List.setIfInBounds_toArray, List.set_cons_succ, List.set_cons_zero]
    refine E_take 1 rfl (some 15) rfl (by kernel_rfl) (by kernel_rfl) (by kernel_rfl) (by kernel_rfl) (by decide) (fun _ _ _ _ h => h) rfl (.pointer (some ⟨gv, 0, none⟩)) (fun w' hw => by go_simp) g0 ?_
    simp only [Act.put, List.setIfInBounds_toArray, List.set_cons_succ, List.set_cons_zero]
    refine E_take 2 rfl (some 16) rfl (by kernel_rfl) (by kernel_rfl) (by kernel_rfl) (by kernel_rfl) (by decide) (fun _ _ _ _ h => h) rfl (.pointer (some ⟨gv, 4, none⟩)) (fun w' hw => by go_simp) g0 ?_
    simp only [Act.put, List.setIfInBounds_toArray, List.set_cons_succ, List.set_cons_zero]
    refine E_take 3 rfl (some 17) rfl (by kernel_rfl) (by kernel_rfl) (by kernel_rfl) (by kernel_rfl) (by decide) (fun _ _ _ _ h => h) rfl (.slice (some ⟨g, 0, none⟩) N c) (fun w' hw => by have fc := (VD.out.grow hw).cells5.2.2.2.2; go_simp) g0 ?_
    simp only [Act.put, List.setIfInBounds_toArray, List.set_cons_succ, List.set_cons_zero]
    refine E_take 4 rfl (some 18) rfl (by kernel_rfl) (by kernel_rfl) (by kernel_rfl) (by kernel_rfl) (by decide) (fun _ _ _ _ h => h) rfl (.int .i64 j) (fun w' hw => run_mov (.tmp 6) rfl rfl) g0 ?_
    simp only [Act.put, List.setIfInBounds_toArray, List.set_cons_succ, List.set_cons_zero]
    refine E_load 5 rfl (some 19) rfl (by kernel_rfl) (by kernel_rfl) (by kernel_rfl) (by kernel_rfl) (by decide) (fun _ _ _ _ h => h) rfl 26 (.tmp 5) rfl (w.heap.size + 1) 0 rfl [.int .i64 xk, .int .i64 xm, .string xu, .int .i64 xx, .slice XA xf.len xc] (fun w' hw => (XD.out.grow hw).rangeV) Tryd.underlying26 rfl Tryd.infoV g0 ?_
    simp only [Act.put, List.setIfInBounds_toArray, List.set_cons_succ, List.set_cons_zero]
    refine E_only 6 (by kernel_rfl) (E_val 6 rfl (some 20) rfl rfl (.pointer (some ⟨g, j * 8, none⟩)) wd (by go_simp) ⟨fun _ => g0, ?_⟩)
    simp only [Act.put, List.setIfInBounds_toArray, List.set_cons_succ, List.set_cons_zero]
    refine E_only 7 (by kernel_rfl) (E_val 7 rfl (some 21) rfl rfl (.pointer (some ⟨g, j * 8 + 3, none⟩)) wd (by go_simp) ⟨fun _ => g0, ?_⟩)
    simp only [Act.put, List.setIfInBounds_toArray, List.set_cons_succ, List.set_cons_zero]
    refine E_only 8 (by kernel_rfl) (E_storeO 8 rfl none rfl rfl 26 (.tmp 21) (.tmp 19) rfl g (j * 8 + 3) [.int .i64 xk, .int .i64 xm, .string xu, .int .i64 xx, .slice XA xf.len xc] rfl rfl OD.out (by simp only [List.length_cons, List.length_nil]; omega) Tryd.infoV rfl ⟨fun h => absurd rfl h, ?_⟩)
    refine E_done (by kernel_rfl) ?_ _
    simp only [Act.put, List.setIfInBounds_toArray, List.set_cons_succ, List.set_cons_zero]
    have HF9 := hid (HFin.out wd _ GD.out rfl VD.out OD.out)
    generalize hw9 : wd.setCells g (j * 8 + 3) [.int .i64 xk, .int .i64 xm, .string xu, .int .i64 xx, .slice XA xf.len xc] = w9 at HF9 ⊢
    clear hw9
    go_wp2_with fail
    first | refine bodyPost_ret (results_none rfl _ _ _) rfl ?_ | refine bodyPost_end (results_none rfl _ _ _) rfl ?_
    exact HF9.out
end Go.Proofs.YtmbochhmeojmfaaDoor
