/- The walk of l6Set (printed by genset.py). -/
import Derived.Test.YtmbochhmeojmfaaDoorSetMath
namespace Go.Proofs.YtmbochhmeojmfaaDoor
set_option maxRecDepth 20000
open Go.RowKit
set_option linter.unusedVariables false

theorem specMaxI_any (a b : Int) (w : World) : Calls Tryd.prog 66 #[.int .i64 a, .int .i64 b] w fun e w' => e = .returned (.int .i64 (if a < b then b else a)) ∧ w = w' := by
  by_cases h : a < b
  · rw [if_pos h]
    go_enter Tryd.func66, Tryd.ntmps66
    go_wp2
    go_ret
    exact ⟨rfl, rfl⟩
  · rw [if_neg h]
    go_enter Tryd.func66, Tryd.ntmps66
    go_wp2
    go_ret
    exact ⟨rfl, rfl⟩
set_option maxHeartbeats 4000000 in
theorem specSet_any (f xf : Forest) (t : Bool) (p : Int) (s : ByteArray) (hp : -1000000000 ≤ p ∧ p ≤ 1000000000) (w : World) (m : Int) (u : ByteArray) (x : Int) (A : Option Addr) (c : Nat) (L : List Nat) (xk xm : Int) (xu : ByteArray) (xx : Int) (XA : Option Addr) (xc : Nat) (XL : List Nat)
    (hr : RowF w f A 0 f.len L) (h0 : A = none → c = 0) (hfz : f.size ≤ 1048576) (hx : RowF w xf XA 0 xf.len XL) (hx0 : XA = none → xc = 0) :
    Calls Tryd.prog 45 #[.agg #[.int .i64 4, .int .i64 m, .string u, .int .i64 x, .slice A f.len c], .agg #[.bool t, .int .i64 p, .string s], .agg #[.int .i64 xk, .int .i64 xm, .string xu, .int .i64 xx, .slice XA xf.len xc]] w (ShownPost w 4 m u (putX t p x (f.find t p s 0)) (f.put t p s xk xm xu xx xf)) := by
  obtain ⟨i0, hi, hz0, hz1, hz2⟩ := info_parts Tryd.infoE3
  have HI := hid (And.intro hi (And.intro hz0 (And.intro hz1 hz2)))
  obtain ⟨N, hN⟩ : ∃ N, f.len = N := ⟨_, rfl⟩
  have hNs : N ≤ 1048576 := by have := f.len_le; omega
  obtain ⟨D, hD⟩ : ∃ D, f.put t p s xk xm xu xx xf = D := ⟨_, rfl⟩
  obtain ⟨y, hy⟩ : ∃ y, putX t p x (f.find t p s 0) = y := ⟨_, rfl⟩
  rw [hD, hy]
  have HD := hid (And.intro hD hy)
  have HR := hid hr
  have HXR := hid hx
  have HX0 := hid hx0
  have HP := hid hp
  obtain ⟨cs, hsub, hbl, hcell⟩ := hr.cells
  have hlc := hsub.length
  rw [hN] at hlc
  rw [hN]
  have HN := hid hN
  have CF : Hid (∀ w', RowF w' f A 0 f.len L → Calls Tryd.prog 62 #[.agg #[.int .i64 4, .int .i64 m, .string u, .int .i64 x, .slice A N c], .agg #[.bool t, .int .i64 p, .string s]] w' fun e w'' => e = .returned (.int .i64 (f.find t p s 0)) ∧ w'.grownBy w'' none) := hid fun w' h => by
    have h1 := specL5Find_any f t p s w' 4 m u x A c L h hfz
    rw [hN, show valFind 4 t p s f = f.find t p s 0 from if_pos rfl] at h1
    exact h1
  have hA0 : A = none → c = 0 ∧ N = 0 := fun e => ⟨h0 e, by
    subst e
    rw [← hN]
    cases f with
    | nil => rfl
    | cons => obtain ⟨_, _, _, _, _, _, e, _⟩ := hr.range; cases e⟩
  have HA0 := hid hA0
  have HS := hid hsub
  have HLC := hid hlc
  clear hD hy hr hx hx0 hp hi hz0 hz1 hz2 hN hA0 h0
  -- the boxes
  have HV := hid ((((((HoldsT.new w #[.int .i64 4, .int .i64 m, .string u, .int .i64 x, .slice A N c] 26).alloc (.cells #[.bool t, .int .i64 p, .string s] 33)).alloc (.cells #[.int .i64 xk, .int .i64 xm, .string xu, .int .i64 xx, .slice XA xf.len xc] 26)).alloc (.cells #[.int .i64 0, .int .i64 0, .string { data := #[] }, .int .i64 0, .slice none 0 0] 26)).alloc (.cells #[.int .i64 4, .int .i64 m, .string u, .int .i64 x, .slice A N c] 26)).alloc (.cells #[] 35))
  have HK := hid (show HoldsT ((((((w.alloc (.cells #[.int .i64 4, .int .i64 m, .string u, .int .i64 x, .slice A N c] 26)).alloc (.cells #[.bool t, .int .i64 p, .string s] 33)).alloc (.cells #[.int .i64 xk, .int .i64 xm, .string xu, .int .i64 xx, .slice XA xf.len xc] 26)).alloc (.cells #[.int .i64 0, .int .i64 0, .string { data := #[] }, .int .i64 0, .slice none 0 0] 26)).alloc (.cells #[.int .i64 4, .int .i64 m, .string u, .int .i64 x, .slice A N c] 26)).alloc (.cells #[] 35)) (w.heap.size + 1) #[.bool t, .int .i64 p, .string s] 33 by
    simpa using (((((HoldsT.new (w.alloc (.cells #[.int .i64 4, .int .i64 m, .string u, .int .i64 x, .slice A N c] 26)) #[.bool t, .int .i64 p, .string s] 33).alloc (.cells #[.int .i64 xk, .int .i64 xm, .string xu, .int .i64 xx, .slice XA xf.len xc] 26)).alloc (.cells #[.int .i64 0, .int .i64 0, .string { data := #[] }, .int .i64 0, .slice none 0 0] 26)).alloc (.cells #[.int .i64 4, .int .i64 m, .string u, .int .i64 x, .slice A N c] 26)).alloc (.cells #[] 35)))
  have HX := hid (show HoldsT ((((((w.alloc (.cells #[.int .i64 4, .int .i64 m, .string u, .int .i64 x, .slice A N c] 26)).alloc (.cells #[.bool t, .int .i64 p, .string s] 33)).alloc (.cells #[.int .i64 xk, .int .i64 xm, .string xu, .int .i64 xx, .slice XA xf.len xc] 26)).alloc (.cells #[.int .i64 0, .int .i64 0, .string { data := #[] }, .int .i64 0, .slice none 0 0] 26)).alloc (.cells #[.int .i64 4, .int .i64 m, .string u, .int .i64 x, .slice A N c] 26)).alloc (.cells #[] 35)) (w.heap.size + 1 + 1) #[.int .i64 xk, .int .i64 xm, .string xu, .int .i64 xx, .slice XA xf.len xc] 26 by
    simpa using ((((HoldsT.new ((w.alloc (.cells #[.int .i64 4, .int .i64 m, .string u, .int .i64 x, .slice A N c] 26)).alloc (.cells #[.bool t, .int .i64 p, .string s] 33)) #[.int .i64 xk, .int .i64 xm, .string xu, .int .i64 xx, .slice XA xf.len xc] 26).alloc (.cells #[.int .i64 0, .int .i64 0, .string { data := #[] }, .int .i64 0, .slice none 0 0] 26)).alloc (.cells #[.int .i64 4, .int .i64 m, .string u, .int .i64 x, .slice A N c] 26)).alloc (.cells #[] 35)))
  have HZ := hid (show HoldsT ((((((w.alloc (.cells #[.int .i64 4, .int .i64 m, .string u, .int .i64 x, .slice A N c] 26)).alloc (.cells #[.bool t, .int .i64 p, .string s] 33)).alloc (.cells #[.int .i64 xk, .int .i64 xm, .string xu, .int .i64 xx, .slice XA xf.len xc] 26)).alloc (.cells #[.int .i64 0, .int .i64 0, .string { data := #[] }, .int .i64 0, .slice none 0 0] 26)).alloc (.cells #[.int .i64 4, .int .i64 m, .string u, .int .i64 x, .slice A N c] 26)).alloc (.cells #[] 35)) (w.heap.size + 1 + 1 + 1) #[.int .i64 0, .int .i64 0, .string { data := #[] }, .int .i64 0, .slice none 0 0] 26 by
    simpa using (((HoldsT.new (((w.alloc (.cells #[.int .i64 4, .int .i64 m, .string u, .int .i64 x, .slice A N c] 26)).alloc (.cells #[.bool t, .int .i64 p, .string s] 33)).alloc (.cells #[.int .i64 xk, .int .i64 xm, .string xu, .int .i64 xx, .slice XA xf.len xc] 26)) #[.int .i64 0, .int .i64 0, .string { data := #[] }, .int .i64 0, .slice none 0 0] 26).alloc (.cells #[.int .i64 4, .int .i64 m, .string u, .int .i64 x, .slice A N c] 26)).alloc (.cells #[] 35)))
  have HO := hid (show HoldsT ((((((w.alloc (.cells #[.int .i64 4, .int .i64 m, .string u, .int .i64 x, .slice A N c] 26)).alloc (.cells #[.bool t, .int .i64 p, .string s] 33)).alloc (.cells #[.int .i64 xk, .int .i64 xm, .string xu, .int .i64 xx, .slice XA xf.len xc] 26)).alloc (.cells #[.int .i64 0, .int .i64 0, .string { data := #[] }, .int .i64 0, .slice none 0 0] 26)).alloc (.cells #[.int .i64 4, .int .i64 m, .string u, .int .i64 x, .slice A N c] 26)).alloc (.cells #[] 35)) (w.heap.size + 1 + 1 + 1 + 1) #[.int .i64 4, .int .i64 m, .string u, .int .i64 x, .slice A N c] 26 by
    simpa using ((HoldsT.new ((((w.alloc (.cells #[.int .i64 4, .int .i64 m, .string u, .int .i64 x, .slice A N c] 26)).alloc (.cells #[.bool t, .int .i64 p, .string s] 33)).alloc (.cells #[.int .i64 xk, .int .i64 xm, .string xu, .int .i64 xx, .slice XA xf.len xc] 26)).alloc (.cells #[.int .i64 0, .int .i64 0, .string { data := #[] }, .int .i64 0, .slice none 0 0] 26)) #[.int .i64 4, .int .i64 m, .string u, .int .i64 x, .slice A N c] 26).alloc (.cells #[] 35)))
  have G0 := hid (show w.grownBy ((((((w.alloc (.cells #[.int .i64 4, .int .i64 m, .string u, .int .i64 x, .slice A N c] 26)).alloc (.cells #[.bool t, .int .i64 p, .string s] 33)).alloc (.cells #[.int .i64 xk, .int .i64 xm, .string xu, .int .i64 xx, .slice XA xf.len xc] 26)).alloc (.cells #[.int .i64 0, .int .i64 0, .string { data := #[] }, .int .i64 0, .slice none 0 0] 26)).alloc (.cells #[.int .i64 4, .int .i64 m, .string u, .int .i64 x, .slice A N c] 26)).alloc (.cells #[] 35)) none from gb_alloc (gb_alloc (gb_alloc (gb_alloc (gb_alloc (gb_alloc (gb_refl w none) _) _) _) _) _) _)
  have HOW := hid (show ((((((w.alloc (.cells #[.int .i64 4, .int .i64 m, .string u, .int .i64 x, .slice A N c] 26)).alloc (.cells #[.bool t, .int .i64 p, .string s] 33)).alloc (.cells #[.int .i64 xk, .int .i64 xm, .string xu, .int .i64 xx, .slice XA xf.len xc] 26)).alloc (.cells #[.int .i64 0, .int .i64 0, .string { data := #[] }, .int .i64 0, .slice none 0 0] 26)).alloc (.cells #[.int .i64 4, .int .i64 m, .string u, .int .i64 x, .slice A N c] 26)).alloc (.cells #[] 35)).ownsRow (w.heap.size + 5) 35 8 (.slice (some ⟨w.heap.size + 1 + 1 + 1 + 1 + 1, 0, none⟩) 0 0) 0 [] by
    simpa using World.ownsRow_made (base := w.heap.size + 5) (e := 35) (size := 8) (((((w.alloc (.cells #[.int .i64 4, .int .i64 m, .string u, .int .i64 x, .slice A N c] 26)).alloc (.cells #[.bool t, .int .i64 p, .string s] 33)).alloc (.cells #[.int .i64 xk, .int .i64 xm, .string xu, .int .i64 xx, .slice XA xf.len xc] 26)).alloc (.cells #[.int .i64 0, .int .i64 0, .string { data := #[] }, .int .i64 0, .slice none 0 0] 26)).alloc (.cells #[.int .i64 4, .int .i64 m, .string u, .int .i64 x, .slice A N c] 26)) #[] 0 (by simp) (by unfold maxLen; omega) (by simp))
  have HCell := hid (show ∀ ad, A = some ad → ∀ j z, cs[j]? = some z → ((((((w.alloc (.cells #[.int .i64 4, .int .i64 m, .string u, .int .i64 x, .slice A N c] 26)).alloc (.cells #[.bool t, .int .i64 p, .string s] 33)).alloc (.cells #[.int .i64 xk, .int .i64 xm, .string xu, .int .i64 xx, .slice XA xf.len xc] 26)).alloc (.cells #[.int .i64 0, .int .i64 0, .string { data := #[] }, .int .i64 0, .slice none 0 0] 26)).alloc (.cells #[.int .i64 4, .int .i64 m, .string u, .int .i64 x, .slice A N c] 26)).alloc (.cells #[] 35)).cell? (ad.add j) = some z from fun ad e j z hj => G0.out.cell (hcell ad e j z hj) (by simp))
  have H1 := hid hsub.cells1
  clear hsub hbl hcell hlc
  have tok := hid trivial
  go_enter Tryd.func45, Tryd.ntmps45
  go_wp2_with (at_builtin; refine wpList_appS rfl _ _ 24 rfl (w.heap.size + 5) 35 i0 entry0 8 96 Tryd.underlying24 HI.out.1 HI.out.2.1 HI.out.2.2.1 HI.out.2.2.2 rfl (by omega) (.slice (some ⟨w.heap.size + 1 + 1 + 1 + 1 + 1, 0, none⟩) 0 0) 0 [] rfl HOW.out A N c cs rfl HA0.out HLC.out HCell.out H1.out (by unfold maxLen; omega) (by omega) (by simp) ?_; rw [Nat.zero_add, List.nil_append]; intro A3 c3 w3 hown3 hA3 hg3 hat3; revert tok)
  intro tok
  have hne : ∀ b, b < w.heap.size + 5 → (Value.slice (some ⟨w.heap.size + 1 + 1 + 1 + 1 + 1, 0, none⟩) 0 0).ownBlock ≠ some b := fun b hb e => by
    have h : w.heap.size + 1 + 1 + 1 + 1 + 1 = b := by injection e
    omega
  have HV3 := hid (HV.out.kept hg3 (hne _ (by omega)))
  have HK3 := hid (HK.out.kept hg3 (hne _ (by omega)))
  have HX3 := hid (HX.out.kept hg3 (hne _ (by omega)))
  have HZ3 := hid (HZ.out.kept hg3 (hne _ (by omega)))
  have HO3 := hid (HO.out.kept hg3 (hne _ (by omega)))
  have G3 : Hid (w.grownBy w3 none) := hid (gb_fresh G0.out hg3 (fun q hq => by have h : w.heap.size + 1 + 1 + 1 + 1 + 1 = q := Option.some.inj hq; omega))
  have HOW3 := hid hown3
  have hlo : ∀ q, (Value.slice A3 N c3).ownBlock = some q → w.heap.size + 5 ≤ q := fun q hq => (hown3.lt q hq).1
  have HLO := hid hlo
  obtain ⟨a0, a1, a2, a3, a4⟩ := HV3.out.cells5
  obtain ⟨d0, d1, d2⟩ := HK3.out.cells3
  obtain ⟨o0, o1, o2, o3, o4⟩ := HO3.out.cells5
  have y4 := HO3.out.frozen 4
  have la := HV3.out.lt
  have ld := HK3.out.lt
  have lo := HO3.out.lt
  clear hne hown3 hA3 hg3 hat3 hlo
  go_wp2_with fail
  clear a0 a1 a2 a3 a4 d0 d1 d2 o0 o1 o2 o3 o4 y4 la ld lo
  have s4 : w3.grownBy (w3.setCell ⟨w.heap.size + 1 + 1 + 1 + 1, 4, none⟩ (.slice A3 N c3)) (some (w.heap.size + 1 + 1 + 1 + 1)) := gb_set (gb_refl _ _) (.inr rfl) _
  have G4 := hid (gb_fresh G3.out s4 (fun q hq => by have h : w.heap.size + 1 + 1 + 1 + 1 = q := Option.some.inj hq; omega))
  refine (CF.out _ (HR.out.grow G4.out)).mono ?_
  rintro e w6 ⟨rfl, hg⟩
  have HK6 := hid ((HK3.out.kept s4 (by intro e; injection e; omega)).grow hg)
  have HX6 := hid ((HX3.out.kept s4 (by intro e; injection e; omega)).grow hg)
  have HZ6 := hid ((HZ3.out.kept s4 (by intro e; injection e; omega)).grow hg)
  have HO6 := hid (show HoldsT w6 (w.heap.size + 1 + 1 + 1 + 1) #[.int .i64 4, .int .i64 m, .string u, .int .i64 x, .slice A3 N c3] 26 from (HO3.out.set 4 _).grow hg)
  have HOW6 := hid (own_grow (own_kept HOW3.out s4 (fun q hq h => by have h1 : w.heap.size + 1 + 1 + 1 + 1 = q := Option.some.inj hq; have := HLO.out q h; omega)) hg)
  have G6 := hid (gb_trans G4.out hg)
  clear s4 hg HV3 HK3 HX3 HZ3 HO3 HOW3 G3 G4 HV HK HX HZ HO HOW HCell G0 CF
  obtain ⟨x0, x1, x2, x3, x4⟩ := HX6.out.cells5
  obtain ⟨o0, o1, o2, o3, o4⟩ := HO6.out.cells5
  have lx := HX6.out.lt
  have lo := HO6.out.lt
  rcases Forest.put_cases t p s xk xm xu xx xf f 0 with ⟨h1, h2⟩ | ⟨pre, t', n', s', kd, nm, uu, yy, sub, suf, h1, h2, h3⟩
  · have hD : D = f.app (.cons t p s xk xm xu xx xf .nil) := HD.out.1.symm.trans h2
    have hy : putX t p x (-1) = y := by have := HD.out.2; rw [h1] at this; exact this
    rw [h1]
    have HD2 := hid (And.intro hD hy)
    have HOW6A := hid (own_grow HOW6.out (gb_alloc (gb_refl w6 none) (.cells #[.bool t, .int .i64 p, .string s, .int .i64 xk, .int .i64 xm, .string xu, .int .i64 xx, .slice XA xf.len xc] 35)))
    have GA := hid (gb_alloc G6.out (.cells #[.bool t, .int .i64 p, .string s, .int .i64 xk, .int .i64 xm, .string xu, .int .i64 xx, .slice XA xf.len xc] 35))
    have hsz : w.heap.size + 5 ≤ w6.heap.size := lo
    have HSZ := hid hsz
    obtain ⟨d0, d1, d2⟩ := HK6.out.cells3
    have ld := HK6.out.lt
    clear hD hy h1 h2 hsz HD
    go_wp2_with (at_builtin; refine wpList_append_own_at _ rfl _ _ 24 rfl (w.heap.size + 5) 35 i0 entry0 8 96 Tryd.underlying24 HI.out.1 HI.out.2.1 HI.out.2.2.1 HI.out.2.2.2 rfl (by omega) (.slice A3 N c3) N cs rfl HOW6A.out ⟨w6.heap.size, 0, none⟩ 1 1 [.bool t, .int .i64 p, .string s, .int .i64 xk, .int .i64 xm, .string xu, .int .i64 xx, .slice XA xf.len xc] rfl rfl (news_lit w6 [.bool t, .int .i64 p, .string s, .int .i64 xk, .int .i64 xm, .string xu, .int .i64 xx, .slice XA xf.len xc] 35) (by simp [Value.oneCell']) (by unfold maxLen; omega) (by omega) (by have := HSZ.out; simp only [World.size_alloc]; omega) ?_; intro v7 w7 hown7 hg7 _ hat7; revert tok)
    intro tok
    obtain ⟨A7, c7, rfl, hA7⟩ := own_form hown7
    have HO7 := hid ((HO6.out.alloc (.cells #[.bool t, .int .i64 p, .string s, .int .i64 xk, .int .i64 xm, .string xu, .int .i64 xx, .slice XA xf.len xc] 35)).kept hg7 (fun e => by have := HLO.out _ e; omega))
    have HK7 := hid ((HK6.out.alloc (.cells #[.bool t, .int .i64 p, .string s, .int .i64 xk, .int .i64 xm, .string xu, .int .i64 xx, .slice XA xf.len xc] 35)).kept hg7 (fun e => by have := HLO.out _ e; omega))
    have HZ7 := hid ((HZ6.out.alloc (.cells #[.bool t, .int .i64 p, .string s, .int .i64 xk, .int .i64 xm, .string xu, .int .i64 xx, .slice XA xf.len xc] 35)).kept hg7 (fun e => by have := HLO.out _ e; omega))
    have G7 : Hid (w.grownBy w7 none) := hid (gb_fresh GA.out hg7 (fun q hq => by have := HLO.out q hq; omega))
    have HOW7 := hid hown7
    clear x0 x1 x2 x3 x4 o0 o1 o2 o3 o4 lx lo d0 d1 d2 ld hown7 hA7 hg7 hat7
    obtain ⟨o0, o1, o2, o3, o4⟩ := HO7.out.cells5
    obtain ⟨d0, d1, d2⟩ := HK7.out.cells3
    obtain ⟨r0, r1, r2, r3, r4⟩ := HZ7.out.cells5
    have y0 := HZ7.out.frozen 0; have y1 := HZ7.out.frozen 1; have y2 := HZ7.out.frozen 2; have y3 := HZ7.out.frozen 3; have y4 := HZ7.out.frozen 4
    have u3 := HO7.out.frozen 3; have u4 := HO7.out.frozen 4
    have lo := HO7.out.lt
    have ld := HK7.out.lt
    have lz := HZ7.out.lt
    have hN1 : D.len = N + 1 := by rw [HD2.out.1, Forest.len_app, HN.out]; rfl
    have hSub : ∀ w9, w.grownBy w9 none → SubF w9 D (cs ++ [.bool t, .int .i64 p, .string s, .int .i64 xk, .int .i64 xm, .string xu, .int .i64 xx, .slice XA xf.len xc]) (L ++ (blk XA ++ XL)) := fun w9 h9 => by
      rw [HD2.out.1]
      exact (HS.out.grow h9).app (SubF.one t p s xk xm xu xx HX0.out (HXR.out.grow h9))
    have HN1 := hid hN1
    have HSub := hid hSub
    clear hN1 hSub
    cases t with
    | true =>
      go_wp2_with fail
      refine bodyPost_ret (results_cell_row rfl _ _ _ _ _ (0, 0) _ rfl ((HZ7.out.setOther (by simp) _).set5 _ _ _ _ _) Tryd.underlying26 rfl Tryd.infoV) rfl ?_
      have hy : y = x := by rw [← HD2.out.2, putX_t]
      subst hy
      have s8 : w7.grownBy (w7.setCell ⟨w.heap.size + 1 + 1 + 1 + 1, 4, none⟩ (.slice A7 (N + 1) c7)) (some (w.heap.size + 1 + 1 + 1 + 1)) := gb_set (gb_refl _ _) (.inr rfl) _
      have s9 := gb_set5 (gb_refl (w7.setCell ⟨w.heap.size + 1 + 1 + 1 + 1, 4, none⟩ (.slice A7 (N + 1) c7)) (some (w.heap.size + 1 + 1 + 1))) (g := w.heap.size + 1 + 1 + 1) (.inr rfl) (.int .i64 4) (.int .i64 m) (.string u) (.int .i64 y) (.slice A7 (N + 1) c7)
      have G9 := gb_fresh (gb_fresh G7.out s8 (fun q hq => by have h : w.heap.size + 1 + 1 + 1 + 1 = q := Option.some.inj hq; omega)) s9 (fun q hq => by have h : w.heap.size + 1 + 1 + 1 = q := Option.some.inj hq; omega)
      have O9 := own_kept (own_kept HOW7.out s8 (fun q hq h => by have h1 : w.heap.size + 1 + 1 + 1 + 1 = q := Option.some.inj hq; have := (HOW7.out.lt q h).1; omega)) s9 (fun q hq h => by have h1 : w.heap.size + 1 + 1 + 1 = q := Option.some.inj hq; have := (HOW7.out.lt q h).1; omega)
      exact ⟨A7, c7, L ++ (blk XA ++ XL), by rw [HN1.out], own_rowF (by rw [HN1.out]; exact O9) (HSub.out _ G9), G9⟩
    | false =>
      have hp1 := HP.out.1
      have hp2 := HP.out.2
      go_wp2_with fail
      refine (specMaxI_any _ _ _).mono ?_
      rintro e w8 ⟨rfl, rfl⟩
      have hy : (if x < p + 1 then p + 1 else x) = y := by rw [← HD2.out.2, putX_f]
      rw [hy]
      clear hy
      go_wp2_with fail
      refine bodyPost_ret (results_cell_row rfl _ _ _ _ _ (0, 0) _ rfl (((HZ7.out.setOther (by simp) _).setOther (by simp) _).set5 _ _ _ _ _) Tryd.underlying26 rfl Tryd.infoV) rfl ?_
      have s8 : w7.grownBy ((w7.setCell ⟨w.heap.size + 1 + 1 + 1 + 1, 4, none⟩ (.slice A7 (N + 1) c7)).setCell ⟨w.heap.size + 1 + 1 + 1 + 1, 3, none⟩ (.int .i64 y)) (some (w.heap.size + 1 + 1 + 1 + 1)) := gb_set (a := ⟨w.heap.size + 1 + 1 + 1 + 1, 3, none⟩) (gb_set (a := ⟨w.heap.size + 1 + 1 + 1 + 1, 4, none⟩) (gb_refl w7 (some (w.heap.size + 1 + 1 + 1 + 1))) (.inr rfl) (.slice A7 (N + 1) c7)) (.inr rfl) (.int .i64 y)
      have s9 := gb_set5 (gb_refl ((w7.setCell ⟨w.heap.size + 1 + 1 + 1 + 1, 4, none⟩ (.slice A7 (N + 1) c7)).setCell ⟨w.heap.size + 1 + 1 + 1 + 1, 3, none⟩ (.int .i64 y)) (some (w.heap.size + 1 + 1 + 1))) (g := w.heap.size + 1 + 1 + 1) (.inr rfl) (.int .i64 4) (.int .i64 m) (.string u) (.int .i64 y) (.slice A7 (N + 1) c7)
      have G9 := gb_fresh (gb_fresh G7.out s8 (fun q hq => by have h : w.heap.size + 1 + 1 + 1 + 1 = q := Option.some.inj hq; omega)) s9 (fun q hq => by have h : w.heap.size + 1 + 1 + 1 = q := Option.some.inj hq; omega)
      have O9 := own_kept (own_kept HOW7.out s8 (fun q hq h => by have h1 : w.heap.size + 1 + 1 + 1 + 1 = q := Option.some.inj hq; have := (HOW7.out.lt q h).1; omega)) s9 (fun q hq h => by have h1 : w.heap.size + 1 + 1 + 1 = q := Option.some.inj hq; have := (HOW7.out.lt q h).1; omega)
      exact ⟨A7, c7, L ++ (blk XA ++ XL), by rw [HN1.out], own_rowF (by rw [HN1.out]; exact O9) (HSub.out _ G9), G9⟩
  · obtain ⟨j, hj⟩ : ∃ j, pre.len = j := ⟨_, rfl⟩
    have hD : D = pre.app (.cons t' n' s' xk xm xu xx xf suf) := HD.out.1.symm.trans h3
    have hy : y = x := by have := HD.out.2; rw [h2, putX_at] at this; exact this.symm
    rw [h2, hj, Nat.zero_add]
    subst hy
    have hjN : j < N := by have := HN.out; rw [h1, Forest.len_app] at this; simp only [Forest.len] at this; omega
    have hDN : D.len = N := by have := HN.out; rw [h1, Forest.len_app] at this; rw [hD, Forest.len_app]; simp only [Forest.len] at this ⊢; omega
    have hs := HS.out
    rw [h1] at hs
    obtain ⟨cs1, cs2, La, Lb, rfl, rfl, hs1, hs2⟩ := hs.split
    obtain ⟨SA, sc, cs3, Ls, Lr, rfl, _, _, hs3, rfl⟩ := hs2
    have hl1 := hs1.length
    rw [hj] at hl1
    obtain ⟨g, rfl, hNc, _, hgl, hgw⟩ := own_some HOW6.out (by omega)
    have HGL := hid hgl
    have hSub : ∀ w9, w.grownBy w9 none → SubF w9 D (cs1 ++ ([.bool t', .int .i64 n', .string s', .int .i64 xk, .int .i64 xm, .string xu, .int .i64 xx, .slice XA xf.len xc] ++ cs3)) (La ++ (blk XA ++ (XL ++ Lr))) := fun w9 h9 => by
      rw [hD]
      exact (hs1.grow h9).app ⟨XA, xc, cs3, XL, Lr, rfl, HX0.out, HXR.out.grow h9, hs3.grow h9, rfl⟩
    have HSub := hid hSub
    have HDN := hid hDN
    have hO := own_setCells [.int .i64 xk, .int .i64 xm, .string xu, .int .i64 xx, .slice XA xf.len xc] (j * 8 + 3) HOW6.out
    have hset : setL (cs1 ++ ([.bool t', .int .i64 n', .string s', .int .i64 kd, .int .i64 nm, .string uu, .int .i64 yy, .slice SA sub.len sc] ++ cs3)) (j * 8 + 3) [.int .i64 xk, .int .i64 xm, .string xu, .int .i64 xx, .slice XA xf.len xc] = cs1 ++ ([.bool t', .int .i64 n', .string s', .int .i64 xk, .int .i64 xm, .string xu, .int .i64 xx, .slice XA xf.len xc] ++ cs3) := by
      have h := setL_app [.int .i64 xk, .int .i64 xm, .string xu, .int .i64 xx, .slice XA xf.len xc] (cs1 ++ [.bool t', .int .i64 n', .string s']) ([.int .i64 kd, .int .i64 nm, .string uu, .int .i64 yy, .slice SA sub.len sc] ++ cs3) (by simp)
      rw [show (cs1 ++ [Value.bool t', .int .i64 n', .string s']).length = j * 8 + 3 by simp only [List.length_append, List.length_cons, List.length_nil, hl1]] at h
      simpa [List.append_assoc] using h
    rw [hset] at hO
    have HO9 := hid hO
    have hne : g ≠ w.heap.size + 1 + 1 + 1 + 1 ∧ g ≠ w.heap.size + 1 + 1 + 1 := by omega
    have HNE := hid hne
    have G7 := hid (gb_fresh G6.out (gb_setCells (r := some g) (.inr rfl) [.int .i64 xk, .int .i64 xm, .string xu, .int .i64 xx, .slice XA xf.len xc] (j * 8 + 3) (gb_refl w6 (some g))) (fun q hq => by have h : g = q := Option.some.inj hq; have := HGL.out; omega))
    have HO7 := hid (HO6.out.apart HNE.out.1 (j * 8 + 3) [.int .i64 xk, .int .i64 xm, .string xu, .int .i64 xx, .slice XA xf.len xc])
    have HZ7 := hid (HZ6.out.apart HNE.out.2 (j * 8 + 3) [.int .i64 xk, .int .i64 xm, .string xu, .int .i64 xx, .slice XA xf.len xc])
    clear hD h1 h2 h3 hs hs1 hs3 hl1 hgl hSub hDN hO hset hne HD hgw
    go_wp2_with ((with_reducible show wpList _ _ _ (⟨_, .store 26 _ _, _, _, _, _⟩ :: _) _ _); revert tok)
    intro tok
    refine wpList_storeO rfl 26 (.tmp 25) (.tmp 23) rfl g (j * 8 + 3) [.int .i64 xk, .int .i64 xm, .string xu, .int .i64 xx, .slice XA xf.len xc] rfl rfl HOW6.out (by simp only [List.length_cons, List.length_nil]; omega) Tryd.infoV rfl ?_
    simp only [Act.put]
    clear x0 x1 x2 x3 x4 o0 o1 o2 o3 o4 lx lo
    generalize hw7 : w6.setCells g (j * 8 + 3) [.int .i64 xk, .int .i64 xm, .string xu, .int .i64 xx, .slice XA xf.len xc] = w7 at HO7 HZ7 HO9 G7 ⊢
    clear hw7
    obtain ⟨o0, o1, o2, o3, o4⟩ := HO7.out.cells5
    obtain ⟨r0, r1, r2, r3, r4⟩ := HZ7.out.cells5
    have y0 := HZ7.out.frozen 0; have y1 := HZ7.out.frozen 1; have y2 := HZ7.out.frozen 2; have y3 := HZ7.out.frozen 3; have y4 := HZ7.out.frozen 4
    have lo := HO7.out.lt
    have lz := HZ7.out.lt
    go_wp2_with fail
    refine bodyPost_ret (results_cell_row rfl _ _ _ _ _ (0, 0) _ rfl (HZ7.out.set5 _ _ _ _ _) Tryd.underlying26 rfl Tryd.infoV) rfl ?_
    have s9 := gb_set5 (gb_refl w7 (some (w.heap.size + 1 + 1 + 1))) (g := w.heap.size + 1 + 1 + 1) (.inr rfl) (.int .i64 4) (.int .i64 m) (.string u) (.int .i64 y) (.slice (some ⟨g, 0, none⟩) N c3)
    have G9 := gb_fresh G7.out s9 (fun q hq => by have h : w.heap.size + 1 + 1 + 1 = q := Option.some.inj hq; omega)
    have O9 := own_kept HO9.out s9 (fun q hq h => by have h1 : w.heap.size + 1 + 1 + 1 = q := Option.some.inj hq; have := (HO9.out.lt q h).1; omega)
    exact ⟨_, c3, _, by rw [HDN.out], own_rowF (by rw [HDN.out]; exact O9) (HSub.out _ G9), G9⟩
end Go.Proofs.YtmbochhmeojmfaaDoor
