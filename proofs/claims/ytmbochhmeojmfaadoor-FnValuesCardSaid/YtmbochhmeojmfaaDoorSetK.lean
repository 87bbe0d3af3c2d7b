/- The walks of both SetKey (printed by gensetk.py). -/
import Derived.Test.YtmbochhmeojmfaaDoorPut
import Derived.Test.YtmbochhmeojmfaaDoorIsKey
namespace Go.Proofs.YtmbochhmeojmfaaDoor
set_option maxRecDepth 20000
open Go.RowKit
set_option linter.unusedVariables false
set_option linter.unusedSimpArgs false

theorem gb_of_belowS {w w1 w2 : World} {lo : Nat} (h1 : w.grownBy w1 none) (h2 : Below lo w1 w2) (hl : w.heap.size ≤ lo) : w.grownBy w2 none :=
  ⟨h2.os.trans h1.os, h2.tape.trans h1.tape, h2.output.trans h1.output, Nat.le_trans h1.size h2.size, fun k hk _ => (h2.block k (Nat.lt_of_lt_of_le hk hl)).trans (h1.block k hk (by simp))⟩
theorem HoldsT.belowT {w w1 : World} {g lo : Nat} {cs : Array Value} {ty : TypeId} (h : HoldsT w g cs ty) (hb : Below lo w w1) (hg : g < lo) : HoldsT w1 g cs ty := (hb.block g hg).trans h
theorem says_some (s : ByteArray) (lo hi : Int) : ∃ r b, Says s lo hi r b := by
  by_cases h : ∃ v, lo ≤ v ∧ v ≤ hi ∧ s = itoaB v
  · obtain ⟨v, h1, h2, h3⟩ := h
    exact ⟨v, true, .inl ⟨rfl, h1, h2, h3⟩⟩
  · exact ⟨0, false, .inr ⟨rfl, rfl, fun v h1 h2 h3 => h ⟨v, h1, h2, h3⟩⟩⟩
theorem isK_some (t : Bool) (n : Int) (s : ByteArray) : ∃ x, IsK t n s x := by
  cases t
  · exact ⟨_, .inl ⟨rfl, rfl⟩⟩
  · obtain ⟨r, b, h⟩ := says_some s (-1000000000) 1000000000
    exact ⟨_, .inr ⟨rfl, r, b, h, rfl⟩⟩
theorem IsK.bound {t : Bool} {n : Int} {s : ByteArray} (h : IsK t n s true) : -1000000000 ≤ n ∧ n ≤ 1000000000 := by
  rcases h with ⟨_, h⟩ | ⟨_, r, b, _, h⟩
  · have h2 := h.symm
    simp only [Bool.and_eq_true, decide_eq_true_eq] at h2
    exact h2.1
  · have h2 := h.symm
    simp only [Bool.and_eq_true, decide_eq_true_eq] at h2
    omega
/-- Whether SetKey takes a key. -/
def SetB (k : Int) (t : Bool) (p : Int) (s : ByteArray) (b : Bool) : Prop := (b = true ∧ k = 4 ∧ IsK t p s true) ∨ (b = false ∧ (k ≠ 4 ∨ (k = 4 ∧ IsK t p s false)))
theorem setB_some (k : Int) (t : Bool) (p : Int) (s : ByteArray) : ∃ b, SetB k t p s b := by
  by_cases h : k = 4
  · obtain ⟨x, hx⟩ := isK_some t p s
    cases x
    · exact ⟨false, .inr ⟨rfl, .inr ⟨h, hx⟩⟩⟩
    · exact ⟨true, .inl ⟨rfl, h, hx⟩⟩
  · exact ⟨false, .inr ⟨rfl, .inl h⟩⟩
set_option maxHeartbeats 4000000 in
theorem specSetKey_any (f xf : Forest) (t : Bool) (p : Int) (s : ByteArray) (w : World) (k m : Int) (u : ByteArray) (x : Int) (A : Option Addr) (c : Nat) (L : List Nat) (xk xm : Int) (xu : ByteArray) (xx : Int) (XA : Option Addr) (xc : Nat) (XL : List Nat) (b : Bool) (rx : Int) (D : Forest)
    (hb : SetB k t p s b) (hD : PutIs b k x f t p s xk xm xu xx xf rx D) (hs : s.size ≤ 1048576) (hr : RowF w f A 0 f.len L) (h0 : A = none → c = 0) (hfz : f.size ≤ 1048576) (hx : RowF w xf XA 0 xf.len XL) (hx0 : XA = none → xc = 0) (hxz : xf.size ≤ 1048576) :
    Calls Tryd.prog 23 #[.agg #[.int .i64 k, .int .i64 m, .string u, .int .i64 x, .slice A f.len c], .agg #[.bool t, .int .i64 p, .string s], .agg #[.int .i64 xk, .int .i64 xm, .string xu, .int .i64 xx, .slice XA xf.len xc]] w (PairPost w k m u rx D b) := by
  have HR := hid hr
  have HXR := hid hx
  have HX0 := hid hx0
  have H0 := hid h0
  have HSZ := hid hs
  have hDz : D.size ≤ 4194304 := by have := hD.size; omega
  have HDD := hid hD
  clear hr hx hx0 h0 hD hs
  have HV := hid ((((HoldsT.new w #[.int .i64 k, .int .i64 m, .string u, .int .i64 x, .slice A f.len c] 26).alloc (.cells #[.bool t, .int .i64 p, .string s] 33)).alloc (.cells #[.int .i64 xk, .int .i64 xm, .string xu, .int .i64 xx, .slice XA xf.len xc] 26)).alloc (.cells #[.int .i64 0, .int .i64 0, .string { data := #[] }, .int .i64 0, .slice none 0 0] 26))
  have HK := hid (show HoldsT ((((w.alloc (.cells #[.int .i64 k, .int .i64 m, .string u, .int .i64 x, .slice A f.len c] 26)).alloc (.cells #[.bool t, .int .i64 p, .string s] 33)).alloc (.cells #[.int .i64 xk, .int .i64 xm, .string xu, .int .i64 xx, .slice XA xf.len xc] 26)).alloc (.cells #[.int .i64 0, .int .i64 0, .string { data := #[] }, .int .i64 0, .slice none 0 0] 26)) (w.heap.size + 1) #[.bool t, .int .i64 p, .string s] 33 by simpa using ((HoldsT.new (w.alloc (.cells #[.int .i64 k, .int .i64 m, .string u, .int .i64 x, .slice A f.len c] 26)) #[.bool t, .int .i64 p, .string s] 33).alloc (.cells #[.int .i64 xk, .int .i64 xm, .string xu, .int .i64 xx, .slice XA xf.len xc] 26)).alloc (.cells #[.int .i64 0, .int .i64 0, .string { data := #[] }, .int .i64 0, .slice none 0 0] 26))
  have HX := hid (show HoldsT ((((w.alloc (.cells #[.int .i64 k, .int .i64 m, .string u, .int .i64 x, .slice A f.len c] 26)).alloc (.cells #[.bool t, .int .i64 p, .string s] 33)).alloc (.cells #[.int .i64 xk, .int .i64 xm, .string xu, .int .i64 xx, .slice XA xf.len xc] 26)).alloc (.cells #[.int .i64 0, .int .i64 0, .string { data := #[] }, .int .i64 0, .slice none 0 0] 26)) (w.heap.size + 1 + 1) #[.int .i64 xk, .int .i64 xm, .string xu, .int .i64 xx, .slice XA xf.len xc] 26 by simpa using (HoldsT.new ((w.alloc (.cells #[.int .i64 k, .int .i64 m, .string u, .int .i64 x, .slice A f.len c] 26)).alloc (.cells #[.bool t, .int .i64 p, .string s] 33)) #[.int .i64 xk, .int .i64 xm, .string xu, .int .i64 xx, .slice XA xf.len xc] 26).alloc (.cells #[.int .i64 0, .int .i64 0, .string { data := #[] }, .int .i64 0, .slice none 0 0] 26))
  have HZ := hid (show HoldsT ((((w.alloc (.cells #[.int .i64 k, .int .i64 m, .string u, .int .i64 x, .slice A f.len c] 26)).alloc (.cells #[.bool t, .int .i64 p, .string s] 33)).alloc (.cells #[.int .i64 xk, .int .i64 xm, .string xu, .int .i64 xx, .slice XA xf.len xc] 26)).alloc (.cells #[.int .i64 0, .int .i64 0, .string { data := #[] }, .int .i64 0, .slice none 0 0] 26)) (w.heap.size + 1 + 1 + 1) #[.int .i64 0, .int .i64 0, .string { data := #[] }, .int .i64 0, .slice none 0 0] 26 by simpa using HoldsT.new (((w.alloc (.cells #[.int .i64 k, .int .i64 m, .string u, .int .i64 x, .slice A f.len c] 26)).alloc (.cells #[.bool t, .int .i64 p, .string s] 33)).alloc (.cells #[.int .i64 xk, .int .i64 xm, .string xu, .int .i64 xx, .slice XA xf.len xc] 26)) #[.int .i64 0, .int .i64 0, .string { data := #[] }, .int .i64 0, .slice none 0 0] 26)
  have G0 := hid (gb_alloc (gb_alloc (gb_alloc (gb_alloc (gb_refl w none) (.cells #[.int .i64 k, .int .i64 m, .string u, .int .i64 x, .slice A f.len c] 26)) (.cells #[.bool t, .int .i64 p, .string s] 33)) (.cells #[.int .i64 xk, .int .i64 xm, .string xu, .int .i64 xx, .slice XA xf.len xc] 26)) (.cells #[.int .i64 0, .int .i64 0, .string { data := #[] }, .int .i64 0, .slice none 0 0] 26))
  have key : ∀ (Q : Prop), (k = 4 ∧ IsK t p s true ∧ b = true → Q) → (k ≠ 4 ∧ b = false → Q) → (k = 4 ∧ IsK t p s false ∧ b = false → Q) → Q := fun Q h1 h2 h3 => by
    rcases hb with ⟨a1, a2, a3⟩ | ⟨a1, a2 | ⟨a2, a3⟩⟩
    · exact h1 ⟨a2, a3, a1⟩
    · exact h2 ⟨a2, a1⟩
    · exact h3 ⟨a2, a3, a1⟩
  apply key
  all_goals clear key hb
  · rintro ⟨rfl, hk, rfl⟩
    rcases HDD.out with ⟨_, _, h1, h2⟩ | ⟨h1, _⟩
    · subst h1 h2
      have HI := hid hk
      clear HDD hk
      go_enter Tryd.func23, Tryd.ntmps23
      go_wp2_with fail
      refine (specIsKey t p s _ HSZ.out).mono ?_
      rintro e w1 ⟨bb, rfl, hI, hg⟩
      obtain rfl : bb = true := hI.unique HI.out
      have HV1 := hid (HV.out.grow hg)
      have HK1 := hid (HK.out.grow hg)
      have HX1 := hid (HX.out.grow hg)
      have HZ1 := hid (HZ.out.grow hg)
      have G1 := hid (gb_trans G0.out hg)
      obtain ⟨a0, a1, a2, a3, a4⟩ := HV1.out.cells5
      obtain ⟨d0, d1, d2⟩ := HK1.out.cells3
      obtain ⟨x0, x1, x2, x3, x4⟩ := HX1.out.cells5
      have la := HV1.out.lt
      have ld := HK1.out.lt
      have lx := HX1.out.lt
      clear hI hg
      go_wp2_with fail
      refine (specSet_any f xf t p s HI.out.bound _ m u x A c L xk xm xu xx XA xc XL (HR.out.grow G1.out) H0.out hfz (HXR.out.grow G1.out) HX0.out).mono ?_
      rintro e w3 ⟨A1, c1, L1, rfl, hr1, hg⟩
      have HZ3 := hid (HZ1.out.grow hg)
      have G3 := hid (gb_trans G1.out hg)
      have hb1 : w.heap.size + 4 ≤ w3.heap.size := by have := HZ3.out.lt; omega
      have HB1 := hid hb1
      clear hg hb1 a0 a1 a2 a3 a4 d0 d1 d2 x0 x1 x2 x3 x4 la ld lx
      go_wp2_with fail
      refine (specCopy_any _ _ 4 m u _ A1 c1 L1 hr1 hDz).mono ?_
      rintro e w2 ⟨A2, c2, L2, rfl, _, hT, hg⟩
      have HZ2 := hid (HZ3.out.grow hg)
      have HT2 := hid hT
      have G2 := hid (gb_trans G3.out hg)
      clear hT hg hr1
      obtain ⟨r0, r1, r2, r3, r4⟩ := HZ2.out.cells5
      have y0 := HZ2.out.frozen 0; have y1 := HZ2.out.frozen 1; have y2 := HZ2.out.frozen 2; have y3 := HZ2.out.frozen 3; have y4 := HZ2.out.frozen 4
      have lz := HZ2.out.lt
      go_wp2_with fail
      refine bodyPost_ret (results_cell_row2 rfl _ _ _ _ _ (0, 0) _ rfl (.bool true) rfl (HZ2.out.set5 _ _ _ _ _) Tryd.underlying26 rfl Tryd.infoV) rfl ?_
      have h9 := HB1.out
      have hT3 := HT2.out.mono (lo' := w.heap.size + 4) (by omega)
      exact ⟨A2, c2, L2, rfl, HT2.out.nil0, (hT3.low (g := w.heap.size + 1 + 1 + 1) (gb_set5 (gb_refl _ _) (.inr rfl) _ _ _ _ _) (by omega)).mono (lo' := w.heap.size) (by omega), gb_set5 G2.out (.inl (by omega)) _ _ _ _ _⟩
    · cases h1
  · rintro ⟨hk4, rfl⟩
    rcases HDD.out with ⟨h1, _⟩ | ⟨_, h1, h2⟩
    · cases h1
    · subst h1 h2
      clear HDD
      have hk5 : (k != 4) = true := by simpa using hk4
      have hk6 : (k == 4) = false := by simpa using hk4
      have HZ1 := HZ
      have G1 := G0
      have hb1 : Hid (w.heap.size + 4 ≤ ((((w.alloc (.cells #[.int .i64 k, .int .i64 m, .string u, .int .i64 rx, .slice A D.len c] 26)).alloc (.cells #[.bool t, .int .i64 p, .string s] 33)).alloc (.cells #[.int .i64 xk, .int .i64 xm, .string xu, .int .i64 xx, .slice XA xf.len xc] 26)).alloc (.cells #[.int .i64 0, .int .i64 0, .string { data := #[] }, .int .i64 0, .slice none 0 0] 26)).heap.size) := hid (by simp)
      clear hk4
      go_enter Tryd.func23, Tryd.ntmps23
      go_wp2_with fail
      refine (specCopy_any D _ _ m u rx A c L (HR.out.grow G1.out) hDz).mono ?_
      rintro e w2 ⟨A2, c2, L2, rfl, _, hT, hg⟩
      have HZ2 := hid (HZ1.out.grow hg)
      have HT2 := hid (hT.mono (lo' := w.heap.size + 4) hb1.out)
      have G2 := hid (gb_trans G1.out hg)
      clear hT hg
      obtain ⟨r0, r1, r2, r3, r4⟩ := HZ2.out.cells5
      have y0 := HZ2.out.frozen 0; have y1 := HZ2.out.frozen 1; have y2 := HZ2.out.frozen 2; have y3 := HZ2.out.frozen 3; have y4 := HZ2.out.frozen 4
      have lz := HZ2.out.lt
      go_wp2_with fail
      refine bodyPost_ret (results_cell_row2 rfl _ _ _ _ _ (0, 0) _ rfl (.bool false) rfl (HZ2.out.set5 _ _ _ _ _) Tryd.underlying26 rfl Tryd.infoV) rfl ?_
      exact ⟨A2, c2, L2, rfl, HT2.out.nil0, (HT2.out.low (g := w.heap.size + 1 + 1 + 1) (gb_set5 (gb_refl _ _) (.inr rfl) _ _ _ _ _) (by omega)).mono (lo' := w.heap.size) (by omega), gb_set5 G2.out (.inl (by omega)) _ _ _ _ _⟩
  · rintro ⟨rfl, hk, rfl⟩
    rcases HDD.out with ⟨h1, _⟩ | ⟨_, h1, h2⟩
    · cases h1
    · subst h1 h2
      have HI := hid hk
      clear HDD hk
      go_enter Tryd.func23, Tryd.ntmps23
      go_wp2_with fail
      refine (specIsKey t p s _ HSZ.out).mono ?_
      rintro e w1 ⟨bb, rfl, hI, hg⟩
      obtain rfl : bb = false := hI.unique HI.out
      have HV1 := hid (HV.out.grow hg)
      have HZ1 := hid (HZ.out.grow hg)
      have G1 := hid (gb_trans G0.out hg)
      have hb1 : Hid (w.heap.size + 4 ≤ w1.heap.size) := hid (by have := HZ1.out.lt; omega)
      obtain ⟨a0, a1, a2, a3, a4⟩ := HV1.out.cells5
      have la := HV1.out.lt
      clear hI hg
      go_wp2_with fail
      refine (specCopy_any D _ _ m u rx A c L (HR.out.grow G1.out) hDz).mono ?_
      rintro e w2 ⟨A2, c2, L2, rfl, _, hT, hg⟩
      have HZ2 := hid (HZ1.out.grow hg)
      have HT2 := hid (hT.mono (lo' := w.heap.size + 4) hb1.out)
      have G2 := hid (gb_trans G1.out hg)
      clear hT hg
      obtain ⟨r0, r1, r2, r3, r4⟩ := HZ2.out.cells5
      have y0 := HZ2.out.frozen 0; have y1 := HZ2.out.frozen 1; have y2 := HZ2.out.frozen 2; have y3 := HZ2.out.frozen 3; have y4 := HZ2.out.frozen 4
      have lz := HZ2.out.lt
      go_wp2_with fail
      refine bodyPost_ret (results_cell_row2 rfl _ _ _ _ _ (0, 0) _ rfl (.bool false) rfl (HZ2.out.set5 _ _ _ _ _) Tryd.underlying26 rfl Tryd.infoV) rfl ?_
      exact ⟨A2, c2, L2, rfl, HT2.out.nil0, (HT2.out.low (g := w.heap.size + 1 + 1 + 1) (gb_set5 (gb_refl _ _) (.inr rfl) _ _ _ _ _) (by omega)).mono (lo' := w.heap.size) (by omega), gb_set5 G2.out (.inl (by omega)) _ _ _ _ _⟩
set_option maxHeartbeats 4000000 in
theorem implSetKey_any (f xf : Forest) (t : Bool) (p : Int) (s : ByteArray) (w : World) (k m : Int) (u : ByteArray) (x : Int) (A : Option Addr) (c : Nat) (L : List Nat) (xk xm : Int) (xu : ByteArray) (xx : Int) (XA : Option Addr) (xc : Nat) (XL : List Nat) (b : Bool) (rx : Int) (D : Forest)
    (hb : SetB k t p s b) (hD : PutIs b k x f t p s xk xm xu xx xf rx D) (hs : s.size ≤ 1048576) (hr : RowF w f A 0 f.len L) (hfz : f.size ≤ 1048576) (hx : RowF w xf XA 0 xf.len XL) (hxz : xf.size ≤ 1048576) (hL : LaidW w) :
    Calls Tryd.prog 25 #[.agg #[.int .i64 k, .int .i64 m, .string u, .int .i64 x, .slice A f.len c], .agg #[.bool t, .int .i64 p, .string s], .agg #[.int .i64 xk, .int .i64 xm, .string xu, .int .i64 xx, .slice XA xf.len xc]] w (PairPost w k m u rx D b) := by
  have HR := hid hr
  have HXR := hid hx
  have HSZ := hid hs
  have HL := hid hL
  have HDD := hid hD
  clear hr hx hD hs hL
  have HV := hid ((((HoldsT.new w #[.int .i64 k, .int .i64 m, .string u, .int .i64 x, .slice A f.len c] 26).alloc (.cells #[.bool t, .int .i64 p, .string s] 33)).alloc (.cells #[.int .i64 xk, .int .i64 xm, .string xu, .int .i64 xx, .slice XA xf.len xc] 26)).alloc (.cells #[.int .i64 0, .int .i64 0, .string { data := #[] }, .int .i64 0, .slice none 0 0] 26))
  have HK := hid (show HoldsT ((((w.alloc (.cells #[.int .i64 k, .int .i64 m, .string u, .int .i64 x, .slice A f.len c] 26)).alloc (.cells #[.bool t, .int .i64 p, .string s] 33)).alloc (.cells #[.int .i64 xk, .int .i64 xm, .string xu, .int .i64 xx, .slice XA xf.len xc] 26)).alloc (.cells #[.int .i64 0, .int .i64 0, .string { data := #[] }, .int .i64 0, .slice none 0 0] 26)) (w.heap.size + 1) #[.bool t, .int .i64 p, .string s] 33 by simpa using ((HoldsT.new (w.alloc (.cells #[.int .i64 k, .int .i64 m, .string u, .int .i64 x, .slice A f.len c] 26)) #[.bool t, .int .i64 p, .string s] 33).alloc (.cells #[.int .i64 xk, .int .i64 xm, .string xu, .int .i64 xx, .slice XA xf.len xc] 26)).alloc (.cells #[.int .i64 0, .int .i64 0, .string { data := #[] }, .int .i64 0, .slice none 0 0] 26))
  have HX := hid (show HoldsT ((((w.alloc (.cells #[.int .i64 k, .int .i64 m, .string u, .int .i64 x, .slice A f.len c] 26)).alloc (.cells #[.bool t, .int .i64 p, .string s] 33)).alloc (.cells #[.int .i64 xk, .int .i64 xm, .string xu, .int .i64 xx, .slice XA xf.len xc] 26)).alloc (.cells #[.int .i64 0, .int .i64 0, .string { data := #[] }, .int .i64 0, .slice none 0 0] 26)) (w.heap.size + 1 + 1) #[.int .i64 xk, .int .i64 xm, .string xu, .int .i64 xx, .slice XA xf.len xc] 26 by simpa using (HoldsT.new ((w.alloc (.cells #[.int .i64 k, .int .i64 m, .string u, .int .i64 x, .slice A f.len c] 26)).alloc (.cells #[.bool t, .int .i64 p, .string s] 33)) #[.int .i64 xk, .int .i64 xm, .string xu, .int .i64 xx, .slice XA xf.len xc] 26).alloc (.cells #[.int .i64 0, .int .i64 0, .string { data := #[] }, .int .i64 0, .slice none 0 0] 26))
  have HZ := hid (show HoldsT ((((w.alloc (.cells #[.int .i64 k, .int .i64 m, .string u, .int .i64 x, .slice A f.len c] 26)).alloc (.cells #[.bool t, .int .i64 p, .string s] 33)).alloc (.cells #[.int .i64 xk, .int .i64 xm, .string xu, .int .i64 xx, .slice XA xf.len xc] 26)).alloc (.cells #[.int .i64 0, .int .i64 0, .string { data := #[] }, .int .i64 0, .slice none 0 0] 26)) (w.heap.size + 1 + 1 + 1) #[.int .i64 0, .int .i64 0, .string { data := #[] }, .int .i64 0, .slice none 0 0] 26 by simpa using HoldsT.new (((w.alloc (.cells #[.int .i64 k, .int .i64 m, .string u, .int .i64 x, .slice A f.len c] 26)).alloc (.cells #[.bool t, .int .i64 p, .string s] 33)).alloc (.cells #[.int .i64 xk, .int .i64 xm, .string xu, .int .i64 xx, .slice XA xf.len xc] 26)) #[.int .i64 0, .int .i64 0, .string { data := #[] }, .int .i64 0, .slice none 0 0] 26)
  have G0 := hid (gb_alloc (gb_alloc (gb_alloc (gb_alloc (gb_refl w none) (.cells #[.int .i64 k, .int .i64 m, .string u, .int .i64 x, .slice A f.len c] 26)) (.cells #[.bool t, .int .i64 p, .string s] 33)) (.cells #[.int .i64 xk, .int .i64 xm, .string xu, .int .i64 xx, .slice XA xf.len xc] 26)) (.cells #[.int .i64 0, .int .i64 0, .string { data := #[] }, .int .i64 0, .slice none 0 0] 26))
  have key : ∀ (Q : Prop), (k = 4 ∧ IsK t p s true ∧ b = true → Q) → (k ≠ 4 ∧ b = false → Q) → (k = 4 ∧ IsK t p s false ∧ b = false → Q) → Q := fun Q h1 h2 h3 => by
    rcases hb with ⟨a1, a2, a3⟩ | ⟨a1, a2 | ⟨a2, a3⟩⟩
    · exact h1 ⟨a2, a3, a1⟩
    · exact h2 ⟨a2, a1⟩
    · exact h3 ⟨a2, a3, a1⟩
  apply key
  all_goals clear key hb
  · rintro ⟨rfl, hk, rfl⟩
    rcases HDD.out with ⟨_, _, h1, h2⟩ | ⟨h1, _⟩
    · subst h1 h2
      have HI := hid hk
      clear HDD hk
      go_enter Tryd.func25, Tryd.ntmps25
      go_wp2_with fail
      refine (implCopy_any f _ _ m u x A c L (HR.out.grow G0.out) (by omega)).mono ?_
      rintro e w1 ⟨A1, c1, L1, rfl, _, hT0, hg⟩
      have hT : Rw w1 35 (w.heap.size + 4) f A1 c1 L1 := hT0.mono (by simp)
      have HTL := hid (show ∀ b ∈ blk A1 ++ L1, b < w1.heap.size from hT.own.2.lt)
      have HV1 := hid ((HV.out.grow hg).alloc (.cells #[.int .i64 4, .int .i64 m, .string u, .int .i64 x, .slice A1 f.len c1] 26))
      have HK1 := hid ((HK.out.grow hg).alloc (.cells #[.int .i64 4, .int .i64 m, .string u, .int .i64 x, .slice A1 f.len c1] 26))
      have HX1 := hid ((HX.out.grow hg).alloc (.cells #[.int .i64 4, .int .i64 m, .string u, .int .i64 x, .slice A1 f.len c1] 26))
      have HZ1 := hid ((HZ.out.grow hg).alloc (.cells #[.int .i64 4, .int .i64 m, .string u, .int .i64 x, .slice A1 f.len c1] 26))
      have HO1 := hid (HoldsT.new w1 #[.int .i64 4, .int .i64 m, .string u, .int .i64 x, .slice A1 f.len c1] 26)
      have HT1 := hid (hT.grow (gb_alloc (gb_refl w1 none) (.cells #[.int .i64 4, .int .i64 m, .string u, .int .i64 x, .slice A1 f.len c1] 26)))
      have G1 := hid (gb_alloc (gb_trans G0.out hg) (.cells #[.int .i64 4, .int .i64 m, .string u, .int .i64 x, .slice A1 f.len c1] 26))
      have hb1 : w.heap.size + 4 ≤ w1.heap.size := by have := hg.size; simpa using this
      have HB1 := hid hb1
      obtain ⟨a0, a1, a2, a3, a4⟩ := HV1.out.cells5
      obtain ⟨d0, d1, d2⟩ := HK1.out.cells3
      have la := HV1.out.lt
      have ld := HK1.out.lt
      clear hT hT0 hg hb1
      go_wp2_with fail
      refine (implIsKey t p s _ HSZ.out (HL.out.grow G1.out)).mono ?_
      rintro e w3 ⟨bb, rfl, hI, hg⟩
      obtain rfl : bb = true := hI.unique HI.out
      have HK3 := hid (HK1.out.grow hg)
      have HX3 := hid (HX1.out.grow hg)
      have HZ3 := hid (HZ1.out.grow hg)
      have HO3 := hid (HO1.out.grow hg)
      have HT3 := hid (HT1.out.grow hg)
      have G3 := hid (gb_trans G1.out hg)
      clear a0 a1 a2 a3 a4 la d0 d1 d2 ld hI hg
      go_wp2_with fail
      refine wp_region_F 3 4 rfl (by kernel_rfl) (fun wd w' => wd.grownBy w' none) fun wd gd => ?_
      have KD := hid (HK3.out.grow gd)
      have XD := hid (HX3.out.grow gd)
      have ZD := hid (HZ3.out.grow gd)
      have OD := hid (HO3.out.grow gd)
      have TD := hid (HT3.out.grow gd)
      have GD := hid (gb_trans G3.out gd)
      have g0 : wd.grownBy wd none := gb_refl _ _
      clear gd
      refine F_load 0 rfl (some 20) rfl (by kernel_rfl) (by kernel_rfl) (by kernel_rfl) (by kernel_rfl) (by kernel_rfl) (fun _ _ _ _ h => h) rfl 33 (.tmp 4) rfl (w.heap.size + 1) 0 rfl [.bool t, .int .i64 p, .string s] (fun w' hw => (KD.out.grow hw).rangeV) Tryd.underlying33 rfl Tryd.infoK g0 ?_
      simp only [Act.put, List.setIfInBounds_toArray, List.set_cons_succ, List.set_cons_zero]
      refine F_load 1 rfl (some 21) rfl (by kernel_rfl) (by kernel_rfl) (by kernel_rfl) (by kernel_rfl) (by kernel_rfl) (fun _ _ _ _ h => h) rfl 26 (.tmp 5) rfl (w.heap.size + 1 + 1) 0 rfl [.int .i64 xk, .int .i64 xm, .string xu, .int .i64 xx, .slice XA xf.len xc] (fun w' hw => (XD.out.grow hw).rangeV) Tryd.underlying26 rfl Tryd.infoV g0 ?_
      simp only [Act.put, List.setIfInBounds_toArray, List.set_cons_succ, List.set_cons_zero]
      refine F_only 2 (by kernel_rfl) (E_call 2 rfl (some 22) rfl rfl 46 _ (run_call1 _ (by kernel_rfl) (.tmp 21) _ (.agg #[.int .i64 xk, .int .i64 xm, .string xu, .int .i64 xx, .slice XA xf.len xc]) rfl rfl) (implCopy_any xf wd xk xm xu xx XA xc XL (HXR.out.grow GD.out) (by omega)) ?_)
      rintro e w4 ⟨A4, c4, L4, rfl, h40, hT4, hg4⟩
      refine ⟨_, rfl, fun _ => hg4, ?_⟩
      simp only [Act.put, List.setIfInBounds_toArray, List.set_cons_succ, List.set_cons_zero]
      have hO4 := OD.out.grow hg4
      have hT4b : Rw w4 35 (w.heap.size + 4) f A1 c1 L1 := TD.out.grow hg4
      have hlt : ∀ b ∈ blk A1 ++ L1, b < w1.heap.size := HTL.out
      have h3s : w1.heap.size < wd.heap.size := OD.out.lt
      have hX4 : OwnT w4 35 (w.heap.size + 4) xf A4 L4 := hT4.own.mono (by have := HB1.out; omega)
      have hxlo : ∀ b ∈ blk A4 ++ L4, wd.heap.size ≤ b := fun b hb => (hT4.own.2.2 b hb).1
      refine F_only 3 (by kernel_rfl) (E_call 3 rfl (some 23) rfl rfl 48 _ (run_call3 _ (by kernel_rfl) (.tmp 8) (.tmp 20) (.tmp 22) _ (.pointer (some ⟨w1.heap.size, 0, none⟩)) (.agg #[.bool t, .int .i64 p, .string s]) (.agg #[.int .i64 xk, .int .i64 xm, .string xu, .int .i64 xx, .slice A4 xf.len c4]) rfl rfl rfl rfl)
        (implPut_any f xf t p s HI.out.bound w4 m u x A1 c1 L1 xk xm xu xx A4 c4 L4 (w.heap.size + 4) w1.heap.size hO4 HB1.out hT4b (fun hm => Nat.lt_irrefl _ (hlt _ hm)) hX4 h40 (fun b hb => ⟨fun hm => by have := hlt b hm; have := hxlo b hb; omega, fun e => by have := hxlo b hb; omega⟩) hfz) ?_)
      rintro e w5 ⟨A5, c5, L5, rfl, hV5, hT5, hb5⟩
      refine ⟨_, rfl, fun h => absurd h (by omega), ?_⟩
      refine F_done (by kernel_rfl) ?_ _
      simp only [Act.put, List.setIfInBounds_toArray, List.set_cons_succ, List.set_cons_zero]
      have HZ5 := hid ((ZD.out.grow hg4).belowT hb5 (by omega))
      have HV5 := hid hV5
      have HT5 := hid hT5
      have G5 := hid (gb_of_belowS (gb_trans GD.out hg4) hb5 (by omega))
      clear hO4 hT4b hlt h3s hX4 hxlo hV5 hT5 hb5 hg4 hT4 h40 g0
      obtain ⟨b0, b1, b2, b3, b4⟩ := HV5.out.cells5
      obtain ⟨r0, r1, r2, r3, r4⟩ := HZ5.out.cells5
      have y0 := HZ5.out.frozen 0; have y1 := HZ5.out.frozen 1; have y2 := HZ5.out.frozen 2; have y3 := HZ5.out.frozen 3; have y4 := HZ5.out.frozen 4
      have lz := HZ5.out.lt
      have lx := HV5.out.lt
      go_wp2_with fail
      refine bodyPost_ret (results_cell_row2 rfl _ _ _ _ _ (0, 0) _ rfl (.bool true) rfl (HZ5.out.set5 _ _ _ _ _) Tryd.underlying26 rfl Tryd.infoV) rfl ?_
      exact ⟨A5, c5, L5, rfl, HT5.out.nil0, (HT5.out.low (g := w.heap.size + 1 + 1 + 1) (gb_set5 (gb_refl _ _) (.inr rfl) _ _ _ _ _) (by omega)).mono (lo' := w.heap.size) (by omega), gb_set5 G5.out (.inl (by omega)) _ _ _ _ _⟩
    · cases h1
  · rintro ⟨hk4, rfl⟩
    rcases HDD.out with ⟨h1, _⟩ | ⟨_, h1, h2⟩
    · cases h1
    · subst h1 h2
      clear HDD
      have hk5 : (k != 4) = true := by simpa using hk4
      have hk6 : (k == 4) = false := by simpa using hk4
      clear hk4
      go_enter Tryd.func25, Tryd.ntmps25
      go_wp2_with fail
      refine (implCopy_any D _ _ m u rx A c L (HR.out.grow G0.out) (by omega)).mono ?_
      rintro e w1 ⟨A1, c1, L1, rfl, _, hT0, hg⟩
      have hT : Rw w1 35 (w.heap.size + 4) D A1 c1 L1 := hT0.mono (by simp)
      have HTL := hid (show ∀ b ∈ blk A1 ++ L1, b < w1.heap.size from hT.own.2.lt)
      have HV1 := hid ((HV.out.grow hg).alloc (.cells #[.int .i64 k, .int .i64 m, .string u, .int .i64 rx, .slice A1 D.len c1] 26))
      have HK1 := hid ((HK.out.grow hg).alloc (.cells #[.int .i64 k, .int .i64 m, .string u, .int .i64 rx, .slice A1 D.len c1] 26))
      have HX1 := hid ((HX.out.grow hg).alloc (.cells #[.int .i64 k, .int .i64 m, .string u, .int .i64 rx, .slice A1 D.len c1] 26))
      have HZ1 := hid ((HZ.out.grow hg).alloc (.cells #[.int .i64 k, .int .i64 m, .string u, .int .i64 rx, .slice A1 D.len c1] 26))
      have HO1 := hid (HoldsT.new w1 #[.int .i64 k, .int .i64 m, .string u, .int .i64 rx, .slice A1 D.len c1] 26)
      have HT1 := hid (hT.grow (gb_alloc (gb_refl w1 none) (.cells #[.int .i64 k, .int .i64 m, .string u, .int .i64 rx, .slice A1 D.len c1] 26)))
      have G1 := hid (gb_alloc (gb_trans G0.out hg) (.cells #[.int .i64 k, .int .i64 m, .string u, .int .i64 rx, .slice A1 D.len c1] 26))
      have hb1 : w.heap.size + 4 ≤ w1.heap.size := by have := hg.size; simpa using this
      have HB1 := hid hb1
      obtain ⟨a0, a1, a2, a3, a4⟩ := HV1.out.cells5
      obtain ⟨d0, d1, d2⟩ := HK1.out.cells3
      have la := HV1.out.lt
      have ld := HK1.out.lt
      clear hT hT0 hg hb1
      obtain ⟨b0, b1, b2, b3, b4⟩ := HO1.out.cells5
      obtain ⟨r0, r1, r2, r3, r4⟩ := HZ1.out.cells5
      have y0 := HZ1.out.frozen 0; have y1 := HZ1.out.frozen 1; have y2 := HZ1.out.frozen 2; have y3 := HZ1.out.frozen 3; have y4 := HZ1.out.frozen 4
      have lz := HZ1.out.lt
      have lx := HO1.out.lt
      go_wp2_with fail
      have HZ9 := HZ1
      have HT9 := HT1
      have G9 := G1
      refine bodyPost_ret (results_cell_row2 rfl _ _ _ _ _ (0, 0) _ rfl (.bool false) rfl (HZ9.out.set5 _ _ _ _ _) Tryd.underlying26 rfl Tryd.infoV) rfl ?_
      exact ⟨A1, c1, L1, rfl, HT9.out.nil0, (HT9.out.low (g := w.heap.size + 1 + 1 + 1) (gb_set5 (gb_refl _ _) (.inr rfl) _ _ _ _ _) (by omega)).mono (lo' := w.heap.size) (by omega), gb_set5 G9.out (.inl (by omega)) _ _ _ _ _⟩
  · rintro ⟨rfl, hk, rfl⟩
    rcases HDD.out with ⟨h1, _⟩ | ⟨_, h1, h2⟩
    · cases h1
    · subst h1 h2
      have HI := hid hk
      clear HDD hk
      go_enter Tryd.func25, Tryd.ntmps25
      go_wp2_with fail
      refine (implCopy_any D _ _ m u rx A c L (HR.out.grow G0.out) (by omega)).mono ?_
      rintro e w1 ⟨A1, c1, L1, rfl, _, hT0, hg⟩
      have hT : Rw w1 35 (w.heap.size + 4) D A1 c1 L1 := hT0.mono (by simp)
      have HTL := hid (show ∀ b ∈ blk A1 ++ L1, b < w1.heap.size from hT.own.2.lt)
      have HV1 := hid ((HV.out.grow hg).alloc (.cells #[.int .i64 4, .int .i64 m, .string u, .int .i64 rx, .slice A1 D.len c1] 26))
      have HK1 := hid ((HK.out.grow hg).alloc (.cells #[.int .i64 4, .int .i64 m, .string u, .int .i64 rx, .slice A1 D.len c1] 26))
      have HX1 := hid ((HX.out.grow hg).alloc (.cells #[.int .i64 4, .int .i64 m, .string u, .int .i64 rx, .slice A1 D.len c1] 26))
      have HZ1 := hid ((HZ.out.grow hg).alloc (.cells #[.int .i64 4, .int .i64 m, .string u, .int .i64 rx, .slice A1 D.len c1] 26))
      have HO1 := hid (HoldsT.new w1 #[.int .i64 4, .int .i64 m, .string u, .int .i64 rx, .slice A1 D.len c1] 26)
      have HT1 := hid (hT.grow (gb_alloc (gb_refl w1 none) (.cells #[.int .i64 4, .int .i64 m, .string u, .int .i64 rx, .slice A1 D.len c1] 26)))
      have G1 := hid (gb_alloc (gb_trans G0.out hg) (.cells #[.int .i64 4, .int .i64 m, .string u, .int .i64 rx, .slice A1 D.len c1] 26))
      have hb1 : w.heap.size + 4 ≤ w1.heap.size := by have := hg.size; simpa using this
      have HB1 := hid hb1
      obtain ⟨a0, a1, a2, a3, a4⟩ := HV1.out.cells5
      obtain ⟨d0, d1, d2⟩ := HK1.out.cells3
      have la := HV1.out.lt
      have ld := HK1.out.lt
      clear hT hT0 hg hb1
      go_wp2_with fail
      refine (implIsKey t p s _ HSZ.out (HL.out.grow G1.out)).mono ?_
      rintro e w3 ⟨bb, rfl, hI, hg⟩
      obtain rfl : bb = false := hI.unique HI.out
      have HZ9 := hid (HZ1.out.grow hg)
      have HO9 := hid (HO1.out.grow hg)
      have HT9 := hid (HT1.out.grow hg)
      have G9 := hid (gb_trans G1.out hg)
      clear a0 a1 a2 a3 a4 la d0 d1 d2 ld hI hg
      obtain ⟨b0, b1, b2, b3, b4⟩ := HO9.out.cells5
      obtain ⟨r0, r1, r2, r3, r4⟩ := HZ9.out.cells5
      have y0 := HZ9.out.frozen 0; have y1 := HZ9.out.frozen 1; have y2 := HZ9.out.frozen 2; have y3 := HZ9.out.frozen 3; have y4 := HZ9.out.frozen 4
      have lz := HZ9.out.lt
      have lx := HO9.out.lt
      go_wp2_with fail
      refine bodyPost_ret (results_cell_row2 rfl _ _ _ _ _ (0, 0) _ rfl (.bool false) rfl (HZ9.out.set5 _ _ _ _ _) Tryd.underlying26 rfl Tryd.infoV) rfl ?_
      exact ⟨A1, c1, L1, rfl, HT9.out.nil0, (HT9.out.low (g := w.heap.size + 1 + 1 + 1) (gb_set5 (gb_refl _ _) (.inr rfl) _ _ _ _ _) (by omega)).mono (lo' := w.heap.size) (by omega), gb_set5 G9.out (.inl (by omega)) _ _ _ _ _⟩
end Go.Proofs.YtmbochhmeojmfaaDoor
