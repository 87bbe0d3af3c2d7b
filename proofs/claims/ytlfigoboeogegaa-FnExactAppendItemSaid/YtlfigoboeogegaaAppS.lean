/- The walk of the reference's AppendItem (printed by genapp.py). -/
import Derived.Test.YtlfigoboeogegaaSet
import Derived.Test.YtlfigoboeogegaaGet
import Derived.Test.YtlfigoboeogegaaL1In
namespace Go.Proofs.Ytlfigoboeogegaa
open Go.RowKit
set_option linter.unusedVariables false

/-- What a put gives, or a copy where it is refused. -/
def PutIs (b : Bool) (k x : Int) (f : Forest) (t : Bool) (p : Int) (s : ByteArray) (xk xm : Int) (xu : ByteArray) (xx : Int) (xf : Forest) (rx : Int) (D : Forest) : Prop :=
  (b = true ∧ k = 4 ∧ D = f.put t p s xk xm xu xx xf ∧ rx = putX t p x (f.find t p s 0)) ∨ (b = false ∧ D = f ∧ rx = x)
theorem PutIs.size {b : Bool} {k x : Int} {f : Forest} {t : Bool} {p : Int} {s : ByteArray} {xk xm : Int} {xu : ByteArray} {xx : Int} {xf : Forest} {rx : Int} {D : Forest} (h : PutIs b k x f t p s xk xm xu xx xf rx D) : D.size ≤ f.size + xf.size + 1 := by
  rcases h with ⟨_, _, rfl, _⟩ | ⟨_, rfl, _⟩
  · exact Forest.size_put ..
  · omega
theorem PutIs.some (b : Bool) (k x : Int) (f : Forest) (t : Bool) (p : Int) (s : ByteArray) (xk xm : Int) (xu : ByteArray) (xx : Int) (xf : Forest) (h : b = true → k = 4) : ∃ rx D, PutIs b k x f t p s xk xm xu xx xf rx D := by
  cases b
  · exact ⟨_, _, .inr ⟨rfl, rfl, rfl⟩⟩
  · exact ⟨_, _, .inl ⟨rfl, h rfl, rfl, rfl⟩⟩
/-- Whether AppendItem takes an item. -/
def AppB (k x : Int) (b : Bool) : Prop := (b = true ∧ k = 4 ∧ 0 ≤ x ∧ x ≤ 1000000000) ∨ (b = false ∧ (k ≠ 4 ∨ (k = 4 ∧ (x < 0 ∨ 1000000000 < x))))
theorem appB_some (k x : Int) : ∃ b, AppB k x b := by
  by_cases h : k = 4 ∧ 0 ≤ x ∧ x ≤ 1000000000
  · exact ⟨true, .inl ⟨rfl, h⟩⟩
  · exact ⟨false, .inr ⟨rfl, by omega⟩⟩
set_option maxHeartbeats 4000000 in
theorem specAppend_any (f xf : Forest) (w : World) (k m : Int) (u : ByteArray) (x : Int) (A : Option Addr) (c : Nat) (L : List Nat) (xk xm : Int) (xu : ByteArray) (xx : Int) (XA : Option Addr) (xc : Nat) (XL : List Nat) (b : Bool) (rx : Int) (D : Forest)
    (hb : AppB k x b) (hD : PutIs b k x f false x { data := #[] } xk xm xu xx xf rx D) (hr : RowF w f A 0 f.len L) (h0 : A = none → c = 0) (hfz : f.size ≤ 1048576) (hx : RowF w xf XA 0 xf.len XL) (hx0 : XA = none → xc = 0) (hxz : xf.size ≤ 1048576) :
    Calls Try.prog 28 #[.agg #[.int .i64 k, .int .i64 m, .string u, .int .i64 x, .slice A f.len c], .agg #[.int .i64 xk, .int .i64 xm, .string xu, .int .i64 xx, .slice XA xf.len xc]] w (PairPost w k m u rx D b) := by
  have HR := hid hr
  have HXR := hid hx
  have HX0 := hid hx0
  have H0 := hid h0
  have hDz : D.size ≤ 4194304 := by have := hD.size; omega
  have HDD := hid hD
  clear hr hx hx0 h0 hD
  have HV := hid (((HoldsT.new w #[.int .i64 k, .int .i64 m, .string u, .int .i64 x, .slice A f.len c] 31).alloc (.cells #[.int .i64 xk, .int .i64 xm, .string xu, .int .i64 xx, .slice XA xf.len xc] 31)).alloc (.cells #[.int .i64 0, .int .i64 0, .string { data := #[] }, .int .i64 0, .slice none 0 0] 31))
  have HX := hid (HoldsT.pre1 w #[.int .i64 xk, .int .i64 xm, .string xu, .int .i64 xx, .slice XA xf.len xc] 31 (.cells #[.int .i64 k, .int .i64 m, .string u, .int .i64 x, .slice A f.len c] 31) (.cells #[.int .i64 0, .int .i64 0, .string { data := #[] }, .int .i64 0, .slice none 0 0] 31))
  have HZ := hid (HoldsT.pre2 w #[.int .i64 0, .int .i64 0, .string { data := #[] }, .int .i64 0, .slice none 0 0] 31 (.cells #[.int .i64 k, .int .i64 m, .string u, .int .i64 x, .slice A f.len c] 31) (.cells #[.int .i64 xk, .int .i64 xm, .string xu, .int .i64 xx, .slice XA xf.len xc] 31))
  have G0 := hid (gb_alloc (gb_alloc (gb_alloc (gb_refl w none) (.cells #[.int .i64 k, .int .i64 m, .string u, .int .i64 x, .slice A f.len c] 31)) (.cells #[.int .i64 xk, .int .i64 xm, .string xu, .int .i64 xx, .slice XA xf.len xc] 31)) (.cells #[.int .i64 0, .int .i64 0, .string { data := #[] }, .int .i64 0, .slice none 0 0] 31))
  rcases hb with ⟨hb, hk, hx1, hx2⟩ | ⟨hb, hk⟩
  · subst hb; subst hk
    rcases HDD.out with ⟨_, _, h1, h2⟩ | ⟨h1, _⟩
    · subst h1 h2
      have HP := hid (And.intro hx1 hx2)
      clear HDD
      go_enter Try.func28, Try.ntmps28
      go_wp2_with (go_at_call 45; refine (l1In_t _ _ _ _ hx1 hx2).mono ?_; rintro e w' ⟨rfl, rfl⟩)
      refine (specSet_any f xf false x _ ⟨by omega, by omega⟩ _ m u x A c L xk xm xu xx XA xc XL (HR.out.grow G0.out) H0.out hfz (HXR.out.grow G0.out) HX0.out).mono ?_
      rintro e w1 ⟨A1, c1, L1, rfl, hr1, hg⟩
      have HZ1 := hid (HZ.out.grow hg)
      have G1 := hid (gb_trans G0.out hg)
      have hb1 : w.heap.size + 3 ≤ w1.heap.size := by have := hg.size; simpa using this
      have HB1 := hid hb1
      clear hg hb1
      go_wp2_with fail
      refine (specCopy_any _ _ 4 m u _ A1 c1 L1 hr1 hDz).mono ?_
      rintro e w2 ⟨A2, c2, L2, rfl, _, hT, hg⟩
      have HZ2 := hid (HZ1.out.grow hg)
      have HT2 := hid hT
      have G2 := hid (gb_trans G1.out hg)
      clear hT hg hr1
      obtain ⟨r0, r1, r2, r3, r4⟩ := HZ2.out.cells5
      have y0 := HZ2.out.frozen 0; have y1 := HZ2.out.frozen 1; have y2 := HZ2.out.frozen 2; have y3 := HZ2.out.frozen 3; have y4 := HZ2.out.frozen 4
      have lz := HZ2.out.lt
      go_wp2_with fail
      refine bodyPost_ret (results_cell_row2 rfl _ _ _ _ _ (0, 0) _ rfl (.bool true) rfl (HZ2.out.set5 _ _ _ _ _) Try.underlying31 rfl Try.infoV) rfl ?_
      have h9 := HB1.out
      have hT3 := HT2.out.mono (lo' := w.heap.size + 3) (by omega)
      exact ⟨A2, c2, L2, rfl, HT2.out.nil0, (hT3.low (g := w.heap.size + 1 + 1) (gb_set5 (gb_refl _ _) (.inr rfl) _ _ _ _ _) (by omega)).mono (lo' := w.heap.size) (by omega), gb_set5 G2.out (.inl (Nat.le_succ_of_le (Nat.le_succ _))) _ _ _ _ _⟩
    · cases h1
  · subst hb
    rcases HDD.out with ⟨h1, _⟩ | ⟨_, h1, h2⟩
    · cases h1
    · subst h1 h2
      clear HDD
      have key : ∀ (Q : Prop), (k ≠ 4 → Q) → (k = 4 ∧ (rx < 0 ∨ 1000000000 < rx) → Q) → Q := fun Q h1 h2 => hk.elim h1 h2
      apply key
      all_goals clear key
      · intro hk4
        have hk5 : (k != 4) = true := by simpa using hk4
        have hk6 : (k == 4) = false := by simpa using hk4
        clear hk hk4
        go_enter Try.func28, Try.ntmps28
        go_wp2_with fail
        refine (specCopy_any D _ _ m u rx A c L (HR.out.grow G0.out) hDz).mono ?_
        rintro e w2 ⟨A2, c2, L2, rfl, _, hT, hg⟩
        have HZ2 := hid (HZ.out.grow hg)
        have HT2 := hid hT
        have G2 := hid (gb_trans G0.out hg)
        clear hT hg
        obtain ⟨r0, r1, r2, r3, r4⟩ := HZ2.out.cells5
        have y0 := HZ2.out.frozen 0; have y1 := HZ2.out.frozen 1; have y2 := HZ2.out.frozen 2; have y3 := HZ2.out.frozen 3; have y4 := HZ2.out.frozen 4
        have lz := HZ2.out.lt
        go_wp2_with fail
        refine bodyPost_ret (results_cell_row2 rfl _ _ _ _ _ (0, 0) _ rfl (.bool false) rfl (HZ2.out.set5 _ _ _ _ _) Try.underlying31 rfl Try.infoV) rfl ?_
        have hT3 := HT2.out.mono (lo' := w.heap.size + 3) (by simp)
        exact ⟨A2, c2, L2, rfl, HT2.out.nil0, (hT3.low (g := w.heap.size + 1 + 1) (gb_set5 (gb_refl _ _) (.inr rfl) _ _ _ _ _) (by omega)).mono (lo' := w.heap.size) (by omega), gb_set5 G2.out (.inl (Nat.le_succ_of_le (Nat.le_succ _))) _ _ _ _ _⟩
      · rintro ⟨rfl, hx⟩
        clear hk
        go_enter Try.func28, Try.ntmps28
        go_wp2_with (go_at_call 45; refine (l1In_f _ _ _ _ hx).mono ?_; rintro e w' ⟨rfl, rfl⟩)
        refine (specCopy_any D _ _ m u rx A c L (HR.out.grow G0.out) hDz).mono ?_
        rintro e w2 ⟨A2, c2, L2, rfl, _, hT, hg⟩
        have HZ2 := hid (HZ.out.grow hg)
        have HT2 := hid hT
        have G2 := hid (gb_trans G0.out hg)
        clear hT hg
        obtain ⟨r0, r1, r2, r3, r4⟩ := HZ2.out.cells5
        have y0 := HZ2.out.frozen 0; have y1 := HZ2.out.frozen 1; have y2 := HZ2.out.frozen 2; have y3 := HZ2.out.frozen 3; have y4 := HZ2.out.frozen 4
        have lz := HZ2.out.lt
        go_wp2_with fail
        refine bodyPost_ret (results_cell_row2 rfl _ _ _ _ _ (0, 0) _ rfl (.bool false) rfl (HZ2.out.set5 _ _ _ _ _) Try.underlying31 rfl Try.infoV) rfl ?_
        have hT3 := HT2.out.mono (lo' := w.heap.size + 3) (by simp)
        exact ⟨A2, c2, L2, rfl, HT2.out.nil0, (hT3.low (g := w.heap.size + 1 + 1) (gb_set5 (gb_refl _ _) (.inr rfl) _ _ _ _ _) (by omega)).mono (lo' := w.heap.size) (by omega), gb_set5 G2.out (.inl (Nat.le_succ_of_le (Nat.le_succ _))) _ _ _ _ _⟩
end Go.Proofs.Ytlfigoboeogegaa
