/- The draws of values, their small parts: l1Once, l5Word, l5Key, l5Scalar. -/
import Derived.Test.YtmbochhmeojmfaaDoorStr
import Derived.Test.YtmbochhmeojmfaaDoorDraw2
import Derived.Test.YtmbochhmeojmfaaDoorCopy
namespace Go.Proofs.YtmbochhmeojmfaaDoor
set_option maxRecDepth 20000
open Go.RowKit
set_option linter.unusedVariables false

/-- Small texts, numbers that are numbers, at every depth. -/
def Forest.sm : Forest → Prop
  | .nil => True
  | .cons t n s k m u x b r => (s.size ≤ 21 ∧ u.size ≤ 21 ∧ I64 n ∧ I64 k ∧ I64 m ∧ I64 x) ∧ b.sm ∧ r.sm
theorem Forest.sm_app {f g : Forest} (hf : f.sm) (hg : g.sm) : (f.app g).sm := by
  induction f with
  | nil => exact hg
  | cons t n s k m u x b r _ ih => exact ⟨hf.1, hf.2.1, ih hf.2.2⟩
theorem Forest.sm_sz (f : Forest) (h : f.sm) : f.sz + f.len ≤ 43 * f.size := by
  induction f with
  | nil => exact Nat.le_refl _
  | cons t n s k m u x b r ih1 ih2 =>
    obtain ⟨⟨h1, h2, _⟩, h3, h4⟩ := h
    have := ih1 h3
    have := ih2 h4
    simp only [Forest.sz, Forest.len, Forest.size]
    omega
theorem wf_of {n : Int} (h : I64 n) : (Lit.int .i64 n).wf = true := by
  unfold I64 at h
  simp only [Lit.wf, Bool.and_eq_true, decide_eq_true_eq]
  exact ⟨h.1, h.2⟩
theorem Forest.sm_ok (f : Forest) (h : f.sm) (hs : f.size ≤ 1048576) : f.ok := by
  induction f with
  | nil => trivial
  | cons t n s k m u x b r ih1 ih2 =>
    obtain ⟨⟨h1, h2, h3, h4, h5, h6⟩, h7, h8⟩ := h
    simp only [Forest.size] at hs
    have := b.len_le
    exact ⟨⟨by unfold maxLen; omega, by unfold maxLen; omega, wf_of h3, wf_of h4, wf_of h5, wf_of h6, by unfold maxLen; omega⟩, ih1 h7 (by omega), ih2 h8 (by omega)⟩
theorem once_any (g : Nat) (n : Int) (w : World) (hcur : CurOk w g) :
    Calls Tryd.prog 33 #[.pointer (some ⟨g, 0, none⟩), .int .i64 n] w fun e w' => ∃ b, e = .returned (.bool b) ∧ CurOk w' g ∧ w.grownBy w' (some g) := by
  have HC := hid hcur
  clear hcur
  go_enter Tryd.func33, Tryd.ntmps33
  go_wp2_with fail
  refine (l1Below_any _ _ _ HC.out).mono ?_
  rintro e w1 ⟨x, ⟨hx0, hx1⟩, rfl, hc1, hg1⟩
  have HC1 := hid hc1
  clear hc1 hx0 hx1
  go_wp2
  go_ret
  exact ⟨_, rfl, HC1.out, hg1⟩
def words5 : List ByteArray := [{ data := #[] }, { data := #[97] }, { data := #[98] }, { data := #[120, 49] }, { data := #[48] }, { data := #[53] }, { data := #[45, 53] }, { data := #[48, 53] }, { data := #[45, 48] }, { data := #[49, 50, 97] }, { data := #[48, 48, 55] }, { data := #[49, 48, 48, 48, 48, 48, 48, 48, 48, 48] }, { data := #[49, 48, 48, 48, 48, 48, 48, 48, 48, 49] }, { data := #[32, 49] }, { data := #[105, 116, 39, 115] }, { data := #[10] }, { data := #[60, 105, 62] }, { data := #[255, 59] }, { data := #[110, 97, 109, 101] }, { data := #[115, 58, 49, 58] }]
theorem words5_size : ∀ x ∈ words5, x.size ≤ 21 := by decide
theorem l5Word_any (g : Nat) (w : World) (hcur : CurOk w g) : Calls Tryd.prog 74 #[.pointer (some ⟨g, 0, none⟩)] w (DrawnStr (fun x => x.size ≤ 21) g w) := by
  have hl := hcur.lt
  have HC2 : Hid (CurOk (w.alloc (.cells (words5.map Value.string).toArray 9)) g) := hcur.alloc _
  have HRD : Hid (Rd (w.alloc (.cells (words5.map Value.string).toArray 9)) (some ⟨w.heap.size, 0, none⟩) (words5.map Value.string)) := Rd.lit _ _ _
  clear hcur
  go_enter Tryd.func74, Tryd.ntmps74
  go_wp2_with fail
  refine (l1Str_any _ _ 20 20 words5 _ HC2.out HRD.out rfl (by omega) (by omega) (apart_str hl)).mono ?_
  rintro e w4 ⟨y, hy, rfl, hc4, hg4⟩
  have hys := hid (words5_size y hy)
  have HC4 := hid hc4
  clear hy hc4
  go_wp2
  go_ret
  exact ⟨_, hys.out, rfl, HC4.out, gb_trans (gb_alloc (gb_refl _ _) _) hg4⟩
/-- A drawn key. -/
def DrawnKey (g : Nat) (w : World) (e : Ending) (w' : World) : Prop := ∃ (t : Bool) (n : Int) (s : ByteArray), e = .returned (.agg #[.bool t, .int .i64 n, .string s]) ∧ s.size ≤ 21 ∧ (-1000000000 ≤ n ∧ n ≤ 1000000000) ∧ CurOk w' g ∧ w.grownBy w' (some g)
def keys5 : List ByteArray := [{ data := #[97] }, { data := #[98] }, { data := #[99] }, { data := #[] }, { data := #[48, 53] }, { data := #[120] }]
theorem keys5_size : ∀ x ∈ keys5, x.size ≤ 21 := by decide
theorem l5Key_any (g : Nat) (w : World) (hcur : CurOk w g) : Calls Tryd.prog 57 #[.pointer (some ⟨g, 0, none⟩)] w (DrawnKey g w) := by
  have hl := hcur.lt
  have HC := hid (hcur.alloc (.cells #[.bool false, .int .i64 0, .string { data := #[] }] 33))
  have HZ := hid (HoldsT.new w #[.bool false, .int .i64 0, .string { data := #[] }] 33)
  clear hcur
  go_enter Tryd.func57, Tryd.ntmps57
  go_wp2_with fail
  refine (once_any g 3 _ HC.out).mono ?_
  rintro e w1 ⟨b, rfl, hc1, hg1⟩
  have hne : (some g : Option Nat) ≠ some w.heap.size := by intro e; injection e; omega
  have HZ1 := hid (HZ.out.kept hg1 hne)
  have G1 := hid (gb_trans (gb_alloc (gb_refl w (some g)) _) hg1)
  have HC1 := hid hc1
  have hl1 : g < w1.heap.size := hc1.lt
  clear hc1 hg1
  cases b
  · have HC2 : Hid (CurOk (w1.alloc (.cells #[.int .i64 0, .int .i64 1, .int .i64 2, .int .i64 3, .int .i64 4, .int .i64 (-1), .int .i64 7, .int .i64 1000000000, .int .i64 (-1000000000)] 3)) g) := HC1.out.alloc _
    go_wp2_with fail
    refine (l1Int_any g _ 9 9 [0, 1, 2, 3, 4, -1, 7, 1000000000, -1000000000] _ HC2.out (Rd.lit w1 _ _) rfl (by omega) (by omega) (apart_new hl1)).mono ?_
    rintro e w2 ⟨x, hx, rfl, hc2, hg2⟩
    have HX : Hid (-1000000000 ≤ x ∧ x ≤ 1000000000) := hid (by simp only [List.mem_cons, List.not_mem_nil, or_false] at hx; omega)
    have HZ2 := hid ((HZ1.out.alloc _).kept hg2 hne)
    have G2 := hid (gb_trans (gb_alloc G1.out _) hg2)
    have HC3 := hid hc2
    clear hx hc2 hg2
    obtain ⟨r0, r1, r2⟩ := HZ2.out.cells3
    have y0 := HZ2.out.frozen 0; have y1 := HZ2.out.frozen 1; have y2 := HZ2.out.frozen 2
    have lz := HZ2.out.lt
    go_wp2_with fail
    refine bodyPost_ret (results_cell_row rfl _ _ _ _ _ (0, 0) _ rfl (((HZ2.out.set 0 _).set 1 _).set 2 _) Tryd.underlying33 rfl Tryd.infoK) rfl ?_
    refine ⟨false, x, { data := #[] }, rfl, by decide, HX.out, HC3.out.kept (gb_set (gb_set (gb_set (gb_refl _ (some w.heap.size)) (a := ⟨w.heap.size, 0, none⟩) (.inr rfl) _) (a := ⟨w.heap.size, 1, none⟩) (.inr rfl) _) (a := ⟨w.heap.size, 2, none⟩) (.inr rfl) _) (fun q hq => by have h : w.heap.size = q := Option.some.inj hq; omega), ?_⟩
    exact gb_set (gb_set (gb_set G2.out (a := ⟨w.heap.size, 0, none⟩) (.inl (Nat.le_refl _)) _) (a := ⟨w.heap.size, 1, none⟩) (.inl (Nat.le_refl _)) _) (a := ⟨w.heap.size, 2, none⟩) (.inl (Nat.le_refl _)) _
  · have HC2 : Hid (CurOk (w1.alloc (.cells (keys5.map Value.string).toArray 9)) g) := HC1.out.alloc _
    have HRD : Hid (Rd (w1.alloc (.cells (keys5.map Value.string).toArray 9)) (some ⟨w1.heap.size, 0, none⟩) (keys5.map Value.string)) := Rd.lit _ _ _
    go_wp2_with fail
    refine (l1Str_any _ _ 6 6 keys5 _ HC2.out HRD.out rfl (by omega) (by omega) (apart_str hl1)).mono ?_
    rintro e w2 ⟨y, hy, rfl, hc2, hg2⟩
    have HY := hid (keys5_size y hy)
    have HZ2 := hid ((HZ1.out.alloc _).kept hg2 hne)
    have G2 := hid (gb_trans (gb_alloc G1.out _) hg2)
    have HC3 := hid hc2
    clear hy hc2 hg2
    obtain ⟨r0, r1, r2⟩ := HZ2.out.cells3
    have y0 := HZ2.out.frozen 0; have y1 := HZ2.out.frozen 1; have y2 := HZ2.out.frozen 2
    have lz := HZ2.out.lt
    go_wp2_with fail
    refine bodyPost_ret (results_cell_row rfl _ _ _ _ _ (0, 0) _ rfl (((HZ2.out.set 0 _).set 1 _).set 2 _) Tryd.underlying33 rfl Tryd.infoK) rfl ?_
    refine ⟨true, 0, y, rfl, HY.out, by omega, HC3.out.kept (gb_set (gb_set (gb_set (gb_refl _ (some w.heap.size)) (a := ⟨w.heap.size, 0, none⟩) (.inr rfl) _) (a := ⟨w.heap.size, 1, none⟩) (.inr rfl) _) (a := ⟨w.heap.size, 2, none⟩) (.inr rfl) _) (fun q hq => by have h : w.heap.size = q := Option.some.inj hq; omega), ?_⟩
    exact gb_set (gb_set (gb_set G2.out (a := ⟨w.heap.size, 0, none⟩) (.inl (Nat.le_refl _)) _) (a := ⟨w.heap.size, 1, none⟩) (.inl (Nat.le_refl _)) _) (a := ⟨w.heap.size, 2, none⟩) (.inl (Nat.le_refl _)) _
end Go.Proofs.YtmbochhmeojmfaaDoor
