/- The walks of GetKey. -/
import Derived.Test.YtlfigoboeogegaaDelMath
namespace Go.Proofs.Ytlfigoboeogegaa
open Go.RowKit
set_option linter.unusedVariables false

theorem results_cell_row2 {P : Program} {fn : Func} {p u : Tmp} {ty : TypeId} (h : fn.results = #[.cell p ty, .tmp u]) (tmps : Array Value) (w : World) (g : Nat) (t : TypeId) (cs : Array Value) (fr : Nat × Nat) (d : TypeDesc)
    (hp : tmps.getD p undef = .pointer (some ⟨g, 0, none⟩)) (v : Value) (hv : tmps.getD u undef = v) (hg : w.heap[g]? = some (.cells cs t fr))
    (hu : P.underlying ty = some d) (hd : (match d with | .struct _ | .array _ _ => true | _ => false) = true) (hi : (P.info? ty).map (·.size) = some cs.size) :
    (results fn tmps).run P w = .ok (.tuple #[.agg cs, v]) w := by
  have hp' : tmps[p]?.getD undef = .pointer (some ⟨g, 0, none⟩) := by simpa using hp
  have hv' : tmps[u]?.getD undef = v := by simpa using hv
  simp [results, h, hp', hv', asAddr, run_loadVar_row w g t ty cs fr d hg hu hd hi]
theorem RowF.split {w : World} : ∀ {f g : Forest} {A : Option Addr} {k n : Nat} {L : List Nat}, RowF w (f.app g) A k n L → ∃ L1 L2, RowF w f A k (k + f.len) L1 ∧ RowF w g A (k + f.len) n L2 := by
  intro f
  induction f with
  | nil => intro g A k n L h; exact ⟨[], L, ⟨rfl, rfl⟩, h⟩
  | cons t m s kd nm u x sub rest _ ih =>
    rintro g A k n L ⟨b, o, SA, sn, sc, Ls, Lr, hA, hb, hc, h0, h1, h2, rfl⟩
    obtain ⟨L1, L2, h3, h4⟩ := ih h2
    refine ⟨_, L2, ⟨b, o, SA, sn, sc, Ls, L1, hA, hb, hc, h0, h1, ?_, rfl⟩, ?_⟩
    · rw [show k + (Forest.cons t m s kd nm u x sub rest).len = k + 1 + rest.len by simp only [Forest.len]; omega]; exact h3
    · rw [show k + (Forest.cons t m s kd nm u x sub rest).len = k + 1 + rest.len by simp only [Forest.len]; omega]; exact h4
/-- What GetKey finds. -/
def GetIs (k : Int) (t : Bool) (p : Int) (s : ByteArray) (f : Forest) (gk gm : Int) (gu : ByteArray) (gx : Int) (gf : Forest) (gb : Bool) : Prop :=
  (gb = false ∧ valFind k t p s f = -1 ∧ gk = 0 ∧ gm = 0 ∧ gu = { data := #[] } ∧ gx = 0 ∧ gf = .nil) ∨ (gb = true ∧ ∃ (a : Forest) (t' : Bool) (n' : Int) (s' : ByteArray) (r : Forest), f = a.app (.cons t' n' s' gk gm gu gx gf r) ∧ valFind k t p s f = (a.len : Int))
theorem getIs_some (k : Int) (t : Bool) (p : Int) (s : ByteArray) (f : Forest) : ∃ gk gm gu gx gf gb, GetIs k t p s f gk gm gu gx gf gb ∧ gf.size ≤ f.size := by
  rcases valFind_cases k t p s f with ⟨e1, _⟩ | ⟨a, t', n', s', kd, nm, u, x, b, r, _, e1, e2, _, _⟩
  · exact ⟨0, 0, _, 0, .nil, false, .inl ⟨rfl, e1, rfl, rfl, rfl, rfl, rfl⟩, Nat.zero_le _⟩
  · refine ⟨kd, nm, u, x, b, true, .inr ⟨rfl, a, t', n', s', r, e1, e2⟩, ?_⟩
    rw [e1, Forest.size_app]; simp only [Forest.size]; omega
def PairPost (w : World) (k m : Int) (u : ByteArray) (x : Int) (f : Forest) (b : Bool) (e : Ending) (w' : World) : Prop := ∃ A' c' L', e = .returned (.tuple #[.agg #[.int .i64 k, .int .i64 m, .string u, .int .i64 x, .slice A' f.len c'], .bool b]) ∧ (A' = none → c' = 0) ∧ Rw w' 61 w.heap.size f A' c' L' ∧ w.grownBy w' none
def PairShown (w : World) (k m : Int) (u : ByteArray) (x : Int) (f : Forest) (b : Bool) (e : Ending) (w' : World) : Prop := ∃ A' c' L', e = .returned (.tuple #[.agg #[.int .i64 k, .int .i64 m, .string u, .int .i64 x, .slice A' f.len c'], .bool b]) ∧ RowF w' f A' 0 f.len L' ∧ w.grownBy w' none
theorem Rw.nilT (w : World) (e : TypeId) (lo : Nat) : Rw w e lo .nil none 0 [] := ⟨[], World.ownsRow_nil _ _ _ _, ⟨rfl, rfl⟩, OwnL.nil _ _ _, by intro b hb; cases hb⟩
set_option maxHeartbeats 4000000 in
theorem specL6Get_any (f : Forest) (t : Bool) (p : Int) (s : ByteArray) (w : World) (k m : Int) (u : ByteArray) (x : Int) (A : Option Addr) (c : Nat) (L : List Nat) (gk gm : Int) (gu : ByteArray) (gx : Int) (gf : Forest) (gb : Bool) (hG : GetIs k t p s f gk gm gu gx gf gb) (hr : RowF w f A 0 f.len L) (hfz : f.size ≤ 1048576) :
    Calls Try.prog 39 #[.agg #[.int .i64 k, .int .i64 m, .string u, .int .i64 x, .slice A f.len c], .agg #[.bool t, .int .i64 p, .string s]] w (PairShown w gk gm gu gx gf gb) := by
  have hlen : f.len ≤ 1048576 := by have := f.len_le; omega
  have HR := hid hr
  have HG := hid hG
  clear hr hG
  have HV := hid (((HoldsT.new w #[.int .i64 k, .int .i64 m, .string u, .int .i64 x, .slice A f.len c] 31).alloc (.cells #[.bool t, .int .i64 p, .string s] 34)).alloc (.cells #[.int .i64 0, .int .i64 0, .string { data := #[] }, .int .i64 0, .slice none 0 0] 31))
  have HK := hid (HoldsT.pre1 w #[.bool t, .int .i64 p, .string s] 34 (.cells #[.int .i64 k, .int .i64 m, .string u, .int .i64 x, .slice A f.len c] 31) (.cells #[.int .i64 0, .int .i64 0, .string { data := #[] }, .int .i64 0, .slice none 0 0] 31))
  have HZ := hid (HoldsT.pre2 w #[.int .i64 0, .int .i64 0, .string { data := #[] }, .int .i64 0, .slice none 0 0] 31 (.cells #[.int .i64 k, .int .i64 m, .string u, .int .i64 x, .slice A f.len c] 31) (.cells #[.bool t, .int .i64 p, .string s] 34))
  have G0 := hid (gb_alloc (gb_alloc (gb_alloc (gb_refl w none) (.cells #[.int .i64 k, .int .i64 m, .string u, .int .i64 x, .slice A f.len c] 31)) (.cells #[.bool t, .int .i64 p, .string s] 34)) (.cells #[.int .i64 0, .int .i64 0, .string { data := #[] }, .int .i64 0, .slice none 0 0] 31))
  go_enter Try.func39, Try.ntmps39
  go_wp2_with fail
  refine (specL5Find_any f t p s _ k m u x A c L (HR.out.grow G0.out) hfz).mono ?_
  rintro e w2 ⟨rfl, hg⟩
  have HV2 := hid (HV.out.grow hg)
  have HZ2 := hid (HZ.out.grow hg)
  have G2 := hid (gb_trans G0.out hg)
  obtain ⟨a0, a1, a2, a3, a4⟩ := HV2.out.cells5
  have la := HV2.out.lt
  obtain ⟨r0, r1, r2, r3, r4⟩ := HZ2.out.cells5
  have y0 := HZ2.out.frozen 0; have y1 := HZ2.out.frozen 1; have y2 := HZ2.out.frozen 2; have y3 := HZ2.out.frozen 3; have y4 := HZ2.out.frozen 4
  have lz := HZ2.out.lt
  clear hg
  rcases HG.out with ⟨h1, h2, h3, h4, h5, h6, h7⟩ | ⟨h1, pre, t', n', s', r, h2, h3⟩
  · rw [h2]
    subst h1 h3 h4 h5 h6 h7
    clear h2
    go_wp2_with fail
    refine bodyPost_ret (results_cell_row2 rfl _ _ _ _ _ (0, 0) _ rfl (.bool false) rfl (HZ2.out.set5 _ _ _ _ _) Try.underlying31 rfl Try.infoV) rfl ?_
    exact ⟨none, 0, [], rfl, ⟨rfl, rfl⟩, gb_set5 G2.out (.inl (Nat.le_succ_of_le (Nat.le_succ _))) _ _ _ _ _⟩
  · rw [h3]
    subst h1
    obtain ⟨j, hj⟩ : ∃ j, pre.len = j := ⟨_, rfl⟩
    rw [hj]
    obtain ⟨N, hN⟩ : ∃ N, f.len = N := ⟨_, rfl⟩
    have hjN : j < N := by have := Forest.len_app pre (.cons t' n' s' gk gm gu gx gf r); rw [← h2] at this; simp only [Forest.len] at this; omega
    have hR2 := HR.out
    rw [h2] at hR2
    obtain ⟨_, _, _, hR3⟩ := hR2.split
    obtain ⟨b, o, SA, sc, Ls, Lr, rfl, hb, R1, _, hs1, _, _⟩ := hR3.range
    rw [hj, Nat.zero_add] at R1
    have HS := hid hs1
    rw [hN] at a4 ⊢
    obtain ⟨c0, c1, c2, c3, c4, c5, c6, c7⟩ := range8 (rangeAt_grow R1 G2.out hb)
    have HG2 := hid (gb_set5 G2.out (g := w.heap.size + 1 + 1) (.inl (Nat.le_succ_of_le (Nat.le_succ _))) (.int .i64 gk) (.int .i64 gm) (.string gu) (.int .i64 gx) (.slice SA gf.len sc))
    clear hR2 hR3 h2 h3 hj hN R1 hs1 hb
    go_wp2_with fail
    refine bodyPost_ret (results_cell_row2 rfl _ _ _ _ _ (0, 0) _ rfl (.bool true) rfl (HZ2.out.set5 _ _ _ _ _) Try.underlying31 rfl Try.infoV) rfl ?_
    exact ⟨SA, sc, _, rfl, HS.out.grow HG2.out, HG2.out⟩
set_option maxHeartbeats 4000000 in
theorem specGet_any (f : Forest) (t : Bool) (p : Int) (s : ByteArray) (w : World) (k m : Int) (u : ByteArray) (x : Int) (A : Option Addr) (c : Nat) (L : List Nat) (gk gm : Int) (gu : ByteArray) (gx : Int) (gf : Forest) (gb : Bool) (hG : GetIs k t p s f gk gm gu gx gf gb) (hr : RowF w f A 0 f.len L) (hfz : f.size ≤ 1048576) (hgz : gf.size ≤ 1048576) :
    Calls Try.prog 17 #[.agg #[.int .i64 k, .int .i64 m, .string u, .int .i64 x, .slice A f.len c], .agg #[.bool t, .int .i64 p, .string s]] w (PairPost w gk gm gu gx gf gb) := by
  have C1 := hid (fun w hr => specL6Get_any f t p s w k m u x A c L gk gm gu gx gf gb hG hr hfz)
  have HR := hid hr
  clear hr hG
  have HZ := hid (HoldsT.pre2 w #[.int .i64 0, .int .i64 0, .string { data := #[] }, .int .i64 0, .slice none 0 0] 31 (.cells #[.int .i64 k, .int .i64 m, .string u, .int .i64 x, .slice A f.len c] 31) (.cells #[.bool t, .int .i64 p, .string s] 34))
  have G0 := hid (gb_alloc (gb_alloc (gb_alloc (gb_refl w none) (.cells #[.int .i64 k, .int .i64 m, .string u, .int .i64 x, .slice A f.len c] 31)) (.cells #[.bool t, .int .i64 p, .string s] 34)) (.cells #[.int .i64 0, .int .i64 0, .string { data := #[] }, .int .i64 0, .slice none 0 0] 31))
  go_enter Try.func17, Try.ntmps17
  go_wp2_with fail
  refine (C1.out _ (HR.out.grow G0.out)).mono ?_
  rintro e w1 ⟨A1, c1, L1, rfl, hr1, hg⟩
  have HZ1 := hid ((HZ.out.grow hg).alloc (.cells #[.int .i64 gk, .int .i64 gm, .string gu, .int .i64 gx, .slice A1 gf.len c1] 31))
  have HX1 := hid (HoldsT.new w1 #[.int .i64 gk, .int .i64 gm, .string gu, .int .i64 gx, .slice A1 gf.len c1] 31)
  have G1 := hid (gb_alloc (gb_trans G0.out hg) (.cells #[.int .i64 gk, .int .i64 gm, .string gu, .int .i64 gx, .slice A1 gf.len c1] 31))
  have HR1 := hid (hr1.grow (gb_alloc (gb_refl w1 none) (.cells #[.int .i64 gk, .int .i64 gm, .string gu, .int .i64 gx, .slice A1 gf.len c1] 31)))
  have hb1 : w.heap.size + 3 ≤ w1.heap.size := by have := hg.size; simpa using this
  have HB1 := hid hb1
  obtain ⟨b0, b1, b2, b3, b4⟩ := HX1.out.cells5
  have lb := HX1.out.lt
  clear hg hb1 hr1
  go_wp2_with fail
  refine (specCopy_any gf _ gk gm gu gx A1 c1 L1 HR1.out (by omega)).mono ?_
  rintro e w2 ⟨A2, c2, L2, rfl, _, hT, hg⟩
  clear b0 b1 b2 b3 b4 lb
  have HZ2 := hid (HZ1.out.grow hg)
  have HT2 := hid hT
  have G2 := hid (gb_trans G1.out hg)
  clear hT hg
  obtain ⟨r0, r1, r2, r3, r4⟩ := HZ2.out.cells5
  have y0 := HZ2.out.frozen 0; have y1 := HZ2.out.frozen 1; have y2 := HZ2.out.frozen 2; have y3 := HZ2.out.frozen 3; have y4 := HZ2.out.frozen 4
  have lz := HZ2.out.lt
  go_wp2_with fail
  refine bodyPost_ret (results_cell_row2 rfl _ _ _ _ _ (0, 0) _ rfl (.bool gb) rfl (HZ2.out.set5 _ _ _ _ _) Try.underlying31 rfl Try.infoV) rfl ?_
  have h9 := HB1.out
  have hT3 := HT2.out.mono (lo' := w.heap.size + 3) (by simp only [World.size_alloc]; omega)
  refine ⟨A2, c2, L2, rfl, HT2.out.nil0, (hT3.low (g := w.heap.size + 1 + 1) (gb_set5 (gb_refl _ _) (.inr rfl) _ _ _ _ _) (by omega)).mono (lo' := w.heap.size) (by omega), ?_⟩
  exact gb_set5 G2.out (.inl (Nat.le_succ_of_le (Nat.le_succ _))) _ _ _ _ _
theorem nullValue_any (w : World) : Calls Try.prog 40 #[] w fun e w' => e = .returned (.agg #[.int .i64 0, .int .i64 0, .string { data := #[] }, .int .i64 0, .slice none 0 0]) ∧ w.grownBy w' none := by
  go_enter Try.func40, Try.ntmps40
  go_wp2_with fail
  refine bodyPost_ret (results_cell_row rfl _ _ _ _ _ (0, 0) _ rfl (HoldsT.new _ _ _) Try.underlying31 rfl Try.infoV) rfl ?_
  exact ⟨rfl, gb_alloc (gb_refl _ _) _⟩
set_option maxHeartbeats 4000000 in
theorem implGet_any (f : Forest) (t : Bool) (p : Int) (s : ByteArray) (w : World) (k m : Int) (u : ByteArray) (x : Int) (A : Option Addr) (c : Nat) (L : List Nat) (gk gm : Int) (gu : ByteArray) (gx : Int) (gf : Forest) (gb : Bool) (hG : GetIs k t p s f gk gm gu gx gf gb) (hr : RowF w f A 0 f.len L) (hfz : f.size ≤ 1048576) (hgz : gf.size ≤ 1048576) :
    Calls Try.prog 18 #[.agg #[.int .i64 k, .int .i64 m, .string u, .int .i64 x, .slice A f.len c], .agg #[.bool t, .int .i64 p, .string s]] w (PairPost w gk gm gu gx gf gb) := by
  have hlen : f.len ≤ 1048576 := by have := f.len_le; omega
  have HR := hid hr
  have HG := hid hG
  clear hr hG
  have HV := hid (((HoldsT.new w #[.int .i64 k, .int .i64 m, .string u, .int .i64 x, .slice A f.len c] 31).alloc (.cells #[.bool t, .int .i64 p, .string s] 34)).alloc (.cells #[.int .i64 0, .int .i64 0, .string { data := #[] }, .int .i64 0, .slice none 0 0] 31))
  have HZ := hid (HoldsT.pre2 w #[.int .i64 0, .int .i64 0, .string { data := #[] }, .int .i64 0, .slice none 0 0] 31 (.cells #[.int .i64 k, .int .i64 m, .string u, .int .i64 x, .slice A f.len c] 31) (.cells #[.bool t, .int .i64 p, .string s] 34))
  have G0 := hid (gb_alloc (gb_alloc (gb_alloc (gb_refl w none) (.cells #[.int .i64 k, .int .i64 m, .string u, .int .i64 x, .slice A f.len c] 31)) (.cells #[.bool t, .int .i64 p, .string s] 34)) (.cells #[.int .i64 0, .int .i64 0, .string { data := #[] }, .int .i64 0, .slice none 0 0] 31))
  go_enter Try.func18, Try.ntmps18
  go_wp2_with fail
  refine (implFind_any f t p s _ k m u x A c L (HR.out.grow G0.out) hfz).mono ?_
  rintro e w2 ⟨rfl, hg⟩
  have HV2 := hid (HV.out.grow hg)
  have HZ2 := hid (HZ.out.grow hg)
  have G2 := hid (gb_trans G0.out hg)
  have hb1 : w.heap.size + 3 ≤ w2.heap.size := by have := hg.size; simpa using this
  have HB1 := hid hb1
  clear hg hb1
  rcases HG.out with ⟨h1, h2, h3, h4, h5, h6, h7⟩ | ⟨h1, pre, t', n', s', r, h2, h3⟩
  · rw [h2]
    subst h1 h3 h4 h5 h6 h7
    clear h2
    go_wp2_with fail
    refine (nullValue_any _).mono ?_
    rintro e w3 ⟨rfl, hg⟩
    have HZ3 := hid (HZ2.out.grow hg)
    have G3 := hid (gb_trans G2.out hg)
    clear hg
    obtain ⟨r0, r1, r2, r3, r4⟩ := HZ3.out.cells5
    have y0 := HZ3.out.frozen 0; have y1 := HZ3.out.frozen 1; have y2 := HZ3.out.frozen 2; have y3 := HZ3.out.frozen 3; have y4 := HZ3.out.frozen 4
    have lz := HZ3.out.lt
    go_wp2_with fail
    refine bodyPost_ret (results_cell_row2 rfl _ _ _ _ _ (0, 0) _ rfl (.bool false) rfl (HZ3.out.set5 _ _ _ _ _) Try.underlying31 rfl Try.infoV) rfl ?_
    exact ⟨none, 0, [], rfl, fun _ => rfl, Rw.nilT _ _ _, gb_set5 G3.out (.inl (Nat.le_succ_of_le (Nat.le_succ _))) _ _ _ _ _⟩
  · rw [h3]
    subst h1
    obtain ⟨j, hj⟩ : ∃ j, pre.len = j := ⟨_, rfl⟩
    rw [hj]
    obtain ⟨N, hN⟩ : ∃ N, f.len = N := ⟨_, rfl⟩
    have hjN : j < N := by have := Forest.len_app pre (.cons t' n' s' gk gm gu gx gf r); rw [← h2] at this; simp only [Forest.len] at this; omega
    have hR2 := HR.out
    rw [h2] at hR2
    obtain ⟨_, _, _, hR3⟩ := hR2.split
    obtain ⟨b, o, SA, sc, Ls, Lr, rfl, hb, R1, _, hs1, _, _⟩ := hR3.range
    rw [hj, Nat.zero_add] at R1
    have HS := hid hs1
    obtain ⟨a0, a1, a2, a3, a4⟩ := HV2.out.cells5
    have la := HV2.out.lt
    rw [hN] at a4 ⊢
    obtain ⟨c0, c1, c2, c3, c4, c5, c6, c7⟩ := range8 (rangeAt_grow R1 G2.out hb)
    clear hR2 hR3 h2 h3 hj hN R1 hs1 hb
    go_wp2_with fail
    refine (implCopy_any gf _ gk gm gu gx SA sc Ls (HS.out.grow G2.out) (by omega)).mono ?_
    rintro e w3 ⟨A2, c2', L2, rfl, _, hT, hg⟩
    clear a0 a1 a2 a3 a4 la c0 c1 c2 c3 c4 c5 c6 c7
    have HZ3 := hid (HZ2.out.grow hg)
    have HT2 := hid hT
    have G3 := hid (gb_trans G2.out hg)
    clear hT hg
    obtain ⟨r0, r1, r2, r3, r4⟩ := HZ3.out.cells5
    have y0 := HZ3.out.frozen 0; have y1 := HZ3.out.frozen 1; have y2 := HZ3.out.frozen 2; have y3 := HZ3.out.frozen 3; have y4 := HZ3.out.frozen 4
    have lz := HZ3.out.lt
    go_wp2_with fail
    refine bodyPost_ret (results_cell_row2 rfl _ _ _ _ _ (0, 0) _ rfl (.bool true) rfl (HZ3.out.set5 _ _ _ _ _) Try.underlying31 rfl Try.infoV) rfl ?_
    have h9 := HB1.out
    refine ⟨A2, c2', L2, rfl, HT2.out.nil0, (HT2.out.low (g := w.heap.size + 1 + 1) (gb_set5 (gb_refl _ _) (.inr rfl) _ _ _ _ _) (by omega)).mono (lo' := w.heap.size) (by omega), ?_⟩
    exact gb_set5 G3.out (.inl (Nat.le_succ_of_le (Nat.le_succ _))) _ _ _ _ _
end Go.Proofs.Ytlfigoboeogegaa
