/- The walks of KeyOf. -/
import Derived.Test.YtmbochhmeojmfaaDoorLTextKey
namespace Go.Proofs.YtmbochhmeojmfaaDoor
set_option maxRecDepth 20000
open Go.RowKit
set_option linter.unusedVariables false

theorem results_cell_row2 {P : Program} {fn : Func} {p u : Tmp} {ty : TypeId} (h : fn.results = #[.cell p ty, .tmp u]) (tmps : Array Value) (w : World) (g : Nat) (t : TypeId) (cs : Array Value) (fr : Nat × Nat) (d : TypeDesc)
    (hp : tmps.getD p undef = .pointer (some ⟨g, 0, none⟩)) (v : Value) (hv : tmps.getD u undef = v) (hg : w.heap[g]? = some (.cells cs t fr))
    (hu : P.underlying ty = some d) (hd : (match d with | .struct _ | .array _ _ => true | _ => false) = true) (hi : (P.info? ty).map (·.size) = some cs.size) :
    (results fn tmps).run P w = .ok (.tuple #[.agg cs, v]) w := by
  have hp' : tmps[p]?.getD undef = .pointer (some ⟨g, 0, none⟩) := by simpa using hp
  have hv' : tmps[u]?.getD undef = v := by simpa using hv
  simp [results, h, hp', hv', asAddr, run_loadVar_row w g t ty cs fr d hg hu hd hi]

theorem HoldsT.last (w : World) (cs : Array Value) (ty : TypeId) (a : Obj) : HoldsT ((w.alloc a).alloc (.cells cs ty)) (w.heap.size + 1) cs ty := by
  have := HoldsT.new (w.alloc a) cs ty
  simpa using this
/-- What KeyOf answers of a value of kind k, number m, text u. -/
def KO (k m : Int) (u : ByteArray) (V : Value) (g : Bool) : Prop :=
  (k = 0 ∧ V = .agg #[.bool true, .int .i64 0, .string ByteArray.empty] ∧ g = true) ∨
  ((k = 1 ∨ k = 2) ∧ V = .agg #[.bool false, .int .i64 m, .string ByteArray.empty] ∧ g = true) ∨
  (k = 3 ∧ g = true ∧ ∃ r b, Says u (-1000000000) 1000000000 r b ∧ V = keyT u r b) ∨
  (k ≠ 0 ∧ k ≠ 1 ∧ k ≠ 2 ∧ k ≠ 3 ∧ V = .agg #[.bool false, .int .i64 0, .string ByteArray.empty] ∧ g = false)
theorem KO.null {m : Int} {u : ByteArray} : KO 0 m u (.agg #[.bool true, .int .i64 0, .string ByteArray.empty]) true := .inl ⟨rfl, rfl, rfl⟩
theorem KO.one {m : Int} {u : ByteArray} : KO 1 m u (.agg #[.bool false, .int .i64 m, .string ByteArray.empty]) true := .inr (.inl ⟨.inl rfl, rfl, rfl⟩)
theorem KO.two {m : Int} {u : ByteArray} : KO 2 m u (.agg #[.bool false, .int .i64 m, .string ByteArray.empty]) true := .inr (.inl ⟨.inr rfl, rfl, rfl⟩)
theorem KO.text {m r : Int} {u : ByteArray} {b : Bool} {V : Value} (h : Says u (-1000000000) 1000000000 r b) (hV : keyT u r b = V) : KO 3 m u V true := .inr (.inr (.inl ⟨rfl, rfl, r, b, h, hV.symm⟩))
theorem KO.none {k m : Int} {u : ByteArray} (h0 : k ≠ 0) (h1 : k ≠ 1) (h2 : k ≠ 2) (h3 : k ≠ 3) : KO k m u (.agg #[.bool false, .int .i64 0, .string ByteArray.empty]) false := .inr (.inr (.inr ⟨h0, h1, h2, h3, rfl, rfl⟩))
theorem KO.agg {k m : Int} {u : ByteArray} {V : Value} {g : Bool} (h : KO k m u V g) : ∃ t n s, V = .agg #[.bool t, .int .i64 n, .string s] := by
  rcases h with ⟨_, rfl, _⟩ | ⟨_, rfl, _⟩ | ⟨_, _, r, b, _, rfl⟩ | ⟨_, _, _, _, rfl, _⟩
  · exact ⟨_, _, _, rfl⟩
  · exact ⟨_, _, _, rfl⟩
  · exact keyT_agg u r b
  · exact ⟨_, _, _, rfl⟩
theorem KO.unique {k m : Int} {u : ByteArray} {V V' : Value} {g g' : Bool} (h : KO k m u V g) (h' : KO k m u V' g') : V = V' ∧ g = g' := by
  rcases h with ⟨h, rfl, rfl⟩ | ⟨h, rfl, rfl⟩ | ⟨h, rfl, r, b, hs, rfl⟩ | ⟨h0, h1, h2, h3, rfl, rfl⟩ <;>
  rcases h' with ⟨q, rfl, rfl⟩ | ⟨q, rfl, rfl⟩ | ⟨q, rfl, r', b', hs', rfl⟩ | ⟨q0, q1, q2, q3, rfl, rfl⟩
  all_goals first
    | exact ⟨rfl, rfl⟩
    | (exfalso; omega)
    | (obtain ⟨rfl, rfl⟩ := Says.unique (by omega) (by omega) hs hs'; exact ⟨rfl, rfl⟩)
def KeyOfPost (k m : Int) (u : ByteArray) (w : World) (e : Ending) (w' : World) : Prop := ∃ V g, e = .returned (.tuple #[V, .bool g]) ∧ KO k m u V g ∧ w.grownBy w' none
theorem specKeyOf (k m : Int) (u : ByteArray) (x : Int) (A : Option Addr) (n c : Nat) (w : World) (hu : u.size ≤ 1048576) :
    Calls Tryd.prog 28 #[.agg #[.int .i64 k, .int .i64 m, .string u, .int .i64 x, .slice A n c]] w (KeyOfPost k m u w) := by
  by_cases h0 : k = 0
  · subst h0
    go_enter Tryd.func28, Tryd.ntmps28
    go_wp2_with fail
    refine bodyPost_ret (results_cell_row2 rfl _ _ _ _ _ (0, 0) _ rfl (.bool true) rfl (HoldsT.last _ _ _ _) Tryd.underlying33 rfl Tryd.infoK) rfl ?_
    exact ⟨_, true, rfl, KO.null, gb_alloc (gb_alloc (gb_refl _ _) _) _⟩
  by_cases h1 : k = 1
  · subst h1
    clear h0
    go_enter Tryd.func28, Tryd.ntmps28
    go_wp2_with fail
    refine bodyPost_ret (results_cell_row2 rfl _ _ _ _ _ (0, 0) _ rfl (.bool true) rfl (HoldsT.last _ _ _ _) Tryd.underlying33 rfl Tryd.infoK) rfl ?_
    exact ⟨_, true, rfl, KO.one, gb_alloc (gb_alloc (gb_refl _ _) _) _⟩
  by_cases h2 : k = 2
  · subst h2
    clear h0 h1
    go_enter Tryd.func28, Tryd.ntmps28
    go_wp2_with fail
    refine bodyPost_ret (results_cell_row2 rfl _ _ _ _ _ (0, 0) _ rfl (.bool true) rfl (HoldsT.last _ _ _ _) Tryd.underlying33 rfl Tryd.infoK) rfl ?_
    exact ⟨_, true, rfl, KO.two, gb_alloc (gb_alloc (gb_refl _ _) _) _⟩
  by_cases h3 : k = 3
  · subst h3
    clear h0 h1 h2
    go_enter Tryd.func28, Tryd.ntmps28
    go_wp2_with fail
    refine (specTextKey u _ hu).mono ?_
    rintro e w1 ⟨r, b, rfl, hS, hg⟩
    have HG := hid hg
    have H1 := hid ((HoldsT.new (w.alloc (.cells #[.int .i64 3, .int .i64 m, .string u, .int .i64 x, .slice A n c] 26)) #[.bool false, .int .i64 0, .string ByteArray.empty] 33).grow hg)
    obtain ⟨c0, c1, c2⟩ := H1.out.cells3
    have z0 := H1.out.frozen 0; have z1 := H1.out.frozen 1; have z2 := H1.out.frozen 2
    have lt := H1.out.lt
    simp only [World.size_alloc] at c0 c1 c2 z0 z1 z2 lt
    clear hg
    have HS := hid hS
    clear hS
    obtain ⟨t, p, s, hK⟩ := keyT_agg u r b
    have HK := hid hK
    rw [hK]
    clear hK
    go_wp2_with fail
    have H2 := H1.out
    simp only [World.size_alloc] at H2
    refine bodyPost_ret (results_cell_row2 rfl _ _ _ _ _ (0, 0) _ rfl (.bool true) rfl (H2.setK _ _ _) Tryd.underlying33 rfl Tryd.infoK) rfl ?_
    exact ⟨_, true, rfl, KO.text HS.out HK.out, gb_setK (gb_trans (gb_alloc (gb_alloc (gb_refl _ _) _) _) HG.out) (.inl (Nat.le_succ _)) _ _ _⟩
  have e0 : (k == 0) = false := by simp; omega
  have e1 : (k == 1) = false := by simp; omega
  have e2 : (k == 2) = false := by simp; omega
  have e3 : (k == 3) = false := by simp; omega
  have HN := hid (And.intro h0 (And.intro h1 (And.intro h2 h3)))
  clear h0 h1 h2 h3
  go_enter Tryd.func28, Tryd.ntmps28
  go_wp2_with fail
  refine bodyPost_ret (results_cell_row2 rfl _ _ _ _ _ (0, 0) _ rfl (.bool false) rfl (HoldsT.last _ _ _ _) Tryd.underlying33 rfl Tryd.infoK) rfl ?_
  exact ⟨_, false, rfl, KO.none HN.out.1 HN.out.2.1 HN.out.2.2.1 HN.out.2.2.2, gb_alloc (gb_alloc (gb_refl _ _) _) _⟩
theorem implKeyOf (k m : Int) (u : ByteArray) (x : Int) (A : Option Addr) (n c : Nat) (w : World) (hu : u.size ≤ 1048576) (hL : LaidW w) :
    Calls Tryd.prog 29 #[.agg #[.int .i64 k, .int .i64 m, .string u, .int .i64 x, .slice A n c]] w (KeyOfPost k m u w) := by
  have HL := hid hL
  clear hL
  by_cases h0 : k = 0
  · subst h0
    go_enter Tryd.func29, Tryd.ntmps29
    go_wp2_with fail
    refine bodyPost_ret (results_cell_row2 rfl _ _ _ _ _ (0, 0) _ rfl (.bool true) rfl (HoldsT.last _ _ _ _) Tryd.underlying33 rfl Tryd.infoK) rfl ?_
    exact ⟨_, true, rfl, KO.null, gb_alloc (gb_alloc (gb_refl _ _) _) _⟩
  by_cases h1 : k = 1
  · subst h1
    clear h0
    go_enter Tryd.func29, Tryd.ntmps29
    go_wp2_with fail
    refine (intKey_any _ _).mono ?_
    rintro e w1 ⟨rfl, hg⟩
    have HG := hid hg
    have H1 := hid ((HoldsT.new (w.alloc (.cells #[.int .i64 1, .int .i64 m, .string u, .int .i64 x, .slice A n c] 26)) #[.bool false, .int .i64 0, .string ByteArray.empty] 33).grow hg)
    obtain ⟨c0, c1, c2⟩ := H1.out.cells3
    have z0 := H1.out.frozen 0; have z1 := H1.out.frozen 1; have z2 := H1.out.frozen 2
    have lt := H1.out.lt
    simp only [World.size_alloc] at c0 c1 c2 z0 z1 z2 lt
    clear hg
    go_wp2_with fail
    have H2 := H1.out
    simp only [World.size_alloc] at H2
    refine bodyPost_ret (results_cell_row2 rfl _ _ _ _ _ (0, 0) _ rfl (.bool true) rfl (H2.setK _ _ _) Tryd.underlying33 rfl Tryd.infoK) rfl ?_
    exact ⟨_, true, rfl, KO.one, gb_setK (gb_trans (gb_alloc (gb_alloc (gb_refl _ _) _) _) HG.out) (.inl (Nat.le_succ _)) _ _ _⟩
  by_cases h2 : k = 2
  · subst h2
    clear h0 h1
    go_enter Tryd.func29, Tryd.ntmps29
    go_wp2_with fail
    refine (intKey_any _ _).mono ?_
    rintro e w1 ⟨rfl, hg⟩
    have HG := hid hg
    have H1 := hid ((HoldsT.new (w.alloc (.cells #[.int .i64 2, .int .i64 m, .string u, .int .i64 x, .slice A n c] 26)) #[.bool false, .int .i64 0, .string ByteArray.empty] 33).grow hg)
    obtain ⟨c0, c1, c2⟩ := H1.out.cells3
    have z0 := H1.out.frozen 0; have z1 := H1.out.frozen 1; have z2 := H1.out.frozen 2
    have lt := H1.out.lt
    simp only [World.size_alloc] at c0 c1 c2 z0 z1 z2 lt
    clear hg
    go_wp2_with fail
    have H2 := H1.out
    simp only [World.size_alloc] at H2
    refine bodyPost_ret (results_cell_row2 rfl _ _ _ _ _ (0, 0) _ rfl (.bool true) rfl (H2.setK _ _ _) Tryd.underlying33 rfl Tryd.infoK) rfl ?_
    exact ⟨_, true, rfl, KO.two, gb_setK (gb_trans (gb_alloc (gb_alloc (gb_refl _ _) _) _) HG.out) (.inl (Nat.le_succ _)) _ _ _⟩
  by_cases h3 : k = 3
  · subst h3
    clear h0 h1 h2
    go_enter Tryd.func29, Tryd.ntmps29
    go_wp2_with fail
    refine (implTextKey u _ hu (HL.out.grow (gb_alloc (gb_alloc (gb_refl _ _) _) _))).mono ?_
    rintro e w1 ⟨r, b, rfl, hS, hg⟩
    have HG := hid hg
    have H1 := hid ((HoldsT.new (w.alloc (.cells #[.int .i64 3, .int .i64 m, .string u, .int .i64 x, .slice A n c] 26)) #[.bool false, .int .i64 0, .string ByteArray.empty] 33).grow hg)
    obtain ⟨c0, c1, c2⟩ := H1.out.cells3
    have z0 := H1.out.frozen 0; have z1 := H1.out.frozen 1; have z2 := H1.out.frozen 2
    have lt := H1.out.lt
    simp only [World.size_alloc] at c0 c1 c2 z0 z1 z2 lt
    clear hg
    have HS := hid hS
    clear hS
    obtain ⟨t, p, s, hK⟩ := keyT_agg u r b
    have HK := hid hK
    rw [hK]
    clear hK
    go_wp2_with fail
    have H2 := H1.out
    simp only [World.size_alloc] at H2
    refine bodyPost_ret (results_cell_row2 rfl _ _ _ _ _ (0, 0) _ rfl (.bool true) rfl (H2.setK _ _ _) Tryd.underlying33 rfl Tryd.infoK) rfl ?_
    exact ⟨_, true, rfl, KO.text HS.out HK.out, gb_setK (gb_trans (gb_alloc (gb_alloc (gb_refl _ _) _) _) HG.out) (.inl (Nat.le_succ _)) _ _ _⟩
  have e0 : (k == 0) = false := by simp; omega
  have e1 : (k == 1) = false := by simp; omega
  have e2 : (k == 2) = false := by simp; omega
  have e3 : (k == 3) = false := by simp; omega
  have HN := hid (And.intro h0 (And.intro h1 (And.intro h2 h3)))
  clear h0 h1 h2 h3
  go_enter Tryd.func29, Tryd.ntmps29
  go_wp2_with fail
  refine bodyPost_ret (results_cell_row2 rfl _ _ _ _ _ (0, 0) _ rfl (.bool false) rfl (HoldsT.last _ _ _ _) Tryd.underlying33 rfl Tryd.infoK) rfl ?_
  exact ⟨_, false, rfl, KO.none HN.out.1 HN.out.2.1 HN.out.2.2.1 HN.out.2.2.2, gb_alloc (gb_alloc (gb_refl _ _) _) _⟩
end Go.Proofs.YtmbochhmeojmfaaDoor
