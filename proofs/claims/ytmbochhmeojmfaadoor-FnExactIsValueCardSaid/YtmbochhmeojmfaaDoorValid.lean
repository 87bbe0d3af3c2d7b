/- Which values are valid; the set of keys that a loop has seen, as a map of the call's own. -/
import Derived.Test.YtmbochhmeojmfaaDoorIsKey
import Derived.Test.YtmbochhmeojmfaaDoorWt
import Derived.Test.YtmbochhmeojmfaaDoorFind
import Derived.Maps.OwnSet
import Derived.DeepKeys4
import Derived.MapViews
namespace Go.Proofs.YtmbochhmeojmfaaDoor
set_option maxRecDepth 20000
open Go.RowKit
set_option linter.unusedVariables false

/-- What a kind asks of a value's scalars. -/
def scalV (k m x : Int) (us n : Nat) : Prop :=
  (k = 0 ∧ us = 0 ∧ x = 0 ∧ n = 0 ∧ m = 0) ∨ (k = 1 ∧ us = 0 ∧ x = 0 ∧ n = 0 ∧ (m = 0 ∨ m = 1)) ∨ (k = 2 ∧ us = 0 ∧ x = 0 ∧ n = 0 ∧ -1000000000 ≤ m ∧ m ≤ 1000000000) ∨ (k = 3 ∧ x = 0 ∧ n = 0 ∧ m = 0 ∧ us ≤ 400) ∨
  ((k = 6 ∨ k = 7 ∨ k = 8) ∧ us = 0 ∧ x = 0 ∧ n = 0 ∧ 0 ≤ m ∧ m ≤ 255) ∨ (k = 4 ∧ us = 0 ∧ m = 0 ∧ 0 ≤ x ∧ x ≤ 1000000001)
/-- The entries of a valid array: keys that are keys, each for the first time, below the next number; valid values. -/
def Forest.rowV : Forest → Int → List (Bool × Int × ByteArray) → Prop
  | .nil, _, _ => True
  | .cons t n s k m u y b r, x, seen => IsK t n s true ∧ (t, n, s) ∉ seen ∧ (t = false → n < x) ∧ (scalV k m y u.size b.len ∧ (k = 4 → b.rowV y [])) ∧ r.rowV x ((t, n, s) :: seen)
def valV (k m : Int) (u : ByteArray) (x : Int) (f : Forest) : Prop := scalV k m x u.size f.len ∧ (k = 4 → f.rowV x [])
theorem rowV_cons (t : Bool) (n : Int) (s : ByteArray) (k m : Int) (u : ByteArray) (y : Int) (b r : Forest) (x : Int) (seen : List (Bool × Int × ByteArray)) :
    (Forest.cons t n s k m u y b r).rowV x seen ↔ IsK t n s true ∧ (t, n, s) ∉ seen ∧ (t = false → n < x) ∧ valV k m u y b ∧ r.rowV x ((t, n, s) :: seen) := Iff.rfl
theorem vno {k m : Int} {u : ByteArray} {x : Int} {f : Forest} {N : Nat} (hN : f.len = N) (h : ¬ scalV k m x u.size N) : (false = true ↔ valV k m u x f) := ⟨fun h => (by cases h), fun q => absurd q.1 (by rw [hN]; exact h)⟩
theorem vyes {k m : Int} {u : ByteArray} {x : Int} {f : Forest} {N : Nat} (hN : f.len = N) (h : scalV k m x u.size N) (hk : k ≠ 4) : (true = true ↔ valV k m u x f) := ⟨fun _ => ⟨by rw [hN]; exact h, fun e => absurd e hk⟩, fun _ => rfl⟩
theorem size_empty {u : ByteArray} (h : u.size = 0) : u = ByteArray.empty := ByteArray.ext (Array.eq_empty_of_size_eq_zero h)
theorem full_size {u : ByteArray} (h : u ≠ ByteArray.empty) : u.size ≠ 0 := fun e => h (size_empty e)
def VPost (k m : Int) (u : ByteArray) (x : Int) (f : Forest) (w : World) (e : Ending) (w' : World) : Prop := ∃ b, e = .returned (.bool b) ∧ (b = true ↔ valV k m u x f) ∧ w.grownBy w' none
def ValidOk (F : Nat) (f : Forest) : Prop := ∀ (w : World) (k m : Int) (u : ByteArray) (x : Int) (A : Option Addr) (c : Nat) (L : List Nat), RowF w f A 0 f.len L → f.size ≤ 1048576 → f.sz ≤ 1048576 → f.ok → LaidW w →
  Calls Tryd.prog F #[.agg #[.int .i64 k, .int .i64 m, .string u, .int .i64 x, .slice A f.len c]] w (VPost k m u x f w)
def Forest.keysV : Forest → List (Bool × Int × ByteArray)
  | .nil => []
  | .cons t n s _ _ _ _ _ r => (t, n, s) :: r.keysV
theorem Forest.keysV_app (f g : Forest) : (f.app g).keysV = f.keysV ++ g.keysV := by
  induction f with
  | nil => rfl
  | cons t n s k m u x b r _ ih => simp only [Forest.app, Forest.keysV, ih, List.cons_append]
theorem keyEq_iff {t : Bool} {n : Int} {s : ByteArray} {t' : Bool} {n' : Int} {s' : ByteArray} : keyEq t n s t' n' s' = true ↔ (t, n, s) = (t', n', s') := by
  unfold keyEq
  simp
/-- The first place of a key is the place of an entry with it if, and only if, none before has it. -/
theorem Forest.find_here (t : Bool) (n : Int) (s : ByteArray) (k m : Int) (u : ByteArray) (x : Int) (b r : Forest) : ∀ (dn : Forest) (i : Nat), (dn.app (.cons t n s k m u x b r)).find t n s i = ((i + dn.len : Nat) : Int) ↔ (t, n, s) ∉ dn.keysV := by
  intro dn
  induction dn with
  | nil =>
    intro i
    show (Forest.cons t n s k m u x b r).find t n s i = _ ↔ _
    rw [Forest.find_cons, if_pos (keyEq_iff.2 rfl)]
    simp [Forest.keysV, Forest.len]
  | cons t' n' s' k' m' u' x' b' r' _ ih =>
    intro i
    show (Forest.cons t' n' s' k' m' u' x' b' (r'.app _)).find t n s i = _ ↔ _
    rw [Forest.find_cons]
    by_cases hq : keyEq t' n' s' t n s = true
    · rw [if_pos hq]
      simp only [Forest.len, Forest.keysV, List.mem_cons, keyEq_iff.1 hq, true_or, not_true, iff_false]
      omega
    · rw [if_neg hq]
      have h := ih (i + 1)
      have hne : ¬ (t, n, s) = (t', n', s') := fun e => hq (keyEq_iff.2 e.symm)
      rw [show ((i + (Forest.cons t' n' s' k' m' u' x' b' r').len : Nat) : Int) = ((i + 1 + r'.len : Nat) : Int) by simp only [Forest.len]; omega, h]
      simp only [Forest.keysV, List.mem_cons, hne, false_or]
theorem Forest.sz_cons (t : Bool) (n : Int) (s : ByteArray) (k m : Int) (u : ByteArray) (x : Int) (b r : Forest) : (Forest.cons t n s k m u x b r).sz = s.size + (u.size + (b.len + b.sz)) + r.sz := rfl
/-! the map -/
theorem laidOutK : laidOutB Tryd.prog = true := by kernel_rfl
theorem rowK : (33 : TypeId) < Tryd.prog.types.size := of_decide_eq_true (by kernel_rfl)
theorem wideK : (match Tryd.prog.underlying 33 with | some (.array _ _) | some (.struct _) => true | _ => false) = true := by rw [Tryd.underlying33]
theorem keyedK : Maps.Keyed Tryd.prog 33 := Maps.Keyed.of_law (deep_law_laid laidOutK (m := 2) (by omega) rowK (by kernel_rfl) wideK)
theorem keyTypeK : Tryd.prog.keyType 33 = true := by kernel_rfl
theorem cellsK : Tryd.prog.cellsOf 33 = 3 := by kernel_rfl
theorem cellsT1 : Tryd.prog.cellsOf 4 = 1 := by kernel_rfl
theorem cellsT2 : Tryd.prog.cellsOf 3 = 1 := by kernel_rfl
theorem cellsT3 : Tryd.prog.cellsOf 9 = 1 := by kernel_rfl
theorem sizeTK : ∃ m, Tryd.prog.types.size = m + 2 := ⟨Tryd.prog.types.size - 2, by kernel_rfl⟩
abbrev kval (t : Bool) (n : Int) (s : ByteArray) : Value := .agg #[.bool t, .int .i64 n, .string s]
theorem keyOfK (t : Bool) (n : Int) (s : ByteArray) (hn : (Lit.int .i64 n).wf = true) (hs : s.size ≤ maxLen) : ∃ kl, keyOf Tryd.prog 33 (kval t n s) = some kl := by
  obtain ⟨m, hm⟩ := sizeTK
  refine ⟨.string (keyBytes [.bool t, .int .i64 n, .string s.data.toList]), ?_⟩
  unfold keyOf
  simp only [Tryd.underlying33]
  rw [if_pos (by simp [keyTypeK, Value.formed, Tryd.underlying33, cellsK]), hm]
  unfold Program.keyLits
  simp only [Tryd.underlying33, Value.cells]
  rw [if_pos (by rw [cellsK]; exact ⟨rfl, by kernel_rfl⟩)]
  show Option.map _ (Option.map _ (List.mapM _ [_, _, _])) = _
  rw [List.mapM_cons, List.mapM_cons, List.mapM_cons, List.mapM_nil]
  simp [cellsT1, cellsT2, cellsT3, Program.keyLits, Tryd.underlying4, Tryd.underlying3, Tryd.underlying9, hn, hs]
def seenB (ks : List (Bool × Int × ByteArray)) (t : Bool) (p : Int) (s : ByteArray) : Bool := ks.any fun q => keyEq q.1 q.2.1 q.2.2 t p s
theorem seenB_iff {ks : List (Bool × Int × ByteArray)} {t : Bool} {p : Int} {s : ByteArray} : seenB ks t p s = true ↔ (t, p, s) ∈ ks := by
  unfold seenB
  rw [List.any_eq_true]
  constructor
  · rintro ⟨⟨a, b, c⟩, hm, hk⟩
    rw [← keyEq_iff.1 hk]
    exact hm
  · intro hm
    exact ⟨_, hm, keyEq_iff.2 rfl⟩
theorem seenB_no {ks : List (Bool × Int × ByteArray)} {t : Bool} {p : Int} {s : ByteArray} (h : (t, p, s) ∉ ks) : seenB ks t p s = false := by
  cases hq : seenB ks t p s
  · rfl
  · exact absurd (seenB_iff.1 hq) h
theorem zeroB (w : World) : (zeroValue 4).run Tryd.prog w = .ok (.bool false) w := by kernel_rfl
theorem plainElem_bool_inv {v : Value} {x : Bool} {ps : List MemPlace} (h : plainElem (H := Unit) Tryd.prog 4 v = some (.lit (.bool x), ps)) : v = .bool x := by
  unfold plainElem at h
  rw [Tryd.underlying4] at h
  cases v <;> simp at h
  rw [h.1]
/-- The block holds a map that gives true at the keys seen, false at others; at most n entries. -/
def SeenM (w : World) (b n : Nat) (ks : List (Bool × Int × ByteArray)) : Prop := ∃ D : DataW Unit, w.ownsMap Tryd.prog 33 (plainElem Tryd.prog 4) b n D ∧ Maps.IsMap D ∧
  ∀ t p s kl, keyOf Tryd.prog 33 (kval t p s) = some kl → D.atKey kl (.lit (.bool false)) = .lit (.bool (seenB ks t p s))
theorem SeenM.made (w : World) : SeenM (w.alloc (.map #[] 0)) w.heap.size 0 [] := ⟨.map [], World.ownsMap_made _ _ _ _, Maps.isMap_empty, fun t p s kl _ => by simp [DataW.atKey, seenB]⟩
theorem SeenM.kept {w w1 : World} {b n : Nat} {ks : List (Bool × Int × ByteArray)} {r : Option Nat} (h : SeenM w b n ks) (hg : w.grownBy w1 r) (hr : some b ≠ r) : SeenM w1 b n ks := by
  obtain ⟨D, h1, h2, h3⟩ := h
  exact ⟨D, h1.kept hg hr, h2, h3⟩
theorem SeenM.grow {w w1 : World} {b n : Nat} {ks : List (Bool × Int × ByteArray)} (h : SeenM w b n ks) (hg : w.grownBy w1 none) : SeenM w1 b n ks := h.kept hg (by simp)
theorem SeenM.look {w : World} {b n : Nat} {ks : List (Bool × Int × ByteArray)} (h : SeenM w b n ks) (t : Bool) (p : Int) (s : ByteArray) (hp : (Lit.int .i64 p).wf = true) (hs : s.size ≤ maxLen) :
    (Instr.lookup 80 (.map (some b)) (.agg #[.bool t, .int .i64 p, .string s]) false).run Tryd.prog w = .ok (.bool (seenB ks t p s)) w := by
  obtain ⟨D, h1, h2, h3⟩ := h
  obtain ⟨kl, hk⟩ := keyOfK t p s hp hs
  obtain ⟨v, ps, hrun, hv⟩ := h1.lookup keyedK Tryd.underlying80 (zeroB w) (plainElem_bool Tryd.underlying4 false) hk
  rw [h3 t p s kl hk] at hv
  rw [plainElem_bool_inv hv] at hrun
  exact hrun
theorem wpList_seen {w : World} {ops : Array Oper} {rest : List Oper} {o : Oper} {a : Act} {Q : Exit → Act → World → Prop} (hg : o.guard = none) (m x v : Operand) (hop : o.op = Op.mapUpdate 80 m x v) (b n : Nat) (ks : List (Bool × Int × ByteArray))
    (hm : a.eval m = .map (some b)) (hS : SeenM w b n ks) (hn : n < maxLen) (t : Bool) (p : Int) (s : ByteArray) (hx : a.eval x = .agg #[.bool t, .int .i64 p, .string s]) (hv : a.eval v = .bool true) (hp : (Lit.int .i64 p).wf = true) (hs : s.size ≤ maxLen)
    (hK : ∀ w', SeenM w' b (n + 1) ((t, p, s) :: ks) → w.grownBy w' (some b) → wpList Tryd.prog ops Q rest (a.put o.dst undef) w') : wpList Tryd.prog ops Q (o :: rest) a w := by
  obtain ⟨D, h1, h2, h3⟩ := hS
  obtain ⟨kl, hk⟩ := keyOfK t p s hp hs
  refine wpList_mapUpdate_own w hg m x v _ hop 33 4 keyedK Tryd.underlying80 (plainElem Tryd.prog 4) b n D hm h1 hn _ _ kl hx hv hk (.lit (.bool true)) [] (plainElem_bool Tryd.underlying4 true) fun w' hw hgr => hK w' ⟨_, hw, h2.put _ _, fun t' p' s' kl' hk' => ?_⟩ hgr
  by_cases he : kl' = kl
  · subst he
    have hkk := keyedK.inj hk' hk
    simp only [Value.agg.injEq, Array.mk.injEq, List.cons.injEq, Value.bool.injEq, Value.int.injEq, Value.string.injEq, and_true, true_and] at hkk
    obtain ⟨rfl, rfl, rfl⟩ := hkk
    rw [Maps.atKey_put_same h2 (keyedK.key hk), seenB_iff.2 List.mem_cons_self]
  · rw [Maps.atKey_put_other he, h3 t' p' s' kl' hk']
    have hne : keyEq t p s t' p' s' = false := by
      cases hq : keyEq t p s t' p' s'
      · rfl
      · have e := keyEq_iff.1 hq
        injection e with e1 e2
        injection e2 with e2 e3
        subst e1; subst e2; subst e3
        rw [hk] at hk'
        exact absurd (Option.some.inj hk').symm he
    unfold seenB
    rw [List.any_cons, hne, Bool.false_or]
end Go.Proofs.YtmbochhmeojmfaaDoor
