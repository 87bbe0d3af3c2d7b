/- An entry taken out of a tree. No program in sight. -/
import Derived.Test.YtlfigoboeogegaaFind
import Derived.Test.YtlfigoboeogegaaCopy
namespace Go.Proofs.Ytlfigoboeogegaa
open Go.RowKit
set_option linter.unusedVariables false

def Forest.del (t : Bool) (n : Int) (s : ByteArray) : Forest → Forest
  | .nil => .nil
  | .cons t' n' s' k m u x b r => if keyEq t' n' s' t n s = true then r else .cons t' n' s' k m u x b (r.del t n s)
def valDel (k : Int) (t : Bool) (n : Int) (s : ByteArray) (f : Forest) : Forest := if k = 4 then f.del t n s else f
theorem Forest.find_no (t : Bool) (n : Int) (s : ByteArray) : ∀ (f : Forest) (i : Nat), f.find t n s i = -1 → f.del t n s = f := by
  intro f
  induction f with
  | nil => intro i _; rfl
  | cons t' n' s' k m u x b r _ ih =>
    intro i h
    rw [Forest.find_cons] at h
    by_cases hq : keyEq t' n' s' t n s = true
    · rw [if_pos hq] at h; omega
    · rw [if_neg hq] at h
      rw [Forest.del, if_neg hq, ih _ h]
theorem Forest.find_at (t : Bool) (n : Int) (s : ByteArray) : ∀ (f : Forest) (i j : Nat), f.find t n s i = (j : Int) → ∃ (a : Forest) (t' : Bool) (n' : Int) (s' : ByteArray) (k m : Int) (u : ByteArray) (x : Int) (b r : Forest),
    f = a.app (.cons t' n' s' k m u x b r) ∧ i + a.len = j ∧ f.del t n s = a.app r ∧ keyEq t' n' s' t n s = true := by
  intro f
  induction f with
  | nil => intro i j h; simp only [Forest.find] at h; omega
  | cons t' n' s' k m u x b r _ ih =>
    intro i j h
    rw [Forest.find_cons] at h
    by_cases hq : keyEq t' n' s' t n s = true
    · rw [if_pos hq] at h
      exact ⟨.nil, t', n', s', k, m, u, x, b, r, rfl, by simp only [Forest.len]; omega, by rw [Forest.del, if_pos hq]; rfl, hq⟩
    · rw [if_neg hq] at h
      obtain ⟨a, t2, n2, s2, k2, m2, u2, x2, b2, r2, e1, e2, e3, e4⟩ := ih _ _ h
      exact ⟨.cons t' n' s' k m u x b a, t2, n2, s2, k2, m2, u2, x2, b2, r2, by rw [e1]; rfl, by simp only [Forest.len]; omega, by rw [Forest.del, if_neg hq, e3]; rfl, e4⟩
theorem Forest.size_del (t : Bool) (n : Int) (s : ByteArray) : ∀ f : Forest, (f.del t n s).size ≤ f.size := by
  intro f
  induction f with
  | nil => exact Nat.le_refl _
  | cons t' n' s' k m u x b r _ ih =>
    rw [Forest.del]
    split
    · simp only [Forest.size]; omega
    · simp only [Forest.size]; omega
theorem valDel_size (k : Int) (t : Bool) (n : Int) (s : ByteArray) (f : Forest) : (valDel k t n s f).size ≤ f.size := by
  unfold valDel
  split
  · exact Forest.size_del t n s f
  · exact Nat.le_refl _
theorem valFind_cases (k : Int) (t : Bool) (n : Int) (s : ByteArray) (f : Forest) : (valFind k t n s f = -1 ∧ valDel k t n s f = f) ∨
    ∃ (a : Forest) (t' : Bool) (n' : Int) (s' : ByteArray) (kd nm : Int) (u : ByteArray) (x : Int) (b r : Forest), k = 4 ∧ f = a.app (.cons t' n' s' kd nm u x b r) ∧ valFind k t n s f = (a.len : Int) ∧ valDel k t n s f = a.app r ∧ keyEq t' n' s' t n s = true := by
  unfold valFind valDel
  by_cases hk : k = 4
  · rw [if_pos hk, if_pos hk]
    rcases f.find_lt t n s 0 with h | ⟨j, h, _, _⟩
    · exact .inl ⟨h, f.find_no t n s 0 h⟩
    · obtain ⟨a, t', n', s', kd, nm, u, x, b, r, e1, e2, e3, e4⟩ := f.find_at t n s 0 j h
      exact .inr ⟨a, t', n', s', kd, nm, u, x, b, r, hk, e1, by rw [h]; omega, e3, e4⟩
  · rw [if_neg hk, if_neg hk]
    exact .inl ⟨rfl, rfl⟩
theorem SubF.split {w : World} : ∀ {f g : Forest} {cs : List Value} {L : List Nat}, SubF w (f.app g) cs L → ∃ cs1 cs2 L1 L2, cs = cs1 ++ cs2 ∧ L = L1 ++ L2 ∧ SubF w f cs1 L1 ∧ SubF w g cs2 L2 := by
  intro f
  induction f with
  | nil => intro g cs L h; exact ⟨[], cs, [], L, rfl, rfl, ⟨rfl, rfl⟩, h⟩
  | cons t m s kd nm u x sub rest _ ih =>
    rintro g cs L ⟨SA, sc, cs', Ls, Lr, rfl, h0, h1, h2, rfl⟩
    obtain ⟨c1, c2, L1, L2, rfl, rfl, h3, h4⟩ := ih h2
    exact ⟨_, c2, blk SA ++ (Ls ++ L1), L2, by rw [List.append_assoc], by simp only [List.append_assoc], ⟨SA, sc, c1, Ls, L1, rfl, h0, h1, h3, rfl⟩, h4⟩
/-- The row behind a slice with elements. -/
theorem own_some {w : World} {lo : Nat} {e : TypeId} {size : Nat} {A : Option Addr} {n c : Nat} {xs : List Value} (h : w.ownsRow lo e size (.slice A n c) n xs) (hn : 0 < n) : ∃ g, A = some ⟨g, 0, none⟩ ∧ n ≤ c ∧ c ≤ maxLen ∧ lo ≤ g ∧ g < w.heap.size := by
  rcases h.2 with ⟨_, h0⟩ | ⟨g, cap, cur, hv, h1, h2, h3, h4, _⟩
  · omega
  · injection hv with e1 e2 e3
    subst e3
    exact ⟨g, e1, h3, h4, h1, (Array.getElem?_eq_some_iff.1 h2).1⟩
theorem own_take {w : World} {lo : Nat} {e : TypeId} {size g n c j : Nat} {xs : List Value} (h : w.ownsRow lo e size (.slice (some ⟨g, 0, none⟩) n c) n xs) (hj : j ≤ n) : w.ownsRow lo e size (.slice (some ⟨g, 0, none⟩) j c) j (xs.take (j * size)) := by
  have hl := h.1
  have hm : j * size ≤ n * size := Nat.mul_le_mul_right _ hj
  rcases h.2 with ⟨hv, h0⟩ | ⟨g', cap, cur, hv, h1, h2, h3, h4, h5, h6⟩
  · cases hv
  · injection hv with e1 e2 e3
    injection e1 with e1
    injection e1 with e1
    subst e1; subst e3
    refine ⟨by rw [List.length_take]; omega, .inr ⟨g, c, cur, rfl, h1, h2, by omega, h4, h5, ?_⟩⟩
    rw [← h6, List.take_take, Nat.min_eq_left hm]
/-- 's[j:]' of a row: where j is the capacity the old address stays. -/
theorem run_from {oi : Oper} {a : Act} (x y : Operand) (ho : oi.op = .slice 29 x (some y) none none) {g N c j1 : Nat} (hx : a.eval x = .slice (some ⟨g, 0, none⟩) N c) (hy : a.eval y = .int .i64 j1) (h1 : j1 ≤ N) (h2 : N ≤ c) :
    ∃ ad : Addr, (j1 < N → ad = ⟨g, j1 * 8, none⟩) ∧ ∀ w', (execOp a.eval oi).run Try.prog w' = .ok (.value (.slice (some ad) (N - j1) (c - j1))) w' := by
  by_cases h : j1 = c
  · refine ⟨⟨g, 0, none⟩, fun h => by omega, fun w' => ?_⟩
    have e : N = j1 := by omega
    unfold execOp
    simp only [ho, Option.map_some, Option.map_none, hx, hy]
    simp [go_sem, h, e, Try.underlying29]
  · refine ⟨⟨g, j1 * 8, none⟩, fun _ => rfl, fun w' => ?_⟩
    unfold execOp
    simp only [ho, Option.map_some, Option.map_none, hx, hy]
    simp [go_sem, h1, Try.underlying29]
    exact fun e => absurd e.symm h
/-- The same operation, taken first in a region. -/
theorem E_takeF {md : Region.Mode} {ops : Array Oper} {Q : Exit → Act → World → Prop} {S : World → Prop} {l fuel : Nat} {listed : Array Bool} {a : Act} {w : World} (i : Nat) {oi : Oper} (hi : ops[i]? = some oi) (dd : Option Tmp) (hdd : oi.dst = dd) (hs : Region.noSelect ops = true) (hf : Region.free md ops listed i = true) (hr : (Region.ready md ops listed).contains i = true) (hwt : waitsB md ops l i = true) (hil : i ≠ l)
    (hQ : ∀ v c a w, Q (.panic c) (a.put oi.dst v) w → Q (.panic c) a w) (hgd : oi.guard = none) (x y : Operand) (ho : oi.op = .slice 29 x (some y) none none) {g N c j1 : Nat} (hx : a.eval x = .slice (some ⟨g, 0, none⟩) N c) (hy : a.eval y = .int .i64 j1) (h1 : j1 ≤ N) (h2 : N ≤ c) (hS : S w)
    (h : ∀ ad : Addr, (j1 < N → ad = ⟨g, j1 * 8, none⟩) → wpAnyE Try.prog md ops Q S l fuel (listed.setIfInBounds i true) (a.put dd (.slice (some ad) (N - j1) (c - j1))) w) : wpAnyE Try.prog md ops Q S l (fuel + 1) listed a w := by
  obtain ⟨ad, had, hrf⟩ := run_from x y ho hx hy h1 h2
  exact E_take i hi dd hdd hs hf hr hwt hil hQ hgd _ (fun w' _ => hrf w') hS (h ad had)
/-- 's[:j]' of a row. -/
theorem run_upto {oi : Oper} {a : Act} {w : World} (x y : Operand) (ho : oi.op = .slice 29 x none (some y) none) {g N c j : Nat} (hx : a.eval x = .slice (some ⟨g, 0, none⟩) N c) (hy : a.eval y = .int .i64 j) (h1 : j ≤ c) :
    (execOp a.eval oi).run Try.prog w = .ok (.value (.slice (some ⟨g, 0, none⟩) j c)) w := by
  unfold execOp
  simp only [ho, Option.map_some, Option.map_none, hx, hy]
  simp [go_sem, h1, Try.underlying29, Addr.add]
theorem SubF.cells1 {w : World} : ∀ {f : Forest} {cs : List Value} {L : List Nat}, SubF w f cs L → ∀ u ∈ cs, u.oneCell' = true := by
  intro f
  induction f with
  | nil => rintro cs L ⟨rfl, _⟩ u hu; cases hu
  | cons t m s kd nm u x sub rest _ ih =>
    rintro cs L ⟨SA, sc, cs', Ls, Lr, rfl, h0, h1, h2, rfl⟩ v hv
    rcases List.mem_append.1 hv with hv | hv
    · simp only [List.mem_cons, List.not_mem_nil, or_false] at hv
      rcases hv with rfl | rfl | rfl | rfl | rfl | rfl | rfl | rfl <;> rfl
    · exact ih h2 v hv
theorem OwnL.drop {w : World} {e : TypeId} {lo : Nat} {L1 L2 L3 : List Nat} (h : OwnL w e lo (L1 ++ (L2 ++ L3))) : OwnL w e lo (L1 ++ L3) := by
  obtain ⟨h1, h2⟩ := h
  obtain ⟨n1, n2, n3⟩ := List.nodup_append.1 h1
  obtain ⟨m1, m2, m3⟩ := List.nodup_append.1 n2
  refine ⟨List.nodup_append.2 ⟨n1, m2, fun a ha b hb => n3 a ha b (List.mem_append.2 (.inr hb))⟩, fun b hb => h2 b ?_⟩
  rcases List.mem_append.1 hb with hb | hb
  · exact List.mem_append.2 (.inl hb)
  · exact List.mem_append.2 (.inr (List.mem_append.2 (.inr hb)))
/-- The cells behind a slice of a row from an element on. -/
theorem own_news {w : World} {lo : Nat} {e : TypeId} {g n c : Nat} {cs1 cs2 cs3 : List Value} (h : w.ownsRow lo e 8 (.slice (some ⟨g, 0, none⟩) n c) n (cs1 ++ (cs2 ++ cs3))) {j1 M : Nat} (h1 : (cs1 ++ cs2).length = j1 * 8) (h3 : cs3.length = M * 8) {ad : Addr} (had : 0 < M → ad = ⟨g, j1 * 8, none⟩) :
    ∀ q u, cs3[q]? = some u → w.cell? (ad.add q) = some u := by
  intro q u hq
  have hl : q < cs3.length := (List.getElem?_eq_some_iff.1 hq).1
  obtain rfl := had (by omega)
  have hn := h.1
  simp only [List.length_append] at hn h1
  rw [Addr.add_mid, h.cellAt (j1 * 8 + q) (by omega), ← List.append_assoc, List.getElem?_append_right (by simp only [List.length_append]; omega)]
  rw [List.length_append, show j1 * 8 + q - (cs1.length + cs2.length) = q by omega]
  exact hq
/-- 's[j:]' of a row: where j is the capacity the old address stays. -/
theorem run_fromO {oi : Oper} {a : Act} (x y : Operand) (ho : oi.op = .slice 29 x (some y) none none) {g o N c j1 : Nat} (hx : a.eval x = .slice (some ⟨g, o, none⟩) N c) (hy : a.eval y = .int .i64 j1) (h1 : j1 ≤ N) (h2 : N ≤ c) :
    ∃ ad : Addr, (j1 < N → ad = ⟨g, o + j1 * 8, none⟩) ∧ ∀ w', (execOp a.eval oi).run Try.prog w' = .ok (.value (.slice (some ad) (N - j1) (c - j1))) w' := by
  by_cases h : j1 = c
  · refine ⟨⟨g, o, none⟩, fun h => by omega, fun w' => ?_⟩
    have e : N = j1 := by omega
    unfold execOp
    simp only [ho, Option.map_some, Option.map_none, hx, hy]
    simp [go_sem, h, e, Try.underlying29]
  · refine ⟨⟨g, o + j1 * 8, none⟩, fun _ => rfl, fun w' => ?_⟩
    unfold execOp
    simp only [ho, Option.map_some, Option.map_none, hx, hy]
    simp [go_sem, h1, Try.underlying29]
    exact fun e => absurd e.symm h
/-- The same operation, taken first in a region. -/
theorem E_takeFO {md : Region.Mode} {ops : Array Oper} {Q : Exit → Act → World → Prop} {S : World → Prop} {l fuel : Nat} {listed : Array Bool} {a : Act} {w : World} (i : Nat) {oi : Oper} (hi : ops[i]? = some oi) (dd : Option Tmp) (hdd : oi.dst = dd) (hs : Region.noSelect ops = true) (hf : Region.free md ops listed i = true) (hr : (Region.ready md ops listed).contains i = true) (hwt : waitsB md ops l i = true) (hil : i ≠ l)
    (hQ : ∀ v c a w, Q (.panic c) (a.put oi.dst v) w → Q (.panic c) a w) (hgd : oi.guard = none) (x y : Operand) (ho : oi.op = .slice 29 x (some y) none none) {g o N c j1 : Nat} (hx : a.eval x = .slice (some ⟨g, o, none⟩) N c) (hy : a.eval y = .int .i64 j1) (h1 : j1 ≤ N) (h2 : N ≤ c) (hS : S w)
    (h : ∀ ad : Addr, (j1 < N → ad = ⟨g, o + j1 * 8, none⟩) → wpAnyE Try.prog md ops Q S l fuel (listed.setIfInBounds i true) (a.put dd (.slice (some ad) (N - j1) (c - j1))) w) : wpAnyE Try.prog md ops Q S l (fuel + 1) listed a w := by
  obtain ⟨ad, had, hrf⟩ := run_fromO x y ho hx hy h1 h2
  exact E_take i hi dd hdd hs hf hr hwt hil hQ hgd _ (fun w' _ => hrf w') hS (h ad had)
/-- 's[:j]' of a row. -/
theorem run_uptoO {oi : Oper} {a : Act} {w : World} (x y : Operand) (ho : oi.op = .slice 29 x none (some y) none) {g o N c j : Nat} (hx : a.eval x = .slice (some ⟨g, o, none⟩) N c) (hy : a.eval y = .int .i64 j) (h1 : j ≤ c) :
    (execOp a.eval oi).run Try.prog w = .ok (.value (.slice (some ⟨g, o, none⟩) j c)) w := by
  unfold execOp
  simp only [ho, Option.map_some, Option.map_none, hx, hy]
  simp [go_sem, h1, Try.underlying29, Addr.add]
/-- The cells of a row that came in. -/
theorem RowF.sub {w : World} {b o : Nat} : ∀ {f : Forest} {k n : Nat} {L : List Nat}, RowF w f (some ⟨b, o, none⟩) k n L → ∃ cs, SubF w f cs L ∧ ∀ q, q < cs.length → w.cell? ⟨b, o + k * 8 + q, none⟩ = cs[q]? := by
  intro f
  induction f with
  | nil => rintro k n L ⟨_, rfl⟩; exact ⟨[], ⟨rfl, rfl⟩, fun q hq => absurd hq (by simp)⟩
  | cons t m s kd nm u x sub rest _ ih =>
    intro k n L h
    obtain ⟨b', o', SA, sc, Ls, Lr, e, _, hr, h0, h1, h2, rfl⟩ := h.range
    injection e with e
    injection e with e1 e2
    subst e1; subst e2
    obtain ⟨cs, hs, hc⟩ := ih h2
    refine ⟨_, ⟨SA, sc, cs, Ls, Lr, rfl, h0, h1, hs, rfl⟩, fun q hq => ?_⟩
    rcases Nat.lt_or_ge q 8 with hq8 | hq8
    · rw [List.getElem?_append_left (by simpa using hq8)]
      exact (hr q _ (List.getElem?_eq_getElem (by simpa using hq8))).trans (List.getElem?_eq_getElem _).symm
    · rw [List.getElem?_append_right (by simpa using hq8)]
      have h3 := hc (q - 8) (by simp only [List.length_append, List.length_cons, List.length_nil] at hq; omega)
      rw [show o + (k + 1) * 8 + (q - 8) = o + k * 8 + q by omega] at h3
      exact h3
/-- The row that a slice of the call's own makes of cells. -/
theorem own_rowF {w : World} {lo : Nat} {e : TypeId} {f : Forest} {A : Option Addr} {c : Nat} {cs : List Value} {L : List Nat} (h : w.ownsRow lo e 8 (.slice A f.len c) f.len cs) (hs : SubF w f cs L) : RowF w f A 0 f.len L := by
  rcases h.2 with ⟨hv, h0⟩ | ⟨g, cap, cur, hv, hlo, hh, hcap, _, hsz, htk⟩
  · have hf : f = .nil := by
      cases f with
      | nil => rfl
      | cons => simp [Forest.len] at h0
    subst hf
    obtain ⟨_, rfl⟩ := hs
    exact ⟨rfl, rfl⟩
  · injection hv with h1 h2 h3
    subst h1 h3
    have hl := hs.length
    have := SubF.row (o := 0) (Array.getElem?_eq_some_iff.1 hh).1 0 hs fun j hj => by
      rw [show 0 + 0 * 8 + j = j by omega, h.cellAt j (by omega)]
    rw [Nat.zero_add] at this
    exact this
def ShownPost (w : World) (k m : Int) (u : ByteArray) (x : Int) (f : Forest) (e : Ending) (w' : World) : Prop := ∃ A' c' L', e = .returned (.agg #[.int .i64 k, .int .i64 m, .string u, .int .i64 x, .slice A' f.len c']) ∧ RowF w' f A' 0 f.len L' ∧ w.grownBy w' none
theorem results_cell_row2 {P : Program} {fn : Func} {p u : Tmp} {ty : TypeId} (h : fn.results = #[.cell p ty, .tmp u]) (tmps : Array Value) (w : World) (g : Nat) (t : TypeId) (cs : Array Value) (fr : Nat × Nat) (d : TypeDesc)
    (hp : tmps.getD p undef = .pointer (some ⟨g, 0, none⟩)) (v : Value) (hv : tmps.getD u undef = v) (hg : w.heap[g]? = some (.cells cs t fr))
    (hu : P.underlying ty = some d) (hd : (match d with | .struct _ | .array _ _ => true | _ => false) = true) (hi : (P.info? ty).map (·.size) = some cs.size) :
    (results fn tmps).run P w = .ok (.tuple #[.agg cs, v]) w := by
  have hp' : tmps[p]?.getD undef = .pointer (some ⟨g, 0, none⟩) := by simpa using hp
  have hv' : tmps[u]?.getD undef = v := by simpa using hv
  simp [results, h, hp', hv', asAddr, run_loadVar_row w g t ty cs fr d hg hu hd hi]
def PairPost (w : World) (k m : Int) (u : ByteArray) (x : Int) (f : Forest) (b : Bool) (e : Ending) (w' : World) : Prop := ∃ A' c' L', e = .returned (.tuple #[.agg #[.int .i64 k, .int .i64 m, .string u, .int .i64 x, .slice A' f.len c'], .bool b]) ∧ (A' = none → c' = 0) ∧ Rw w' 61 w.heap.size f A' c' L' ∧ w.grownBy w' none
end Go.Proofs.Ytlfigoboeogegaa
