/- A region that draws its order, whose last operation waits for all others: what S grants is asked of every world but the last. No program in sight. -/
import Derived.Test.YtlfigoboeogegaaHeld
namespace Go.Proofs.Ytlfigoboeogegaa
open Go.RowKit
set_option linter.unusedVariables false
section
variable {P : Program} {md : Region.Mode} {ops : Array Oper} {Q : Exit → Act → World → Prop} {S : World → Prop} {l : Nat}
/-- S holds behind every operation but number l. -/
def wpAnyE (P : Program) (md : Region.Mode) (ops : Array Oper) (Q : Exit → Act → World → Prop) (S : World → Prop) (l : Nat) : Nat → Array Bool → Act → World → Prop
  | 0, listed, a, w => Region.ready md ops listed = [] ∧ Q .normal a w
  | fuel + 1, listed, a, w => (Region.ready md ops listed = [] → Q .normal a w) ∧ ∀ i ∈ Region.ready md ops listed, wpOp P ops Q i (fun a' w' => (i ≠ l → S w') ∧ wpAnyE P md ops Q S l fuel (listed.setIfInBounds i true) a' w') a w
theorem wpAny_of_E : ∀ (fuel : Nat) (listed : Array Bool) (a : Act) (w : World), wpAnyE P md ops Q S l fuel listed a w → wpAny P md ops Q fuel listed a w
  | 0, _, _, _, h => h
  | fuel + 1, _, _, _, h => ⟨h.1, fun i hi => wpOp_mono (fun a' w' h' => wpAny_of_E fuel _ a' w' h'.2) (h.2 i hi)⟩
/-- Number l waits for number i by an edge of its own. -/
def waitsB (md : Region.Mode) (ops : Array Oper) (l i : Nat) : Bool := match ops[l]? with
  | some o => o.after.any fun e => Region.binds md e && e.on == i
  | none => true
theorem waitsB_spec {i : Nat} (h : waitsB md ops l i = true) {o : Oper} (ho : ops[l]? = some o) : ∃ e ∈ o.after, Region.binds md e = true ∧ e.on = i := by
  unfold waitsB at h
  rw [ho] at h
  obtain ⟨e, he, hb⟩ := Array.any_eq_true'.1 h
  simp only [Bool.and_eq_true, beq_iff_eq] at hb
  exact ⟨e, he, hb.1, hb.2⟩
theorem wpAnyE_first {i : Nat} {oi : Oper} {v : Value} (hi : ops[i]? = some oi) (hsel : ∀ (j : Nat) (o : Oper) cs b, ops[j]? = some o → o.op ≠ .select cs b) (hil : i ≠ l) (hwt : waitsB md ops l i = true)
    (hQ : ∀ c a w, Q (.panic c) (a.put oi.dst v) w → Q (.panic c) a w) :
    ∀ (fuel : Nat) (listed : Array Bool) (a : Act) (w : World),
      (∀ j oj, ops[j]? = some oj → j ≠ i → listed.getD j true = false → (∀ e ∈ oj.after, Region.binds md e = true → e.on ≠ i) → oi.apart ops oj = true) →
      i ∈ Region.ready md ops listed → YieldsIf P ops S oi v a → S w →
      wpAnyE P md ops Q S l fuel (listed.setIfInBounds i true) (a.put oi.dst v) w → wpAnyE P md ops Q S l (fuel + 1) listed a w := by
  intro fuel
  induction fuel with
  | zero =>
    intro listed a w _ hr hy hS H
    refine ⟨fun h => (by rw [h] at hr; cases hr), fun j hj => ?_⟩
    by_cases hji : j = i
    · subst hji; exact hy.wpOp hi hS ⟨fun _ => hS, H⟩
    · have := ready_mono hj hji
      rw [H.1] at this
      cases this
  | succ fuel ih =>
    intro listed a w hfree hr hy hS H
    refine ⟨fun h => (by rw [h] at hr; cases hr), fun j hj => ?_⟩
    by_cases hji : j = i
    · subst hji; exact hy.wpOp hi hS ⟨fun _ => hS, H⟩
    · have h1 := H.2 j (ready_mono hj hji)
      obtain ⟨hjun, oj, hoj, hall⟩ := mem_ready.1 hj
      have hnot : ∀ e ∈ oj.after, Region.binds md e = true → e.on ≠ i := fun e he hb heq => by
        have h1 := hall e he hb
        have h0 := (mem_ready.1 hr).1
        rw [heq] at h1
        rcases Nat.lt_or_ge i listed.size with h' | h'
        · simp [h'] at h0 h1; rw [h0] at h1; cases h1
        · simp [Array.getElem?_eq_none h'] at h1
      have hjl : j ≠ l := fun e => by
        subst e
        obtain ⟨e, he, hb, ho⟩ := waitsB_spec hwt hoj
        exact hnot e he hb ho
      have h2 := wpOp_putIf hoj (hfree j oj hoj hji hjun hnot) (fun cs b => hsel i oi cs b hi) (fun cs b => hsel j oj cs b hoj) hQ hy h1
      have hfree' : ∀ k ok, ops[k]? = some ok → k ≠ i → (listed.setIfInBounds j true).getD k true = false →
          (∀ e ∈ ok.after, Region.binds md e = true → e.on ≠ i) → oi.apart ops ok = true := fun k ok hk hki hun hno => by
        refine hfree k ok hk hki ?_ hno
        by_cases hjk : j = k
        · subst hjk; exact hjun
        · rw [getD_set_ne true hjk] at hun; exact hun
      refine wpOp_mono (fun a' w' h3 => ⟨h3.2.1, ih (listed.setIfInBounds j true) a' w' hfree' (ready_mono hr (Ne.symm hji)) h3.1 (h3.2.1 hjl) ?_⟩) h2
      rw [Array.setIfInBounds_comm _ _ hji]
      exact h3.2.2
theorem wp_region_E {id : Nat} {a : Act} {w : World} (l n : Nat) (hn : ops.size = n) (hm : P.follows .mixedOrders = true) (S : World → World → Prop)
    (h : ∀ wd, w.grownBy wd none → wpAnyE P .any ops Q (S wd) l n (Array.replicate n false) a wd) : (Code.region id ops true).wp P Q a w := by
  subst hn
  exact wp_region_any hm (wpAny_of_E _ _ _ _ (h _ (gb_drew (gb_refl w none))))
end
section
variable {P : Program} {md : Region.Mode} {ops : Array Oper} {Q : Exit → Act → World → Prop} {S : World → Prop} {l fuel : Nat} {listed : Array Bool} {a : Act} {w : World}
/-- An operation that yields v in every world that S grants, taken first. -/
theorem E_take (i : Nat) {oi : Oper} (hi : ops[i]? = some oi) (dd : Option Tmp) (hdd : oi.dst = dd) (hs : Region.noSelect ops = true) (hf : Region.free md ops listed i = true) (hr : (Region.ready md ops listed).contains i = true) (hwt : waitsB md ops l i = true) (hil : i ≠ l)
    (hQ : ∀ v c a w, Q (.panic c) (a.put oi.dst v) w → Q (.panic c) a w) (hgd : oi.guard = none) (v : Value) (hrun : ∀ w', S w' → (execOp a.eval oi).run P w' = .ok (.value v) w') (hS : S w)
    (h : wpAnyE P md ops Q S l fuel (listed.setIfInBounds i true) (a.put dd v) w) : wpAnyE P md ops Q S l (fuel + 1) listed a w := by
  subst hdd
  exact wpAnyE_first hi (Region.noSelect_spec hs) hil hwt (hQ _) fuel listed a w (Region.free_spec hi hf) (by simpa using hr) (.inl ⟨by simp only [Region.wanted, hgd], hrun⟩) hS h
theorem E_load (i : Nat) {oi : Oper} (hi : ops[i]? = some oi) (dd : Option Tmp) (hdd : oi.dst = dd) (hs : Region.noSelect ops = true) (hf : Region.free md ops listed i = true) (hr : (Region.ready md ops listed).contains i = true) (hwt : waitsB md ops l i = true) (hil : i ≠ l)
    (hQ : ∀ v c a w, Q (.panic c) (a.put oi.dst v) w → Q (.panic c) a w) (hgd : oi.guard = none) (ty : TypeId) (x : Operand) (ho : oi.op = .load ty x) (g o : Nat) (hx : a.eval x = .pointer (some ⟨g, o, none⟩))
    (vs : List Value) (hh : ∀ w', S w' → w'.rangeAt g o vs) {d : TypeDesc} (hu : P.underlying ty = some d) (hd : d.isRow = true) (hsz : (P.info? ty).map (·.size) = some vs.length) (hS : S w)
    (h : wpAnyE P md ops Q S l fuel (listed.setIfInBounds i true) (a.put dd (.agg vs.toArray)) w) : wpAnyE P md ops Q S l (fuel + 1) listed a w := by
  subst hdd
  exact wpAnyE_first hi (Region.noSelect_spec hs) hil hwt (hQ _) fuel listed a w (Region.free_spec hi hf) (by simpa using hr) (yieldsIf_load_mid (by simp only [Region.wanted, hgd]) ty x ho g o hx vs d hh hu hd hsz) hS h
theorem E_wp (i : Nat) {oi : Oper} (hi : ops[i]? = some oi) (hgd : oi.guard = none) {K : Act → World → Prop} (h : oi.wp P a w K Q) : wpOp P ops Q i K a w := by
  unfold wpOp
  simp only [hi, Region.wanted, hgd, if_true]
  exact .inl h
/-- The one operation that may come up. -/
theorem E_only (i : Nat) (hr : Region.ready md ops listed = [i]) (h : wpOp P ops Q i (fun a' w' => (i ≠ l → S w') ∧ wpAnyE P md ops Q S l fuel (listed.setIfInBounds i true) a' w') a w) : wpAnyE P md ops Q S l (fuel + 1) listed a w :=
  ⟨fun h0 => by rw [hr] at h0; simp at h0, fun j hj => by
    rw [hr] at hj
    obtain rfl : j = i := by simpa using hj
    exact h⟩
/-- One of two that may come up. -/
theorem E_two (i j : Nat) (hr : Region.ready md ops listed = [i, j]) (h1 : wpOp P ops Q i (fun a' w' => (i ≠ l → S w') ∧ wpAnyE P md ops Q S l fuel (listed.setIfInBounds i true) a' w') a w)
    (h2 : wpOp P ops Q j (fun a' w' => (j ≠ l → S w') ∧ wpAnyE P md ops Q S l fuel (listed.setIfInBounds j true) a' w') a w) : wpAnyE P md ops Q S l (fuel + 1) listed a w :=
  ⟨fun h0 => by rw [hr] at h0; simp at h0, fun k hk => by
    rw [hr] at hk
    rcases List.mem_cons.1 hk with rfl | hk
    · exact h1
    · obtain rfl : k = j := by simpa using hk
      exact h2⟩
theorem E_call (i : Nat) {oi : Oper} (hi : ops[i]? = some oi) (dd : Option Tmp) (hdd : oi.dst = dd) (hgd : oi.guard = none) (F : FuncId) (args : Array Value) (hrun : (execOp a.eval oi).run P w = .ok (.enter F args) w) {R : Ending → World → Prop} (hc : Calls P F args w R) {K : Act → World → Prop}
    (h : ∀ e w', R e w' → ∃ v, e = .returned v ∧ K (a.put dd v) w') : wpOp P ops Q i K a w := by
  subst hdd
  refine E_wp i hi hgd ?_
  unfold Oper.wp
  rw [hrun, Oper.upon_enter]
  refine hc.mono fun e w' hR => ?_
  obtain ⟨v, rfl, h2⟩ := h e w' hR
  exact h2
theorem E_val (i : Nat) {oi : Oper} (hi : ops[i]? = some oi) (dd : Option Tmp) (hdd : oi.dst = dd) (hgd : oi.guard = none) (v : Value) (w2 : World) (hrun : (execOp a.eval oi).run P w = .ok (.value v) w2) {K : Act → World → Prop} (h : K (a.put dd v) w2) : wpOp P ops Q i K a w := by
  subst hdd
  refine E_wp i hi hgd ?_
  unfold Oper.wp
  rw [hrun, Oper.upon_value]
  exact h
theorem E_skip (i : Nat) {oi : Oper} (hi : ops[i]? = some oi) (dd : Option Tmp) (hdd : oi.dst = dd) (hgd : oi.guard = none) (w2 : World) (hrun : (execOp a.eval oi).run P w = .ok .skip w2) {K : Act → World → Prop} (h : K (a.put dd undef) w2) : wpOp P ops Q i K a w := by
  subst hdd
  refine E_wp i hi hgd ?_
  unfold Oper.wp
  rw [hrun, Oper.upon_skip]
  exact h
theorem E_done {listed : Array Bool} {a : Act} {w : World} (hr : Region.ready md ops listed = []) (h : Q .normal a w) : ∀ fuel, wpAnyE P md ops Q S l fuel listed a w
  | 0 => ⟨hr, h⟩
  | _ + 1 => ⟨fun _ => h, by rw [hr]; simp⟩
/-- 'append' of m whole elements onto a row of the call's own. -/
theorem run_appop {oi : Oper} (s x : Operand) (t : TypeId) (ho : oi.op = .call { callee := .builtin .append, args := #[s, x], argTypes := #[t, t] })
    (base : Nat) (e : TypeId) (i : TypeInfo) (z : Value) (size bytes : Nat) (ht : P.underlying t = some (.slice e)) (hi : P.info? e = some i) (hz : i.zero = some z)
    (hsize : i.size = size) (hby : i.bytes = bytes) (hzs : z.cells.size = size) (hsz : 0 < size)
    (v : Value) (n : Nat) (xs : List Value) (hs : a.eval s = v) (hown : w.ownsRow base e size v n xs)
    (ad : Addr) (m c : Nat) (news : List Value) (hx : a.eval x = .slice (some ad) m c) (hl : news.length = m * size) (hnews : ∀ j u, news[j]? = some u → w.cell? (ad.add j) = some u) (h1 : ∀ u ∈ news, u.oneCell' = true)
    (h63 : n + m ≤ maxLen) (hbytes : (n + m) * bytes ≤ 140737488355328) (hbase : base ≤ w.heap.size) :
    ∃ A' c' w', (execOp a.eval oi).run P w = .ok (.value (.slice A' (n + m) c')) w' ∧ w'.ownsRow base e size (.slice A' (n + m) c') (n + m) (xs ++ news) ∧ (A' = none → c' = 0) ∧ w.grownBy w' v.ownBlock ∧
      ((Value.slice A' (n + m) c').ownBlock = v.ownBlock ∨ (Value.slice A' (n + m) c').ownBlock = some w.heap.size) := by
  obtain ⟨v', w', hr, h2, h3, h4, h5⟩ := run_append_own_at (P := P) w base t oi.type e i z size bytes ht hi hz hsize hby hzs hsz v n xs hown ad m c news hl hnews h1 h63 hbytes hbase
  obtain ⟨A', c', rfl, hA'⟩ := own_form h2
  refine ⟨A', c', w', ?_, h2, hA', h3, h5⟩
  unfold execOp
  simp only [ho, resolve, invoke, builtin, Sem.run_bind, Sem.run_pure, Result.andThen_ok, List.map_toArray, List.map_cons, List.map_nil, hs, hx, hr]
theorem E_append (k : Nat) {oi : Oper} (hk : ops[k]? = some oi) (dd : Option Tmp) (hdd : oi.dst = dd) (hgd : oi.guard = none) (s x : Operand) (t : TypeId) (ho : oi.op = .call { callee := .builtin .append, args := #[s, x], argTypes := #[t, t] })
    (base : Nat) (e : TypeId) (i : TypeInfo) (z : Value) (size bytes : Nat) (ht : P.underlying t = some (.slice e)) (hi : P.info? e = some i) (hz : i.zero = some z)
    (hsize : i.size = size) (hby : i.bytes = bytes) (hzs : z.cells.size = size) (hsz : 0 < size)
    (v : Value) (n : Nat) (xs : List Value) (hs : a.eval s = v) (hown : w.ownsRow base e size v n xs)
    (ad : Addr) (m c : Nat) (news : List Value) (hx : a.eval x = .slice (some ad) m c) (hl : news.length = m * size) (hnews : ∀ j u, news[j]? = some u → w.cell? (ad.add j) = some u) (h1 : ∀ u ∈ news, u.oneCell' = true)
    (h63 : n + m ≤ maxLen) (hbytes : (n + m) * bytes ≤ 140737488355328) (hbase : base ≤ w.heap.size) {K : Act → World → Prop}
    (h : ∀ A' c' w', w'.ownsRow base e size (.slice A' (n + m) c') (n + m) (xs ++ news) → (A' = none → c' = 0) → w.grownBy w' v.ownBlock →
      ((Value.slice A' (n + m) c').ownBlock = v.ownBlock ∨ (Value.slice A' (n + m) c').ownBlock = some w.heap.size) → K (a.put dd (.slice A' (n + m) c')) w') : wpOp P ops Q k K a w := by
  obtain ⟨A', c', w', hr, h2, h3, h4, h5⟩ := run_appop s x t ho base e i z size bytes ht hi hz hsize hby hzs hsz v n xs hs hown ad m c news hx hl hnews h1 h63 hbytes hbase
  exact E_val k hk dd hdd hgd _ w' hr (h A' c' w' h2 h3 h4 h5)
theorem news_lit (w : World) (cs : List Value) (t : TypeId) : ∀ j u, cs[j]? = some u → (w.alloc (.cells cs.toArray t)).cell? ((⟨w.heap.size, 0, none⟩ : Addr).add j) = some u := by
  intro j u hj
  rw [Addr.add_mid, Nat.zero_add]
  have := HoldsT.cell (HoldsT.new w cs.toArray t) j
  rw [this]
  simpa using hj
theorem rangeAt_kept {w w1 : World} {b o : Nat} {cs : List Value} {r : Option Nat} (h : w.rangeAt b o cs) (hg : w.grownBy w1 r) (hb : b < w.heap.size) (hr : some b ≠ r) : w1.rangeAt b o cs := fun j v hv => (World.cell?_of_block (a := ⟨b, o + j, none⟩) (hg.block b hb hr)).trans (h j v hv)
end
/-- A region's ways meet again: what holds behind it, and what its slots hold. -/
theorem wp_region_puts {P : Program} {id : Nat} {ops : Array Oper} {b : Bool} {Q : Exit → Act → World → Prop} {a : Act} {w : World} {X : Type} (R : X → World → Prop) (l : X → List (Option Tmp × Value))
    (h : (Code.region id ops b).wp P (fun e a' w' => e = .normal ∧ ∃ x, R x w' ∧ a' = (l x).foldl (fun a p => a.put p.1 p.2) a) a w) (hQ : ∀ x w', R x w' → Q .normal ((l x).foldl (fun a p => a.put p.1 p.2) a) w') : (Code.region id ops b).wp P Q a w := by
  refine Code.wp_mono (fun e a' w' h => ?_) h
  obtain ⟨rfl, x, hR, rfl⟩ := h
  exact hQ x w' hR
theorem E_store {P : Program} {ops : Array Oper} {Q : Exit → Act → World → Prop} {a : Act} {w : World} (i : Nat) {oi : Oper} (hi : ops[i]? = some oi) (dd : Option Tmp) (hdd : oi.dst = dd) (hgd : oi.guard = none) (ty : TypeId) (x y : Operand) (ho : oi.op = .store ty x y)
    (g o : Nat) (vs : List Value) (hx : a.eval x = .pointer (some ⟨g, o, none⟩)) (hy : a.eval y = .agg vs.toArray) {cs : Array Value} {t : TypeId} (hh : HoldsT w g cs t) (hn : o + vs.length ≤ cs.size) (hz : (P.info? ty).map (·.size) = some vs.length) (h1 : vs.all (·.oneCell') = true)
    {K : Act → World → Prop} (h : K (a.put dd undef) (w.setCells g o vs)) : wpOp P ops Q i K a w := by
  subst hdd
  exact E_wp i hi hgd (wp_store_mid ty x y ho g o vs.toArray hx hy (by simpa using hh.there o vs.length hn) (by simpa using hz) (all_oneCell_toArray (by simpa using h1)) (by simpa using h))
theorem run_ext {P : Program} {o : Oper} {a : Act} {w : World} (x : Operand) (i : Nat) (ho : o.op = .extract x i) {vs : Array Value} {v : Value} (hx : a.eval x = .tuple vs) (hv : vs[i]? = some v) : (execOp a.eval o).run P w = .ok (.value v) w := by
  unfold execOp
  simp only [ho, hx]
  simp [go_sem, hv]
end Go.Proofs.Ytlfigoboeogegaa
