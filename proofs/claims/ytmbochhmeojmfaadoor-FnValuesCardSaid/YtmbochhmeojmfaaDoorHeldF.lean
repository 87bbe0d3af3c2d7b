/- A region that draws its order, with a tail of operations that wait for the head: what S grants is asked of the worlds behind the head's operations alone. No program in sight. -/
import Derived.Test.YtmbochhmeojmfaaDoorHeldX
namespace Go.Proofs.YtmbochhmeojmfaaDoor
set_option maxRecDepth 20000
open Go.RowKit
set_option linter.unusedVariables false
section
variable {P : Program} {md : Region.Mode} {ops : Array Oper} {Q : Exit → Act → World → Prop} {S : World → Prop} {n : Nat}
/-- S holds behind every operation before number n. -/
def wpAnyF (P : Program) (md : Region.Mode) (ops : Array Oper) (Q : Exit → Act → World → Prop) (S : World → Prop) (n : Nat) : Nat → Array Bool → Act → World → Prop
  | 0, listed, a, w => Region.ready md ops listed = [] ∧ Q .normal a w
  | fuel + 1, listed, a, w => (Region.ready md ops listed = [] → Q .normal a w) ∧ ∀ i ∈ Region.ready md ops listed, wpOp P ops Q i (fun a' w' => (i < n → S w') ∧ wpAnyF P md ops Q S n fuel (listed.setIfInBounds i true) a' w') a w
theorem wpAny_of_F : ∀ (fuel : Nat) (listed : Array Bool) (a : Act) (w : World), wpAnyF P md ops Q S n fuel listed a w → wpAny P md ops Q fuel listed a w
  | 0, _, _, _, h => h
  | fuel + 1, _, _, _, h => ⟨h.1, fun i hi => wpOp_mono (fun a' w' h' => wpAny_of_F fuel _ a' w' h'.2) (h.2 i hi)⟩
/-- Number j waits for number i, by at most so many edges. -/
def waitT (md : Region.Mode) (ops : Array Oper) (i : Nat) : Nat → Nat → Bool
  | 0, _ => false
  | d + 1, j => match ops[j]? with
    | some o => o.after.any fun e => Region.binds md e && (e.on == i || waitT md ops i d e.on)
    | none => false
/-- What is listed has all listed that it waits for. -/
def Closed (md : Region.Mode) (ops : Array Oper) (listed : Array Bool) : Prop := ∀ (j : Nat) (oj : Oper), ops[j]? = some oj → listed.getD j false = true → ∀ e ∈ oj.after, Region.binds md e = true → listed.getD e.on false = true
def closedB (md : Region.Mode) (ops : Array Oper) (listed : Array Bool) : Bool := (List.range ops.size).all fun j => match ops[j]? with
  | some o => !listed.getD j false || o.after.all fun e => !Region.binds md e || listed.getD e.on false
  | none => true
theorem closedB_spec {listed : Array Bool} (h : closedB md ops listed = true) : Closed md ops listed := by
  intro j oj hj hl e he hb
  have hjs : j < ops.size := by
    rcases Nat.lt_or_ge j ops.size with h' | h'
    · exact h'
    · rw [Array.getElem?_eq_none h'] at hj; cases hj
  have h1 := List.all_eq_true.1 h j (List.mem_range.2 hjs)
  simp only [hj, Bool.or_eq_true, Bool.not_eq_true'] at h1
  rcases h1 with h1 | h1
  · rw [hl] at h1; cases h1
  · have h2 := Array.all_eq_true'.1 h1 e he
    simp only [Bool.or_eq_true, Bool.not_eq_true'] at h2
    rcases h2 with h2 | h2
    · rw [hb] at h2; cases h2
    · exact h2
theorem waitT_listed {listed : Array Bool} (hc : Closed md ops listed) (i : Nat) : ∀ (d j : Nat), waitT md ops i d j = true → (∀ oj, ops[j]? = some oj → ∀ e ∈ oj.after, Region.binds md e = true → listed.getD e.on false = true) → listed.getD i false = true
  | 0, _, h, _ => by cases h
  | d + 1, j, h, hall => by
    unfold waitT at h
    split at h
    · rename_i o ho
      obtain ⟨e, he, hb⟩ := Array.any_eq_true'.1 h
      simp only [Bool.and_eq_true, Bool.or_eq_true, beq_iff_eq] at hb
      have hl := hall o ho e he hb.1
      rcases hb.2 with h2 | h2
      · rw [← h2]; exact hl
      · exact waitT_listed hc i d e.on h2 fun oj hoj e' he' hb' => hc e.on oj hoj hl e' he' hb'
    · cases h
/-- Every operation from number n on waits for number i. -/
def waitF (md : Region.Mode) (ops : Array Oper) (n i : Nat) : Bool := (List.range ops.size).all fun j => decide (j < n) || waitT md ops i 20 j
theorem waitF_spec {i : Nat} (h : waitF md ops n i = true) {j : Nat} {o : Oper} (ho : ops[j]? = some o) (hno : waitT md ops i 20 j = false) : j < n := by
  have hj : j < ops.size := by
    rcases Nat.lt_or_ge j ops.size with h' | h'
    · exact h'
    · rw [Array.getElem?_eq_none h'] at ho; cases ho
  have h1 := List.all_eq_true.1 h j (List.mem_range.2 hj)
  simp only [Bool.or_eq_true, decide_eq_true_eq] at h1
  rcases h1 with h1 | h1
  · exact h1
  · rw [hno] at h1; cases h1
theorem getD_listed {listed : Array Bool} {i : Nat} (h : listed.getD i true = false) : listed.getD i false = false := by
  rcases Nat.lt_or_ge i listed.size with h' | h'
  · simp [h'] at h ⊢; exact h
  · simp [h']
theorem Closed.set {listed : Array Bool} (hc : Closed md ops listed) {j : Nat} (hj : j ∈ Region.ready md ops listed) : Closed md ops (listed.setIfInBounds j true) := by
  intro k ok hk hl e he hb
  have up : ∀ q, listed.getD q false = true → (listed.setIfInBounds j true).getD q false = true := fun q hq => by
    by_cases h : j = q
    · subst h
      rcases Nat.lt_or_ge j listed.size with h' | h'
      · simp [h']
      · simp [h'] at hq
    · rw [getD_set_ne false h]; exact hq
  refine up _ ?_
  obtain ⟨_, oj, hoj, hall⟩ := mem_ready.1 hj
  by_cases h : j = k
  · subst h
    rw [hoj] at hk
    cases hk
    have := hall e he hb
    exact this
  · rw [getD_set_ne false h] at hl
    exact hc k ok hk hl e he hb
theorem wpAnyF_first {T : World → Prop} {i : Nat} {oi : Oper} {v : Value} (hi : ops[i]? = some oi) (hsel : ∀ (j : Nat) (o : Oper) cs b, ops[j]? = some o → o.op ≠ .select cs b)
    (hTS : ∀ j oj, ops[j]? = some oj → waitT md ops i 20 j = false → ∀ w' : World, (j < n → S w') → T w') (hQ : ∀ c a w, Q (.panic c) (a.put oi.dst v) w → Q (.panic c) a w) :
    ∀ (fuel : Nat) (listed : Array Bool) (a : Act) (w : World),
      (∀ j oj, ops[j]? = some oj → j ≠ i → listed.getD j true = false → (∀ e ∈ oj.after, Region.binds md e = true → e.on ≠ i) → oi.apart ops oj = true) →
      Closed md ops listed → i ∈ Region.ready md ops listed → YieldsIf P ops T oi v a → T w → (∀ w', T w' → i < n → S w') →
      wpAnyF P md ops Q S n fuel (listed.setIfInBounds i true) (a.put oi.dst v) w → wpAnyF P md ops Q S n (fuel + 1) listed a w := by
  intro fuel
  induction fuel with
  | zero =>
    intro listed a w _ hcl hr hy hT hS H
    refine ⟨fun h => (by rw [h] at hr; cases hr), fun j hj => ?_⟩
    by_cases hji : j = i
    · subst hji; exact hy.wpOp hi hT ⟨hS w hT, H⟩
    · have := ready_mono hj hji
      rw [H.1] at this
      cases this
  | succ fuel ih =>
    intro listed a w hfree hcl hr hy hT hS H
    refine ⟨fun h => (by rw [h] at hr; cases hr), fun j hj => ?_⟩
    by_cases hji : j = i
    · subst hji; exact hy.wpOp hi hT ⟨hS w hT, H⟩
    · have h1 := H.2 j (ready_mono hj hji)
      obtain ⟨hjun, oj, hoj, hall⟩ := mem_ready.1 hj
      have hnot : ∀ e ∈ oj.after, Region.binds md e = true → e.on ≠ i := fun e he hb heq => by
        have h1 := hall e he hb
        have h0 := (mem_ready.1 hr).1
        rw [heq] at h1
        rcases Nat.lt_or_ge i listed.size with h' | h'
        · simp [h'] at h0 h1; rw [h0] at h1; cases h1
        · simp [Array.getElem?_eq_none h'] at h1
      have hnoT : waitT md ops i 20 j = false := by
        cases hq : waitT md ops i 20 j with
        | false => rfl
        | true =>
          have h3 := waitT_listed hcl i 20 j hq fun oj' hoj' e he hb => by
            rw [hoj] at hoj'
            cases hoj'
            exact hall e he hb
          rw [getD_listed (mem_ready.1 hr).1] at h3
          cases h3
      have h2 := wpOp_putIf hoj (hfree j oj hoj hji hjun hnot) (fun cs b => hsel i oi cs b hi) (fun cs b => hsel j oj cs b hoj) hQ hy h1
      have hfree' : ∀ k ok, ops[k]? = some ok → k ≠ i → (listed.setIfInBounds j true).getD k true = false →
          (∀ e ∈ ok.after, Region.binds md e = true → e.on ≠ i) → oi.apart ops ok = true := fun k ok hk hki hun hno => by
        refine hfree k ok hk hki ?_ hno
        by_cases hjk : j = k
        · subst hjk; exact hjun
        · rw [getD_set_ne true hjk] at hun; exact hun
      refine wpOp_mono (fun a' w' h3 => ⟨h3.2.1, ih (listed.setIfInBounds j true) a' w' hfree' (hcl.set hj) (ready_mono hr (Ne.symm hji)) h3.1 (hTS j oj hoj hnoT w' h3.2.1) hS ?_⟩) h2
      rw [Array.setIfInBounds_comm _ _ hji]
      exact h3.2.2
theorem wp_region_F {id : Nat} {a : Act} {w : World} (n m : Nat) (hn : ops.size = m) (hm : P.follows .mixedOrders = true) (S : World → World → Prop)
    (h : ∀ wd, w.grownBy wd none → wpAnyF P .any ops Q (S wd) n m (Array.replicate m false) a wd) : (Code.region id ops true).wp P Q a w := by
  subst hn
  exact wp_region_any hm (wpAny_of_F _ _ _ _ (h _ (gb_drew (gb_refl w none))))
end
section
variable {P : Program} {md : Region.Mode} {ops : Array Oper} {Q : Exit → Act → World → Prop} {S : World → Prop} {n fuel : Nat} {listed : Array Bool} {a : Act} {w : World}
theorem F_take (i : Nat) {oi : Oper} (hi : ops[i]? = some oi) (dd : Option Tmp) (hdd : oi.dst = dd) (hs : Region.noSelect ops = true) (hf : Region.free md ops listed i = true) (hr : (Region.ready md ops listed).contains i = true) (hcl : closedB md ops listed = true) (hwt : waitF md ops n i = true)
    (hQ : ∀ v c a w, Q (.panic c) (a.put oi.dst v) w → Q (.panic c) a w) (hgd : oi.guard = none) (v : Value) (hrun : ∀ w', S w' → (execOp a.eval oi).run P w' = .ok (.value v) w') (hS : S w)
    (h : wpAnyF P md ops Q S n fuel (listed.setIfInBounds i true) (a.put dd v) w) : wpAnyF P md ops Q S n (fuel + 1) listed a w := by
  subst hdd
  exact wpAnyF_first (T := S) hi (Region.noSelect_spec hs) (fun j oj hj hno w' h' => h' (waitF_spec hwt hj hno)) (hQ _) fuel listed a w (Region.free_spec hi hf) (closedB_spec hcl) (by simpa using hr) (.inl ⟨by simp only [Region.wanted, hgd], hrun⟩) hS (fun w' h' _ => h') h
theorem F_load (i : Nat) {oi : Oper} (hi : ops[i]? = some oi) (dd : Option Tmp) (hdd : oi.dst = dd) (hs : Region.noSelect ops = true) (hf : Region.free md ops listed i = true) (hr : (Region.ready md ops listed).contains i = true) (hcl : closedB md ops listed = true) (hwt : waitF md ops n i = true)
    (hQ : ∀ v c a w, Q (.panic c) (a.put oi.dst v) w → Q (.panic c) a w) (hgd : oi.guard = none) (ty : TypeId) (x : Operand) (ho : oi.op = .load ty x) (g o : Nat) (hx : a.eval x = .pointer (some ⟨g, o, none⟩))
    (vs : List Value) (hh : ∀ w', S w' → w'.rangeAt g o vs) {d : TypeDesc} (hu : P.underlying ty = some d) (hd : d.isRow = true) (hsz : (P.info? ty).map (·.size) = some vs.length) (hS : S w)
    (h : wpAnyF P md ops Q S n fuel (listed.setIfInBounds i true) (a.put dd (.agg vs.toArray)) w) : wpAnyF P md ops Q S n (fuel + 1) listed a w := by
  subst hdd
  exact wpAnyF_first (T := S) hi (Region.noSelect_spec hs) (fun j oj hj hno w' h' => h' (waitF_spec hwt hj hno)) (hQ _) fuel listed a w (Region.free_spec hi hf) (closedB_spec hcl) (by simpa using hr) (yieldsIf_load_mid (by simp only [Region.wanted, hgd]) ty x ho g o hx vs d hh hu hd hsz) hS (fun w' h' _ => h') h
/-- An operation of the tail that yields v in every world. -/
theorem F_pure (i : Nat) {oi : Oper} (hi : ops[i]? = some oi) (dd : Option Tmp) (hdd : oi.dst = dd) (hs : Region.noSelect ops = true) (hf : Region.free md ops listed i = true) (hr : (Region.ready md ops listed).contains i = true) (hcl : closedB md ops listed = true) (hin : n ≤ i)
    (hQ : ∀ v c a w, Q (.panic c) (a.put oi.dst v) w → Q (.panic c) a w) (hgd : oi.guard = none) (v : Value) (hrun : ∀ w', (execOp a.eval oi).run P w' = .ok (.value v) w')
    (h : wpAnyF P md ops Q S n fuel (listed.setIfInBounds i true) (a.put dd v) w) : wpAnyF P md ops Q S n (fuel + 1) listed a w := by
  subst hdd
  exact wpAnyF_first (T := fun _ => True) hi (Region.noSelect_spec hs) (fun _ _ _ _ _ _ => trivial) (hQ _) fuel listed a w (Region.free_spec hi hf) (closedB_spec hcl) (by simpa using hr) (.inl ⟨by simp only [Region.wanted, hgd], fun w' _ => hrun w'⟩) trivial (fun _ _ h => absurd h (by omega)) h
theorem F_only (i : Nat) (hr : Region.ready md ops listed = [i]) (h : wpOp P ops Q i (fun a' w' => (i < n → S w') ∧ wpAnyF P md ops Q S n fuel (listed.setIfInBounds i true) a' w') a w) : wpAnyF P md ops Q S n (fuel + 1) listed a w :=
  ⟨fun h0 => by rw [hr] at h0; simp at h0, fun j hj => by
    rw [hr] at hj
    obtain rfl : j = i := by simpa using hj
    exact h⟩
theorem F_two (i j : Nat) (hr : Region.ready md ops listed = [i, j]) (h1 : wpOp P ops Q i (fun a' w' => (i < n → S w') ∧ wpAnyF P md ops Q S n fuel (listed.setIfInBounds i true) a' w') a w)
    (h2 : wpOp P ops Q j (fun a' w' => (j < n → S w') ∧ wpAnyF P md ops Q S n fuel (listed.setIfInBounds j true) a' w') a w) : wpAnyF P md ops Q S n (fuel + 1) listed a w :=
  ⟨fun h0 => by rw [hr] at h0; simp at h0, fun k hk => by
    rw [hr] at hk
    rcases List.mem_cons.1 hk with rfl | hk
    · exact h1
    · obtain rfl : k = j := by simpa using hk
      exact h2⟩
theorem F_done {listed : Array Bool} {a : Act} {w : World} (hr : Region.ready md ops listed = []) (h : Q .normal a w) : ∀ fuel, wpAnyF P md ops Q S n fuel listed a w
  | 0 => ⟨hr, h⟩
  | _ + 1 => ⟨fun _ => h, by rw [hr]; simp⟩
end
end Go.Proofs.YtmbochhmeojmfaaDoor
