/- An entry put into a tree; a whole row appended to a row of the call's own. No program in sight. -/
import Derived.Test.YtmbochhmeojmfaaDoorDelMath
namespace Go.Proofs.YtmbochhmeojmfaaDoor
set_option maxRecDepth 20000
open Go.RowKit
set_option linter.unusedVariables false

def Forest.put (t : Bool) (n : Int) (s : ByteArray) (kd nm : Int) (u : ByteArray) (x : Int) : Forest → Forest → Forest
  | .nil, sub => .cons t n s kd nm u x sub .nil
  | .cons t' n' s' k m v y b r, sub => if keyEq t' n' s' t n s = true then .cons t' n' s' kd nm u x sub r else .cons t' n' s' k m v y b (r.put t n s kd nm u x sub)
theorem Forest.put_cases (t : Bool) (n : Int) (s : ByteArray) (kd nm : Int) (u : ByteArray) (x : Int) (sub : Forest) : ∀ (f : Forest) (i : Nat),
    (f.find t n s i = -1 ∧ f.put t n s kd nm u x sub = f.app (.cons t n s kd nm u x sub .nil)) ∨
    ∃ (a : Forest) (t' : Bool) (n' : Int) (s' : ByteArray) (k m : Int) (v : ByteArray) (y : Int) (b r : Forest), f = a.app (.cons t' n' s' k m v y b r) ∧ f.find t n s i = ((i + a.len : Nat) : Int) ∧ f.put t n s kd nm u x sub = a.app (.cons t' n' s' kd nm u x sub r) := by
  intro f
  induction f with
  | nil => intro i; exact .inl ⟨rfl, rfl⟩
  | cons t' n' s' k m v y b r _ ih =>
    intro i
    rw [Forest.find_cons, Forest.put]
    by_cases hq : keyEq t' n' s' t n s = true
    · rw [if_pos hq, if_pos hq]
      exact .inr ⟨.nil, t', n', s', k, m, v, y, b, r, rfl, rfl, rfl⟩
    · rw [if_neg hq, if_neg hq]
      rcases ih (i + 1) with ⟨h1, h2⟩ | ⟨a, t2, n2, s2, k2, m2, v2, y2, b2, r2, h1, h2, h3⟩
      · exact .inl ⟨h1, by rw [h2]; rfl⟩
      · exact .inr ⟨.cons t' n' s' k m v y b a, t2, n2, s2, k2, m2, v2, y2, b2, r2, by rw [h1]; rfl, by rw [h2]; simp only [Forest.len]; omega, by rw [h3]; rfl⟩
theorem Forest.size_put (t : Bool) (n : Int) (s : ByteArray) (kd nm : Int) (u : ByteArray) (x : Int) (sub : Forest) : ∀ f : Forest, (f.put t n s kd nm u x sub).size ≤ f.size + sub.size + 1 := by
  intro f
  induction f with
  | nil => simp only [Forest.put, Forest.size]; omega
  | cons t' n' s' k m v y b r _ ih =>
    rw [Forest.put]
    split
    · simp only [Forest.size]; omega
    · simp only [Forest.size]; omega
/-- The next number behind a put. -/
def putX (t : Bool) (n x fd : Int) : Int := if fd = -1 ∧ t = false then (if x < n + 1 then n + 1 else x) else x
theorem putX_at {t : Bool} {n x : Int} {j : Nat} : putX t n x ((j : Nat) : Int) = x := by unfold putX; rw [if_neg (by omega)]
theorem putX_t {n x fd : Int} : putX true n x fd = x := by unfold putX; rw [if_neg (by simp)]
theorem putX_f {n x : Int} : putX false n x (-1) = if x < n + 1 then n + 1 else x := by unfold putX; rw [if_pos ⟨rfl, rfl⟩]
section
variable {P : Program} {w : World}
theorem run_appS (base : Nat) (t ty e : TypeId) (i : TypeInfo) (z : Value) (size bytes : Nat) (ht : P.underlying t = some (.slice e)) (hi : P.info? e = some i) (hz : i.zero = some z)
    (hsize : i.size = size) (hby : i.bytes = bytes) (hzs : z.cells.size = size) (hsz : 0 < size)
    (v : Value) (n : Nat) (xs : List Value) (hown : w.ownsRow base e size v n xs)
    (A : Option Addr) (m c : Nat) (news : List Value) (hA : A = none → c = 0 ∧ m = 0) (hl : news.length = m * size) (hnews : ∀ ad, A = some ad → ∀ j u, news[j]? = some u → w.cell? (ad.add j) = some u) (h1 : ∀ u ∈ news, u.oneCell' = true)
    (h63 : n + m ≤ maxLen) (hbytes : (n + m) * bytes ≤ 140737488355328) (hbase : base ≤ w.heap.size) :
    ∃ v' w', (Builtin.append_ #[t, t] ty #[v, .slice A m c]).run P w = .ok v' w' ∧ w'.ownsRow base e size v' (n + m) (xs ++ news) ∧ w.grownBy w' v.ownBlock ∧ (v'.ownBlock = v.ownBlock ∨ v'.ownBlock = some w.heap.size) := by
  rcases A with _ | ad
  · obtain ⟨rfl, rfl⟩ := hA rfl
    have hn : news = [] := List.eq_nil_of_length_eq_zero (by omega)
    subst hn
    refine ⟨v, w, ?_, by simpa using hown, World.grownBy.refl w _, .inl rfl⟩
    exact run_append_owned_none w base t ty e i size ht hi v n xs hown
  · obtain ⟨v', w', h, h2, h3, _, h5⟩ := run_append_own_at (P := P) w base t ty e i z size bytes ht hi hz hsize hby hzs hsz v n xs hown ad m c news hl (hnews ad rfl) h1 h63 hbytes hbase
    exact ⟨v', w', h, h2, h3, h5⟩
/-- 'append' of a row that came in, or of none. -/
theorem wpList_appS {ops : Array Oper} {rest : List Oper} {o : Oper} {a : Act} {Q : Exit → Act → World → Prop} (hgd : o.guard = none) (s x : Operand) (t : TypeId)
    (ho : o.op = .call { callee := .builtin .append, args := #[s, x], argTypes := #[t, t] })
    (base : Nat) (e : TypeId) (i : TypeInfo) (z : Value) (size bytes : Nat) (ht : P.underlying t = some (.slice e)) (hi : P.info? e = some i) (hz : i.zero = some z)
    (hsize : i.size = size) (hby : i.bytes = bytes) (hzs : z.cells.size = size) (hsz : 0 < size)
    (v : Value) (n : Nat) (xs : List Value) (hs : a.eval s = v) (hown : w.ownsRow base e size v n xs)
    (A : Option Addr) (m c : Nat) (news : List Value) (hx : a.eval x = .slice A m c) (hA : A = none → c = 0 ∧ m = 0) (hl : news.length = m * size) (hnews : ∀ ad, A = some ad → ∀ j u, news[j]? = some u → w.cell? (ad.add j) = some u) (h1 : ∀ u ∈ news, u.oneCell' = true)
    (h63 : n + m ≤ maxLen) (hbytes : (n + m) * bytes ≤ 140737488355328) (hbase : base ≤ w.heap.size)
    (h : ∀ A' c' w', w'.ownsRow base e size (.slice A' (n + m) c') (n + m) (xs ++ news) → (A' = none → c' = 0) → w.grownBy w' v.ownBlock → ((Value.slice A' (n + m) c').ownBlock = v.ownBlock ∨ (Value.slice A' (n + m) c').ownBlock = some w.heap.size) → wpList P ops Q rest (a.put o.dst (.slice A' (n + m) c')) w') :
    wpList P ops Q (o :: rest) a w := by
  refine wpList_plain hgd fun K hK => ?_
  obtain ⟨v', w', hr, h2, h3, h5⟩ := run_appS (P := P) base t o.type e i z size bytes ht hi hz hsize hby hzs hsz v n xs hown A m c news hA hl hnews h1 h63 hbytes hbase
  unfold Oper.wp execOp
  simp only [ho, resolve, invoke, builtin, Sem.run_bind, Sem.run_pure, Result.andThen_ok, List.map_toArray, List.map_cons, List.map_nil, hs, hx, hr]
  obtain ⟨A', c', rfl, hA'⟩ := own_form h2
  exact hK _ _ (h A' c' w' h2 hA' h3 h5)
/-- A store of a struct into a row of the call's own. -/
theorem E_storeO {ops : Array Oper} {Q : Exit → Act → World → Prop} {a : Act} (i : Nat) {oi : Oper} (hi : ops[i]? = some oi) (dd : Option Tmp) (hdd : oi.dst = dd) (hgd : oi.guard = none) (ty : TypeId) (x y : Operand) (ho : oi.op = .store ty x y)
    (g o : Nat) (vs : List Value) (hx : a.eval x = .pointer (some ⟨g, o, none⟩)) (hy : a.eval y = .agg vs.toArray) {base : Nat} {e : TypeId} {size n cap : Nat} {xs : List Value} (hh : w.ownsRow base e size (.slice (some ⟨g, 0, none⟩) n cap) n xs) (hn : o + vs.length ≤ n * size) (hz : (P.info? ty).map (·.size) = some vs.length) (h1 : vs.all (·.oneCell') = true)
    {K : Act → World → Prop} (h : K (a.put dd undef) (w.setCells g o vs)) : wpOp P ops Q i K a w := by
  subst hdd
  exact E_wp i hi hgd (wp_store_mid ty x y ho g o vs.toArray hx hy (by simpa using own_there hh o vs.length hn) (by simpa using hz) (all_oneCell_toArray (by simpa using h1)) (by simpa using h))
end
/-- The cells of a row that came in, at whatever address. -/
theorem RowF.cells {w : World} {f : Forest} {A : Option Addr} {n : Nat} {L : List Nat} (h : RowF w f A 0 n L) : ∃ cs, SubF w f cs L ∧ (∀ ad, A = some ad → ad.block < w.heap.size ∨ cs = []) ∧ ∀ ad, A = some ad → ∀ j u, cs[j]? = some u → w.cell? (ad.add j) = some u := by
  cases f with
  | nil =>
    obtain ⟨rfl, rfl⟩ := h
    exact ⟨[], ⟨rfl, rfl⟩, fun _ _ => .inr rfl, fun ad _ j u hu => by simp at hu⟩
  | cons t m s kd nm u x sub rest =>
    obtain ⟨b, o, _, _, _, _, rfl, hb, _⟩ := h.range
    obtain ⟨cs, h1, h2⟩ := h.sub
    refine ⟨cs, h1, fun ad e => .inl ?_, fun ad e j u hu => ?_⟩
    · injection e with e; subst e; exact hb
    · injection e with e
      subst e
      have hl : j < cs.length := (List.getElem?_eq_some_iff.1 hu).1
      have := h2 j hl
      rw [Nat.zero_mul, Nat.add_zero] at this
      rw [Addr.add_mid, this, hu]
theorem RowF.nil0 {w : World} {f : Forest} {A : Option Addr} {c : Nat} {L : List Nat} (h : RowF w f A 0 f.len L) (hc : c = f.len) : A = none → c = 0 := fun e => by
  subst e
  rw [hc]
  cases f with
  | nil => rfl
  | cons => obtain ⟨_, _, _, _, _, _, e, _⟩ := h.range; cases e
/-- What a put gives, or a copy where it is refused. -/
def PutIs (b : Bool) (k x : Int) (f : Forest) (t : Bool) (p : Int) (s : ByteArray) (xk xm : Int) (xu : ByteArray) (xx : Int) (xf : Forest) (rx : Int) (D : Forest) : Prop :=
  (b = true ∧ k = 4 ∧ D = f.put t p s xk xm xu xx xf ∧ rx = putX t p x (f.find t p s 0)) ∨ (b = false ∧ D = f ∧ rx = x)
theorem PutIs.size {b : Bool} {k x : Int} {f : Forest} {t : Bool} {p : Int} {s : ByteArray} {xk xm : Int} {xu : ByteArray} {xx : Int} {xf : Forest} {rx : Int} {D : Forest} (h : PutIs b k x f t p s xk xm xu xx xf rx D) : D.size ≤ f.size + xf.size + 1 := by
  rcases h with ⟨_, _, rfl, _⟩ | ⟨_, rfl, _⟩
  · exact Forest.size_put ..
  · omega
theorem PutIs.some (b : Bool) (k x : Int) (f : Forest) (t : Bool) (p : Int) (s : ByteArray) (xk xm : Int) (xu : ByteArray) (xx : Int) (xf : Forest) (h : b = true → k = 4) : ∃ rx D, PutIs b k x f t p s xk xm xu xx xf rx D := by
  cases b
  · exact ⟨_, _, .inr ⟨rfl, rfl, rfl⟩⟩
  · exact ⟨_, _, .inl ⟨rfl, h rfl, rfl, rfl⟩⟩
end Go.Proofs.YtmbochhmeojmfaaDoor
