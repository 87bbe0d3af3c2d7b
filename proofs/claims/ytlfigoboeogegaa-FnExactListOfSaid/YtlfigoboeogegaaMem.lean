/- Memory words for the walks: a slice that reads as a list ('Rd'), frames ('grownBy' put together), append from any source, make with its block told. No program in sight. -/
import Derived.Test.YtlfigoboeogegaaBase
namespace Go.Proofs.Ytlfigoboeogegaa
open Go.RowKit

/-! frames -/
theorem gb_refl (w : World) (r : Option Nat) : w.grownBy w r := World.grownBy.refl w r
theorem gb_trans {w w1 w2 : World} {r : Option Nat} (h1 : w.grownBy w1 r) (h2 : w1.grownBy w2 r) : w.grownBy w2 r :=
  ⟨h2.os.trans h1.os, h2.tape.trans h1.tape, h2.output.trans h1.output, Nat.le_trans h1.size h2.size, fun k hk hr => (h2.block k (Nat.lt_of_lt_of_le hk h1.size) hr).trans (h1.block k hk hr)⟩
theorem gb_any {w w1 : World} {r : Option Nat} (h : w.grownBy w1 none) : w.grownBy w1 r :=
  ⟨h.os, h.tape, h.output, h.size, fun k hk _ => h.block k hk (by simp)⟩
theorem gb_fresh {w w1 w2 : World} {r : Option Nat} (h1 : w.grownBy w1 none) (h2 : w1.grownBy w2 r) (hr : ∀ g, r = some g → w.heap.size ≤ g) : w.grownBy w2 none :=
  ⟨h2.os.trans h1.os, h2.tape.trans h1.tape, h2.output.trans h1.output, Nat.le_trans h1.size h2.size, fun k hk _ => (h2.block k (Nat.lt_of_lt_of_le hk h1.size) (fun e => by have := hr k e.symm; omega)).trans (h1.block k hk (by simp))⟩
theorem gb_new {w w1 w2 : World} {r0 r : Option Nat} (h1 : w.grownBy w1 r0) (h2 : w1.grownBy w2 r) (hr : ∀ g, r = some g → w.heap.size ≤ g) : w.grownBy w2 r0 :=
  ⟨h2.os.trans h1.os, h2.tape.trans h1.tape, h2.output.trans h1.output, Nat.le_trans h1.size h2.size, fun k hk hk' => (h2.block k (Nat.lt_of_lt_of_le hk h1.size) (fun e => by have := hr k e.symm; omega)).trans (h1.block k hk hk')⟩
theorem own_new {w : World} {base : Nat} {e : TypeId} {size : Nat} {v : Value} {n : Nat} {xs : List Value} (h : w.ownsRow base e size v n xs) : ∀ k, v.ownBlock = some k → base ≤ k := fun k hk => (h.lt k hk).1
theorem gb_alloc {w w1 : World} {r : Option Nat} (h : w.grownBy w1 r) (o : Obj) : w.grownBy (w1.alloc o) r := gb_trans h (World.grownBy_alloc w1 o r)
theorem gb_drew {w w1 : World} {r : Option Nat} (h : w.grownBy w1 r) : w.grownBy w1.drew r := ⟨h.os, h.tape, h.output, h.size, h.block⟩
theorem gb_drewN {w w1 : World} {r : Option Nat} (h : w.grownBy w1 r) (n : Nat) : w.grownBy (w1.drewN n) r := ⟨h.os, h.tape, h.output, h.size, h.block⟩
theorem gb_set {w w1 : World} {r : Option Nat} (h : w.grownBy w1 r) {a : Addr} (ha : w.heap.size ≤ a.block ∨ r = some a.block) (u : Value) : w.grownBy (w1.setCell a u) r :=
  ⟨h.os, h.tape, h.output, by simpa using h.size, fun k hk hr => by
    rw [Below.heap_setCell _ _ _ _ (by rcases ha with ha | ha; · omega
                                       · rintro rfl; exact hr ha.symm)]
    exact h.block k hk hr⟩
theorem gb_below {w w1 : World} (h : w.grownBy w1 none) : Below w.heap.size w w1 := ⟨h.os, h.tape, h.output, h.size, fun k hk => h.block k hk (by simp)⟩

/-! a slice of one-cell elements that reads as a list -/
def Rd (w : World) (A : Option Addr) (xs : List Value) : Prop := ∀ j, j < xs.length → ∃ b o, A = some ⟨b, o, none⟩ ∧ b < w.heap.size ∧ w.cell? ⟨b, o + j, none⟩ = xs[j]?
theorem Rd.nil (w : World) (A : Option Addr) : Rd w A [] := fun j hj => absurd hj (by simp)
theorem Rd.kept {w w1 : World} {A : Option Addr} {xs : List Value} {r : Option Nat} (h : Rd w A xs) (hg : w.grownBy w1 r) (hne : ∀ a, A = some a → some a.block ≠ r) : Rd w1 A xs := fun j hj => by
  obtain ⟨b, o, rfl, hb, hc⟩ := h j hj
  exact ⟨b, o, rfl, Nat.lt_of_lt_of_le hb hg.size, (World.cell?_of_block (a := ⟨b, o + j, none⟩) (hg.block b hb (hne _ rfl))).trans hc⟩
theorem Rd.grow {w w1 : World} {A : Option Addr} {xs : List Value} (h : Rd w A xs) (hg : w.grownBy w1 none) : Rd w1 A xs := h.kept hg (by simp)
theorem Rd.below {w w1 : World} {A : Option Addr} {xs : List Value} (h : Rd w A xs) (hg : Below w.heap.size w w1) : Rd w1 A xs := fun j hj => by
  obtain ⟨b, o, rfl, hb, hc⟩ := h j hj
  exact ⟨b, o, rfl, Nat.lt_of_lt_of_le hb hg.size, (hg.cell (p := ⟨b, o + j, none⟩) hb).trans hc⟩
theorem Rd.own {w : World} {base : Nat} {e : TypeId} {A : Option Addr} {c n : Nat} {xs : List Value} (h : w.ownsRow base e 1 (.slice A n c) n xs) : Rd w A xs := fun j hj => by
  have hl := h.1
  rcases h.2 with ⟨_, h0⟩ | ⟨g, cap, cur, hv, _, hh, _⟩
  · omega
  · obtain ⟨rfl, rfl⟩ : A = some ⟨g, 0, none⟩ ∧ c = cap := by injection hv; exact ⟨by assumption, by assumption⟩
    exact ⟨g, 0, rfl, (Array.getElem?_eq_some_iff.1 hh).1, by rw [Nat.zero_add]; exact h.cellAt j (by omega)⟩
theorem Rd.take {w : World} {A : Option Addr} {xs : List Value} (h : Rd w A xs) (n : Nat) : Rd w A (xs.take n) := fun j hj => by
  have hj' : j < n ∧ j < xs.length := by rw [List.length_take] at hj; omega
  obtain ⟨b, o, ha, hb, hc⟩ := h j hj'.2
  exact ⟨b, o, ha, hb, by rw [hc, List.getElem?_take_of_lt hj'.1]⟩
/-- The slice x[l:], cut anywhere. -/
theorem Rd.cut {w : World} {A : Option Addr} {xs : List Value} (h : Rd w A xs) (l n : Nat) : Rd w (Option.map (fun x => x.add l) A) ((xs.drop l).take n) := fun j hj => by
  have hj' : j < n ∧ l + j < xs.length := by rw [List.length_take, List.length_drop] at hj; omega
  obtain ⟨b, o, ha, hb, hc⟩ := h (l + j) hj'.2
  subst ha
  refine ⟨b, o + l, ?_, hb, ?_⟩
  · by_cases h0 : l = 0 <;> simp [Addr.add, h0]
  · rw [Nat.add_assoc, hc, List.getElem?_take_of_lt hj'.1, List.getElem?_drop]
theorem Rd.isRow {k : IntKind} {w : World} {a : Option Addr} {len cap : Nat} {zs : List Int} (h : IsRow k w a len cap zs) : Rd w a ((zs.take len).map (.int k)) ∧ (zs.take len).length = len := by
  rcases h with ⟨rfl, rfl, rfl, rfl⟩ | ⟨x, rfl, hl, _, hz, hc, _⟩
  · exact ⟨Rd.nil _ _, rfl⟩
  · have hlen : (zs.take len).length = len := by simp; omega
    refine ⟨fun j hj => ?_, hlen⟩
    have hj' : j < len := by rw [List.length_map, hlen] at hj; exact hj
    have h1 := hc j (by omega)
    obtain ⟨b, o, s⟩ := x
    have hs : s = none := by
      have h2 := hc 0 (by omega)
      simpa [Addr.add] using World.cell?_spot h2
    subst hs
    have e1 : (⟨b, o, none⟩ : Addr).add j = ⟨b, o + j, none⟩ := by by_cases h0 : j = 0 <;> simp [Addr.add, h0]
    rw [e1] at h1
    refine ⟨b, o, rfl, World.block_lt_of_cell? w _ h1, ?_⟩
    rw [h1, List.getElem?_map, List.getElem?_take_of_lt hj', List.getD_eq_getElem?_getD, List.getElem?_eq_getElem (by omega)]
    simp

theorem int_at {xs : List Int} {k : IntKind} {j : Nat} (hj : j < xs.length) : (xs.map (Value.int k))[j]? = some (.int k xs[j]) := by simp [hj]

theorem own_kept {w w1 : World} {base : Nat} {e : TypeId} {size : Nat} {v : Value} {n : Nat} {xs : List Value} {r : Option Nat} (h : w.ownsRow base e size v n xs) (hg : w.grownBy w1 r) (hr : ∀ k, r = some k → v.ownBlock ≠ some k) : w1.ownsRow base e size v n xs := by
  refine h.kept hg ?_
  rcases hv : v.ownBlock with _ | k
  · exact Or.inl rfl
  · right
    intro e
    exact hr k e.symm hv
theorem own_grow {w w1 : World} {base : Nat} {e : TypeId} {size : Nat} {v : Value} {n : Nat} {xs : List Value} (h : w.ownsRow base e size v n xs) (hg : w.grownBy w1 none) : w1.ownsRow base e size v n xs := own_kept h hg (by simp)
/-- Two rows of which one was made behind the other. -/
theorem own_apart {w : World} {base b2 : Nat} {e e2 : TypeId} {size s2 : Nat} {v v2 : Value} {n n2 : Nat} {xs xs2 : List Value} (h : w.ownsRow base e size v n xs) {w2 : World} (h2 : w2.ownsRow b2 e2 s2 v2 n2 xs2) (hb : w.heap.size ≤ b2) : ∀ k, v2.ownBlock = some k → v.ownBlock ≠ some k := by
  intro k hk hv
  have h3 := (h.lt k hv).2
  have h4 := (h2.lt k hk).1
  omega
/-! append from any source -/
section
variable {P : Program} (w : World)
theorem run_app (base : Nat) (t ty e : TypeId) (i : TypeInfo) (z : Value) (bytes : Nat) (ht : P.underlying t = some (.slice e)) (hi : P.info? e = some i) (hz : i.zero = some z)
    (hsize : i.size = 1) (hby : i.bytes = bytes) (hzs : z.cells.size = 1)
    (v : Value) (n : Nat) (xs : List Value) (hown : w.ownsRow base e 1 v n xs)
    (A : Option Addr) (c : Nat) (news : List Value) (hA : A = none → c = 0) (hr : Rd w A news) (h1 : ∀ u ∈ news, u.oneCell' = true)
    (h63 : n + news.length ≤ maxLen) (hbytes : (n + news.length) * bytes ≤ 140737488355328) (hbase : base ≤ w.heap.size) :
    ∃ v' w', (Builtin.append_ #[t, t] ty #[v, .slice A news.length c]).run P w = .ok v' w' ∧ w'.ownsRow base e 1 v' (n + news.length) (xs ++ news) ∧ w.grownBy w' v.ownBlock ∧
      (v'.ownBlock = v.ownBlock ∨ v'.ownBlock = some w.heap.size) := by
  rcases A with _ | ad
  · have hn : news = [] := by
      rcases hnw : news with _ | ⟨x, r⟩
      · rfl
      · obtain ⟨_, _, h, _⟩ := hr 0 (by rw [hnw]; simp)
        cases h
    subst hn
    obtain rfl := hA rfl
    refine ⟨v, w, ?_, by simpa using hown, World.grownBy.refl w _, .inl rfl⟩
    exact run_append_owned_none w base t ty e i 1 ht hi v n xs hown
  · obtain ⟨v', w', h, h2, h3, _, h5⟩ := run_append_own_at (P := P) w base t ty e i z 1 bytes ht hi hz hsize hby hzs (by omega) v n xs hown ad news.length c news (by simp) (fun j u hj => by
      have hjl : j < news.length := by
        rcases Nat.lt_or_ge j news.length with h | h
        · exact h
        · rw [List.getElem?_eq_none h] at hj; cases hj
      obtain ⟨b, o, hA', _, hc⟩ := hr j hjl
      obtain rfl : ad = ⟨b, o, none⟩ := by injection hA'
      have e1 : (⟨b, o, none⟩ : Addr).add j = ⟨b, o + j, none⟩ := by by_cases h0 : j = 0 <;> simp [Addr.add, h0]
      rw [e1, hc, hj]) h1 h63 hbytes hbase
    exact ⟨v', w', h, h2, h3, h5⟩

omit w in
theorem own_form {w : World} {base : Nat} {e : TypeId} {size : Nat} {v : Value} {n : Nat} {xs : List Value} (h : w.ownsRow base e size v n xs) : ∃ A c, v = .slice A n c ∧ (A = none → c = 0) := by
  rcases h.2 with ⟨rfl, rfl⟩ | ⟨g, cap, cur, rfl, _⟩
  · exact ⟨none, 0, rfl, fun _ => rfl⟩
  · exact ⟨_, _, rfl, fun h => by cases h⟩

theorem wpList_app {ops : Array Oper} {rest : List Oper} {o : Oper} {a : Act} {Q : Exit → Act → World → Prop} (hgd : o.guard = none) (s x : Operand) (t : TypeId)
    (ho : o.op = .call { callee := .builtin .append, args := #[s, x], argTypes := #[t, t] })
    (base : Nat) (e : TypeId) (i : TypeInfo) (z : Value) (bytes : Nat) (ht : P.underlying t = some (.slice e)) (hi : P.info? e = some i) (hz : i.zero = some z)
    (hsize : i.size = 1) (hby : i.bytes = bytes) (hzs : z.cells.size = 1)
    (v : Value) (n : Nat) (xs : List Value) (hs : a.eval s = v) (hown : w.ownsRow base e 1 v n xs)
    (A : Option Addr) (m c : Nat) (news : List Value) (hx : a.eval x = .slice A m c) (hm : m = news.length) (hA : A = none → c = 0) (hr : Rd w A news) (h1 : ∀ u ∈ news, u.oneCell' = true)
    (h63 : n + news.length ≤ maxLen) (hbytes : (n + news.length) * bytes ≤ 140737488355328) (hbase : base ≤ w.heap.size)
    (h : ∀ A' c' w', w'.ownsRow base e 1 (.slice A' (n + m) c') (n + m) (xs ++ news) → (A' = none → c' = 0) → w.grownBy w' v.ownBlock →
      ((Value.slice A' (n + m) c').ownBlock = v.ownBlock ∨ (Value.slice A' (n + m) c').ownBlock = some w.heap.size) → wpList P ops Q rest (a.put o.dst (.slice A' (n + m) c')) w') :
    wpList P ops Q (o :: rest) a w := by
  subst hm
  refine wpList_plain hgd fun K hK => ?_
  obtain ⟨v', w', hrun, h2, h3, h5⟩ := run_app (P := P) w base t o.type e i z bytes ht hi hz hsize hby hzs v n xs hown A c news hA hr h1 h63 hbytes hbase
  unfold Oper.wp execOp
  simp only [ho, resolve, invoke, builtin, Sem.run_bind, Sem.run_pure, Result.andThen_ok, List.map_toArray, List.map_cons, List.map_nil, hs, hx, hrun]
  obtain ⟨A', c', rfl, hA'⟩ := own_form h2
  exact hK _ _ (h A' c' w' h2 hA' h3 h5)
/-- The same at an operation under a guard that says yes. -/
theorem wpList_appg {ops : Array Oper} {rest : List Oper} {o : Oper} {a : Act} {Q : Exit → Act → World → Prop} (hgd : Region.wanted o (yielded ops a.tmps) = true) (s x : Operand) (t : TypeId)
    (ho : o.op = .call { callee := .builtin .append, args := #[s, x], argTypes := #[t, t] })
    (base : Nat) (e : TypeId) (i : TypeInfo) (z : Value) (bytes : Nat) (ht : P.underlying t = some (.slice e)) (hi : P.info? e = some i) (hz : i.zero = some z)
    (hsize : i.size = 1) (hby : i.bytes = bytes) (hzs : z.cells.size = 1)
    (v : Value) (n : Nat) (xs : List Value) (hs : a.eval s = v) (hown : w.ownsRow base e 1 v n xs)
    (A : Option Addr) (m c : Nat) (news : List Value) (hx : a.eval x = .slice A m c) (hm : m = news.length) (hA : A = none → c = 0) (hr : Rd w A news) (h1 : ∀ u ∈ news, u.oneCell' = true)
    (h63 : n + news.length ≤ maxLen) (hbytes : (n + news.length) * bytes ≤ 140737488355328) (hbase : base ≤ w.heap.size)
    (h : ∀ A' c' w', w'.ownsRow base e 1 (.slice A' (n + m) c') (n + m) (xs ++ news) → (A' = none → c' = 0) → w.grownBy w' v.ownBlock →
      ((Value.slice A' (n + m) c').ownBlock = v.ownBlock ∨ (Value.slice A' (n + m) c').ownBlock = some w.heap.size) → wpList P ops Q rest (a.put o.dst (.slice A' (n + m) c')) w') :
    wpList P ops Q (o :: rest) a w := by
  subst hm
  refine wpList_step fun K hK => ?_
  rw [if_pos hgd]
  obtain ⟨v', w', hrun, h2, h3, h5⟩ := run_app (P := P) w base t o.type e i z bytes ht hi hz hsize hby hzs v n xs hown A c news hA hr h1 h63 hbytes hbase
  unfold Oper.wp execOp
  simp only [ho, resolve, invoke, builtin, Sem.run_bind, Sem.run_pure, Result.andThen_ok, List.map_toArray, List.map_cons, List.map_nil, hs, hx, hrun]
  obtain ⟨A', c', rfl, hA'⟩ := own_form h2
  exact hK _ _ (h A' c' w' h2 hA' h3 h5)
end

/-- One element laid in a new block of its own: what 'append(s, x)' appends. -/
theorem Rd.one (w : World) (u : Value) (t : TypeId) : Rd (w.alloc (.cells #[u] t)) (some ⟨w.heap.size, 0, none⟩) [u] := fun j hj => by
  obtain rfl : j = 0 := by simpa using hj
  refine ⟨w.heap.size, 0, rfl, by simp, ?_⟩
  simp
theorem Rd.lit (w : World) (cs : List Value) (t : TypeId) : Rd (w.alloc (.cells cs.toArray t)) (some ⟨w.heap.size, 0, none⟩) cs := fun j _ => by
  refine ⟨w.heap.size, 0, rfl, by simp, ?_⟩
  simp
theorem ints_one (k : IntKind) (zs : List Int) : ∀ u ∈ zs.map (Value.int k), u.oneCell' = true := by
  intro u hu
  obtain ⟨n, _, rfl⟩ := List.mem_map.1 hu
  rfl

/-! an own row of ints that is filled by stores -/
theorem fill_step (k : IntKind) (zs : List Int) (j n : Nat) (hj : j < zs.length) (hn : zs.length = n) :
    ((zs.take j).map (Value.int k) ++ List.replicate (n - j) (Value.int k 0)).set j (Value.int k zs[j]) = (zs.take (j + 1)).map (Value.int k) ++ List.replicate (n - (j + 1)) (Value.int k 0) := by
  have hlen : ((zs.take j).map (Value.int k)).length = j := by simp; omega
  rw [List.set_append, if_neg (by omega), hlen, Nat.sub_self]
  have hr : n - j = (n - (j + 1)) + 1 := by omega
  rw [hr, List.replicate_succ, List.set_cons_zero, List.take_succ_eq_append_getElem hj, List.map_append]
  simp
theorem fill_start (k : IntKind) (zs : List Int) (n : Nat) : (madeCells (Value.int k 0).cells (n * 1)).toList = (zs.take 0).map (Value.int k) ++ List.replicate (n - 0) (Value.int k 0) := by
  rw [Nat.mul_one]
  exact toList_madeCells_one (.int k 0) n
theorem fill_end (k : IntKind) (zs : List Int) (n : Nat) (hn : zs.length = n) : (zs.take n).map (Value.int k) ++ List.replicate (n - n) (Value.int k 0) = zs.map (Value.int k) := by
  rw [Nat.sub_self, List.replicate_zero, List.append_nil, List.take_of_length_le (by omega)]

/-! 'string([]byte{c})' -/
def byteStr (c : Int) : ByteArray := ⟨#[UInt8.ofNat c.toNat]⟩
theorem run_conv_one {P : Program} (W : World) (src e dst : TypeId) (c : Int) (hs : P.underlying src = some (.slice e)) (he : P.underlying e = some (.int .u8)) (hd : P.underlying dst = some .string) :
    (convert src dst (.slice (some ⟨W.heap.size, 0, none⟩) 1 1)).run P (W.alloc (.cells #[.int .u8 c] e)) = .ok (.string (byteStr c)) (W.alloc (.cells #[.int .u8 c] e)) := by
  rw [run_convert_bytes_arg (P := P) (W.alloc (.cells #[.int .u8 c] e)) src e hs he W.heap.size 0 1 1 [c] rfl (fun i hi => by
    obtain rfl : i = 0 := by omega
    simp) dst hd]
  rfl
def strOf (l : List Int) : ByteArray := ⟨(l.map fun n => UInt8.ofNat n.toNat).toArray⟩
theorem strOf_nums (l : List Int) : strOfNums l = strOf l := rfl
theorem strOf_size (l : List Int) : (strOf l).size = l.length := by simp [strOf, ByteArray.size]
/-- 'string(b)', b a slice of bytes that reads as xs. -/
theorem run_conv_rd {P : Program} (W : World) (src e dst : TypeId) (A : Option Addr) (n c : Nat) (xs : List Int) (hs : P.underlying src = some (.slice e)) (he : P.underlying e = some (.int .u8)) (hd : P.underlying dst = some .string)
    (hr : Rd W A (xs.map (.int .u8))) (hn : xs.length = n) : (convert src dst (.slice A n c)).run P W = .ok (.string (strOf xs)) W := by
  subst hn
  rcases A with _ | a
  · have hx : xs = [] := by
      rcases hxs : xs with _ | ⟨x, r⟩
      · rfl
      · obtain ⟨_, _, h, _⟩ := hr 0 (by rw [hxs]; simp)
        cases h
    subst hx
    exact run_convert_bytes_nil (P := P) W src e hs he _ c dst hd
  · rcases hxs : xs with _ | ⟨x, r⟩
    · rw [run_convert_bytes_string W src dst e _ _ c hs he hd]
      rw [List.length_nil, run_bytesToString W a 0 c [] (by simpa using run_loadCells_list (P := P) W a [] (fun j v hj => by simp at hj))]
      rfl
    · rw [← hxs]
      obtain ⟨b, o, ha, _, _⟩ := hr 0 (by rw [hxs]; simp)
      obtain rfl : a = ⟨b, o, none⟩ := by injection ha
      exact run_convert_bytes_arg (P := P) W src e hs he b o xs.length c xs rfl (fun i hi => by
        obtain ⟨b', o', h', _, hc⟩ := hr i (by simpa using hi)
        injection h' with h'
        injection h' with h1 h2
        subst h1; subst h2
        rw [hc, int_at hi, List.getD_eq_getElem?_getD, List.getElem?_eq_getElem hi]
        rfl) dst hd
end Go.Proofs.Ytlfigoboeogegaa
