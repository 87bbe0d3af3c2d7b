/- A value that came in, opened: its entries as a forest. -/
import Derived.Test.YtlfigoboeogegaaRows
import Derived.Test.YtlfigoboeogegaaTree
import Derived.OpenShut
import Derived.Lib.SmallJoins
namespace Go.Proofs.Ytlfigoboeogegaa
open Go.ChangeShapes Go.WideShapes Go.RowKit
set_option linter.unusedVariables false
set_option maxRecDepth 100000

theorem Try.cI : Try.prog.cellsOf 3 = 1 := by kernel_rfl
theorem Try.cB : Try.prog.cellsOf 4 = 1 := by kernel_rfl
theorem Try.cS : Try.prog.cellsOf 9 = 1 := by kernel_rfl
theorem Try.cKL : Try.prog.cellsOf 26 = 3 := by kernel_rfl
theorem Try.cVL : Try.prog.cellsOf 24 = 5 := by kernel_rfl
theorem Try.cEL : Try.prog.cellsOf 70 = 8 := by kernel_rfl
theorem Try.cIL : Try.prog.cellsOf 22 = 1 := by kernel_rfl

theorem list3 {α : Type} {l : List α} (h : l.length = 3) : ∃ a b c, l = [a, b, c] := by
  match l, h with
  | [a, b, c], _ => exact ⟨a, b, c, rfl⟩
theorem list5 {α : Type} {l : List α} (h : l.length = 5) : ∃ a b c d e, l = [a, b, c, d, e] := by
  match l, h with
  | [a, b, c, d, e], _ => exact ⟨a, b, c, d, e, rfl⟩
theorem list8 {α : Type} {l : List α} (h : l.length = 8) : ∃ a b c d e f g i, l = [a, b, c, d, e, f, g, i] := by
  match l, h with
  | [a, b, c, d, e, f, g, i], _ => exact ⟨a, b, c, d, e, f, g, i, rfl⟩

section
variable {H : Type} {enc : TypeId × Value → H} {w : World} {spare : Nat → Bool} {held : Bool}
theorem open_keyCells {fuel : Nat} {cs : List Value} {y : DataW H × List MemPlace} (h : DataW.trod enc Try.prog w 0 spare held fuel 26 cs = some y) :
    ∃ (t : Bool) (m : Int) (s : ByteArray), cs = [.bool t, .int .i64 m, .string s] ∧ s.size ≤ maxLen ∧ (Lit.int .i64 m).wf = true := by
  obtain ⟨xs, n, _, _, hl, hlen, hf⟩ := DataW.trod_struct Try.underlying26 h
  rw [Try.cKL] at hl
  obtain ⟨a, b, c, rfl⟩ := list3 hl
  obtain ⟨x0, x1, x2, rfl⟩ := list3 hlen
  have h0 := hf 0 _ rfl
  have h1 := hf 1 _ rfl
  have h2 := hf 2 _ rfl
  simp [Try.cI, Try.cB, Try.cS] at h0 h1 h2
  obtain ⟨t, e0, _⟩ := DataW.trod_bool Try.underlying4 h0
  obtain ⟨m, e1, _, w1⟩ := DataW.trod_int Try.underlying3 h1
  obtain ⟨s, e2, _, w2⟩ := DataW.trod_string Try.underlying9 h2
  simp at e0 e1 e2
  subst e0 e1 e2
  exact ⟨t, m, s, rfl, w2, w1⟩
/-- What is told of the slice behind a value. -/
def Opens (w : World) (cs : List Value) : Prop := ∃ A n c f L, cs = [.slice A n c] ∧ (A = none → c = 0) ∧ n ≤ maxLen ∧ RowF w f A 0 n L ∧ f.ok
theorem open_valCells {fuel : Nat} (ih : ∀ m, m < fuel → ∀ (cs : List Value) (y : DataW H × List MemPlace), DataW.trod enc Try.prog w 0 spare held m 22 cs = some y → Opens w cs) {cs : List Value} {y : DataW H × List MemPlace}
    (h : DataW.trod enc Try.prog w 0 spare held fuel 24 cs = some y) :
    ∃ (k m : Int) (u : ByteArray) (x : Int) (A : Option Addr) (n c : Nat) (f : Forest) (L : List Nat), cs = [.int .i64 k, .int .i64 m, .string u, .int .i64 x, .slice A n c] ∧ (A = none → c = 0) ∧ n ≤ maxLen ∧ RowF w f A 0 n L ∧ f.ok ∧
      u.size ≤ maxLen ∧ (Lit.int .i64 k).wf = true ∧ (Lit.int .i64 m).wf = true ∧ (Lit.int .i64 x).wf = true := by
  obtain ⟨xs, n, hn, _, hl, hlen, hf⟩ := DataW.trod_struct Try.underlying24 h
  rw [Try.cVL] at hl
  obtain ⟨a, b, c, d, e, rfl⟩ := list5 hl
  obtain ⟨x0, x1, x2, x3, x4, rfl⟩ := list5 hlen
  have h0 := hf 0 _ rfl
  have h1 := hf 1 _ rfl
  have h2 := hf 2 _ rfl
  have h3 := hf 3 _ rfl
  have h4 := hf 4 _ rfl
  simp [Try.cI, Try.cS, Try.cIL] at h0 h1 h2 h3 h4
  obtain ⟨k, e0, _, w0⟩ := DataW.trod_int Try.underlying3 h0
  obtain ⟨m, e1, _, w1⟩ := DataW.trod_int Try.underlying3 h1
  obtain ⟨u, e2, _, w2⟩ := DataW.trod_string Try.underlying9 h2
  obtain ⟨x, e3, _, w3⟩ := DataW.trod_int Try.underlying3 h3
  obtain ⟨A, len, cap, f, L, e4, p1, p2, p3, p4⟩ := ih n (by omega) _ _ h4
  simp at e0 e1 e2 e3 e4
  subst e0 e1 e2 e3 e4
  exact ⟨k, m, u, x, A, len, cap, f, L, rfl, p1, p2, p3, p4, w2, w0, w1, w3⟩
theorem open_entryCells {fuel : Nat} (ih : ∀ m, m < fuel → ∀ (cs : List Value) (y : DataW H × List MemPlace), DataW.trod enc Try.prog w 0 spare held m 22 cs = some y → Opens w cs) {cs : List Value} {y : DataW H × List MemPlace}
    (h : DataW.trod enc Try.prog w 0 spare held fuel 70 cs = some y) :
    ∃ (t : Bool) (i : Int) (s : ByteArray) (k m : Int) (u : ByteArray) (x : Int) (A : Option Addr) (n c : Nat) (f : Forest) (L : List Nat), cs = [.bool t, .int .i64 i, .string s, .int .i64 k, .int .i64 m, .string u, .int .i64 x, .slice A n c] ∧
      (A = none → c = 0) ∧ n ≤ maxLen ∧ RowF w f A 0 n L ∧ f.ok ∧ (s.size ≤ maxLen ∧ u.size ≤ maxLen ∧ (Lit.int .i64 i).wf = true ∧ (Lit.int .i64 k).wf = true ∧ (Lit.int .i64 m).wf = true ∧ (Lit.int .i64 x).wf = true) := by
  obtain ⟨xs, n, hn, _, hl, hlen, hf⟩ := DataW.trod_struct Try.underlying70 h
  rw [Try.cEL] at hl
  obtain ⟨a, b, c, d, e, f, g, i, rfl⟩ := list8 hl
  obtain ⟨x0, r0, rfl⟩ : ∃ a r, xs = a :: r := by
    rcases xs with _ | ⟨a, r⟩
    · simp at hlen
    · exact ⟨a, r, rfl⟩
  obtain ⟨x1, r1, rfl⟩ : ∃ a r, r0 = a :: r := by
    rcases r0 with _ | ⟨a, r⟩
    · simp at hlen
    · exact ⟨a, r, rfl⟩
  have h0 := hf 0 _ rfl
  have h1 := hf 1 _ rfl
  simp [Try.cKL, Try.cVL] at h0 h1
  obtain ⟨t, j, s, e0, w1, w2⟩ := open_keyCells h0
  obtain ⟨k, m, u, x, A, len, cap, fo, L, e1, p1, p2, p3, p4, p5, p6, p7, p8⟩ := open_valCells (fun q hq => ih q (by omega)) h1
  simp at e0 e1
  obtain ⟨rfl, rfl, rfl⟩ := e0
  obtain ⟨rfl, rfl, rfl, rfl, rfl⟩ := e1
  exact ⟨t, j, s, k, m, u, x, A, len, cap, fo, L, rfl, p1, p2, p3, p4, w1, p5, w2, p6, p7, p8⟩
theorem open_items : ∀ (fuel : Nat) (cs : List Value) (y : DataW H × List MemPlace), DataW.trod enc Try.prog w 0 spare held fuel 22 cs = some y → Opens w cs := by
  intro fuel
  induction fuel using Nat.strongRecOn with
  | ind fuel ih =>
    intro cs y h
    rcases DataW.trod_slice Try.underlying22 h with ⟨rfl, _⟩ | ⟨a, len, cap, elems, rest, n, hn, rfl, _, _, hl, hm, hlen, hel, _, _⟩
    · exact ⟨none, 0, 0, .nil, [], rfl, fun _ => rfl, Nat.zero_le _, ⟨rfl, rfl⟩, trivial⟩
    · rw [Try.cEL] at hel
      have hsp : 0 < len → a.spot = none := by
        intro h0
        have he := hel 0 h0
        obtain ⟨y, hy⟩ : ∃ y, elems[0]? = some y := ⟨_, List.getElem?_eq_getElem (by omega)⟩
        rw [hy] at he
        obtain ⟨cs, hcs, hcy⟩ := Option.bind_eq_some_iff.1 he
        obtain ⟨t, i, s, k, m, u, x, A, n', c, sub, Ls, rfl, _⟩ := open_entryCells (fun q hq => ih q (by omega)) hcy
        unfold World.cells? at hcs
        split at hcs
        · have h2 := World.cell?_spot ((mapM_some_get hcs 0 0 (by simp)).trans rfl)
          simpa [Addr.add] using h2
        · cases hcs
      have key : ∀ j, j ≤ len → ∃ f L, RowF w f (some a) (len - j) len L ∧ f.ok := by
        intro j
        induction j with
        | zero => exact fun _ => ⟨.nil, [], ⟨by omega, rfl⟩, trivial⟩
        | succ j ihj =>
          intro hj
          obtain ⟨f, L, hf, hok⟩ := ihj (by omega)
          have he := hel (len - (j + 1)) (by omega)
          obtain ⟨y, hy⟩ : ∃ y, elems[len - (j + 1)]? = some y := ⟨_, List.getElem?_eq_getElem (by omega)⟩
          rw [hy] at he
          obtain ⟨cs, hcs, hcy⟩ := Option.bind_eq_some_iff.1 he
          obtain ⟨t, i, s, k, m, u, x, A, n', c, sub, Ls, rfl, p1, p2, p3, p4, p5⟩ := open_entryCells (fun q hq => ih q (by omega)) hcy
          unfold World.cells? at hcs
          split at hcs
          · have hg : ∀ q, q < 8 → w.cell? ((a.add ((len - (j + 1)) * 8)).add q) = [Value.bool t, .int .i64 i, .string s, .int .i64 k, .int .i64 m, .string u, .int .i64 x, .slice A n' c][q]? := fun q hq => mapM_some_get hcs q q (by simp [hq])
            obtain ⟨b, o, sp⟩ := a
            have hs : sp = none := hsp (by omega)
            subst hs
            have e1 : ∀ q, (((⟨b, o, none⟩ : Addr).add ((len - (j + 1)) * 8)).add q) = ⟨b, o + (len - (j + 1)) * 8 + q, none⟩ := fun q => by
              by_cases h0 : (len - (j + 1)) * 8 = 0 <;> by_cases h1 : q = 0 <;> simp [Addr.add, h0, h1, Nat.add_assoc]
            have g0 := hg 0 (by omega); have g1 := hg 1 (by omega); have g2 := hg 2 (by omega); have g3 := hg 3 (by omega)
            have g4 := hg 4 (by omega); have g5 := hg 5 (by omega); have g6 := hg 6 (by omega); have g7 := hg 7 (by omega)
            rw [e1] at g0 g1 g2 g3 g4 g5 g6 g7
            refine ⟨.cons t i s k m u x sub f, _, ⟨b, o, A, n', c, Ls, L, rfl, World.block_lt_of_cell? w _ g0, ⟨g0, g1, g2, g3, g4, g5, g6, g7⟩, p1, p3, ?_, rfl⟩, ?_, p4, hok⟩
            · rw [show len - (j + 1) + 1 = len - j by omega]
              exact hf
            · obtain ⟨q1, q2, q3, q4, q5, q6⟩ := p5
              exact ⟨q1, q2, q3, q4, q5, q6, by have := p3.len; omega⟩
          · cases hcs
      obtain ⟨f, L, hf, hok⟩ := key len (Nat.le_refl _)
      rw [Nat.sub_self] at hf
      exact ⟨some a, len, cap, f, L, rfl, (by intro h; cases h), by omega, hf, hok⟩
/-- A value that came in. -/
theorem open_value {r : Reach} {b0 : Nat} {v : Value} {d : DataW H} {p : List MemPlace} (hv : Value.okWide Try.prog w r b0 24 v) (h : DataW.Trod enc Try.prog w 0 spare held 24 v d p) :
    ∃ (k m : Int) (u : ByteArray) (x : Int) (A : Option Addr) (n c : Nat) (f : Forest) (L : List Nat), v = .agg #[.int .i64 k, .int .i64 m, .string u, .int .i64 x, .slice A n c] ∧ (A = none → c = 0) ∧ n ≤ maxLen ∧ RowF w f A 0 n L ∧ f.ok ∧
      u.size ≤ maxLen ∧ (Lit.int .i64 k).wf = true ∧ (Lit.int .i64 m).wf = true ∧ (Lit.int .i64 x).wf = true := by
  obtain ⟨cs, rfl, _⟩ := okWide_struct Try.underlying24 hv
  obtain ⟨fuel, hf⟩ := h
  obtain ⟨k, m, u, x, A, n, c, f, L, e, rest⟩ := open_valCells (fun m _ => open_items m) hf
  refine ⟨k, m, u, x, A, n, c, f, L, ?_, rest⟩
  congr 1
  apply Array.toList_inj.1
  simpa [Value.cells] using e
theorem open_keyV {r : Reach} {b0 : Nat} {v : Value} {d : DataW H} {p : List MemPlace} (hv : Value.okWide Try.prog w r b0 26 v) (h : DataW.Trod enc Try.prog w 0 spare held 26 v d p) :
    ∃ (t : Bool) (m : Int) (s : ByteArray), v = .agg #[.bool t, .int .i64 m, .string s] ∧ s.size ≤ maxLen ∧ (Lit.int .i64 m).wf = true := by
  obtain ⟨cs, rfl, _⟩ := okWide_struct Try.underlying26 hv
  obtain ⟨fuel, hf⟩ := h
  obtain ⟨t, m, s, e, rest⟩ := open_keyCells hf
  refine ⟨t, m, s, ?_, rest⟩
  congr 1
  apply Array.toList_inj.1
  simpa [Value.cells] using e
end
end Go.Proofs.Ytlfigoboeogegaa
