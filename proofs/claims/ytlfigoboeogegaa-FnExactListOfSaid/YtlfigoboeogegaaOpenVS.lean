/- A row of values that came in, opened. -/
import Derived.Test.YtlfigoboeogegaaOpenV
import Derived.Test.YtlfigoboeogegaaVals
namespace Go.Proofs.Ytlfigoboeogegaa
open Go.ChangeShapes Go.WideShapes Go.RowKit
set_option linter.unusedVariables false
set_option maxRecDepth 100000

section
variable {H : Type} {enc : TypeId × Value → H} {w : World} {spare : Nat → Bool} {held : Bool}
theorem open_values {r : Reach} {b0 : Nat} {v : Value} {d : DataW H} {p : List MemPlace} (hv : Value.okWide Try.prog w r b0 46 v) (h : DataW.Trod enc Try.prog w 0 spare held 46 v d p) :
    ∃ (A : Option Addr) (n c : Nat) (f : Forest) (L : List Nat), v = .slice A n c ∧ (A = none → c = 0) ∧ n ≤ maxLen ∧ RowV w f A 0 n L ∧ f.ok := by
  obtain ⟨A0, n0, c0, rfl⟩ := okWide_slice Try.underlying46 hv
  obtain ⟨fuel, h⟩ := h
  rcases DataW.trod_slice Try.underlying46 h with ⟨e, _⟩ | ⟨a, len, cap, elems, rest, n, hn, e, _, _, hl, hm, hlen, hel, _, _⟩
  · simp [Value.cells] at e
    obtain ⟨rfl, rfl, rfl⟩ := e
    exact ⟨none, 0, 0, .nil, [], rfl, fun _ => rfl, Nat.zero_le _, ⟨rfl, rfl⟩, trivial⟩
  · simp [Value.cells] at e
    obtain ⟨rfl, rfl, rfl⟩ := e
    rw [Try.cVL] at hel
    have hsp : 0 < n0 → a.spot = none := by
      intro h0
      have he := hel 0 h0
      obtain ⟨y, hy⟩ : ∃ y, elems[0]? = some y := ⟨_, List.getElem?_eq_getElem (by omega)⟩
      rw [hy] at he
      obtain ⟨cs, hcs, hcy⟩ := Option.bind_eq_some_iff.1 he
      obtain ⟨k, m, u, x, A, n', c, sub, Ls, rfl, _⟩ := open_valCells (fun q _ => open_items q) hcy
      unfold World.cells? at hcs
      split at hcs
      · have h2 := World.cell?_spot ((mapM_some_get hcs 0 0 (by simp)).trans rfl)
        simpa [Addr.add] using h2
      · cases hcs
    have key : ∀ j, j ≤ n0 → ∃ f L, RowV w f (some a) (n0 - j) n0 L ∧ f.ok := by
      intro j
      induction j with
      | zero => exact fun _ => ⟨.nil, [], ⟨by omega, rfl⟩, trivial⟩
      | succ j ihj =>
        intro hj
        obtain ⟨f, L, hf, hok⟩ := ihj (by omega)
        have he := hel (n0 - (j + 1)) (by omega)
        obtain ⟨y, hy⟩ : ∃ y, elems[n0 - (j + 1)]? = some y := ⟨_, List.getElem?_eq_getElem (by omega)⟩
        rw [hy] at he
        obtain ⟨cs, hcs, hcy⟩ := Option.bind_eq_some_iff.1 he
        obtain ⟨k, m, u, x, A, n', c, sub, Ls, rfl, p1, p2, p3, p4, q1, q2, q3, q4⟩ := open_valCells (fun q _ => open_items q) hcy
        unfold World.cells? at hcs
        split at hcs
        · have hg : ∀ q, q < 5 → w.cell? ((a.add ((n0 - (j + 1)) * 5)).add q) = [Value.int .i64 k, .int .i64 m, .string u, .int .i64 x, .slice A n' c][q]? := fun q hq => mapM_some_get hcs q q (by simp [hq])
          obtain ⟨b, o, sp⟩ := a
          have hs : sp = none := hsp (by omega)
          subst hs
          have e1 : ∀ q, (((⟨b, o, none⟩ : Addr).add ((n0 - (j + 1)) * 5)).add q) = ⟨b, o + (n0 - (j + 1)) * 5 + q, none⟩ := fun q => by
            by_cases h0 : (n0 - (j + 1)) * 5 = 0 <;> by_cases h1 : q = 0 <;> simp [Addr.add, h0, h1, Nat.add_assoc]
          have hsl : sub.len = n' := by have := p3.len; omega
          subst hsl
          have g0 := hg 0 (by omega)
          rw [e1] at g0
          refine ⟨.cons false 0 { data := #[] } k m u x sub f, _, ⟨b, o, A, c, Ls, L, rfl, World.block_lt_of_cell? w _ g0, fun q z hz => ?_, p1, p3, ?_, rfl⟩, ⟨⟨Nat.zero_le _, q1, by decide, q2, q3, q4, p2⟩, p4, hok⟩⟩
          · have hq : q < 5 := by have := (List.getElem?_eq_some_iff.1 hz).1; simpa using this
            rw [← e1, hg q hq, hz]
          · rw [show n0 - (j + 1) + 1 = n0 - j by omega]
            exact hf
        · cases hcs
    obtain ⟨f, L, hf, hok⟩ := key n0 (Nat.le_refl _)
    rw [Nat.sub_self] at hf
    exact ⟨some a, n0, c0, f, L, rfl, (by intro h; cases h), by omega, hf, hok⟩
end
end Go.Proofs.Ytlfigoboeogegaa
