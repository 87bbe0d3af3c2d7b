/- The walk of the reference's ParseSigned, and of the law. -/
import Derived.Test.YtmbochhmeojmfaaDoorLaidW
namespace Go.Proofs.YtmbochhmeojmfaaDoor
set_option maxRecDepth 20000
open Go.RowKit
set_option linter.unusedVariables false

/-- A text that begins with '-'. -/
def minus (s : ByteArray) : ByteArray := (⟨#[45]⟩ : ByteArray) ++ s
theorem minus_list (s : ByteArray) : (minus s).data.toList = 45 :: s.data.toList := by simp [minus, ByteArray.data_append]
theorem minus_size (s : ByteArray) : (minus s).size = s.size + 1 := by
  show (minus s).data.size = s.data.size + 1
  rw [← Array.length_toList, minus_list, List.length_cons, Array.length_toList]
theorem get_list {s : ByteArray} {c : UInt8} {l : List UInt8} (h : s.data.toList = c :: l) (h0 : 0 < s.size) : s[0] = c := by
  show s.data[0] = c
  rw [← Array.getElem_toList]
  simp [h]
theorem minus_get (s : ByteArray) (h0 : 0 < (minus s).size) : (minus s)[0] = 45 := get_list (minus_list s) h0
theorem itoaB_neg {v : Int} (h : v < 0) : itoaB v = minus (itoaB (-v)) := by
  unfold itoaB minus Lib.itoa
  rw [if_pos h, if_neg (by omega), show (-v).toNat = v.natAbs by omega]
  apply ByteArray.ext
  simp [ByteArray.data_append]
theorem minus_inj {a b : ByteArray} (h : minus a = minus b) : a = b := by
  apply ByteArray.ext
  have := congrArg (fun b => b.data.toList) h
  simp only [minus_list] at this
  injection this with _ h2
  exact Array.toList_inj.1 h2
/-- Behind the sign. -/
theorem signed_neg {s' : ByteArray} {n : Int} {ok : Bool} (h : Says s' 0 1000000000000 n ok) :
    (ok = true ∧ 1 ≤ n ∧ n ≤ 1000000000 ∧ Says (minus s') (-1000000000) 1000000000 (-n) true) ∨
    ((ok = false ∨ 1000000000 < n ∨ n = 0) ∧ Says (minus s') (-1000000000) 1000000000 0 false) := by
  have key : ∀ v, -1000000000 ≤ v → v ≤ 1000000000 → minus s' = itoaB v → v < 0 ∧ s' = itoaB (-v) := fun v h0 h1 hv => by
    by_cases hn : v < 0
    · exact ⟨hn, minus_inj (hv.trans (itoaB_neg hn))⟩
    · exfalso
      have h2 := digits_at (by omega) hv 0 (by rw [minus_size]; omega)
      have h3 := minus_get s' (by rw [minus_size]; omega)
      rw [h3] at h2
      have : ((45 : UInt8).toNat : Int) = 45 := by decide
      omega
  rcases h with ⟨rfl, h0, h1, h2⟩ | ⟨rfl, rfl, h2⟩
  · by_cases hb : 1 ≤ n ∧ n ≤ 1000000000
    · refine .inl ⟨rfl, hb.1, hb.2, Says.yes (by omega) (by omega) ?_⟩
      rw [itoaB_neg (by omega), Int.neg_neg, h2]
    · refine .inr ⟨by omega, Says.no fun v g0 g1 hv => ?_⟩
      obtain ⟨k0, k1⟩ := key v g0 g1 hv
      have := itoaB_inj (by omega) (by omega) (by omega) (by omega) (h2.symm.trans k1)
      omega
  · refine .inr ⟨.inl rfl, Says.no fun v g0 g1 hv => ?_⟩
    obtain ⟨k0, k1⟩ := key v g0 g1 hv
    exact h2 (-v) (by omega) (by omega) k1
/-- Without a sign. -/
theorem signed_pos {s : ByteArray} {n : Int} {ok : Bool} (hs : ∀ v, v < 0 → s ≠ itoaB v) (h : Says s 0 1000000000000 n ok) :
    (ok = true ∧ 0 ≤ n ∧ n ≤ 1000000000 ∧ Says s (-1000000000) 1000000000 n true) ∨
    ((ok = false ∨ 1000000000 < n) ∧ Says s (-1000000000) 1000000000 0 false) := by
  rcases h with ⟨rfl, h0, h1, h2⟩ | ⟨rfl, rfl, h2⟩
  · by_cases hb : n ≤ 1000000000
    · exact .inl ⟨rfl, h0, hb, Says.yes (by omega) hb h2⟩
    · refine .inr ⟨by omega, Says.no fun v g0 g1 hv => ?_⟩
      have := itoaB_inj (by omega) (by omega) (by omega) (by omega) (h2.symm.trans hv)
      omega
  · refine .inr ⟨.inl rfl, Says.no fun v g0 g1 hv => ?_⟩
    by_cases hn : v < 0
    · exact hs v hn hv
    · exact h2 v (by omega) (by omega) hv
theorem first_neg {s : ByteArray} {v : Int} (h : v < 0) (hs : s = itoaB v) : ∃ h0 : 0 < s.size, s[0] = 45 := by
  rw [itoaB_neg h] at hs
  subst hs
  exact ⟨by rw [minus_size]; omega, minus_get _ _⟩
theorem minus_split {s : ByteArray} (h : 0 < s.size) (h0 : s[0] = 45) : s = minus (s.extract 1 s.size) := by
  apply ByteArray.ext
  apply Array.toList_inj.1
  rw [minus_list, ByteArray.data_extract]
  obtain ⟨c, l, hc⟩ : ∃ c l, s.data.toList = c :: l := List.exists_cons_of_ne_nil (by
    intro e
    have h2 : s.data.toList.length = s.size := Array.length_toList
    rw [e, List.length_nil] at h2
    omega)
  have : s[0] = c := get_list hc h
  rw [Array.toList_extract, hc, ← this, h0]
  have h3 : s.size = l.length + 1 := by
    have := congrArg List.length hc
    simpa using this
  simp [h3]
theorem specSigned (s : ByteArray) (w : World) (hs : s.size ≤ 1048576) :
    Calls Tryd.prog 65 #[.string s] w (ParsePost s (-1000000000) 1000000000 w) := by
  rcases Nat.eq_zero_or_pos s.size with hz | hz
  · have HN : Hid (∀ v, v < 0 → s ≠ itoaB v) := hid (fun v h hv => by obtain ⟨h0, _⟩ := first_neg h hv; omega)
    go_enter Tryd.func65, Tryd.ntmps65
    go_wp2_with fail
    refine (specParse s _ hs).mono ?_
    rintro e w1 ⟨n, ok, rfl, hS, hg⟩
    have HG := hid hg
    clear hg
    rcases signed_pos HN.out hS with ⟨rfl, h0, h1, hT⟩ | ⟨h, hT⟩
    · have HT := hid hT
      clear hT hS
      go_wp2_with fail
      go_ret2
      exact ⟨n, true, rfl, HT.out, HG.out⟩
    · have HT := hid hT
      clear hT hS
      cases ok
      · clear h
        go_wp2_with fail
        go_ret2
        exact ⟨0, false, rfl, HT.out, HG.out⟩
      · have h1 : 1000000000 < n := by rcases h with h | h; · cases h
                                       · exact h
        clear h
        go_wp2_with fail
        go_ret2
        exact ⟨0, false, rfl, HT.out, HG.out⟩
  by_cases h45 : s[0] = 45
  · have HM := hid (minus_split hz h45)
    have hc : (s[0].toNat : Int) = 45 := by rw [h45]; decide
    have hx : (s.extract 1 s.size).size ≤ 1048576 := by rw [ByteArray.size_extract]; omega
    clear h45
    go_enter Tryd.func65, Tryd.ntmps65
    go_wp2_with fail
    refine (specParse _ _ hx).mono ?_
    rintro e w1 ⟨n, ok, rfl, hS, hg⟩
    have HG := hid hg
    clear hg
    rcases signed_neg hS with ⟨rfl, h0, h1, hT⟩ | ⟨h, hT⟩
    · rw [← HM.out] at hT
      have HT := hid hT
      clear hT hS
      have e1 : decide (1000000000 < n) = false := by simp; omega
      have e2 : (n == 0) = false := by simp; omega
      go_wp2_with fail
      go_ret2
      exact ⟨-n, true, rfl, HT.out, HG.out⟩
    · rw [← HM.out] at hT
      have HT := hid hT
      clear hT hS
      cases ok
      · clear h
        go_wp2_with fail
        go_ret2
        exact ⟨0, false, rfl, HT.out, HG.out⟩
      · have h1 : 1000000000 < n ∨ n = 0 := by rcases h with h | h; · cases h
                                               · exact h
        clear h
        rcases h1 with h1 | rfl
        · go_wp2_with fail
          go_ret2
          exact ⟨0, false, rfl, HT.out, HG.out⟩
        · go_wp2_with fail
          go_ret2
          exact ⟨0, false, rfl, HT.out, HG.out⟩
  · have HN : Hid (∀ v, v < 0 → s ≠ itoaB v) := hid (fun v h hv => by obtain ⟨_, h1⟩ := first_neg h hv; exact h45 h1)
    have hb : ((s[0].toNat : Int) == 45) = false := by
      rw [beq_eq_false_iff_ne]
      intro h
      exact h45 (UInt8.toNat_inj.1 (by have : (45 : UInt8).toNat = 45 := rfl; omega))
    have h256 : (s[0].toNat : Int) < 256 := by have := s[0].toNat_lt; omega
    clear h45
    go_enter Tryd.func65, Tryd.ntmps65
    go_wp2_with fail
    refine (specParse s _ hs).mono ?_
    rintro e w1 ⟨n, ok, rfl, hS, hg⟩
    have HG := hid hg
    clear hg hb h256
    rcases signed_pos HN.out hS with ⟨rfl, h0, h1, hT⟩ | ⟨h, hT⟩
    · have HT := hid hT
      clear hT hS
      go_wp2_with fail
      go_ret2
      exact ⟨n, true, rfl, HT.out, HG.out⟩
    · have HT := hid hT
      clear hT hS
      cases ok
      · clear h
        go_wp2_with fail
        go_ret2
        exact ⟨0, false, rfl, HT.out, HG.out⟩
      · have h1 : 1000000000 < n := by rcases h with h | h; · cases h
                                       · exact h
        clear h
        go_wp2_with fail
        go_ret2
        exact ⟨0, false, rfl, HT.out, HG.out⟩
end Go.Proofs.YtmbochhmeojmfaaDoor
