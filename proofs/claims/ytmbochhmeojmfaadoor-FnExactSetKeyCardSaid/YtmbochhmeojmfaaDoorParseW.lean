/- The walk of parseWithin: strconv.Atoi by the shelf's contracts. -/
import Derived.Test.YtmbochhmeojmfaaDoorFmt
import Derived.Test.YtmbochhmeojmfaaDoorParseMath
import Derived.Lib.SlicesS
import Derived.Lib.SmallJoins
namespace Go.Proofs.YtmbochhmeojmfaaDoor
set_option maxRecDepth 20000
open Go.RowKit
set_option linter.unusedVariables false

theorem var_grow {w w' : World} {nm : String} {cs : Array Value} (h : w.var? Tryd.prog nm = some cs) (hg : w.grownBy w' none) : w'.var? Tryd.prog nm = some cs := by
  unfold World.var? at h ⊢
  obtain ⟨g, hn, hv⟩ := Option.bind_eq_some_iff.1 h
  have hlt : g < w.heap.size := by
    rcases Nat.lt_or_ge g w.heap.size with h' | h'
    · exact h'
    · rw [Array.getElem?_eq_none h'] at hv; cases hv
  rw [hn, Option.bind_some, hg.block g hlt (by simp)]
  exact hv
/-- What the rows list. -/
structure LaidW (w : World) : Prop where
  pow : PowT w
  syn : ∃ tp p, w.var? Tryd.prog "strconv.ErrSyntax" = some #[.iface tp p]
  rng : ∃ tp p, w.var? Tryd.prog "strconv.ErrRange" = some #[.iface tp p]
theorem LaidW.grow {w w' : World} (h : LaidW w) (hg : w.grownBy w' none) : LaidW w' :=
  ⟨h.pow.grow hg, by obtain ⟨tp, p, k⟩ := h.syn; exact ⟨tp, p, var_grow k hg⟩, by obtain ⟨tp, p, k⟩ := h.rng; exact ⟨tp, p, var_grow k hg⟩⟩
theorem gb_of_below {w w1 : World} (h : Below w.heap.size w w1) : w.grownBy w1 none := ⟨h.os, h.tape, h.output, h.size, fun k hk _ => h.block k hk⟩
/-- strconv.Atoi in one: a number, or an error that is not nil. -/
theorem atoi_any (s : ByteArray) (w : World) (hs : s.size ≤ 20) (hL : LaidW w) :
    Calls Tryd.prog 79 #[.string s] w fun e w' => w.grownBy w' none ∧
      ((∃ v, Lib.atoiAll s.data.toList = .ok v ∧ e = .returned (.tuple #[.int .i64 v, .nilIface])) ∨
       (∃ v t p, (∀ u, Lib.atoiAll s.data.toList ≠ .ok u) ∧ e = .returned (.tuple #[.int .i64 v, .iface t p]))) := by
  rcases ha : Lib.atoiAll s.data.toList with v | _ | _
  · refine (Tryd.strconv_Atoi_ok s (by omega) v ha w).mono ?_
    rintro e w' ⟨rfl, h⟩
    refine ⟨?_, .inl ⟨v, rfl, rfl⟩⟩
    rcases h with rfl | ⟨t, rfl⟩
    · exact gb_refl _ _
    · exact gb_of_below (⟨rfl, rfl, rfl, by rw [Lib.bytesWorld_size]; omega, fun k hk => Lib.bytesWorld_at_old w _ t k hk⟩ : Below w.heap.size w (Lib.bytesWorld w 5 t))
  · obtain ⟨tp, p, hv⟩ := hL.syn
    refine (Tryd.strconv_Atoi_syntax_var s (by omega) (ha.trans rfl) tp p w hv).mono ?_
    rintro e w' ⟨N, rfl, _, _, hb⟩
    exact ⟨gb_of_below hb, .inr ⟨_, _, _, fun u h => by simp at h, rfl⟩⟩
  · obtain ⟨tp, p, hv⟩ := hL.rng
    refine (Tryd.strconv_Atoi_range_var s (by omega) ha tp p w hv).mono ?_
    rintro e w' ⟨N, rfl, _, _, hb⟩
    exact ⟨gb_of_below hb, .inr ⟨_, _, _, fun u h => by simp at h, rfl⟩⟩
theorem str_eq {a b : ByteArray} (h : a = b) : (a.toList == b.toList) = true ∧ (a.toList != b.toList) = false := by
  have := (Lib.bytes_beq_iff a b).2 h
  exact ⟨this, by unfold bne; rw [this]; rfl⟩
theorem str_ne {a b : ByteArray} (h : a ≠ b) : (a.toList == b.toList) = false ∧ (a.toList != b.toList) = true := by
  have := (Lib.bytes_beq_false_iff a b).2 h
  exact ⟨this, by unfold bne; rw [this]; rfl⟩
theorem itoa_call (n : Int) (w : World) (h0 : -9223372036854775808 ≤ n) (h1 : n ≤ 9223372036854775807) (ht : PowT w) :
    Calls Tryd.prog 80 #[.int .i64 n] w fun e w' => e = .returned (.string (itoaB n)) ∧ w.grownBy w' none :=
  (Tryd.strconv_Itoa _ h0 h1 _ ht).mono fun e w' ⟨he, k, os, hw⟩ => ⟨he, by subst hw; exact ⟨rfl, rfl, rfl, by simp, fun j hj _ => Sort.heap_grow_old _ _ hj⟩⟩

def ParsePost (s : ByteArray) (lo hi : Int) (w : World) (e : Ending) (w' : World) : Prop :=
  ∃ r b, e = .returned (.tuple #[.int .i64 r, .bool b]) ∧ Says s lo hi r b ∧ w.grownBy w' none

theorem within (s : ByteArray) (lo hi : Int) (w : World) (hlo : -1000000000 ≤ lo) (hhi : hi ≤ 1000000000000) (hs : s.size ≤ 1048576) (hL : LaidW w) :
    Calls Tryd.prog 77 #[.string s, .int .i64 lo, .int .i64 hi] w (ParsePost s lo hi w) := by
  have HL := hid hL
  clear hL
  rcases Nat.lt_or_ge 20 s.size with h20 | h20
  · have HN : Hid (∀ v, lo ≤ v → v ≤ hi → s ≠ itoaB v) := hid (fun v h0 h1 hv => by have := size20 v (by omega) (by omega); rw [← hv] at this; omega)
    go_enter Tryd.func77, Tryd.ntmps77
    go_wp2_with fail
    go_ret2
    exact ⟨0, false, rfl, Says.no HN.out, gb_refl _ _⟩
  go_enter Tryd.func77, Tryd.ntmps77
  go_wp2_with fail
  refine (atoi_any s _ h20 HL.out).mono ?_
  rintro e w1 ⟨hg1, ⟨v, ha, rfl⟩ | ⟨v, t, p, ha, rfl⟩⟩
  · have HG1 := hid hg1
    obtain ⟨hv0, hv1⟩ := Lib.atoiAll_bounds ha
    have HU : Hid (∀ u, lo ≤ u → u ≤ hi → s = itoaB u → u = v) := hid (fun u h0 h1 hu => by
      have := atoi_itoa u (by omega) (by omega)
      rw [hu] at ha
      simp only [itoaB] at ha
      rw [this] at ha
      injection ha)
    have HV0 := hid hv0
    have HV1 := hid hv1
    clear hg1 ha
    by_cases hsv : itoaB v = s
    · obtain ⟨q1, q2⟩ := str_eq hsv
      have HS := hid hsv
      clear hsv
      by_cases hl : v < lo
      · go_wp2_with fail
        refine (itoa_call v _ HV0.out HV1.out (HL.out.grow HG1.out).pow).mono ?_
        rintro e w2 ⟨rfl, hg2⟩
        have HG2 := hid hg2
        clear hg2
        go_wp2_with fail
        go_ret2
        exact ⟨0, false, rfl, Says.no (fun u h0 h1 hu => by have := HU.out u h0 h1 hu; omega), gb_trans HG1.out HG2.out⟩
      by_cases hh : hi < v
      · go_wp2_with fail
        refine (itoa_call v _ HV0.out HV1.out (HL.out.grow HG1.out).pow).mono ?_
        rintro e w2 ⟨rfl, hg2⟩
        have HG2 := hid hg2
        clear hg2
        go_wp2_with fail
        go_ret2
        exact ⟨0, false, rfl, Says.no (fun u h0 h1 hu => by have := HU.out u h0 h1 hu; omega), gb_trans HG1.out HG2.out⟩
      · have hl2 : lo ≤ v := by omega
        have hh2 : v ≤ hi := by omega
        go_wp2_with fail
        refine (itoa_call v _ HV0.out HV1.out (HL.out.grow HG1.out).pow).mono ?_
        rintro e w2 ⟨rfl, hg2⟩
        have HG2 := hid hg2
        clear hg2
        go_wp2_with fail
        go_ret2
        exact ⟨v, true, rfl, Says.yes hl2 hh2 HS.out.symm, gb_trans HG1.out HG2.out⟩
    · obtain ⟨q1, q2⟩ := str_ne hsv
      have HS := hid hsv
      clear hsv
      go_wp2_with fail
      refine (itoa_call v _ HV0.out HV1.out (HL.out.grow HG1.out).pow).mono ?_
      rintro e w2 ⟨rfl, hg2⟩
      have HG2 := hid hg2
      clear hg2
      go_wp2_with fail
      go_ret2
      exact ⟨0, false, rfl, Says.no (fun u h0 h1 hu => by have := HU.out u h0 h1 hu; subst this; exact HS.out hu.symm), gb_trans HG1.out HG2.out⟩
  · have HG1 := hid hg1
    have HU : Hid (∀ u, lo ≤ u → u ≤ hi → s ≠ itoaB u) := hid (fun u h0 h1 hu => by
      have := atoi_itoa u (by omega) (by omega)
      rw [hu] at ha
      exact ha u this)
    clear hg1 ha
    go_wp2_with fail
    go_ret2
    exact ⟨0, false, rfl, Says.no HU.out, HG1.out⟩
end Go.Proofs.YtmbochhmeojmfaaDoor
