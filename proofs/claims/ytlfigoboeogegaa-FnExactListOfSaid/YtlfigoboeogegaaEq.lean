/- The walks of eqKey, eqValue, eqEntry, eqEntryS at two readings of one tree. -/
import Derived.Test.YtlfigoboeogegaaKeys
import Derived.Test.YtlfigoboeogegaaTreeMath
import Derived.Test.YtlfigoboeogegaaStill
namespace Go.Proofs.Ytlfigoboeogegaa
open Go.RowKit
set_option linter.unusedVariables false

theorem Try.infoEq : (Try.prog.info? 61).map (·.size) = some 8 := by kernel_rfl
theorem eqKey_same (t : Bool) (n : Int) (s : ByteArray) (w : World) :
    Calls Try.prog 56 #[.agg #[.bool t, .int .i64 n, .string s], .agg #[.bool t, .int .i64 n, .string s]] w fun e w' => e = .returned (.bool true) ∧ w.grownBy w' none := by
  go_enter Try.func56, Try.ntmps56
  go_wp2_with fail
  go_ret
  exact ⟨rfl, gb_alloc (gb_alloc (gb_refl _ _) _) _⟩
/-- What eqEntryS says of two readings of a forest. -/
def EqOk (f : Forest) : Prop := ∀ (w : World) (A B : Option Addr) (c d : Nat) (L M : List Nat), RowF w f A 0 f.len L → RowF w f B 0 f.len M → f.size ≤ 4194304 →
  Calls Try.prog 36 #[.slice A f.len c, .slice B f.len d] w fun e w' => e = .returned (.bool true) ∧ w.grownBy w' none
theorem eqValue_any (f : Forest) (hf : EqOk f) (k m : Int) (u : ByteArray) (x : Int) (A B : Option Addr) (c d : Nat) (L M : List Nat) (w : World) (ha : RowF w f A 0 f.len L) (hb : RowF w f B 0 f.len M) (hsz : f.size ≤ 4194304) :
    Calls Try.prog 14 #[.agg #[.int .i64 k, .int .i64 m, .string u, .int .i64 x, .slice A f.len c], .agg #[.int .i64 k, .int .i64 m, .string u, .int .i64 x, .slice B f.len d]] w fun e w' => e = .returned (.bool true) ∧ w.grownBy w' none := by
  have HA := hid ha
  have HB := hid hb
  have HF := hid hf
  have HZ := hid hsz
  clear ha hb hf hsz
  go_enter Try.func14, Try.ntmps14
  go_wp2_with fail
  refine (HF.out _ A B c d L M (HA.out.grow (gb_alloc (gb_alloc (gb_refl _ _) _) _)) (HB.out.grow (gb_alloc (gb_alloc (gb_refl _ _) _) _)) HZ.out).mono ?_
  rintro e w1 ⟨rfl, hg⟩
  go_wp2_with fail
  go_ret
  exact ⟨rfl, gb_trans (gb_alloc (gb_alloc (gb_refl _ _) _) _) hg⟩
theorem eqEntry_any (f : Forest) (hf : EqOk f) (t : Bool) (n : Int) (s : ByteArray) (k m : Int) (u : ByteArray) (x : Int) (A B : Option Addr) (c d : Nat) (L M : List Nat) (w : World) (ha : RowF w f A 0 f.len L) (hb : RowF w f B 0 f.len M) (hsz : f.size ≤ 4194304) :
    Calls Try.prog 52 #[.agg #[.bool t, .int .i64 n, .string s, .int .i64 k, .int .i64 m, .string u, .int .i64 x, .slice A f.len c], .agg #[.bool t, .int .i64 n, .string s, .int .i64 k, .int .i64 m, .string u, .int .i64 x, .slice B f.len d]] w fun e w' => e = .returned (.bool true) ∧ w.grownBy w' none := by
  have HA := hid ha
  have HB := hid hb
  have HF := hid hf
  have HZ := hid hsz
  clear ha hb hf hsz
  have H0 := hid (HoldsT.pre w #[.bool t, .int .i64 n, .string s, .int .i64 k, .int .i64 m, .string u, .int .i64 x, .slice A f.len c] 61 (.cells #[.bool t, .int .i64 n, .string s, .int .i64 k, .int .i64 m, .string u, .int .i64 x, .slice B f.len d] 61))
  have H1 := hid (show HoldsT ((w.alloc (.cells #[.bool t, .int .i64 n, .string s, .int .i64 k, .int .i64 m, .string u, .int .i64 x, .slice A f.len c] 61)).alloc (.cells #[.bool t, .int .i64 n, .string s, .int .i64 k, .int .i64 m, .string u, .int .i64 x, .slice B f.len d] 61)) (w.heap.size + 1) #[.bool t, .int .i64 n, .string s, .int .i64 k, .int .i64 m, .string u, .int .i64 x, .slice B f.len d] 61 by
    have := HoldsT.new (w.alloc (.cells #[.bool t, .int .i64 n, .string s, .int .i64 k, .int .i64 m, .string u, .int .i64 x, .slice A f.len c] 61)) #[.bool t, .int .i64 n, .string s, .int .i64 k, .int .i64 m, .string u, .int .i64 x, .slice B f.len d] 61
    simpa using this)
  go_enter Try.func52, Try.ntmps52
  go_wp2_with fail
  refine (eqKey_same _ _ _ _).mono ?_
  rintro e w1 ⟨rfl, hg1⟩
  have K0 := hid (H0.out.grow hg1)
  have K1 := hid (H1.out.grow hg1)
  obtain ⟨_, _, _, a3, a4, a5, a6, a7⟩ := K0.out.cells8
  obtain ⟨_, _, _, b3, b4, b5, b6, b7⟩ := K1.out.cells8
  have la := K0.out.lt
  have lb := K1.out.lt
  have G1 := hid (gb_trans (gb_alloc (gb_alloc (gb_refl w none) _) _) hg1)
  clear hg1
  go_wp2_with fail
  refine (eqValue_any f HF.out k m u x A B c d L M _ (HA.out.grow G1.out) (HB.out.grow G1.out) HZ.out).mono ?_
  rintro e w2 ⟨rfl, hg⟩
  clear a3 a4 a5 a6 a7 b3 b4 b5 b6 b7
  go_wp2_with fail
  go_ret
  exact ⟨rfl, gb_trans G1.out hg⟩
set_option maxHeartbeats 1000000 in
theorem eqEntryS_step (f : Forest) (ih : ∀ g : Forest, g.size < f.size → EqOk g) : EqOk f := by
  intro w A B c d L M ha hb hlen
  have IH := hid ih
  have HA := hid ha
  have HB := hid hb
  obtain ⟨N, hN⟩ : ∃ N, f.len = N := ⟨_, rfl⟩
  have hNs : N ≤ 4194304 := by have := f.len_le; omega
  rw [hN] at HA HB
  have HN := hid hN
  rw [hN]
  clear ih ha hb hN
  go_enter Try.func36, Try.ntmps36
  go_wp2_with fail
  go_loopw [5] (fun iv wr => ∃ (i : Nat) (r : Forest) (L M : List Nat), i + r.len = N ∧ iv = .int .i64 i ∧ Hid (RowF w r A i N L) ∧ Hid (RowF w r B i N M) ∧ r.size ≤ f.size ∧ Hid (w.grownBy wr none)) (fun i _ => N - (intOf i).toNat)
  case atStart => exact ⟨0, f, L, M, by rw [HN.out]; omega, rfl, HA, HB, Nat.le_refl _, hid (gb_refl _ _)⟩
  case round =>
    obtain ⟨i, r, L, M, hir, rfl, HRa, HRb, hsz, HG⟩ := hrel
    cases r with
    | nil =>
      have hi : i = N := by simpa [Forest.len] using hir
      subst hi
      go_wp2_with fail
      go_ret
      exact ⟨rfl, HG.out⟩
    | cons t n s k m u x sub r =>
      have hiN : i < N := by simp only [Forest.len] at hir; omega
      have hiN' : i + 1 + r.len = N := by simp only [Forest.len] at hir; omega
      obtain ⟨b, o, SA, sc, Ls, Lr, rfl, hb, R1, _, hs1, hs2, _⟩ := (HRa.out.grow HG.out).range
      obtain ⟨b2, o2, SA2, sc2, Ls2, Lr2, rfl, hb2, R2, _, ht1, ht2, _⟩ := (HRb.out.grow HG.out).range
      obtain ⟨_, ha2⟩ := HRa.out.rest
      obtain ⟨_, hb3⟩ := HRb.out.rest
      have HR1 := hid (And.intro R1 hb)
      have HR2 := hid (And.intro R2 hb2)
      have HS1 := hid hs1
      have HS2 := hid ht1
      have HT1 := hid ha2
      have HT2 := hid hb3
      have hsz1 : sub.size < f.size := by simp only [Forest.size] at hsz; omega
      have hsz2 : r.size ≤ f.size := by simp only [Forest.size] at hsz; omega
      have hsub : sub.size ≤ 4194304 := by simp only [Forest.size] at hsz; omega
      clear hs1 hs2 ht1 ht2 ha2 hb3 hir hsz hb hb2 R1 R2
      go_wp2_with fail
      refine wp_region_tail 8 (by kernel_rfl) (by kernel_rfl) ?_
      intro wd gd
      have GD := hid gd
      clear gd
      simp only [List.take_succ_cons, List.take_zero, List.drop_succ_cons, List.drop_zero]
      iterate 3 still_step
      refine wpStill_loadR rfl 61 (.tmp 19) rfl b (o + i * 8) rfl _ (rangeAt_grow HR1.out.1 GD.out HR1.out.2) Try.underlying61 rfl Try.infoEq ?_
      simp only [Act.put]
      iterate 3 still_step
      refine wpStill_loadR rfl 61 (.tmp 23) rfl b2 (o2 + i * 8) rfl _ (rangeAt_grow HR2.out.1 GD.out HR2.out.2) Try.underlying61 rfl Try.infoEq ?_
      simp only [Act.put]
      refine wpStill_nil ?_
      go_wp2_with fail
      refine (eqEntry_any sub (IH.out sub hsz1) t n s k m u x SA SA2 sc sc2 Ls Ls2 wd (HS1.out.grow GD.out) (HS2.out.grow GD.out) hsub).mono ?_
      rintro e w2 ⟨rfl, hg⟩
      have HG2 := hid (gb_trans (gb_trans HG.out GD.out) hg)
      clear hg
      go_wp2_with fail
      go_roundw
      case rel => exact ⟨i + 1, r, _, _, hiN', by go_num, HT1, HT2, hsz2, HG2⟩
      case measure => simp [intOf]; omega
theorem eqEntryS_any (f : Forest) : EqOk f := by
  obtain ⟨n, hn⟩ : ∃ n, f.size = n := ⟨_, rfl⟩
  induction n using Nat.strongRecOn generalizing f with
  | ind n ih => exact eqEntryS_step f fun g hg => ih g.size (by omega) g rfl
end Go.Proofs.Ytlfigoboeogegaa
