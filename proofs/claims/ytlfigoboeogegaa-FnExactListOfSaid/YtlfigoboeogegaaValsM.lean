/- The walks of eqValueS, markValueS, heldValueS. -/
import Derived.Test.YtlfigoboeogegaaVals
import Derived.Test.YtlfigoboeogegaaEq
import Derived.Test.YtlfigoboeogegaaMark
import Derived.Test.YtlfigoboeogegaaHeldE
namespace Go.Proofs.Ytlfigoboeogegaa
open Go.RowKit
set_option linter.unusedVariables false

set_option maxHeartbeats 1000000 in
theorem eqValueS_any (f : Forest) (w : World) (A B : Option Addr) (c d : Nat) (L M : List Nat) (ha : RowV w f A 0 f.len L) (hb : RowV w f B 0 f.len M) (hlen : f.size ≤ 4194304) :
    Calls Try.prog 21 #[.slice A f.len c, .slice B f.len d] w fun e w' => e = .returned (.bool true) ∧ w.grownBy w' none := by
  have HA := hid ha
  have HB := hid hb
  obtain ⟨N, hN⟩ : ∃ N, f.len = N := ⟨_, rfl⟩
  have hNs : N ≤ 4194304 := by have := f.len_le; omega
  rw [hN] at HA HB
  have HN := hid hN
  rw [hN]
  clear ha hb hN
  go_enter Try.func21, Try.ntmps21
  go_wp2_with fail
  go_loopw [5] (fun iv wr => ∃ (i : Nat) (r : Forest) (L M : List Nat), i + r.len = N ∧ iv = .int .i64 i ∧ Hid (RowV w r A i N L) ∧ Hid (RowV w r B i N M) ∧ r.size ≤ f.size ∧ Hid (w.grownBy wr none)) (fun i _ => N - (intOf i).toNat)
  case atStart => exact ⟨0, f, L, M, by rw [HN.out]; omega, rfl, HA, HB, Nat.le_refl _, hid (gb_refl _ _)⟩
  case round =>
    obtain ⟨i, r, L, M, hir, rfl, HRa, HRb, hsz, HG⟩ := hrel
    cases r with
    | nil =>
      have hi : i = N := by simpa [Forest.len] using hir
      subst hi
      go_wp2_with fail
      go_ret
      exact ⟨rfl, HG.out⟩
    | cons t n s k m u x sub r =>
      have hiN : i < N := by simp only [Forest.len] at hir; omega
      have hiN' : i + 1 + r.len = N := by simp only [Forest.len] at hir; omega
      obtain ⟨b, o, SA, sc, Ls, Lr, rfl, hb, R1, _, hs1, hs2, _⟩ := HRa.out.grow HG.out
      obtain ⟨b2, o2, SA2, sc2, Ls2, Lr2, rfl, hb2, R2, _, ht1, ht2, _⟩ := HRb.out.grow HG.out
      obtain ⟨_, ha2⟩ := HRa.out.rest
      obtain ⟨_, hb3⟩ := HRb.out.rest
      have HR1 := hid (And.intro R1 hb)
      have HR2 := hid (And.intro R2 hb2)
      have HS1 := hid hs1
      have HS2 := hid ht1
      have HT1 := hid ha2
      have HT2 := hid hb3
      have hsz2 : r.size ≤ f.size := by simp only [Forest.size] at hsz; omega
      have hsub : sub.size ≤ 4194304 := by simp only [Forest.size] at hsz; omega
      clear hs1 hs2 ht1 ht2 ha2 hb3 hir hsz hb hb2 R1 R2
      go_wp2_with fail
      refine wp_region_tail 8 (by kernel_rfl) (by kernel_rfl) ?_
      intro wd gd
      have GD := hid gd
      clear gd
      simp only [List.take_succ_cons, List.take_zero, List.drop_succ_cons, List.drop_zero]
      iterate 3 still_step
      refine wpStill_loadR rfl 31 (.tmp 19) rfl b (o + i * 5) rfl _ (rangeAt_grow HR1.out.1 GD.out HR1.out.2) Try.underlying31 rfl Try.infoV ?_
      simp only [Act.put]
      iterate 3 still_step
      refine wpStill_loadR rfl 31 (.tmp 23) rfl b2 (o2 + i * 5) rfl _ (rangeAt_grow HR2.out.1 GD.out HR2.out.2) Try.underlying31 rfl Try.infoV ?_
      simp only [Act.put]
      refine wpStill_nil ?_
      go_wp2_with fail
      refine (eqValue_any sub (eqEntryS_any sub) k m u x SA SA2 sc sc2 Ls Ls2 wd (HS1.out.grow GD.out) (HS2.out.grow GD.out) hsub).mono ?_
      rintro e w2 ⟨rfl, hg⟩
      have HG2 := hid (gb_trans (gb_trans HG.out GD.out) hg)
      clear hg
      go_wp2_with fail
      go_roundw
      case rel => exact ⟨i + 1, r, _, _, hiN', by go_num, HT1, HT2, hsz2, HG2⟩
      case measure => simp [intOf]; omega
/-- What the marks make of a row of values. -/
def Forest.markV : Forest → Nat → Forest
  | .nil, _ => .nil
  | .cons t n s _ _ _ _ b r, q => .cons t n s (q : Int) ((q + 1 : Nat) : Int) (markT (q + 2)) ((q + 3 : Nat) : Int) (b.mark (q + 4)) (r.markV (q + 4 + 7 * b.size))
def Forest.vsz : Forest → Nat
  | .nil => 0
  | .cons _ _ _ _ _ _ _ b r => 4 + 7 * b.size + r.vsz
theorem Forest.vsz_le : ∀ f : Forest, f.vsz ≤ 7 * f.size
  | .nil => Nat.le_refl _
  | .cons _ _ _ _ _ _ _ b r => by have := Forest.vsz_le r; simp only [Forest.vsz, Forest.size]; omega
theorem Forest.len_markV : ∀ (f : Forest) (q : Nat), (f.markV q).len = f.len
  | .nil, _ => rfl
  | .cons _ _ _ _ _ _ _ b r, q => by simp only [Forest.markV, Forest.len, Forest.len_markV r]
def MarkVPost (w : World) (f : Forest) (A : Option Addr) (L : List Nat) (lo q : Nat) (e : Ending) (w' : World) : Prop :=
  e = .returned (.int .i64 ((q + f.vsz : Nat) : Int)) ∧ RowV w' (f.markV q) A 0 f.len L ∧ OwnL w' 61 lo L ∧ (∀ b ∈ blk A, IsE w' 31 b) ∧ MarkS w w' (blk A ++ L)
set_option maxHeartbeats 2000000 in
theorem markValueS_any (f : Forest) (w : World) (A : Option Addr) (c : Nat) (L : List Nat) (lo q : Nat) (hR : RowV w f A 0 f.len L) (hO : OwnL w 61 lo L) (hB : ∀ b ∈ blk A, IsE w 31 b) (hBL : ∀ b ∈ blk A, b ∉ L) (h1 : 1 ≤ q) (hb : q + f.vsz ≤ 67108864) (hfs : f.size ≤ 67108864) :
    Calls Try.prog 22 #[.slice A f.len c, .int .i64 q] w (MarkVPost w f A L lo q) := by
  obtain ⟨N, hN⟩ : ∃ N, f.len = N := ⟨_, rfl⟩
  have hNs : N ≤ 67108864 := by have := f.len_le; omega
  obtain ⟨QE, hQE⟩ : ∃ QE, q + f.vsz = QE := ⟨_, rfl⟩
  have HR := hid (show RowV w f A 0 N L by rw [← hN]; exact hR)
  have HL := hid hO
  have HB0 := hid hB
  have HBL := hid hBL
  have HN := hid hN
  have HQ := hid hQE
  rw [hN]
  rw [hQE] at hb
  clear hR hN hO hB hBL
  go_enter Try.func22, Try.ntmps22
  go_wp2_with fail
  go_loopw [1, 5] (fun qv iv wr => ∃ (i p : Nat) (dm r : Forest) (K1 K2 : List Nat), Hid (f.markV q = dm.app (r.markV p)) ∧ p + r.vsz = QE ∧ 1 ≤ p ∧ i + r.len = N ∧ qv = .int .i64 p ∧ iv = .int .i64 i ∧ Hid (RowV wr dm A 0 i K1) ∧ Hid (RowV wr r A i N K2) ∧
      Hid (K1 ++ K2 = L) ∧ Hid (OwnL wr 61 lo L) ∧ Hid (∀ b ∈ blk A, IsE wr 31 b) ∧ Hid (MarkS w wr (blk A ++ L))) (fun _ i _ => N - (intOf i).toNat)
  case atStart => exact ⟨0, q, .nil, f, [], L, hid rfl, HQ.out, h1, by have := HN.out; omega, rfl, rfl, hid ⟨rfl, rfl⟩, HR, hid rfl, HL, HB0, hid (MarkS.refl _ _)⟩
  case round =>
    obtain ⟨i, p, dm, r, K1, K2, HE, hpq, hp1, hir, rfl, rfl, HD, HRr, HK, HOw, HBw, HM⟩ := hrel
    cases r with
    | nil =>
      have hi : i = N := by simpa [Forest.len] using hir
      subst hi
      have hp : p = QE := by simpa [Forest.vsz] using hpq
      subst hp
      go_wp2_with fail
      go_ret
      have hK2 : K2 = [] := HRr.out.2
      refine ⟨ret_int (by rw [HQ.out]), ?_, HOw.out, HBw.out, HM.out⟩
      rw [HE.out, Forest.markV, Forest.app_nil]
      have hk := HK.out
      rw [hK2, List.append_nil] at hk
      rw [← hk, HN.out]
      exact HD.out
    | cons t n s kd nm v y sub r =>
      have hiN : i < N := by simp only [Forest.len] at hir; omega
      have hiN' : i + 1 + r.len = N := by simp only [Forest.len] at hir; omega
      obtain ⟨b, o, SA, sc, Ls, Lr, rfl, hb0, R1, hz, hs1, hs2, hL⟩ := HRr.out
      have hpq' : p + 4 + 7 * sub.size + r.vsz = QE := by simp only [Forest.vsz] at hpq; omega
      have HK' := hid (show K1 ++ ((blk SA ++ Ls) ++ Lr) = L by rw [← HK.out, hL, List.append_assoc])
      obtain ⟨S, hS⟩ : ∃ S, blk SA ++ Ls = S := ⟨_, rfl⟩
      have HSS := hid hS
      rw [hS] at HK'
      have hnb : b ∉ K1 ++ (S ++ Lr) := by rw [HK'.out]; exact HBL.out b (by simp [blk])
      have hO := HOw.out
      rw [← HK'.out] at hO
      have HO := hid hO
      rw [List.mem_append, List.mem_append, not_or, not_or] at hnb
      obtain ⟨hn1, hn2, hn3⟩ := hnb
      obtain ⟨_, hnd3, hnd4⟩ := List.nodup_append.1 hO.1
      obtain ⟨_, _, hnd6⟩ := List.nodup_append.1 hnd3
      have HND := hid (And.intro (And.intro hn1 (And.intro hn2 hn3)) (And.intro (show ∀ x ∈ K1, x ∉ S from fun x hx hy => hnd4 x hx x (List.mem_append.2 (.inl hy)) rfl) (show ∀ x ∈ Lr, x ∉ S from fun x hx hy => hnd6 x hy x hx rfl)))
      have HIE := hid (HBw.out b (by simp [blk]))
      have HSO := hid (show OwnT wr 61 lo sub SA Ls from ⟨hs1, by rw [hS]; exact ⟨(List.nodup_append.1 hnd3).1, fun x hx => HO.out.2 x (List.mem_append.2 (.inr (List.mem_append.2 (.inl hx))))⟩⟩)
      have HS2 := hid hs2
      have HR1 := hid R1
      have HB := hid hb0
      have HZ := hid hz
      obtain ⟨q1, e1, g1⟩ : ∃ z : Nat, (p : Int) + 1 = (z : Int) ∧ z = p + 1 := ⟨p + 1, rfl, rfl⟩
      obtain ⟨q2, e2, g2⟩ : ∃ z : Nat, (q1 : Int) + 1 = (z : Int) ∧ z = q1 + 1 := ⟨q1 + 1, rfl, rfl⟩
      obtain ⟨q3, e3, g3⟩ : ∃ z : Nat, (q2 : Int) + 1 = (z : Int) ∧ z = q2 + 1 := ⟨q2 + 1, rfl, rfl⟩
      obtain ⟨q4, e4, g4⟩ : ∃ z : Nat, (q3 : Int) + 1 = (z : Int) ∧ z = q3 + 1 := ⟨q3 + 1, rfl, rfl⟩
      obtain ⟨q8, g8⟩ : ∃ z : Nat, q4 + 7 * sub.size = z := ⟨_, rfl⟩
      have HQ8 := hid g8
      have b8 : q8 + r.vsz = QE := by omega
      have b7 : q4 + 7 * sub.size ≤ 67108864 := by omega
      have b2 : 1 ≤ q2 := by omega
      have b6 : 1 ≤ q4 := by omega
      have b9 : 1 ≤ q8 := by omega
      have HG := hid (And.intro g1 (And.intro g2 (And.intro g3 g4)))
      obtain ⟨c0, c1, c2, c3, c4⟩ := range5 R1
      have z0 := HIE.out.frozen (o + i * 5)
      have z1 := HIE.out.frozen (o + i * 5 + 1)
      clear g1 g2 g3 g4 g8 hS hO hL hz hs1 hs2 R1 hb0 hn1 hn2 hn3 hnd3 hnd4 hnd6 hir hpq hpq'
      go_wp2_with fail
      refine (markText_any q2 _ b2 (by omega)).mono ?_
      rintro e w1 ⟨rfl, hg⟩
      clear c0 c1 c2 c3 c4 z0 z1
      have EN1 := hid ((((EntW.refl 5 wr b (o + i * 5) []).set (o + i * 5) (by omega) (.int .i64 p)).set (o + i * 5 + 1) (by omega) (.int .i64 q1)).grow hg (by simpa using HB.out))
      have RG1 := hid (show w1.rangeAt b (o + i * 5) [.int .i64 p, .int .i64 q1, .string v, .int .i64 y, .slice SA sub.len sc] from
        rangeAt_grow (rangeAt_set (rangeAt_set HR1.out (o + i * 5) 0 rfl _) (o + i * 5 + 1) 1 rfl _) hg (by simpa using HB.out))
      have IE1 := hid (((HIE.out.set _ _).set _ _).grow hg)
      have HB1 := hid IE1.out.lt
      clear hg
      obtain ⟨c0, c1, c2, c3, c4⟩ := range5 RG1.out
      have z2 := IE1.out.frozen (o + i * 5 + 2)
      have z3 := IE1.out.frozen (o + i * 5 + 3)
      have EN3 := hid ((EN1.out.set (o + i * 5 + 2) (by omega) (.string (markT q2))).set (o + i * 5 + 3) (by omega) (.int .i64 q3))
      have RG3 := hid (show ((w1.setCell ⟨b, o + i * 5 + 2, none⟩ (.string (markT q2))).setCell ⟨b, o + i * 5 + 3, none⟩ (.int .i64 q3)).rangeAt b (o + i * 5) [.int .i64 p, .int .i64 q1, .string (markT q2), .int .i64 q3, .slice SA sub.len sc] from
        rangeAt_set (rangeAt_set RG1.out (o + i * 5 + 2) 2 rfl _) (o + i * 5 + 3) 3 rfl _)
      have IE3 := hid ((IE1.out.set (o + i * 5 + 2) (.string (markT q2))).set (o + i * 5 + 3) (.int .i64 q3))
      have HB3 := hid IE3.out.lt
      have hbS : b ∉ blk SA ++ Ls := by rw [HSS.out]; exact HND.out.1.2.1
      have HT3 := hid (HSO.out.ent EN3.out hbS)
      clear hbS
      go_wp2_with fail
      refine (markEntryS_any sub _ SA sc Ls lo q4 HT3.out b6 b7).mono ?_
      rintro e w4 ⟨rfl, hT4, hM4⟩
      clear c0 c1 c2 c3 c4 z2 z3
      rw [HQ8.out]
      rw [HSS.out] at hM4
      have EN4 := hid ((EN3.out.mono (T := S) (by simp)).mark hM4 HB3.out HND.out.1.2.1)
      have RG4 := hid (show w4.rangeAt b (o + i * 5) [.int .i64 p, .int .i64 q1, .string (markT q2), .int .i64 q3, .slice SA (sub.mark q4).len sc] by
        rw [Forest.len_mark]
        exact fun j u hj => (World.cell?_of_block (a := ⟨b, o + i * 5 + j, none⟩) (hM4.block b HB3.out HND.out.1.2.1)).trans (RG3.out j u hj))
      have IE4 := hid (IE3.out.markS hM4 HND.out.1.2.1)
      have HT4 := hid hT4
      clear hT4 hM4
      go_wp2_with fail
      go_roundw
      case rel =>
        have hdm : RowV w4 dm (some ⟨b, o, none⟩) 0 i K1 := HD.out.part EN4.out.size (fun b' o' e j _ h2 => by injection e with e; injection e with e1 e2; subst e1; subst e2; exact EN4.out.cell j (.inl (by omega)))
          (fun x hx hl => EN4.out.block x hl (fun e => HND.out.1.1 (e ▸ hx)) (HND.out.2.1 x hx))
        have hrr : RowV w4 r (some ⟨b, o, none⟩) (i + 1) N Lr := HS2.out.part EN4.out.size (fun b' o' e j h1 _ => by injection e with e; injection e with e1 e2; subst e1; subst e2; exact EN4.out.cell j (.inr (by omega)))
          (fun x hx hl => EN4.out.block x hl (fun e => HND.out.1.2.2 (e ▸ hx)) (HND.out.2.2 x hx))
        have hone := RowV.one (t := t) (m := n) (s := s) RG4.out IE4.out.lt HZ.out HT4.out.1
        refine ⟨i + 1, q8, dm.app (.cons t n s p q1 (markT q2) q3 (sub.mark q4) .nil), r, K1 ++ (blk SA ++ (Ls ++ [])), Lr, ?_, b8, b9, hiN', rfl, by go_num, hid (hdm.app hone), hid hrr, ?_, ?_, ?_, ?_⟩
        · refine hid ?_
          obtain ⟨g1, g2, g3, g4⟩ := HG.out
          have g8 := HQ8.out
          rw [HE.out, Forest.markV, Forest.app_assoc]
          subst g8 g4 g3 g2 g1
          rfl
        · refine hid ?_
          rw [← HK'.out, ← HSS.out]
          simp only [List.append_nil, List.append_assoc]
        · refine hid ⟨HOw.out.1, fun x hx => ⟨(HOw.out.2 x hx).1, ?_⟩⟩
          have hx1 : x ∈ K1 ++ (S ++ Lr) := by rw [← HK'.out] at hx; exact hx
          rcases List.mem_append.1 hx1 with hx2 | hx2
          · exact (HOw.out.2 x hx).2.same (EN4.out.block x (HOw.out.2 x hx).2.lt (fun e => HND.out.1.1 (e ▸ hx2)) (HND.out.2.1 x hx2))
          · rcases List.mem_append.1 hx2 with hx3 | hx3
            · rw [← HSS.out] at hx3
              exact (HT4.out.2.2 x hx3).2
            · exact (HOw.out.2 x hx).2.same (EN4.out.block x (HOw.out.2 x hx).2.lt (fun e => HND.out.1.2.2 (e ▸ hx3)) (HND.out.2.2 x hx3))
        · refine hid fun x hx => ?_
          obtain rfl : x = b := by simpa [blk] using hx
          exact IE4.out
        · refine hid (EN4.out.markS HM.out ?_ ?_)
          · exact List.mem_append.2 (.inl (by simp [blk]))
          · intro x hx
            rw [← HK'.out]
            exact List.mem_append.2 (.inr (List.mem_append.2 (.inr (List.mem_append.2 (.inl hx)))))
      case measure => simp [intOf]; omega
set_option maxRecDepth 100000 in
set_option maxHeartbeats 4000000 in
theorem heldValueS_any (f : Forest) (w : World) (A : Option Addr) (c : Nat) (L : List Nat) (q : Nat) (hT : RowV w (f.markV q) A 0 f.len L) (h1 : 1 ≤ q) (hb : q + f.vsz ≤ 67108864) (hfs : f.size ≤ 67108864) :
    Calls Try.prog 23 #[.slice A f.len c, .int .i64 q] w (HeldPost w (q + f.vsz)) := by
  obtain ⟨N, hN⟩ : ∃ N, f.len = N := ⟨_, rfl⟩
  have hNs : N ≤ 67108864 := by have := f.len_le; omega
  obtain ⟨QE, hQE⟩ : ∃ QE, q + f.vsz = QE := ⟨_, rfl⟩
  rw [hN] at hT ⊢
  rw [hQE] at hb ⊢
  have HR := hid hT
  have HN := hid hN
  have HQ := hid hQE
  clear hT hN
  go_enter Try.func23, Try.ntmps23
  go_wp2_with fail
  go_loopw [1, 5] (fun qv iv wr => ∃ (i p : Nat) (r : Forest) (K : List Nat), p + r.vsz = QE ∧ 1 ≤ p ∧ i + r.len = N ∧ qv = .int .i64 p ∧ iv = .int .i64 i ∧ Hid (RowV wr (r.markV p) A i N K) ∧ Hid (w.grownBy wr none)) (fun _ i _ => N - (intOf i).toNat)
  case atStart => exact ⟨0, q, f, L, HQ.out, h1, by have := HN.out; omega, rfl, rfl, HR, hid (gb_refl _ _)⟩
  case round =>
    obtain ⟨i, p, r, K, hpq, hp1, hir, rfl, rfl, HRr, HG⟩ := hrel
    cases r with
    | nil =>
      have hi : i = N := by simpa [Forest.len] using hir
      subst hi
      have hp : p = QE := by simpa [Forest.vsz] using hpq
      subst hp
      go_wp2_with fail
      go_ret
      exact ⟨rfl, HG.out⟩
    | cons t n s kd nm v y sub r =>
      have hiN : i < N := by simp only [Forest.len] at hir; omega
      have hiN' : i + 1 + r.len = N := by simp only [Forest.len] at hir; omega
      have hpq' : p + 4 + 7 * sub.size + r.vsz = QE := by simp only [Forest.vsz] at hpq; omega
      obtain ⟨q1, e1, g1⟩ : ∃ z : Nat, (p : Int) + 1 = (z : Int) ∧ z = p + 1 := ⟨p + 1, rfl, rfl⟩
      obtain ⟨q2, e2, g2⟩ : ∃ z : Nat, (q1 : Int) + 1 = (z : Int) ∧ z = q1 + 1 := ⟨q1 + 1, rfl, rfl⟩
      obtain ⟨q3, e3, g3⟩ : ∃ z : Nat, (q2 : Int) + 1 = (z : Int) ∧ z = q2 + 1 := ⟨q2 + 1, rfl, rfl⟩
      obtain ⟨q4, e4, g4⟩ : ∃ z : Nat, (q3 : Int) + 1 = (z : Int) ∧ z = q3 + 1 := ⟨q3 + 1, rfl, rfl⟩
      obtain ⟨q8, g8⟩ : ∃ z : Nat, q4 + 7 * sub.size = z := ⟨_, rfl⟩
      have HQ8 := hid g8
      have b8 : q8 + r.vsz = QE := by omega
      have b7 : q4 + 7 * sub.size ≤ 67108864 := by omega
      have b2 : 1 ≤ q2 := by omega
      have b6 : 1 ≤ q4 := by omega
      have b9 : 1 ≤ q8 := by omega
      have HRc : Hid (RowV wr (.cons t n s (p : Int) q1 (markT q2) q3 (sub.mark q4) (r.markV q8)) A i N K) := by
        have h := HRr.out
        rw [Forest.markV] at h
        refine hid ?_
        subst g8 g4 g3 g2 g1
        exact h
      obtain ⟨b, o, SA, sc, Ls, Lr, rfl, hb0, R1, hz, hs1, hs2, hL⟩ := HRc.out
      rw [Forest.len_mark] at R1 hs1
      obtain ⟨S7, hS7⟩ : ∃ z, markT q2 = z := ⟨_, rfl⟩
      rw [hS7] at R1
      have M2 := fun (w : World) => markText_any q2 w b2 (by omega)
      rw [hS7] at M2
      have HM2 := hid M2
      have HR1 := hid R1
      have HB := hid hb0
      have HS1 := hid hs1
      have HS2 := hid hs2
      obtain ⟨c0, c1, c2, c3, c4⟩ := range5 R1
      clear g1 g2 g3 g4 g8 hL hz hs1 hs2 R1 hb0 hir hpq hpq' M2 hS7 HRr HRc
      go_wp2_with fail
      refine wp_region_grown 8 rfl (by kernel_rfl) fun wd gd => ?_
      refine held_load1 0 rfl (some 30) rfl (by kernel_rfl) (by kernel_rfl) (by kernel_rfl) (fun _ _ _ _ h => h) (.slice (some ⟨b, o, none⟩) N c) rfl (fun w' hw => run_mov (.tmp 0) rfl rfl) gd ?_
      refine held_load1 1 rfl (some 31) rfl (by kernel_rfl) (by kernel_rfl) (by kernel_rfl) (fun _ _ _ _ h => h) (.int .i64 i) rfl (fun w' hw => run_mov (.tmp 5) rfl rfl) gd ?_
      simp only [Act.put, List.setIfInBounds_toArray, List.set_cons_succ, List.set_cons_zero]
      refine held_load1 2 rfl (some 32) rfl (by kernel_rfl) (by kernel_rfl) (by kernel_rfl) (fun _ _ _ _ h => h) (.pointer (some ⟨b, o + i * 5, none⟩)) rfl (fun w' hw => by go_simp) gd ?_
      simp only [Act.put, List.setIfInBounds_toArray, List.set_cons_succ, List.set_cons_zero]
      refine held_load1 3 rfl (some 33) rfl (by kernel_rfl) (by kernel_rfl) (by kernel_rfl) (fun _ _ _ _ h => h) (.pointer (some ⟨b, o + i * 5 + 2, none⟩)) rfl (fun w' hw => by go_simp) gd ?_
      simp only [Act.put, List.setIfInBounds_toArray, List.set_cons_succ, List.set_cons_zero]
      refine held_load1 4 rfl (some 34) rfl (by kernel_rfl) (by kernel_rfl) (by kernel_rfl) (fun _ _ _ _ h => h) (.string S7) rfl (fun w' hw => by have fc := hw.cell c2 (by simp); clear c0 c1 c2 c3 c4; go_simp) gd ?_
      refine held_load1 5 rfl (some 35) rfl (by kernel_rfl) (by kernel_rfl) (by kernel_rfl) (fun _ _ _ _ h => h) (.int .i64 q2) rfl (fun w' hw => run_mov (.tmp 1) rfl rfl) gd ?_
      refine held_call1 6 rfl (some 36) rfl (by kernel_rfl) rfl 41 (by kernel_rfl) (.tmp 35) _ (.int .i64 q2) rfl rfl (HM2.out wd) ?_
      rintro e wa ⟨rfl, hga⟩
      refine ⟨_, rfl, gb_trans gd hga, ?_⟩
      simp only [Act.put, List.setIfInBounds_toArray, List.set_cons_succ, List.set_cons_zero]
      refine held_val 7 rfl (some 37) rfl (by kernel_rfl) rfl (.bool false) (by go_simp) (gb_trans gd hga) ?_
      refine wpAnyH_done (by kernel_rfl) ?_ _
      simp only [Act.put, List.setIfInBounds_toArray, List.set_cons_succ, List.set_cons_zero]
      have GA := hid (gb_trans (gb_refl wr none) (gb_trans gd hga))
      have RA := hid (rangeAt_grow HR1.out GA.out HB.out)
      clear c0 c1 c2 c3 c4 gd hga
      obtain ⟨c0, c1, c2, c3, c4⟩ := range5 RA.out
      go_wp2_with fail
      refine (heldEntryS_any sub _ SA sc Ls q4 (HS1.out.grow GA.out) b6 b7).mono ?_
      rintro e w4 ⟨rfl, hg⟩
      rw [HQ8.out]
      have HG4 := hid (gb_trans (gb_trans HG.out GA.out) hg)
      have HS4 := hid ((HS2.out.grow GA.out).grow hg)
      clear c0 c1 c2 c3 c4 hg
      go_wp2_with fail
      go_roundw
      case rel => exact ⟨i + 1, q8, r, Lr, b8, b9, hiN', rfl, by go_num, HS4, HG4⟩
      case measure => simp [intOf]; omega
end Go.Proofs.Ytlfigoboeogegaa
