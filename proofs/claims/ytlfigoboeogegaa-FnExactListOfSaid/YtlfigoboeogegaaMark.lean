/- The walks of markEntryS, markValue. -/
import Derived.Test.YtlfigoboeogegaaMarkS
namespace Go.Proofs.Ytlfigoboeogegaa
open Go.RowKit
set_option linter.unusedVariables false

def MarkPost (w : World) (f : Forest) (A : Option Addr) (L : List Nat) (lo q : Nat) (e : Ending) (w' : World) : Prop :=
  e = .returned (.int .i64 ((q + 7 * f.size : Nat) : Int)) ∧ OwnT w' 61 lo (f.mark q) A L ∧ MarkS w w' (blk A ++ L)
/-- What markEntryS does over a tree. -/
def MarkOk (f : Forest) : Prop := ∀ (w : World) (A : Option Addr) (c : Nat) (L : List Nat) (lo q : Nat), OwnT w 61 lo f A L → 1 ≤ q → q + 7 * f.size ≤ 67108864 →
  Calls Try.prog 37 #[.slice A f.len c, .int .i64 q] w (MarkPost w f A L lo q)
set_option maxHeartbeats 2000000 in
theorem markEntryS_step (f : Forest) (ih : ∀ g : Forest, g.size < f.size → MarkOk g) : MarkOk f := by
  intro w A c L lo q hT h1 hb
  obtain ⟨N, hN⟩ : ∃ N, f.len = N := ⟨_, rfl⟩
  have hNs : N ≤ 67108864 := by have := f.len_le; omega
  obtain ⟨QE, hQE⟩ : ∃ QE, q + 7 * f.size = QE := ⟨_, rfl⟩
  have IH := hid ih
  have HR := hid (show RowF w f A 0 N L by rw [← hN]; exact hT.1)
  have HL := hid hT.2
  have HN := hid hN
  have HQ := hid hQE
  rw [hN]
  rw [hQE] at hb
  clear ih hT hN
  go_enter Try.func37, Try.ntmps37
  go_wp2_with fail
  go_loopw [1, 5] (fun qv iv wr => ∃ (i p : Nat) (dm r : Forest) (K1 K2 : List Nat), Hid (f.mark q = dm.app (r.mark p)) ∧ p + 7 * r.size = QE ∧ 1 ≤ p ∧ i + r.len = N ∧ qv = .int .i64 p ∧ iv = .int .i64 i ∧ Hid (RowF wr dm A 0 i K1) ∧ Hid (RowF wr r A i N K2) ∧
      Hid (K1 ++ K2 = L) ∧ r.size ≤ f.size ∧ Hid (OwnL wr 61 lo (blk A ++ L)) ∧ Hid (MarkS w wr (blk A ++ L))) (fun _ i _ => N - (intOf i).toNat)
  case atStart => exact ⟨0, q, .nil, f, [], L, hid rfl, HQ.out, h1, by have := HN.out; omega, rfl, rfl, hid ⟨rfl, rfl⟩, HR, hid rfl, Nat.le_refl _, HL, hid (MarkS.refl _ _)⟩
  case round =>
    obtain ⟨i, p, dm, r, K1, K2, HE, hpq, hp1, hir, rfl, rfl, HD, HRr, HK, hsz, HOw, HM⟩ := hrel
    cases r with
    | nil =>
      have hi : i = N := by simpa [Forest.len] using hir
      subst hi
      have hp : p = QE := by simpa [Forest.size] using hpq
      subst hp
      go_wp2_with fail
      go_ret
      have hK2 : K2 = [] := HRr.out.2
      refine ⟨ret_int (by rw [HQ.out]), ⟨?_, HOw.out⟩, HM.out⟩
      rw [HE.out, Forest.mark, Forest.app_nil]
      have hl : dm.len = i := by have := HD.out.len; omega
      rw [hl]
      have hk := HK.out
      rw [hK2, List.append_nil] at hk
      rw [← hk]
      exact HD.out
    | cons t n s kd nm v y sub r =>
      have hiN : i < N := by simp only [Forest.len] at hir; omega
      have hiN' : i + 1 + r.len = N := by simp only [Forest.len] at hir; omega
      obtain ⟨b, o, SA, sc, Ls, Lr, rfl, hb0, R1, hz, hs1, hs2, hL⟩ := HRr.out.range
      have hsz1 : sub.size < f.size := by simp only [Forest.size] at hsz; omega
      have hsz2 : r.size ≤ f.size := by simp only [Forest.size] at hsz; omega
      have hpq' : p + 7 + 7 * sub.size + 7 * r.size = QE := by simp only [Forest.size] at hpq; omega
      have HK' := hid (show K1 ++ ((blk SA ++ Ls) ++ Lr) = L by rw [← HK.out, hL, List.append_assoc])
      obtain ⟨S, hS⟩ : ∃ S, blk SA ++ Ls = S := ⟨_, rfl⟩
      have HSS := hid hS
      rw [hS] at HK'
      have hO := HOw.out
      rw [← HK'.out] at hO
      have HO := hid (show OwnL wr 61 lo (b :: (K1 ++ (S ++ Lr))) from hO)
      have hnd := HO.out.1
      rw [List.nodup_cons, List.mem_append, List.mem_append, not_or, not_or] at hnd
      obtain ⟨⟨hn1, hn2, hn3⟩, hnd2⟩ := hnd
      obtain ⟨_, hnd3, hnd4⟩ := List.nodup_append.1 hnd2
      obtain ⟨_, _, hnd6⟩ := List.nodup_append.1 hnd3
      have HND := hid (And.intro (And.intro hn1 (And.intro hn2 hn3)) (And.intro (show ∀ x ∈ K1, x ∉ S from fun x hx hy => hnd4 x hx x (List.mem_append.2 (.inl hy)) rfl) (show ∀ x ∈ Lr, x ∉ S from fun x hx hy => hnd6 x hy x hx rfl)))
      have HIE := hid (HO.out.2 b (List.mem_cons_self ..)).2
      have HSO := hid (show OwnT wr 61 lo sub SA Ls from ⟨hs1, by rw [hS]; exact ⟨(List.nodup_append.1 hnd3).1, fun x hx => HO.out.2 x (List.mem_cons_of_mem _ (List.mem_append.2 (.inr (List.mem_append.2 (.inl hx)))))⟩⟩)
      have HS2 := hid hs2
      have HR1 := hid R1
      have HB := hid hb0
      have HZ := hid hz
      obtain ⟨q1, e1, g1⟩ : ∃ z : Nat, (p : Int) + 1 = (z : Int) ∧ z = p + 1 := ⟨p + 1, rfl, rfl⟩
      obtain ⟨q2, e2, g2⟩ : ∃ z : Nat, (q1 : Int) + 1 = (z : Int) ∧ z = q1 + 1 := ⟨q1 + 1, rfl, rfl⟩
      obtain ⟨q3, e3, g3⟩ : ∃ z : Nat, (q2 : Int) + 1 = (z : Int) ∧ z = q2 + 1 := ⟨q2 + 1, rfl, rfl⟩
      obtain ⟨q4, e4, g4⟩ : ∃ z : Nat, (q3 : Int) + 1 = (z : Int) ∧ z = q3 + 1 := ⟨q3 + 1, rfl, rfl⟩
      obtain ⟨q5, e5, g5⟩ : ∃ z : Nat, (q4 : Int) + 1 = (z : Int) ∧ z = q4 + 1 := ⟨q4 + 1, rfl, rfl⟩
      obtain ⟨q6, e6, g6⟩ : ∃ z : Nat, (q5 : Int) + 1 = (z : Int) ∧ z = q5 + 1 := ⟨q5 + 1, rfl, rfl⟩
      obtain ⟨q7, e7, g7⟩ : ∃ z : Nat, (q6 : Int) + 1 = (z : Int) ∧ z = q6 + 1 := ⟨q6 + 1, rfl, rfl⟩
      obtain ⟨q8, g8⟩ : ∃ z : Nat, q7 + 7 * sub.size = z := ⟨_, rfl⟩
      have HQ8 := hid g8
      have b8 : q8 + 7 * r.size = QE := by omega
      have b7 : q7 + 7 * sub.size ≤ 67108864 := by omega
      have b2 : 1 ≤ q2 := by omega
      have b5 : 1 ≤ q5 := by omega
      have b6 : 1 ≤ q7 := by omega
      have b9 : 1 ≤ q8 := by omega
      have HG := hid (And.intro g1 (And.intro g2 (And.intro g3 (And.intro g4 (And.intro g5 (And.intro g6 g7))))))
      obtain ⟨c0, c1, c2, c3, c4, c5, c6, c7⟩ := range8 R1
      have z0 := HIE.out.frozen (o + i * 8)
      have z1 := HIE.out.frozen (o + i * 8 + 1)
      clear g1 g2 g3 g4 g5 g6 g7 g8 hS hO hL hz hs1 hs2 R1 hb0 hn1 hn2 hn3 hnd2 hnd3 hnd4 hnd6 hir hsz hpq hpq'
      go_wp2_with fail
      refine (markText_any q2 _ b2 (by omega)).mono ?_
      rintro e w1 ⟨rfl, hg⟩
      clear c0 c1 c2 c3 c4 c5 c6 c7 z0 z1
      have EN1 := hid ((((EntW.refl 8 wr b (o + i * 8) []).set (o + i * 8) (by omega) (.bool ((p : Int) % 3 == 0))).set (o + i * 8 + 1) (by omega) (.int .i64 q1)).grow hg (by simpa using HB.out))
      have RG1 := hid (show w1.rangeAt b (o + i * 8) [.bool ((p : Int) % 3 == 0), .int .i64 q1, .string s, .int .i64 kd, .int .i64 nm, .string v, .int .i64 y, .slice SA sub.len sc] from
        rangeAt_grow (rangeAt_set (rangeAt_set HR1.out (o + i * 8) 0 rfl _) (o + i * 8 + 1) 1 rfl _) hg (by simpa using HB.out))
      have IE1 := hid (((HIE.out.set _ _).set _ _).grow hg)
      have HB1 := hid IE1.out.lt
      clear hg
      obtain ⟨c0, c1, c2, c3, c4, c5, c6, c7⟩ := range8 RG1.out
      have z2 := IE1.out.frozen (o + i * 8 + 2)
      have z3 := IE1.out.frozen (o + i * 8 + 3)
      have z4 := IE1.out.frozen (o + i * 8 + 4)
      go_wp2_with fail
      refine (markText_any q5 _ b5 (by omega)).mono ?_
      rintro e w2 ⟨rfl, hg⟩
      clear c0 c1 c2 c3 c4 c5 c6 c7 z2 z3 z4
      have EN2 := hid ((((EN1.out.set (o + i * 8 + 2) (by omega) (.string (markT q2))).set (o + i * 8 + 3) (by omega) (.int .i64 q3)).set (o + i * 8 + 4) (by omega) (.int .i64 q4)).grow hg (by simpa using HB1.out))
      have RG2 := hid (show w2.rangeAt b (o + i * 8) [.bool ((p : Int) % 3 == 0), .int .i64 q1, .string (markT q2), .int .i64 q3, .int .i64 q4, .string v, .int .i64 y, .slice SA sub.len sc] from
        rangeAt_grow (rangeAt_set (rangeAt_set (rangeAt_set RG1.out (o + i * 8 + 2) 2 rfl _) (o + i * 8 + 3) 3 rfl _) (o + i * 8 + 4) 4 rfl _) hg (by simpa using HB1.out))
      have IE2 := hid ((((IE1.out.set _ _).set _ _).set _ _).grow hg)
      have HB2 := hid IE2.out.lt
      clear hg
      obtain ⟨c0, c1, c2, c3, c4, c5, c6, c7⟩ := range8 RG2.out
      have z5 := IE2.out.frozen (o + i * 8 + 5)
      have z6 := IE2.out.frozen (o + i * 8 + 6)
      have EN3 := hid ((EN2.out.set (o + i * 8 + 5) (by omega) (.string (markT q5))).set (o + i * 8 + 6) (by omega) (.int .i64 q6))
      have RG3 := hid (show ((w2.setCell ⟨b, o + i * 8 + 5, none⟩ (.string (markT q5))).setCell ⟨b, o + i * 8 + 6, none⟩ (.int .i64 q6)).rangeAt b (o + i * 8) [.bool ((p : Int) % 3 == 0), .int .i64 q1, .string (markT q2), .int .i64 q3, .int .i64 q4, .string (markT q5), .int .i64 q6, .slice SA sub.len sc] from
        rangeAt_set (rangeAt_set RG2.out (o + i * 8 + 5) 5 rfl _) (o + i * 8 + 6) 6 rfl _)
      have IE3 := hid ((IE2.out.set (o + i * 8 + 5) (.string (markT q5))).set (o + i * 8 + 6) (.int .i64 q6))
      have HB3 := hid IE3.out.lt
      have hbS : b ∉ blk SA ++ Ls := by rw [HSS.out]; exact HND.out.1.2.1
      have HT3 := hid (HSO.out.ent EN3.out hbS)
      have HbS := hid hbS
      clear hbS
      go_wp2_with fail
      refine (IH.out sub hsz1 _ SA sc Ls lo q7 HT3.out b6 b7).mono ?_
      rintro e w4 ⟨rfl, hT4, hM4⟩
      clear c0 c1 c2 c3 c4 c5 c6 c7 z5 z6
      rw [HQ8.out]
      rw [HSS.out] at hM4
      have EN4 := hid ((EN3.out.mono (T := S) (by simp)).mark hM4 HB3.out HND.out.1.2.1)
      have RG4 := hid (show w4.rangeAt b (o + i * 8) [.bool ((p : Int) % 3 == 0), .int .i64 q1, .string (markT q2), .int .i64 q3, .int .i64 q4, .string (markT q5), .int .i64 q6, .slice SA (sub.mark q7).len sc] by
        rw [Forest.len_mark]
        exact fun j u hj => (World.cell?_of_block (a := ⟨b, o + i * 8 + j, none⟩) (hM4.block b HB3.out HND.out.1.2.1)).trans (RG3.out j u hj))
      have IE4 := hid (IE3.out.markS hM4 HND.out.1.2.1)
      have HT4 := hid hT4
      clear hT4 hM4
      go_wp2_with fail
      go_roundw
      case rel =>
        have hdm : RowF w4 dm (some ⟨b, o, none⟩) 0 i K1 := HD.out.part EN4.out.size (fun b' o' e j _ h2 => by injection e with e; injection e with e1 e2; subst e1; subst e2; exact EN4.out.cell j (.inl (by omega)))
          (fun x hx hl => EN4.out.block x hl (fun e => HND.out.1.1 (e ▸ hx)) (HND.out.2.1 x hx))
        have hrr : RowF w4 r (some ⟨b, o, none⟩) (i + 1) N Lr := HS2.out.part EN4.out.size (fun b' o' e j h1 _ => by injection e with e; injection e with e1 e2; subst e1; subst e2; exact EN4.out.cell j (.inr (by omega)))
          (fun x hx hl => EN4.out.block x hl (fun e => HND.out.1.2.2 (e ▸ hx)) (HND.out.2.2 x hx))
        have hone := RowF.one RG4.out IE4.out.lt HZ.out HT4.out.1
        refine ⟨i + 1, q8, dm.app (.cons ((p : Int) % 3 == 0) q1 (markT q2) q3 q4 (markT q5) q6 (sub.mark q7) .nil), r, K1 ++ (blk SA ++ (Ls ++ [])), Lr, ?_, b8, b9, hiN', rfl, by go_num, hid (hdm.app hone), hid hrr, ?_, hsz2, ?_, ?_⟩
        · refine hid ?_
          obtain ⟨g1, g2, g3, g4, g5, g6, g7⟩ := HG.out
          have g8 := HQ8.out
          rw [HE.out, Forest.mark, Forest.app_assoc]
          subst g8 g7 g6 g5 g4 g3 g2 g1
          rfl
        · refine hid ?_
          rw [← HK'.out, ← HSS.out]
          simp only [List.append_nil, List.append_assoc]
        · refine hid ⟨HOw.out.1, fun x hx => ⟨(HOw.out.2 x hx).1, ?_⟩⟩
          have hx' : x ∈ b :: (K1 ++ (S ++ Lr)) := by rw [← HK'.out] at hx; exact hx
          rcases List.mem_cons.1 hx' with rfl | hx1
          · exact IE4.out
          · rcases List.mem_append.1 hx1 with hx2 | hx2
            · exact (HOw.out.2 x hx).2.same (EN4.out.block x (HOw.out.2 x hx).2.lt (fun e => HND.out.1.1 (e ▸ hx2)) (HND.out.2.1 x hx2))
            · rcases List.mem_append.1 hx2 with hx3 | hx3
              · rw [← HSS.out] at hx3
                exact (HT4.out.2.2 x hx3).2
              · exact (HOw.out.2 x hx).2.same (EN4.out.block x (HOw.out.2 x hx).2.lt (fun e => HND.out.1.2.2 (e ▸ hx3)) (HND.out.2.2 x hx3))
        · refine hid (EN4.out.markS HM.out ?_ ?_)
          · exact List.mem_append.2 (.inl (by simp [blk]))
          · intro x hx
            rw [← HK'.out]
            exact List.mem_append.2 (.inr (List.mem_append.2 (.inr (List.mem_append.2 (.inl hx)))))
      case measure => simp [intOf]; omega
theorem markEntryS_any (f : Forest) : MarkOk f := by
  obtain ⟨n, hn⟩ : ∃ n, f.size = n := ⟨_, rfl⟩
  induction n using Nat.strongRecOn generalizing f with
  | ind n ih => exact markEntryS_step f fun g hg => ih g.size (by omega) g rfl
theorem markValue_any (f : Forest) (w : World) (k m : Int) (u : ByteArray) (x : Int) (A : Option Addr) (c : Nat) (L : List Nat) (lo q : Nat) (hT : OwnT w 61 lo f A L) (h1 : 1 ≤ q) (hb : q + 7 * f.size ≤ 67108864) :
    Calls Try.prog 15 #[.agg #[.int .i64 k, .int .i64 m, .string u, .int .i64 x, .slice A f.len c], .int .i64 q] w (MarkPost w f A L lo q) := by
  have HT := hid (hT.grow (gb_alloc (gb_refl w none) (.cells #[.int .i64 k, .int .i64 m, .string u, .int .i64 x, .slice A f.len c] 31)))
  clear hT
  go_enter Try.func15, Try.ntmps15
  go_wp2_with fail
  refine (markEntryS_any f _ A c L lo q HT.out h1 hb).mono ?_
  rintro e w1 ⟨rfl, hT1, hM⟩
  have HM := hid ((MarkS.of_grow (gb_alloc (gb_refl w none) _)).trans hM)
  have HT1 := hid hT1
  clear hT1 hM
  obtain ⟨QE, hQ⟩ : ∃ z : Int, ((q + 7 * f.size : Nat) : Int) = z := ⟨_, rfl⟩
  have HQ := hid hQ
  rw [hQ]
  clear hQ
  go_wp2_with fail
  go_ret
  exact ⟨ret_int (by rw [HQ.out]), HT1.out, HM.out⟩
end Go.Proofs.Ytlfigoboeogegaa
