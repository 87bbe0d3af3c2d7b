/- The walks of copyValue, l5Copy. -/
import Derived.Test.YtlfigoboeogegaaTo
import Derived.Test.YtlfigoboeogegaaHeldX
namespace Go.Proofs.Ytlfigoboeogegaa
open Go.RowKit
set_option linter.unusedVariables false

/-- A row of entries of the call's own that reads as the forest. -/
def Rw (w : World) (e : TypeId) (lo : Nat) (f : Forest) (A : Option Addr) (c : Nat) (L : List Nat) : Prop := ∃ cs, w.ownsRow lo e 8 (.slice A f.len c) f.len cs ∧ SubF w f cs L ∧ OwnL w e lo L ∧ ∀ b ∈ blk A, b ∉ L
theorem own_mono {w : World} {lo lo' : Nat} {e : TypeId} {n : Nat} {v : Value} {k : Nat} {xs : List Value} (h : w.ownsRow lo e k v n xs) (hl : lo' ≤ lo) : w.ownsRow lo' e k v n xs := by
  refine ⟨h.1, ?_⟩
  rcases h.2 with h2 | ⟨g, cap, cur, h1, h2, h3⟩
  · exact .inl h2
  · exact .inr ⟨g, cap, cur, h1, Nat.le_trans hl h2, h3⟩
theorem Rw.own {w : World} {e : TypeId} {lo : Nat} {f : Forest} {A : Option Addr} {c : Nat} {L : List Nat} (h : Rw w e lo f A c L) : OwnT w e lo f A L := by
  obtain ⟨cs, h1, h2, h3, h4⟩ := h
  exact (own_tree (cs := cs) (ds := []) (by rw [List.append_nil]; exact h1) h2 h3 h4).2
theorem Rw.nil0 {w : World} {e : TypeId} {lo : Nat} {f : Forest} {A : Option Addr} {c : Nat} {L : List Nat} (h : Rw w e lo f A c L) : A = none → c = 0 := by
  obtain ⟨cs, h1, _⟩ := h
  obtain ⟨A', c', e, h2⟩ := own_form h1
  injection e with e1 e2 e3
  subst e1; subst e3
  exact h2
theorem blk_own {A : Option Addr} {n c g : Nat} : (Value.slice A n c).ownBlock = some g ↔ g ∈ blk A := by
  rcases A with _ | a
  · simp [Value.ownBlock, blk]
  · simp only [Value.ownBlock, blk, List.mem_singleton, Option.some.injEq]
    exact eq_comm
theorem Rw.kept {w w1 : World} {e : TypeId} {lo : Nat} {f : Forest} {A : Option Addr} {c : Nat} {L : List Nat} {r : Option Nat} (h : Rw w e lo f A c L) (hg : w.grownBy w1 r) (hr : ∀ g, r = some g → g ∉ blk A ++ L) : Rw w1 e lo f A c L := by
  obtain ⟨cs, h1, h2, h3, h4⟩ := h
  have hl : ∀ g, r = some g → g ∉ L := fun g hg hm => hr g hg (List.mem_append.2 (.inr hm))
  exact ⟨cs, own_kept h1 hg (fun k hk hv => hr k hk (List.mem_append.2 (.inl (blk_own.1 hv)))), h2.kept hg hl, h3.kept hg hl, h4⟩
theorem Rw.grow {w w1 : World} {e : TypeId} {lo : Nat} {f : Forest} {A : Option Addr} {c : Nat} {L : List Nat} (h : Rw w e lo f A c L) (hg : w.grownBy w1 none) : Rw w1 e lo f A c L := h.kept hg (by simp)
theorem Rw.mono {w : World} {e : TypeId} {lo lo' : Nat} {f : Forest} {A : Option Addr} {c : Nat} {L : List Nat} (h : Rw w e lo f A c L) (hl : lo' ≤ lo) : Rw w e lo' f A c L := by
  obtain ⟨cs, h1, h2, h3, h4⟩ := h
  exact ⟨cs, own_mono h1 hl, h2, h3.mono hl, h4⟩
theorem Rw.low {w w1 : World} {e : TypeId} {lo : Nat} {f : Forest} {A : Option Addr} {c : Nat} {L : List Nat} {g : Nat} (h : Rw w e lo f A c L) (hg : w.grownBy w1 (some g)) (hr : g < lo) : Rw w1 e lo f A c L :=
  h.kept hg fun b hb hm => by
    obtain rfl : g = b := by injection hb
    have := (h.own.2.2 g hm).1
    omega
def CopyPost (w : World) (k m : Int) (u : ByteArray) (x : Int) (f : Forest) (e : Ending) (w' : World) : Prop := ∃ A' c' L', e = .returned (.agg #[.int .i64 k, .int .i64 m, .string u, .int .i64 x, .slice A' f.len c']) ∧ (A' = none → c' = 0) ∧ Rw w' 61 w.heap.size f A' c' L' ∧ w.grownBy w' none
def CopyOk (F : Nat) (f : Forest) : Prop := ∀ (w : World) (k m : Int) (u : ByteArray) (x : Int) (A : Option Addr) (c : Nat) (L : List Nat), RowF w f A 0 f.len L → f.size ≤ 4194304 →
  Calls Try.prog F #[.agg #[.int .i64 k, .int .i64 m, .string u, .int .i64 x, .slice A f.len c]] w (CopyPost w k m u x f)
set_option maxHeartbeats 4000000 in
theorem implCopy_step (f : Forest) (ih : ∀ g : Forest, g.size < f.size → CopyOk 34 g) : CopyOk 34 f := by
  intro w k m u x A c L hr hfs
  obtain ⟨i0, hi, hz0, hz1, hz2⟩ := info_parts Try.infoE3
  have IH := hid ih
  obtain ⟨N, hN⟩ : ∃ N, f.len = N := ⟨_, rfl⟩
  have hNs : N ≤ 4194304 := by have := f.len_le; omega
  rw [hN] at hr
  have HR := hid hr
  have HN := hid hN
  rw [hN]
  have HI := hid (And.intro hi (And.intro hz0 (And.intro hz1 hz2)))
  clear ih hr hN hi hz0 hz1 hz2
  go_enter Try.func34, Try.ntmps34
  go_wp2_with fail
  go_loopw [11] (fun iv wr => ∃ (i : Nat) (dn r : Forest) (M K : List Nat) (cs : List Value) (OA : Option Addr) (oc : Nat) (zs : Array Value), Hid (f = dn.app r) ∧ i + r.len = N ∧ iv = .int .i64 i ∧ Hid (RowF w r A i N M) ∧ r.size ≤ f.size ∧ Hid (SubF wr dn cs K) ∧ Hid (OwnL wr 61 (w.heap.size + 3) K) ∧
      Hid (wr.ownsRow (w.heap.size + 3) 61 8 (.slice OA i oc) i cs) ∧ Hid (∀ g, (Value.slice OA i oc).ownBlock = some g → g ∉ K) ∧ Hid (OA = none → oc = 0) ∧ Hid (HoldsT wr w.heap.size #[.int .i64 k, .int .i64 m, .string u, .int .i64 x, .slice A N c] 31) ∧
      Hid (HoldsT wr (w.heap.size + 1 + 1) #[.int .i64 k, .int .i64 m, .string u, .int .i64 x, .slice OA i oc] 31) ∧ Hid (zs.size = 5) ∧ Hid (HoldsT wr (w.heap.size + 1) zs 31) ∧ Hid (w.grownBy wr none)) (fun i _ => N - (intOf i).toNat)
  case atStart =>
    exact ⟨0, .nil, f, L, [], [], none, 0, _, hid rfl, by have := HN.out; omega, rfl, HR, Nat.le_refl _, hid ⟨rfl, rfl⟩, hid (OwnL.nil _ _ _), hid (World.ownsRow_nil _ _ _ _), hid (by intro g h; cases h), hid (fun _ => rfl),
      hid (((HoldsT.new w _ _).alloc _).alloc _), hid (HoldsT.pre2 w _ _ _ _), hid rfl, hid (HoldsT.pre1 w _ _ _ _), hid (gb_alloc (gb_alloc (gb_alloc (gb_refl _ _) _) _) _)⟩
  case round =>
    obtain ⟨i, dn, r, M, K, cs, OA, oc, zs, HE, hir, rfl, HRr, hsz, HS, HL, HOw, HOb, HOc, HV, HX, HZs, HZ, HG⟩ := hrel
    obtain ⟨a0, a1, a2, a3, a4⟩ := HV.out.cells5
    have la := HV.out.lt
    cases r with
    | nil =>
      have hi : i = N := by simpa [Forest.len] using hir
      subst hi
      obtain ⟨z0, z1, z2, z3, z4, rfl⟩ : ∃ a b c d e, zs = #[a, b, c, d, e] := by
        obtain ⟨l⟩ := zs
        have h := HZs.out
        match l, h with
        | [a, b, c, d, e], _ => exact ⟨a, b, c, d, e, rfl⟩
      obtain ⟨b0, b1, b2, b3, b4⟩ := HX.out.cells5
      obtain ⟨r0, r1, r2, r3, r4⟩ := HZ.out.cells5
      have y0 := HZ.out.frozen 0; have y1 := HZ.out.frozen 1; have y2 := HZ.out.frozen 2; have y3 := HZ.out.frozen 3; have y4 := HZ.out.frozen 4
      have lz := HZ.out.lt
      have lx := HX.out.lt
      go_wp2_with fail
      refine bodyPost_ret (results_cell_row rfl _ _ _ _ _ (0, 0) _ rfl (HZ.out.set5 _ _ _ _ _) Try.underlying31 rfl Try.infoV) rfl ?_
      have hf : f = dn := by rw [HE.out, Forest.app_nil]
      subst hf
      have ht : Rw wr 61 (w.heap.size + 3) f OA oc K := ⟨cs, by rw [HN.out]; exact HOw.out, HS.out, HL.out, fun b hb => HOb.out b (blk_own.2 hb)⟩
      refine ⟨OA, oc, K, by rw [HN.out], HOc.out, ?_, gb_set5 HG.out (.inl (Nat.le_succ _)) _ _ _ _ _⟩
      exact (ht.low (g := w.heap.size + 1) (gb_set5 (gb_refl _ _) (.inr rfl) _ _ _ _ _) (by omega)).mono (by omega)
    | cons t n s kd nm v y sub r =>
      have hiN : i < N := by simp only [Forest.len] at hir; omega
      have hiN' : i + 1 + r.len = N := by simp only [Forest.len] at hir; omega
      obtain ⟨b, o, SA, sc, Ls, Lr, rfl, hb, R1, _, hs1, _, _⟩ := (HRr.out.grow HG.out).range
      obtain ⟨_, hs2⟩ := HRr.out.rest
      have hsz1 : sub.size < f.size := by simp only [Forest.size] at hsz; omega
      have hsz2 : r.size ≤ f.size := by simp only [Forest.size] at hsz; omega
      have hsub : sub.size ≤ 4194304 := by omega
      have hdl : dn.len = i := by
        have := HN.out
        rw [HE.out, Forest.len_app] at this
        simp only [Forest.len] at this
        omega
      have HD := hid hdl
      have HS1 := hid hs1
      have HS2 := hid hs2
      have HR1 := hid (And.intro R1 hb)
      obtain ⟨RB, hRB⟩ : ∃ z, (Value.slice OA i oc).ownBlock = z := ⟨_, rfl⟩
      have hbase : ∀ g, RB = some g → w.heap.size + 3 ≤ g ∧ g < wr.heap.size := fun g hg => HOw.out.lt g (hRB.trans hg)
      have HRB := hid (And.intro hRB hbase)
      obtain ⟨c0, c1, c2, c3, c4, c5, c6, c7⟩ := range8 R1
      have GE := hid (gb_alloc (gb_refl wr none) (.cells #[.bool t, .int .i64 n, .string s, .int .i64 kd, .int .i64 nm, .string v, .int .i64 y, .slice SA sub.len sc] 61))
      have HEn := hid (HoldsT.new wr #[.bool t, .int .i64 n, .string s, .int .i64 kd, .int .i64 nm, .string v, .int .i64 y, .slice SA sub.len sc] 61)
      have ne1 : RB ≠ some wr.heap.size := fun e => by have := hbase _ e; omega
      have ne2 : some (w.heap.size + 1 + 1) ≠ RB := fun e => by have := hbase _ e.symm; omega
      have HNE := hid ne2
      have HNE1 := hid ne1
      clear hs1 hs2 hir hsz hRB hbase ne2 R1 ne1 hb
      have HB := HR1
      go_wp2_with fail
      clear c0 c1 c2 c3 c4 c5 c6 c7 a0 a1 a2 a3 a4 la
      refine wp_region_E 11 12 rfl (by kernel_rfl) (fun wd w' => wd.grownBy w' RB) fun wd gd => ?_
      have GD := hid (gb_trans GE.out gd)
      have XD := hid (HX.out.grow GD.out)
      have ED := hid (HEn.out.grow gd)
      have g0 : wd.grownBy wd RB := gb_refl _ _
      clear gd
      refine E_take 0 rfl (some 15) rfl (by kernel_rfl) (by kernel_rfl) (by kernel_rfl) (by kernel_rfl) (by decide) (fun _ _ _ _ h => h) rfl (.pointer (some ⟨w.heap.size + 1 + 1, 4, none⟩)) (fun w' hw => by go_simp) g0 ?_
      simp only [Act.put, List.setIfInBounds_toArray, List.set_cons_succ, List.set_cons_zero]
      refine E_take 1 rfl (some 16) rfl (by kernel_rfl) (by kernel_rfl) (by kernel_rfl) (by kernel_rfl) (by decide) (fun _ _ _ _ h => h) rfl (.slice OA i oc) (fun w' hw => by have fc := hw.cell XD.out.cells5.2.2.2.2 HNE.out; go_simp) g0 ?_
      simp only [Act.put, List.setIfInBounds_toArray, List.set_cons_succ, List.set_cons_zero]
      refine E_take 2 rfl (some 17) rfl (by kernel_rfl) (by kernel_rfl) (by kernel_rfl) (by kernel_rfl) (by decide) (fun _ _ _ _ h => h) rfl (.pointer (some ⟨wr.heap.size, 0, none⟩)) (fun w' hw => by go_simp) g0 ?_
      simp only [Act.put, List.setIfInBounds_toArray, List.set_cons_succ, List.set_cons_zero]
      refine E_load 3 rfl (some 18) rfl (by kernel_rfl) (by kernel_rfl) (by kernel_rfl) (by kernel_rfl) (by decide) (fun _ _ _ _ h => h) rfl 34 (.tmp 17) rfl wr.heap.size 0 rfl [.bool t, .int .i64 n, .string s] (fun w' hw => (ED.out.kept hw HNE1.out).range 0 [.bool t, .int .i64 n, .string s] rfl) Try.underlying34 rfl Try.infoK g0 ?_
      simp only [Act.put, List.setIfInBounds_toArray, List.set_cons_succ, List.set_cons_zero]
      refine E_take 4 rfl (some 19) rfl (by kernel_rfl) (by kernel_rfl) (by kernel_rfl) (by kernel_rfl) (by decide) (fun _ _ _ _ h => h) rfl (.pointer (some ⟨wr.heap.size, 3, none⟩)) (fun w' hw => by go_simp) g0 ?_
      simp only [Act.put, List.setIfInBounds_toArray, List.set_cons_succ, List.set_cons_zero]
      refine E_load 5 rfl (some 20) rfl (by kernel_rfl) (by kernel_rfl) (by kernel_rfl) (by kernel_rfl) (by decide) (fun _ _ _ _ h => h) rfl 31 (.tmp 19) rfl wr.heap.size 3 rfl [.int .i64 kd, .int .i64 nm, .string v, .int .i64 y, .slice SA sub.len sc] (fun w' hw => (ED.out.kept hw HNE1.out).range 3 [.int .i64 kd, .int .i64 nm, .string v, .int .i64 y, .slice SA sub.len sc] rfl) Try.underlying31 rfl Try.infoV g0 ?_
      simp only [Act.put, List.setIfInBounds_toArray, List.set_cons_succ, List.set_cons_zero]
      refine E_only 6 (by kernel_rfl) (E_call 6 rfl (some 21) rfl rfl 34 _ (run_call1 _ (by kernel_rfl) (.tmp 20) _ (.agg #[.int .i64 kd, .int .i64 nm, .string v, .int .i64 y, .slice SA sub.len sc]) rfl rfl) (IH.out sub hsz1 wd kd nm v y SA sc Ls (HS1.out.grow GD.out) hsub) ?_)
      rintro e w2 ⟨A2, c2', L2, rfl, hc2, hT2, hg2⟩
      refine ⟨_, rfl, fun _ => gb_any hg2, ?_⟩
      have HC2 := hid hc2
      have hT2 := hT2.own
      have HT2 := hid (hT2.grow (gb_alloc (gb_refl w2 none) (.cells #[.bool t, .int .i64 n, .string s, .int .i64 kd, .int .i64 nm, .string v, .int .i64 y, .slice A2 sub.len c2'] 61)))
      have G2 := hid (gb_alloc (gb_trans GD.out hg2) (.cells #[.bool t, .int .i64 n, .string s, .int .i64 kd, .int .i64 nm, .string v, .int .i64 y, .slice A2 sub.len c2'] 61))
      have GDD := hid (gb_alloc hg2 (.cells #[.bool t, .int .i64 n, .string s, .int .i64 kd, .int .i64 nm, .string v, .int .i64 y, .slice A2 sub.len c2'] 61))
      simp only [Act.put, List.setIfInBounds_toArray, List.set_cons_succ, List.set_cons_zero]
      refine E_only 7 (by kernel_rfl) (E_val 7 rfl (some 22) rfl rfl (.agg #[.bool t, .int .i64 n, .string s, .int .i64 kd, .int .i64 nm, .string v, .int .i64 y, .slice A2 sub.len c2']) w2 (by go_simp) ⟨fun _ => gb_any hg2, ?_⟩)
      simp only [Act.put, List.setIfInBounds_toArray, List.set_cons_succ, List.set_cons_zero]
      refine E_only 8 (by kernel_rfl) (E_val 8 rfl (some 23) rfl rfl (.slice (some ⟨w2.heap.size, 0, none⟩) 1 1) (w2.alloc (.cells #[.bool t, .int .i64 n, .string s, .int .i64 kd, .int .i64 nm, .string v, .int .i64 y, .slice A2 sub.len c2'] 61)) (by go_simp) ⟨fun _ => gb_any GDD.out, ?_⟩)
      simp only [Act.put, List.setIfInBounds_toArray, List.set_cons_succ, List.set_cons_zero]
      have hws : w.heap.size + 3 ≤ wr.heap.size := HX.out.lt
      have hO3 := own_grow HOw.out G2.out
      refine E_only 9 (by kernel_rfl) (E_append 9 rfl (some 24) rfl rfl (.tmp 16) (.tmp 23) 29 rfl (w.heap.size + 3) 61 i0 entry0 8 96 Try.underlying29 HI.out.1 HI.out.2.1 HI.out.2.2.1 HI.out.2.2.2 rfl (by omega) (.slice OA i oc) i cs rfl hO3
        ⟨w2.heap.size, 0, none⟩ 1 1 [.bool t, .int .i64 n, .string s, .int .i64 kd, .int .i64 nm, .string v, .int .i64 y, .slice A2 sub.len c2'] rfl rfl (news_lit w2 [.bool t, .int .i64 n, .string s, .int .i64 kd, .int .i64 nm, .string v, .int .i64 y, .slice A2 sub.len c2'] 61) (by simp [Value.oneCell']) (by unfold maxLen; omega) (by omega) (by have := G2.out.size; have := HG.out.size; omega) ?_)
      intro A3 c3' w3 hown3 hA3 hg3 hat3
      rw [HRB.out.1] at hg3 hat3
      have GS := hid (gb_trans (gb_any GDD.out) hg3)
      refine ⟨fun _ => GS.out, ?_⟩
      have HOW3 := hid hown3
      have HA3 := hid hA3
      have HAT := hid hat3
      have HG3 := hid hg3
      clear hO3 hown3 hA3 hat3 hg3
      simp only [Act.put, List.setIfInBounds_toArray, List.set_cons_succ, List.set_cons_zero]
      refine E_only 10 (by kernel_rfl) (E_val 10 rfl (some 25) rfl rfl (.pointer (some ⟨w.heap.size + 1 + 1, 4, none⟩)) w3 (by go_simp) ⟨fun _ => GS.out, ?_⟩)
      simp only [Act.put, List.setIfInBounds_toArray, List.set_cons_succ, List.set_cons_zero]
      have hX3 := XD.out.kept GS.out (fun e => HNE.out e.symm)
      have HX3 := hid hX3
      have fc := hX3.cells5.2.2.2.2
      have fz := hX3.frozen 4
      have fl := hX3.lt
      refine E_only 11 (by kernel_rfl) (E_skip 11 rfl none rfl rfl (w3.setCell ⟨w.heap.size + 1 + 1, 4, none⟩ (.slice A3 (i + 1) c3')) (by go_simp) ⟨fun h => absurd rfl h, ?_⟩)
      refine E_done (by kernel_rfl) ?_ _
      simp only [Act.put]
      clear hX3 fc fz fl
      go_wp2_with fail
      go_roundw
      case rel =>
        have hK2 : ∀ x ∈ blk A2 ++ L2, wr.heap.size ≤ x := fun x hx => by have := (HT2.out.2.2 x hx).1; have := GD.out.size; omega
        have hRK : ∀ g, RB = some g → g ∉ K ++ (blk A2 ++ L2) := fun g hg hm => by
          rcases List.mem_append.1 hm with h | h
          · exact HOb.out g (HRB.out.1.trans hg) h
          · have := hK2 g h
            have := (HRB.out.2 g hg).2
            omega
        have hO2 : OwnL (w2.alloc (.cells #[.bool t, .int .i64 n, .string s, .int .i64 kd, .int .i64 nm, .string v, .int .i64 y, .slice A2 sub.len c2'] 61)) 61 (w.heap.size + 3) (K ++ (blk A2 ++ L2)) :=
          OwnL.app HX.out.lt HL.out G2.out (HT2.out.2.mono GD.out.size)
        have hbK : ∀ g, some (w.heap.size + 1 + 1) = some g → g ∉ K ++ (blk A2 ++ L2) := fun g hg hm => by
          injection hg with hg
          have := (hO2.2 g hm).1
          omega
        have hO3 := hO2.kept HG3.out hRK
        have hS3 := (((HS.out.grow G2.out).app (SubF.one t n s kd nm v y HC2.out HT2.out.1)).kept HG3.out hRK)
        have s4 : w3.grownBy (w3.setCell ⟨w.heap.size + 1 + 1, 4, none⟩ (.slice A3 (i + 1) c3')) (some (w.heap.size + 1 + 1)) := gb_set (gb_refl _ _) (.inr rfl) _
        have nv : RB ≠ some w.heap.size := fun e => by have := HRB.out.2 _ e; omega
        have nz : RB ≠ some (w.heap.size + 1) := fun e => by have := HRB.out.2 _ e; omega
        refine ⟨i + 1, dn.app (.cons t n s kd nm v y sub .nil), r, _, K ++ (blk A2 ++ L2), cs ++ [.bool t, .int .i64 n, .string s, .int .i64 kd, .int .i64 nm, .string v, .int .i64 y, .slice A2 sub.len c2'], A3, c3', zs, hid (by rw [Forest.app_assoc]; exact HE.out), hiN', by go_num, hid HS2.out, hsz2,
          hid (hS3.kept s4 hbK), hid (hO3.kept s4 hbK), hid (own_kept HOW3.out s4 (fun g hg h => ?_)), hid (fun g hg => ?_), HA3, hid (((HV.out.grow G2.out).kept HG3.out nv).kept s4 (by intro e; injection e with e; omega)),
          hid (HX3.out.set 4 (.slice A3 (i + 1) c3')), HZs, hid (((HZ.out.grow G2.out).kept HG3.out nz).kept s4 (by intro e; injection e with e; omega)), hid (gb_set (gb_fresh (gb_trans HG.out G2.out) HG3.out (fun g hg => by have := (HRB.out.2 g hg).1; omega)) (.inl (by simp only []; omega)) _)⟩
        · injection hg with hg
          have := (HOW3.out.lt g h).1
          omega
        · rcases HAT.out with h | h
          · exact hRK g (h.symm.trans hg)
          · intro hm
            have h2 := hO2.lt g hm
            have h3 := h.symm.trans hg
            injection h3 with h3
            omega
      case measure => simp [intOf]; omega
theorem implCopy_any (f : Forest) : CopyOk 34 f := by
  obtain ⟨n, hn⟩ : ∃ n, f.size = n := ⟨_, rfl⟩
  induction n using Nat.strongRecOn generalizing f with
  | ind n ih => exact implCopy_step f fun g hg => ih g.size (by omega) g rfl
set_option maxHeartbeats 4000000 in
theorem specCopy_step (f : Forest) (ih : ∀ g : Forest, g.size < f.size → CopyOk 31 g) : CopyOk 31 f := by
  intro w k m u x A c L hr hfs
  obtain ⟨i0, hi, hz0, hz1, hz2⟩ := info_parts Try.infoE3
  have IH := hid ih
  obtain ⟨N, hN⟩ : ∃ N, f.len = N := ⟨_, rfl⟩
  have hNs : N ≤ 4194304 := by have := f.len_le; omega
  rw [hN] at hr
  have HR := hid hr
  have HN := hid hN
  rw [hN]
  have HI := hid (And.intro hi (And.intro hz0 (And.intro hz1 hz2)))
  clear ih hr hN hi hz0 hz1 hz2
  go_enter Try.func31, Try.ntmps31
  go_wp2_with fail
  go_loopw [4] (fun iv wr => ∃ (i : Nat) (dn r : Forest) (M K : List Nat) (cs : List Value) (OA : Option Addr) (oc : Nat) (zs : Array Value), Hid (f = dn.app r) ∧ i + r.len = N ∧ iv = .int .i64 i ∧ Hid (RowF w r A i N M) ∧ r.size ≤ f.size ∧ Hid (SubF wr dn cs K) ∧ Hid (OwnL wr 61 (w.heap.size + 3) K) ∧
      Hid (wr.ownsRow (w.heap.size + 3) 61 8 (.slice OA i oc) i cs) ∧ Hid (∀ g, (Value.slice OA i oc).ownBlock = some g → g ∉ K) ∧ Hid (OA = none → oc = 0) ∧ Hid (HoldsT wr w.heap.size #[.int .i64 k, .int .i64 m, .string u, .int .i64 x, .slice A N c] 31) ∧
      Hid (HoldsT wr (w.heap.size + 1 + 1) #[.int .i64 k, .int .i64 m, .string u, .int .i64 x, .slice OA i oc] 31) ∧ Hid (zs.size = 5) ∧ Hid (HoldsT wr (w.heap.size + 1) zs 31) ∧ Hid (w.grownBy wr none)) (fun i _ => N - (intOf i).toNat)
  case atStart =>
    exact ⟨0, .nil, f, L, [], [], none, 0, _, hid rfl, by have := HN.out; omega, rfl, HR, Nat.le_refl _, hid ⟨rfl, rfl⟩, hid (OwnL.nil _ _ _), hid (World.ownsRow_nil _ _ _ _), hid (by intro g h; cases h), hid (fun _ => rfl),
      hid (((HoldsT.new w _ _).alloc _).alloc _), hid (HoldsT.pre2 w _ _ _ _), hid rfl, hid (HoldsT.pre1 w _ _ _ _), hid (gb_alloc (gb_alloc (gb_alloc (gb_refl _ _) _) _) _)⟩
  case round =>
    obtain ⟨i, dn, r, M, K, cs, OA, oc, zs, HE, hir, rfl, HRr, hsz, HS, HL, HOw, HOb, HOc, HV, HX, HZs, HZ, HG⟩ := hrel
    obtain ⟨a0, a1, a2, a3, a4⟩ := HV.out.cells5
    have la := HV.out.lt
    cases r with
    | nil =>
      have hi : i = N := by simpa [Forest.len] using hir
      subst hi
      obtain ⟨z0, z1, z2, z3, z4, rfl⟩ : ∃ a b c d e, zs = #[a, b, c, d, e] := by
        obtain ⟨l⟩ := zs
        have h := HZs.out
        match l, h with
        | [a, b, c, d, e], _ => exact ⟨a, b, c, d, e, rfl⟩
      obtain ⟨b0, b1, b2, b3, b4⟩ := HX.out.cells5
      obtain ⟨r0, r1, r2, r3, r4⟩ := HZ.out.cells5
      have y0 := HZ.out.frozen 0; have y1 := HZ.out.frozen 1; have y2 := HZ.out.frozen 2; have y3 := HZ.out.frozen 3; have y4 := HZ.out.frozen 4
      have lz := HZ.out.lt
      have lx := HX.out.lt
      go_wp2_with fail
      refine bodyPost_ret (results_cell_row rfl _ _ _ _ _ (0, 0) _ rfl (HZ.out.set5 _ _ _ _ _) Try.underlying31 rfl Try.infoV) rfl ?_
      have hf : f = dn := by rw [HE.out, Forest.app_nil]
      subst hf
      have ht : Rw wr 61 (w.heap.size + 3) f OA oc K := ⟨cs, by rw [HN.out]; exact HOw.out, HS.out, HL.out, fun b hb => HOb.out b (blk_own.2 hb)⟩
      refine ⟨OA, oc, K, by rw [HN.out], HOc.out, ?_, gb_set5 HG.out (.inl (Nat.le_succ _)) _ _ _ _ _⟩
      exact (ht.low (g := w.heap.size + 1) (gb_set5 (gb_refl _ _) (.inr rfl) _ _ _ _ _) (by omega)).mono (by omega)
    | cons t n s kd nm v y sub r =>
      have hiN : i < N := by simp only [Forest.len] at hir; omega
      have hiN' : i + 1 + r.len = N := by simp only [Forest.len] at hir; omega
      obtain ⟨b, o, SA, sc, Ls, Lr, rfl, hb, R1, _, hs1, hs2, _⟩ := HRr.out.range
      have hsz1 : sub.size < f.size := by simp only [Forest.size] at hsz; omega
      have hsz2 : r.size ≤ f.size := by simp only [Forest.size] at hsz; omega
      have hsub : sub.size ≤ 4194304 := by omega
      have hdl : dn.len = i := by
        have := HN.out
        rw [HE.out, Forest.len_app] at this
        simp only [Forest.len] at this
        omega
      have HD := hid hdl
      have HS1 := hid (hs1.grow HG.out)
      have HS2 := hid hs2
      have HR1 := hid (And.intro (rangeAt_grow R1 HG.out hb) (Nat.lt_of_lt_of_le hb HG.out.size))
      obtain ⟨RB, hRB⟩ : ∃ z, (Value.slice OA i oc).ownBlock = z := ⟨_, rfl⟩
      have hbase : ∀ g, RB = some g → w.heap.size + 3 ≤ g ∧ g < wr.heap.size := fun g hg => HOw.out.lt g (hRB.trans hg)
      have HRB := hid (And.intro hRB hbase)
      have nrb : some b ≠ RB := fun e => by have := (hbase _ e.symm).1; omega
      have NRB := hid nrb
      have nvb : some w.heap.size ≠ RB := fun e => by have := (hbase _ e.symm).1; omega
      have NVB := hid nvb
      have ne2 : some (w.heap.size + 1 + 1) ≠ RB := fun e => by have := hbase _ e.symm; omega
      have HNE := hid ne2
      clear hs1 hs2 hir hsz hRB hbase ne2 R1 hb nrb nvb
      go_wp2_with fail
      clear a0 a1 a2 a3 a4 la
      refine wp_region_E 19 20 rfl (by kernel_rfl) (fun wd w' => wd.grownBy w' RB) fun wd gd => ?_
      have GD := hid gd
      have XD := hid (HX.out.grow GD.out)
      have VD := hid (HV.out.grow GD.out)
      have RD := hid (And.intro (rangeAt_grow HR1.out.1 GD.out HR1.out.2) (Nat.lt_of_lt_of_le HR1.out.2 GD.out.size))
      have g0 : wd.grownBy wd RB := gb_refl _ _
      clear gd
      refine E_take 0 rfl (some 14) rfl (by kernel_rfl) (by kernel_rfl) (by kernel_rfl) (by kernel_rfl) (by decide) (fun _ _ _ _ h => h) rfl (.pointer (some ⟨w.heap.size + 1 + 1, 4, none⟩)) (fun w' hw => by go_simp) g0 ?_
      simp only [Act.put, List.setIfInBounds_toArray, List.set_cons_succ, List.set_cons_zero]
      refine E_take 1 rfl (some 15) rfl (by kernel_rfl) (by kernel_rfl) (by kernel_rfl) (by kernel_rfl) (by decide) (fun _ _ _ _ h => h) rfl (.slice OA i oc) (fun w' hw => by have fc := hw.cell XD.out.cells5.2.2.2.2 HNE.out; go_simp) g0 ?_
      simp only [Act.put, List.setIfInBounds_toArray, List.set_cons_succ, List.set_cons_zero]
      refine E_take 2 rfl (some 16) rfl (by kernel_rfl) (by kernel_rfl) (by kernel_rfl) (by kernel_rfl) (by decide) (fun _ _ _ _ h => h) rfl (.pointer (some ⟨w.heap.size, 4, none⟩)) (fun w' hw => by go_simp) g0 ?_
      simp only [Act.put, List.setIfInBounds_toArray, List.set_cons_succ, List.set_cons_zero]
      refine E_take 3 rfl (some 17) rfl (by kernel_rfl) (by kernel_rfl) (by kernel_rfl) (by kernel_rfl) (by decide) (fun _ _ _ _ h => h) rfl (.slice (some ⟨b, o, none⟩) N c) (fun w' hw => by have fc := hw.cell VD.out.cells5.2.2.2.2 NVB.out; go_simp) g0 ?_
      simp only [Act.put, List.setIfInBounds_toArray, List.set_cons_succ, List.set_cons_zero]
      refine E_take 4 rfl (some 18) rfl (by kernel_rfl) (by kernel_rfl) (by kernel_rfl) (by kernel_rfl) (by decide) (fun _ _ _ _ h => h) rfl (.int .i64 i) (fun w' hw => run_mov (.tmp 4) rfl rfl) g0 ?_
      simp only [Act.put, List.setIfInBounds_toArray, List.set_cons_succ, List.set_cons_zero]
      refine E_take 5 rfl (some 19) rfl (by kernel_rfl) (by kernel_rfl) (by kernel_rfl) (by kernel_rfl) (by decide) (fun _ _ _ _ h => h) rfl (.pointer (some ⟨b, o + i * 8, none⟩)) (fun w' hw => by go_simp) g0 ?_
      simp only [Act.put, List.setIfInBounds_toArray, List.set_cons_succ, List.set_cons_zero]
      refine E_take 6 rfl (some 20) rfl (by kernel_rfl) (by kernel_rfl) (by kernel_rfl) (by kernel_rfl) (by decide) (fun _ _ _ _ h => h) rfl (.pointer (some ⟨b, o + i * 8, none⟩)) (fun w' hw => by go_simp) g0 ?_
      simp only [Act.put, List.setIfInBounds_toArray, List.set_cons_succ, List.set_cons_zero]
      refine E_load 7 rfl (some 21) rfl (by kernel_rfl) (by kernel_rfl) (by kernel_rfl) (by kernel_rfl) (by decide) (fun _ _ _ _ h => h) rfl 34 (.tmp 20) rfl b (o + i * 8) rfl [.bool t, .int .i64 n, .string s] (fun w' hw => range_key (rangeAt_kept RD.out.1 hw RD.out.2 NRB.out)) Try.underlying34 rfl Try.infoK g0 ?_
      simp only [Act.put, List.setIfInBounds_toArray, List.set_cons_succ, List.set_cons_zero]
      refine E_take 8 rfl (some 22) rfl (by kernel_rfl) (by kernel_rfl) (by kernel_rfl) (by kernel_rfl) (by decide) (fun _ _ _ _ h => h) rfl (.pointer (some ⟨w.heap.size, 4, none⟩)) (fun w' hw => by go_simp) g0 ?_
      simp only [Act.put, List.setIfInBounds_toArray, List.set_cons_succ, List.set_cons_zero]
      refine E_take 9 rfl (some 23) rfl (by kernel_rfl) (by kernel_rfl) (by kernel_rfl) (by kernel_rfl) (by decide) (fun _ _ _ _ h => h) rfl (.slice (some ⟨b, o, none⟩) N c) (fun w' hw => by have fc := hw.cell VD.out.cells5.2.2.2.2 NVB.out; go_simp) g0 ?_
      simp only [Act.put, List.setIfInBounds_toArray, List.set_cons_succ, List.set_cons_zero]
      refine E_take 10 rfl (some 24) rfl (by kernel_rfl) (by kernel_rfl) (by kernel_rfl) (by kernel_rfl) (by decide) (fun _ _ _ _ h => h) rfl (.int .i64 i) (fun w' hw => run_mov (.tmp 4) rfl rfl) g0 ?_
      simp only [Act.put, List.setIfInBounds_toArray, List.set_cons_succ, List.set_cons_zero]
      refine E_take 11 rfl (some 25) rfl (by kernel_rfl) (by kernel_rfl) (by kernel_rfl) (by kernel_rfl) (by decide) (fun _ _ _ _ h => h) rfl (.pointer (some ⟨b, o + i * 8, none⟩)) (fun w' hw => by go_simp) g0 ?_
      simp only [Act.put, List.setIfInBounds_toArray, List.set_cons_succ, List.set_cons_zero]
      refine E_take 12 rfl (some 26) rfl (by kernel_rfl) (by kernel_rfl) (by kernel_rfl) (by kernel_rfl) (by decide) (fun _ _ _ _ h => h) rfl (.pointer (some ⟨b, o + i * 8 + 3, none⟩)) (fun w' hw => by go_simp) g0 ?_
      simp only [Act.put, List.setIfInBounds_toArray, List.set_cons_succ, List.set_cons_zero]
      refine E_load 13 rfl (some 27) rfl (by kernel_rfl) (by kernel_rfl) (by kernel_rfl) (by kernel_rfl) (by decide) (fun _ _ _ _ h => h) rfl 31 (.tmp 26) rfl b (o + i * 8 + 3) rfl [.int .i64 kd, .int .i64 nm, .string v, .int .i64 y, .slice SA sub.len sc] (fun w' hw => range_val (rangeAt_kept RD.out.1 hw RD.out.2 NRB.out)) Try.underlying31 rfl Try.infoV g0 ?_
      simp only [Act.put, List.setIfInBounds_toArray, List.set_cons_succ, List.set_cons_zero]
      refine E_only 14 (by kernel_rfl) (E_call 14 rfl (some 28) rfl rfl 31 _ (run_call1 _ (by kernel_rfl) (.tmp 27) _ (.agg #[.int .i64 kd, .int .i64 nm, .string v, .int .i64 y, .slice SA sub.len sc]) rfl rfl) (IH.out sub hsz1 wd kd nm v y SA sc Ls (HS1.out.grow GD.out) hsub) ?_)
      rintro e w2 ⟨A2, c2', L2, rfl, hc2, hT2, hg2⟩
      refine ⟨_, rfl, fun _ => gb_any hg2, ?_⟩
      have HC2 := hid hc2
      have hT2 := hT2.own
      have HT2 := hid (hT2.grow (gb_alloc (gb_refl w2 none) (.cells #[.bool t, .int .i64 n, .string s, .int .i64 kd, .int .i64 nm, .string v, .int .i64 y, .slice A2 sub.len c2'] 61)))
      have G2 := hid (gb_alloc (gb_trans GD.out hg2) (.cells #[.bool t, .int .i64 n, .string s, .int .i64 kd, .int .i64 nm, .string v, .int .i64 y, .slice A2 sub.len c2'] 61))
      have GDD := hid (gb_alloc hg2 (.cells #[.bool t, .int .i64 n, .string s, .int .i64 kd, .int .i64 nm, .string v, .int .i64 y, .slice A2 sub.len c2'] 61))
      simp only [Act.put, List.setIfInBounds_toArray, List.set_cons_succ, List.set_cons_zero]
      refine E_only 15 (by kernel_rfl) (E_val 15 rfl (some 29) rfl rfl (.agg #[.bool t, .int .i64 n, .string s, .int .i64 kd, .int .i64 nm, .string v, .int .i64 y, .slice A2 sub.len c2']) w2 (by go_simp) ⟨fun _ => gb_any hg2, ?_⟩)
      simp only [Act.put, List.setIfInBounds_toArray, List.set_cons_succ, List.set_cons_zero]
      refine E_only 16 (by kernel_rfl) (E_val 16 rfl (some 30) rfl rfl (.slice (some ⟨w2.heap.size, 0, none⟩) 1 1) (w2.alloc (.cells #[.bool t, .int .i64 n, .string s, .int .i64 kd, .int .i64 nm, .string v, .int .i64 y, .slice A2 sub.len c2'] 61)) (by go_simp) ⟨fun _ => gb_any GDD.out, ?_⟩)
      simp only [Act.put, List.setIfInBounds_toArray, List.set_cons_succ, List.set_cons_zero]
      have hws : w.heap.size + 3 ≤ wr.heap.size := HX.out.lt
      have hO3 := own_grow HOw.out G2.out
      refine E_only 17 (by kernel_rfl) (E_append 17 rfl (some 31) rfl rfl (.tmp 15) (.tmp 30) 29 rfl (w.heap.size + 3) 61 i0 entry0 8 96 Try.underlying29 HI.out.1 HI.out.2.1 HI.out.2.2.1 HI.out.2.2.2 rfl (by omega) (.slice OA i oc) i cs rfl hO3
        ⟨w2.heap.size, 0, none⟩ 1 1 [.bool t, .int .i64 n, .string s, .int .i64 kd, .int .i64 nm, .string v, .int .i64 y, .slice A2 sub.len c2'] rfl rfl (news_lit w2 [.bool t, .int .i64 n, .string s, .int .i64 kd, .int .i64 nm, .string v, .int .i64 y, .slice A2 sub.len c2'] 61) (by simp [Value.oneCell']) (by unfold maxLen; omega) (by omega) (by have := G2.out.size; have := HG.out.size; omega) ?_)
      intro A3 c3' w3 hown3 hA3 hg3 hat3
      rw [HRB.out.1] at hg3 hat3
      have GS := hid (gb_trans (gb_any GDD.out) hg3)
      refine ⟨fun _ => GS.out, ?_⟩
      have HOW3 := hid hown3
      have HA3 := hid hA3
      have HAT := hid hat3
      have HG3 := hid hg3
      clear hO3 hown3 hA3 hat3 hg3
      simp only [Act.put, List.setIfInBounds_toArray, List.set_cons_succ, List.set_cons_zero]
      refine E_only 18 (by kernel_rfl) (E_val 18 rfl (some 32) rfl rfl (.pointer (some ⟨w.heap.size + 1 + 1, 4, none⟩)) w3 (by go_simp) ⟨fun _ => GS.out, ?_⟩)
      simp only [Act.put, List.setIfInBounds_toArray, List.set_cons_succ, List.set_cons_zero]
      have hX3 := XD.out.kept GS.out (fun e => HNE.out e.symm)
      have HX3 := hid hX3
      have fc := hX3.cells5.2.2.2.2
      have fz := hX3.frozen 4
      have fl := hX3.lt
      refine E_only 19 (by kernel_rfl) (E_skip 19 rfl none rfl rfl (w3.setCell ⟨w.heap.size + 1 + 1, 4, none⟩ (.slice A3 (i + 1) c3')) (by go_simp) ⟨fun h => absurd rfl h, ?_⟩)
      refine E_done (by kernel_rfl) ?_ _
      simp only [Act.put]
      clear hX3 fc fz fl
      go_wp2_with fail
      go_roundw
      case rel =>
        have hK2 : ∀ x ∈ blk A2 ++ L2, wr.heap.size ≤ x := fun x hx => by have := (HT2.out.2.2 x hx).1; have := GD.out.size; omega
        have hRK : ∀ g, RB = some g → g ∉ K ++ (blk A2 ++ L2) := fun g hg hm => by
          rcases List.mem_append.1 hm with h | h
          · exact HOb.out g (HRB.out.1.trans hg) h
          · have := hK2 g h
            have := (HRB.out.2 g hg).2
            omega
        have hO2 : OwnL (w2.alloc (.cells #[.bool t, .int .i64 n, .string s, .int .i64 kd, .int .i64 nm, .string v, .int .i64 y, .slice A2 sub.len c2'] 61)) 61 (w.heap.size + 3) (K ++ (blk A2 ++ L2)) :=
          OwnL.app HX.out.lt HL.out G2.out (HT2.out.2.mono GD.out.size)
        have hbK : ∀ g, some (w.heap.size + 1 + 1) = some g → g ∉ K ++ (blk A2 ++ L2) := fun g hg hm => by
          injection hg with hg
          have := (hO2.2 g hm).1
          omega
        have hO3 := hO2.kept HG3.out hRK
        have hS3 := (((HS.out.grow G2.out).app (SubF.one t n s kd nm v y HC2.out HT2.out.1)).kept HG3.out hRK)
        have s4 : w3.grownBy (w3.setCell ⟨w.heap.size + 1 + 1, 4, none⟩ (.slice A3 (i + 1) c3')) (some (w.heap.size + 1 + 1)) := gb_set (gb_refl _ _) (.inr rfl) _
        have nv : RB ≠ some w.heap.size := fun e => by have := HRB.out.2 _ e; omega
        have nz : RB ≠ some (w.heap.size + 1) := fun e => by have := HRB.out.2 _ e; omega
        refine ⟨i + 1, dn.app (.cons t n s kd nm v y sub .nil), r, _, K ++ (blk A2 ++ L2), cs ++ [.bool t, .int .i64 n, .string s, .int .i64 kd, .int .i64 nm, .string v, .int .i64 y, .slice A2 sub.len c2'], A3, c3', zs, hid (by rw [Forest.app_assoc]; exact HE.out), hiN', by go_num, hid HS2.out, hsz2,
          hid (hS3.kept s4 hbK), hid (hO3.kept s4 hbK), hid (own_kept HOW3.out s4 (fun g hg h => ?_)), hid (fun g hg => ?_), HA3, hid (((HV.out.grow G2.out).kept HG3.out nv).kept s4 (by intro e; injection e with e; omega)),
          hid (HX3.out.set 4 (.slice A3 (i + 1) c3')), HZs, hid (((HZ.out.grow G2.out).kept HG3.out nz).kept s4 (by intro e; injection e with e; omega)), hid (gb_set (gb_fresh (gb_trans HG.out G2.out) HG3.out (fun g hg => by have := (HRB.out.2 g hg).1; omega)) (.inl (by simp only []; omega)) _)⟩
        · injection hg with hg
          have := (HOW3.out.lt g h).1
          omega
        · rcases HAT.out with h | h
          · exact hRK g (h.symm.trans hg)
          · intro hm
            have h2 := hO2.lt g hm
            have h3 := h.symm.trans hg
            injection h3 with h3
            omega
      case measure => simp [intOf]; omega
theorem specCopy_any (f : Forest) : CopyOk 31 f := by
  obtain ⟨n, hn⟩ : ∃ n, f.size = n := ⟨_, rfl⟩
  induction n using Nat.strongRecOn generalizing f with
  | ind n ih => exact specCopy_step f fun g hg => ih g.size (by omega) g rfl
end Go.Proofs.Ytlfigoboeogegaa
