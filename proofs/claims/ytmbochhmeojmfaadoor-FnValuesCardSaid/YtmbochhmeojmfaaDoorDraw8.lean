/- The walks of l5Any, DrawIsValue (printed by gendraw8.py). -/
import Derived.Test.YtmbochhmeojmfaaDoorDraw7
namespace Go.Proofs.YtmbochhmeojmfaaDoor
set_option maxRecDepth 20000
open Go.RowKit
set_option linter.unusedVariables false
set_option linter.unusedSimpArgs false

set_option maxHeartbeats 8000000 in
theorem l5Any_any (g : Nat) (w : World) (hcur : CurOk w g) : Calls Tryd.prog 32 #[.pointer (some ⟨g, 0, none⟩)] w (DrawnV g 85 w) := by
  have hl := hcur.lt
  obtain ⟨i0, hi, hz0, hz1, hz2⟩ := info_parts Tryd.infoE3
  have HI := hid (And.intro hi (And.intro hz0 (And.intro hz1 hz2)))
  have HC0 := hid (hcur.alloc (.cells #[.int .i64 0, .int .i64 0, .string { data := #[] }, .int .i64 0, .slice none 0 0] 26))
  have HZ0 := hid (HoldsT.new w #[.int .i64 0, .int .i64 0, .string { data := #[] }, .int .i64 0, .slice none 0 0] 26)
  have hne : (some g : Option Nat) ≠ some w.heap.size := by intro e; injection e; omega
  have G0 := hid (gb_alloc (gb_refl w (some g)) (.cells #[.int .i64 0, .int .i64 0, .string { data := #[] }, .int .i64 0, .slice none 0 0] 26))
  clear hcur hi hz0 hz1 hz2
  have tok := hid trivial
  go_enter Tryd.func32, Tryd.ntmps32
  go_wp2_with fail
  refine (l5Draw_any 3 (by omega) g _ HC0.out).mono ?_
  rintro e w1 ⟨k, m, u, x, A, c, f, L, rfl, hb, hT, hf, hs, hc1, hg1⟩
  have hT1 : Rw w1 35 (w.heap.size + 1) f A c L := hT.mono (by simp)
  have htl : ∀ b ∈ blk A ++ L, b < w1.heap.size := hT.own.2.lt
  have HTL := hid htl
  have hfz : f.size ≤ 84 := hf
  have HB := hid (And.intro hb hs)
  have HO1 := hid (HoldsT.new w1 #[.int .i64 k, .int .i64 m, .string u, .int .i64 x, .slice A f.len c] 26)
  have HT1 := hid (hT1.grow (gb_alloc (gb_refl w1 none) (.cells #[.int .i64 k, .int .i64 m, .string u, .int .i64 x, .slice A f.len c] 26)))
  have HC1 := hid (hc1.alloc (.cells #[.int .i64 k, .int .i64 m, .string u, .int .i64 x, .slice A f.len c] 26))
  have HZ1 := hid ((HZ0.out.kept hg1 hne).alloc (.cells #[.int .i64 k, .int .i64 m, .string u, .int .i64 x, .slice A f.len c] 26))
  have G1 := hid (gb_alloc (gb_trans G0.out hg1) (.cells #[.int .i64 k, .int .i64 m, .string u, .int .i64 x, .slice A f.len c] 26))
  have hl1 : w.heap.size < w1.heap.size := (HZ0.out.kept hg1 hne).lt
  have hne2 : (some g : Option Nat) ≠ some w1.heap.size := by intro e; injection e; omega
  clear hb hT hT1 hf hs hc1 hg1 htl HC0 HZ0 G0
  go_wp2_with fail
  refine (l1Below_any _ _ _ HC1.out).mono ?_
  rintro e w2 ⟨z, ⟨hz0, hz1⟩, rfl, hc2, hg2⟩
  have HO2 := hid (HO1.out.kept hg2 hne2)
  have HT2 := hid (HT1.out.low hg2 (by omega))
  have HC2 := hid hc2
  have HZ2 := hid (HZ1.out.kept hg2 hne)
  have G2 := hid (gb_trans G1.out hg2)
  have hl2 : g < w2.heap.size := hc2.lt
  clear hc2 hg2 HO1 HT1 HC1 HZ1 G1
  by_cases h0 : z = 0
  · subst h0
    clear hz0 hz1
    have HOQ := HO2; have HTQ := HT2; have HZQ := HZ2; have GQ := G2
    go_wp2_with fail
    refine (l1Odd_any g _ HC2.out).mono ?_
    rintro e w3 ⟨q, hq0, rfl, hc3, hg3⟩
    have HQ := hid hq0
    clear hq0
    have HO3 := hid (HOQ.out.kept hg3 hne2)
    have HT3 := hid (HTQ.out.low hg3 (by omega))
    have HC3 := hid hc3
    have HZ3 := hid (HZQ.out.kept hg3 hne)
    have G3 := hid (gb_trans GQ.out hg3)
    clear hc3 hg3
    obtain ⟨r0, r1, r2, r3, r4⟩ := HZ3.out.cells5
    have y0 := HZ3.out.frozen 0; have y1 := HZ3.out.frozen 1; have y2 := HZ3.out.frozen 2; have y3 := HZ3.out.frozen 3; have y4 := HZ3.out.frozen 4
    have lz := HZ3.out.lt
    obtain ⟨b0, b1, b2, b3, b4⟩ := HO3.out.cells5
    have lb := HO3.out.lt
    have v1 := HO3.out.frozen 1
    have s9 : w3.grownBy (w3.setCell ⟨w1.heap.size, 1, none⟩ (.int .i64 q)) (some w1.heap.size) := gb_set (gb_refl _ _) (.inr rfl) _
    have S9 := hid s9
    clear s9
    go_wp2_with fail
    have HZ4 := hid (HZ3.out.kept S9.out (by intro e; injection e; omega))
    have HT4 := hid (HT3.out.kept S9.out (fun q9 hq hm => by have h : w1.heap.size = q9 := Option.some.inj hq; subst h; exact Nat.lt_irrefl _ (HTL.out _ hm)))
    have HC4 := hid (HC3.out.kept S9.out (fun q9 hq => by have h : w1.heap.size = q9 := Option.some.inj hq; omega))
    have G4 := hid (gb_new G3.out S9.out (fun q9 hq => by have h : w1.heap.size = q9 := Option.some.inj hq; omega))
    refine bodyPost_ret (results_cell_row rfl _ _ _ _ _ (0, 0) _ rfl (HZ4.out.set5 _ _ _ _ _) Tryd.underlying26 rfl Tryd.infoV) rfl ?_
    exact ⟨k, q, u, x, A, c, f, L, rfl, ⟨HB.out.1.1, HQ.out, HB.out.1.2.2.1, HB.out.1.2.2.2⟩, (HT4.out.low (g := w.heap.size) (gb_set5 (gb_refl _ _) (.inr rfl) _ _ _ _ _) (by omega)).mono (by omega), by omega, HB.out.2, HC4.out.kept (gb_set5 (gb_refl _ (some w.heap.size)) (g := w.heap.size) (.inr rfl) _ _ _ _ _) (fun q9 hq => by have h : w.heap.size = q9 := Option.some.inj hq; omega), gb_set5 G4.out (.inl (Nat.le_refl _)) _ _ _ _ _⟩
  by_cases h1 : z = 1
  · subst h1
    clear hz0 hz1 h0
    have HOQ := HO2; have HTQ := HT2; have HZQ := HZ2; have GQ := G2
    go_wp2_with fail
    refine (l1Odd_any g _ HC2.out).mono ?_
    rintro e w3 ⟨q, hq0, rfl, hc3, hg3⟩
    have HQ := hid hq0
    clear hq0
    have HO3 := hid (HOQ.out.kept hg3 hne2)
    have HT3 := hid (HTQ.out.low hg3 (by omega))
    have HC3 := hid hc3
    have HZ3 := hid (HZQ.out.kept hg3 hne)
    have G3 := hid (gb_trans GQ.out hg3)
    clear hc3 hg3
    obtain ⟨r0, r1, r2, r3, r4⟩ := HZ3.out.cells5
    have y0 := HZ3.out.frozen 0; have y1 := HZ3.out.frozen 1; have y2 := HZ3.out.frozen 2; have y3 := HZ3.out.frozen 3; have y4 := HZ3.out.frozen 4
    have lz := HZ3.out.lt
    obtain ⟨b0, b1, b2, b3, b4⟩ := HO3.out.cells5
    have lb := HO3.out.lt
    have v3 := HO3.out.frozen 3
    have s9 : w3.grownBy (w3.setCell ⟨w1.heap.size, 3, none⟩ (.int .i64 q)) (some w1.heap.size) := gb_set (gb_refl _ _) (.inr rfl) _
    have S9 := hid s9
    clear s9
    go_wp2_with fail
    have HZ4 := hid (HZ3.out.kept S9.out (by intro e; injection e; omega))
    have HT4 := hid (HT3.out.kept S9.out (fun q9 hq hm => by have h : w1.heap.size = q9 := Option.some.inj hq; subst h; exact Nat.lt_irrefl _ (HTL.out _ hm)))
    have HC4 := hid (HC3.out.kept S9.out (fun q9 hq => by have h : w1.heap.size = q9 := Option.some.inj hq; omega))
    have G4 := hid (gb_new G3.out S9.out (fun q9 hq => by have h : w1.heap.size = q9 := Option.some.inj hq; omega))
    refine bodyPost_ret (results_cell_row rfl _ _ _ _ _ (0, 0) _ rfl (HZ4.out.set5 _ _ _ _ _) Tryd.underlying26 rfl Tryd.infoV) rfl ?_
    exact ⟨k, m, u, q, A, c, f, L, rfl, ⟨HB.out.1.1, HB.out.1.2.1, HQ.out, HB.out.1.2.2.2⟩, (HT4.out.low (g := w.heap.size) (gb_set5 (gb_refl _ _) (.inr rfl) _ _ _ _ _) (by omega)).mono (by omega), by omega, HB.out.2, HC4.out.kept (gb_set5 (gb_refl _ (some w.heap.size)) (g := w.heap.size) (.inr rfl) _ _ _ _ _) (fun q9 hq => by have h : w.heap.size = q9 := Option.some.inj hq; omega), gb_set5 G4.out (.inl (Nat.le_refl _)) _ _ _ _ _⟩
  by_cases h2 : z = 2
  · subst h2
    clear hz0 hz1 h0 h1
    have HCQ : Hid (CurOk (w2.alloc (.cells #[.int .i64 (-1), .int .i64 4, .int .i64 5, .int .i64 6, .int .i64 7, .int .i64 8, .int .i64 9] 3)) g) := HC2.out.alloc _
    have HOQ := hid (HO2.out.alloc (.cells #[.int .i64 (-1), .int .i64 4, .int .i64 5, .int .i64 6, .int .i64 7, .int .i64 8, .int .i64 9] 3)); have HTQ := hid (HT2.out.grow (gb_alloc (gb_refl w2 none) (.cells #[.int .i64 (-1), .int .i64 4, .int .i64 5, .int .i64 6, .int .i64 7, .int .i64 8, .int .i64 9] 3))); have HZQ := hid (HZ2.out.alloc (.cells #[.int .i64 (-1), .int .i64 4, .int .i64 5, .int .i64 6, .int .i64 7, .int .i64 8, .int .i64 9] 3)); have GQ := hid (gb_alloc G2.out (.cells #[.int .i64 (-1), .int .i64 4, .int .i64 5, .int .i64 6, .int .i64 7, .int .i64 8, .int .i64 9] 3))
    go_wp2_with fail
    refine (l1Int_any g _ 7 7 [-1, 4, 5, 6, 7, 8, 9] _ HCQ.out (Rd.lit w2 _ _) rfl (by omega) (by omega) (apart_new hl2)).mono ?_
    rintro e w3 ⟨q, hq0, rfl, hc3, hg3⟩
    have HQ : Hid (I64 q) := hid (by simp only [List.mem_cons, List.not_mem_nil, or_false] at hq0; unfold I64; omega)
    clear hq0
    have HO3 := hid (HOQ.out.kept hg3 hne2)
    have HT3 := hid (HTQ.out.low hg3 (by omega))
    have HC3 := hid hc3
    have HZ3 := hid (HZQ.out.kept hg3 hne)
    have G3 := hid (gb_trans GQ.out hg3)
    clear hc3 hg3
    obtain ⟨r0, r1, r2, r3, r4⟩ := HZ3.out.cells5
    have y0 := HZ3.out.frozen 0; have y1 := HZ3.out.frozen 1; have y2 := HZ3.out.frozen 2; have y3 := HZ3.out.frozen 3; have y4 := HZ3.out.frozen 4
    have lz := HZ3.out.lt
    obtain ⟨b0, b1, b2, b3, b4⟩ := HO3.out.cells5
    have lb := HO3.out.lt
    have v0 := HO3.out.frozen 0
    have s9 : w3.grownBy (w3.setCell ⟨w1.heap.size, 0, none⟩ (.int .i64 q)) (some w1.heap.size) := gb_set (gb_refl _ _) (.inr rfl) _
    have S9 := hid s9
    clear s9
    go_wp2_with fail
    have HZ4 := hid (HZ3.out.kept S9.out (by intro e; injection e; omega))
    have HT4 := hid (HT3.out.kept S9.out (fun q9 hq hm => by have h : w1.heap.size = q9 := Option.some.inj hq; subst h; exact Nat.lt_irrefl _ (HTL.out _ hm)))
    have HC4 := hid (HC3.out.kept S9.out (fun q9 hq => by have h : w1.heap.size = q9 := Option.some.inj hq; omega))
    have G4 := hid (gb_new G3.out S9.out (fun q9 hq => by have h : w1.heap.size = q9 := Option.some.inj hq; omega))
    refine bodyPost_ret (results_cell_row rfl _ _ _ _ _ (0, 0) _ rfl (HZ4.out.set5 _ _ _ _ _) Tryd.underlying26 rfl Tryd.infoV) rfl ?_
    exact ⟨q, m, u, x, A, c, f, L, rfl, ⟨HQ.out, HB.out.1.2.1, HB.out.1.2.2.1, HB.out.1.2.2.2⟩, (HT4.out.low (g := w.heap.size) (gb_set5 (gb_refl _ _) (.inr rfl) _ _ _ _ _) (by omega)).mono (by omega), by omega, HB.out.2, HC4.out.kept (gb_set5 (gb_refl _ (some w.heap.size)) (g := w.heap.size) (.inr rfl) _ _ _ _ _) (fun q9 hq => by have h : w.heap.size = q9 := Option.some.inj hq; omega), gb_set5 G4.out (.inl (Nat.le_refl _)) _ _ _ _ _⟩
  by_cases h3 : z = 3
  · subst h3
    clear hz0 hz1 h0 h1 h2
    go_wp2_with fail
    refine wp_region_F 10 11 rfl (by kernel_rfl) (fun wd w' => HoldsT w' w1.heap.size #[.int .i64 k, .int .i64 m, .string u, .int .i64 x, .slice A f.len c] 26) fun wd gd => ?_
    have HTD := hid (HT2.out.grow gd)
    have HZD := hid (HZ2.out.grow gd)
    have HCD := hid (HC2.out.kept gd (by simp))
    have HGD := hid (gb_trans G2.out (gb_any gd))
    have HSD := hid (HO2.out.grow gd)
    clear gd
    refine F_take 0 rfl (some 26) rfl (by kernel_rfl) (by kernel_rfl) (by kernel_rfl) (by kernel_rfl) (by kernel_rfl) (fun _ _ _ _ h => h) rfl (.pointer (some ⟨w1.heap.size, 4, none⟩)) (fun w' hw => by go_simp) HSD.out ?_
    simp only [Act.put, List.setIfInBounds_toArray, List.set_cons_succ, List.set_cons_zero]
    refine F_take 1 rfl (some 27) rfl (by kernel_rfl) (by kernel_rfl) (by kernel_rfl) (by kernel_rfl) (by kernel_rfl) (fun _ _ _ _ h => h) rfl (.slice A f.len c) (fun w' hw => by have fc := hw.cells5.2.2.2.2; go_simp) HSD.out ?_
    simp only [Act.put, List.setIfInBounds_toArray, List.set_cons_succ, List.set_cons_zero]
    refine F_take 2 rfl (some 28) rfl (by kernel_rfl) (by kernel_rfl) (by kernel_rfl) (by kernel_rfl) (by kernel_rfl) (fun _ _ _ _ h => h) rfl (.pointer (some ⟨g, 0, none⟩)) (fun w' hw => run_mov (.tmp 0) rfl rfl) HSD.out ?_
    simp only [Act.put, List.setIfInBounds_toArray, List.set_cons_succ, List.set_cons_zero]
    refine F_take 4 rfl (some 30) rfl (by kernel_rfl) (by kernel_rfl) (by kernel_rfl) (by kernel_rfl) (by kernel_rfl) (fun _ _ _ _ h => h) rfl (.pointer (some ⟨g, 0, none⟩)) (fun w' hw => run_mov (.tmp 0) rfl rfl) HSD.out ?_
    simp only [Act.put, List.setIfInBounds_toArray, List.set_cons_succ, List.set_cons_zero]
    refine F_only 3 (by kernel_rfl) (E_call 3 rfl (some 29) rfl rfl 57 _ (run_call1 _ (by kernel_rfl) (.tmp 28) _ (.pointer (some ⟨g, 0, none⟩)) rfl rfl) (l5Key_any g wd HCD.out) ?_)
    rintro e w6 ⟨t, n, s, rfl, hs6, hn6, hc6, hg6⟩
    have HS6 := hid (HSD.out.kept hg6 hne2)
    refine ⟨_, rfl, fun _ => HS6.out, ?_⟩
    simp only [Act.put, List.setIfInBounds_toArray, List.set_cons_succ, List.set_cons_zero]
    have HN6 := hid (And.intro hs6 hn6)
    have HC6 := hid hc6
    have HT6 := hid (HTD.out.low hg6 (by omega))
    have HZ6 := hid (HZD.out.kept hg6 hne)
    have HG6 := hid (gb_trans HGD.out hg6)
    clear hs6 hn6 hc6 hg6
    refine F_only 5 (by kernel_rfl) (E_call 5 rfl (some 31) rfl rfl 58 _ (run_call1 _ (by kernel_rfl) (.tmp 30) _ (.pointer (some ⟨g, 0, none⟩)) rfl rfl) (l5Scalar_any g w6 HC6.out) ?_)
    rintro e w7 ⟨k2, m2, u2, x2, rfl, hb2, hc7, hg7⟩
    have HS7 := hid (HS6.out.kept hg7 hne2)
    refine ⟨_, rfl, fun _ => HS7.out, ?_⟩
    simp only [Act.put, List.setIfInBounds_toArray, List.set_cons_succ, List.set_cons_zero]
    have HB2 := hid hb2
    have HC7 := hid hc7
    have HT7 := hid (HT6.out.low hg7 (by omega))
    have HZ7 := hid (HZ6.out.kept hg7 hne)
    have HG7 := hid (gb_trans HG6.out hg7)
    clear hb2 hc7 hg7
    refine F_only 6 (by kernel_rfl) (E_val 6 rfl (some 32) rfl rfl (.agg #[.bool t, .int .i64 n, .string s, .int .i64 k2, .int .i64 m2, .string u2, .int .i64 x2, .slice none 0 0]) w7 (by go_simp) ⟨fun _ => HS7.out, ?_⟩)
    simp only [Act.put, List.setIfInBounds_toArray, List.set_cons_succ, List.set_cons_zero]
    have HS8 := hid (HS7.out.alloc (.cells #[.bool t, .int .i64 n, .string s, .int .i64 k2, .int .i64 m2, .string u2, .int .i64 x2, .slice none 0 0] 35))
    refine F_only 7 (by kernel_rfl) (E_val 7 rfl (some 33) rfl rfl (.slice (some ⟨w7.heap.size, 0, none⟩) 1 1) (w7.alloc (.cells #[.bool t, .int .i64 n, .string s, .int .i64 k2, .int .i64 m2, .string u2, .int .i64 x2, .slice none 0 0] 35)) (by go_simp) ⟨fun _ => HS8.out, ?_⟩)
    simp only [Act.put, List.setIfInBounds_toArray, List.set_cons_succ, List.set_cons_zero]
    have hown8 := HT7.out.grow (gb_alloc (gb_refl w7 none) (.cells #[.bool t, .int .i64 n, .string s, .int .i64 k2, .int .i64 m2, .string u2, .int .i64 x2, .slice none 0 0] 35))
    obtain ⟨cs, hown, hsub, hol, hnb⟩ := hown8
    have HRq : Hid (∀ q, (Value.slice A f.len c).ownBlock = some q → (w.heap.size + 1 ≤ q ∧ q < w1.heap.size) ∧ q ∉ L ++ (blk none ++ [])) := hid fun q hq => by
      have hq1 : q ∈ blk A := blk_own.1 hq
      refine ⟨⟨(HT7.out.own.2.2 q (List.mem_append.2 (.inl hq1))).1, HTL.out q (List.mem_append.2 (.inl hq1))⟩, fun hm => ?_⟩
      simp only [blk, List.append_nil] at hm
      exact hnb q hq1 hm
    have HSub := hid (And.intro hsub hol)
    clear hsub hol hnb
    have hsz7 : w.heap.size + 1 ≤ w7.heap.size := HZ7.out.lt
    refine F_only 8 (by kernel_rfl) (E_append 8 rfl (some 34) rfl rfl (.tmp 27) (.tmp 33) 24 rfl (w.heap.size + 1) 35 i0 entry0 8 96 Tryd.underlying24 HI.out.1 HI.out.2.1 HI.out.2.2.1 HI.out.2.2.2 rfl (by omega) (.slice A f.len c) f.len cs rfl hown
      ⟨w7.heap.size, 0, none⟩ 1 1 [.bool t, .int .i64 n, .string s, .int .i64 k2, .int .i64 m2, .string u2, .int .i64 x2, .slice none 0 0] rfl rfl (news_lit w7 [.bool t, .int .i64 n, .string s, .int .i64 k2, .int .i64 m2, .string u2, .int .i64 x2, .slice none 0 0] 35) (by simp [Value.oneCell']) (by have := f.len_le; unfold maxLen; omega) (by have := f.len_le; omega) (by simp only [World.size_alloc]; omega) ?_)
    intro A3 c3 w8 hown3 _ hg3 hat3
    have hT8 := rw_snoc (f2 := .nil) (A2 := none) (c2 := 0) (L2 := []) hown3 HSub.out.1 ⟨rfl, rfl⟩ (fun _ => rfl) (by simpa [blk] using HSub.out.2) hg3 (fun q hq => (HRq.out q hq).2) hat3
    have HS9 := hid (HS8.out.kept hg3 (fun e => by have := (HRq.out _ e).1.2; omega))
    have HT8 := hid hT8
    have HZ8 := hid ((HZ7.out.alloc (.cells #[.bool t, .int .i64 n, .string s, .int .i64 k2, .int .i64 m2, .string u2, .int .i64 x2, .slice none 0 0] 35)).kept hg3 (fun e => by have := (HRq.out _ e).1.1; omega))
    have HC8 := hid ((HC7.out.alloc (.cells #[.bool t, .int .i64 n, .string s, .int .i64 k2, .int .i64 m2, .string u2, .int .i64 x2, .slice none 0 0] 35)).kept hg3 (fun q hq => by have := (HRq.out q hq).1.1; omega))
    have HG8 := hid (gb_new (gb_alloc HG7.out (.cells #[.bool t, .int .i64 n, .string s, .int .i64 k2, .int .i64 m2, .string u2, .int .i64 x2, .slice none 0 0] 35)) hg3 (fun q hq => by have := (HRq.out q hq).1.1; omega))
    have hA3 : w1.heap.size ∉ blk A3 ++ (L ++ (blk none ++ [])) := fun hm => by
      rcases List.mem_append.1 hm with hm | hm
      · rcases hat3 with h | h
        · have h2 := (blk_own (n := f.len + 1) (c := c3)).2 hm; have := (HRq.out _ (h.symm.trans h2)).1.2; omega
        · have h2 := Option.some.inj (h.symm.trans ((blk_own (n := f.len + 1) (c := c3)).2 hm)); have := HS8.out.lt; omega
      · simp only [blk, List.append_nil] at hm; exact Nat.lt_irrefl _ (HTL.out _ (List.mem_append.2 (.inr hm)))
    have HA3 := hid hA3
    refine ⟨fun _ => HS9.out, ?_⟩
    simp only [Act.put, List.setIfInBounds_toArray, List.set_cons_succ, List.set_cons_zero]
    clear hown hown3 hg3 hat3 hT8 hA3
    refine F_only 9 (by kernel_rfl) (E_val 9 rfl (some 35) rfl rfl (.pointer (some ⟨w1.heap.size, 4, none⟩)) w8 (by go_simp) ⟨fun _ => HS9.out, ?_⟩)
    simp only [Act.put, List.setIfInBounds_toArray, List.set_cons_succ, List.set_cons_zero]
    have fc := HS9.out.cells5.2.2.2.2
    have fz := HS9.out.frozen 4
    have fl := HS9.out.lt
    refine F_only 10 (by kernel_rfl) (E_skip 10 rfl none rfl rfl (w8.setCell ⟨w1.heap.size, 4, none⟩ (.slice A3 (f.len + 1) c3)) (by go_simp) ⟨fun h => absurd h (by omega), ?_⟩)
    refine F_done (by kernel_rfl) ?_ _
    simp only [Act.put, List.setIfInBounds_toArray, List.set_cons_succ, List.set_cons_zero]
    clear fc fz fl
    have s9 : w8.grownBy (w8.setCell ⟨w1.heap.size, 4, none⟩ (.slice A3 (f.len + 1) c3)) (some w1.heap.size) := gb_set (gb_refl _ _) (.inr rfl) _
    have hln : (f.app (.cons t n s k2 m2 u2 x2 .nil .nil)).len = f.len + 1 := by rw [Forest.len_app]; rfl
    have HO9 := hid (show HoldsT (w8.setCell ⟨w1.heap.size, 4, none⟩ (.slice A3 (f.len + 1) c3)) w1.heap.size #[.int .i64 k, .int .i64 m, .string u, .int .i64 x, .slice A3 (f.len + 1) c3] 26 from HS9.out.set 4 _)
    have HT9 := hid (HT8.out.kept s9 (fun q hq hm => by have h : w1.heap.size = q := Option.some.inj hq; subst h; exact HA3.out hm))
    have HZ9 := hid (HZ8.out.kept s9 (by intro e; injection e; omega))
    have HC9 := hid (HC8.out.kept s9 (fun q hq => by have h : w1.heap.size = q := Option.some.inj hq; omega))
    have HG9 := hid (gb_new HG8.out s9 (fun q hq => by have h : w1.heap.size = q := Option.some.inj hq; omega))
    have HSmN := hid (Forest.sm_app HB.out.2 (show Forest.sm (.cons t n s k2 m2 u2 x2 .nil .nil) from ⟨⟨HN6.out.1, HB2.out.2.2.2, by have := HN6.out.2; unfold I64; omega, HB2.out.1, HB2.out.2.1, HB2.out.2.2.1⟩, trivial, trivial⟩))
    have HSz := hid (show (f.app (.cons t n s k2 m2 u2 x2 .nil .nil)).size ≤ 85 by rw [sizeTwo]; simp only [Forest.size]; omega)
    have HLn := hid hln
    generalize hw9 : w8.setCell ⟨w1.heap.size, 4, none⟩ (.slice A3 (f.len + 1) c3) = w9 at HO9 HT9 HZ9 HC9 HG9 ⊢
    clear hw9 s9 hln
    obtain ⟨r0, r1, r2, r3, r4⟩ := HZ9.out.cells5
    have y0 := HZ9.out.frozen 0; have y1 := HZ9.out.frozen 1; have y2 := HZ9.out.frozen 2; have y3 := HZ9.out.frozen 3; have y4 := HZ9.out.frozen 4
    have lz := HZ9.out.lt
    obtain ⟨b0, b1, b2, b3, b4⟩ := HO9.out.cells5
    have lb := HO9.out.lt
    go_wp2_with fail
    refine bodyPost_ret (results_cell_row rfl _ _ _ _ _ (0, 0) _ rfl (HZ9.out.set5 _ _ _ _ _) Tryd.underlying26 rfl Tryd.infoV) rfl ?_
    exact ⟨k, m, u, x, A3, c3, _, _, by rw [HLn.out], HB.out.1, (HT9.out.low (g := w.heap.size) (gb_set5 (gb_refl _ _) (.inr rfl) _ _ _ _ _) (by omega)).mono (by omega), HSz.out, HSmN.out, HC9.out.kept (gb_set5 (gb_refl w9 (some w.heap.size)) (g := w.heap.size) (.inr rfl) _ _ _ _ _) (fun q9 hq => by have h : w.heap.size = q9 := Option.some.inj hq; omega), gb_set5 HG9.out (.inl (Nat.le_refl _)) _ _ _ _ _⟩
  by_cases h4 : z = 4
  · subst h4
    clear hz0 hz1 h0 h1 h2 h3
    go_wp2_with fail
    refine (l1Below_any _ _ _ HC2.out).mono ?_
    rintro e w3 ⟨p, ⟨hp0, hp1⟩, rfl, hc3, hg3⟩
    have HO3 := hid (HO2.out.kept hg3 hne2)
    have HC3 := hid hc3
    have HZ3 := hid (HZ2.out.kept hg3 hne)
    have G3 := hid (gb_trans G2.out hg3)
    clear hc3 hg3
    go_wp2_with fail
    refine (l1Below_any _ _ _ HC3.out).mono ?_
    rintro e w4 ⟨q, ⟨hq0, hq1⟩, rfl, hc4, hg4⟩
    have HO4 := hid (HO3.out.kept hg4 hne2)
    have HC4 := hid hc4
    have HZ4 := hid (HZ3.out.kept hg4 hne)
    have G4 := hid (gb_trans G3.out hg4)
    clear hc4 hg4
    obtain ⟨r0, r1, r2, r3, r4⟩ := HZ4.out.cells5
    have y0 := HZ4.out.frozen 0; have y1 := HZ4.out.frozen 1; have y2 := HZ4.out.frozen 2; have y3 := HZ4.out.frozen 3; have y4 := HZ4.out.frozen 4
    have lz := HZ4.out.lt
    obtain ⟨b0, b1, b2, b3, b4⟩ := HO4.out.cells5
    have lb := HO4.out.lt
    have v0 := HO4.out.frozen 0; have v1 := HO4.out.frozen 1; have v2 := HO4.out.frozen 2; have v3 := HO4.out.frozen 3; have v4 := HO4.out.frozen 4
    have s9 := gb_set5 (gb_refl w4 (some w1.heap.size)) (g := w1.heap.size) (.inr rfl) (.int .i64 (6 + p)) (.int .i64 q) (.string { data := #[] }) (.int .i64 0) (.slice none 0 0)
    have S9 := hid s9
    clear s9
    go_wp2_with ((with_reducible show wpList _ _ _ (⟨_, .store 26 _ _, _, _, _, _⟩ :: _) _ _); revert tok)
    intro tok
    clear b0 b1 b2 b3 b4 lb v0 v1 v2 v3 v4 r0 r1 r2 r3 r4 y0 y1 y2 y3 y4 lz S9
    refine wpList_storeT rfl 26 (.tmp 3) (.tmp 43) rfl w1.heap.size 0 [.int .i64 (6 + p), .int .i64 q, .string { data := #[] }, .int .i64 0, .slice none 0 0] rfl rfl HO4.out (by simp) Tryd.infoV rfl ?_
    have s9 := gb_setCells (r := some w1.heap.size) (.inr rfl) [.int .i64 (6 + p), .int .i64 q, .string { data := #[] }, .int .i64 0, .slice none 0 0] 0 (gb_refl w4 (some w1.heap.size))
    have HO5 := hid (show HoldsT (w4.setCells w1.heap.size 0 [.int .i64 (6 + p), .int .i64 q, .string { data := #[] }, .int .i64 0, .slice none 0 0]) w1.heap.size #[.int .i64 (6 + p), .int .i64 q, .string { data := #[] }, .int .i64 0, .slice none 0 0] 26 by have h := HO4.out.setCells [.int .i64 (6 + p), .int .i64 q, .string { data := #[] }, .int .i64 0, .slice none 0 0] 0; simpa [setArr] using h)
    have HZ5 := hid (HZ4.out.kept s9 (by intro e; injection e; omega))
    have HC5 := hid (HC4.out.kept s9 (fun q9 hq => by have h : w1.heap.size = q9 := Option.some.inj hq; omega))
    have G5 := hid (gb_new G4.out s9 (fun q9 hq => by have h : w1.heap.size = q9 := Option.some.inj hq; omega))
    clear s9
    generalize hw5 : w4.setCells w1.heap.size 0 [.int .i64 (6 + p), .int .i64 q, .string { data := #[] }, .int .i64 0, .slice none 0 0] = w5 at HO5 HZ5 HC5 G5 ⊢
    clear hw5
    simp only [Act.put]
    have HI6 := hid (show I64 (6 + p) ∧ I64 q from ⟨by unfold I64; omega, by unfold I64; omega⟩)
    generalize hp9 : 6 + p = p9 at HO5 HI6 ⊢
    clear hp9 hp0 hp1 hq0 hq1
    obtain ⟨r0, r1, r2, r3, r4⟩ := HZ5.out.cells5
    have y0 := HZ5.out.frozen 0; have y1 := HZ5.out.frozen 1; have y2 := HZ5.out.frozen 2; have y3 := HZ5.out.frozen 3; have y4 := HZ5.out.frozen 4
    have lz := HZ5.out.lt
    obtain ⟨b0, b1, b2, b3, b4⟩ := HO5.out.cells5
    have lb := HO5.out.lt
    go_wp2_with fail
    refine bodyPost_ret (results_cell_row rfl _ _ _ _ _ (0, 0) _ rfl (HZ5.out.set5 _ _ _ _ _) Tryd.underlying26 rfl Tryd.infoV) rfl ?_
    exact ⟨p9, q, { data := #[] }, 0, none, 0, .nil, [], rfl, ⟨HI6.out.1, HI6.out.2, by unfold I64; omega, by decide⟩, ⟨[], World.ownsRow_nil _ _ _ _, ⟨rfl, rfl⟩, OwnL.nil _ _ _, by intro b hb; cases hb⟩, Nat.zero_le _, trivial, HC5.out.kept (gb_set5 (gb_refl w5 (some w.heap.size)) (g := w.heap.size) (.inr rfl) _ _ _ _ _) (fun q9 hq => by have h : w.heap.size = q9 := Option.some.inj hq; omega), gb_set5 G5.out (.inl (Nat.le_refl _)) _ _ _ _ _⟩
  · have e0 : (z == 0) = false := by simpa using h0
    have e1 : (z == 1) = false := by simpa using h1
    have e2 : (z == 2) = false := by simpa using h2
    have e3 : (z == 3) = false := by simpa using h3
    have e4 : (z == 4) = false := by simpa using h4
    clear h0 h1 h2 h3 h4 hz0 hz1
    obtain ⟨r0, r1, r2, r3, r4⟩ := HZ2.out.cells5
    have y0 := HZ2.out.frozen 0; have y1 := HZ2.out.frozen 1; have y2 := HZ2.out.frozen 2; have y3 := HZ2.out.frozen 3; have y4 := HZ2.out.frozen 4
    have lz := HZ2.out.lt
    obtain ⟨b0, b1, b2, b3, b4⟩ := HO2.out.cells5
    have lb := HO2.out.lt
    go_wp2_with fail
    refine bodyPost_ret (results_cell_row rfl _ _ _ _ _ (0, 0) _ rfl (HZ2.out.set5 _ _ _ _ _) Tryd.underlying26 rfl Tryd.infoV) rfl ?_
    exact ⟨k, m, u, x, A, c, f, L, rfl, HB.out.1, (HT2.out.low (g := w.heap.size) (gb_set5 (gb_refl _ _) (.inr rfl) _ _ _ _ _) (by omega)).mono (by omega), by omega, HB.out.2, HC2.out.kept (gb_set5 (gb_refl w2 (some w.heap.size)) (g := w.heap.size) (.inr rfl) _ _ _ _ _) (fun q hq => by have h : w.heap.size = q := Option.some.inj hq; omega), gb_set5 G2.out (.inl (Nat.le_refl _)) _ _ _ _ _⟩
end Go.Proofs.YtmbochhmeojmfaaDoor
