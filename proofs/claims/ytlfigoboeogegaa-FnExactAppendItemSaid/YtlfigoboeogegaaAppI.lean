/- The walk of the program's AppendItem (printed by genappi.py). -/
import Derived.Test.YtlfigoboeogegaaPut
import Derived.Test.YtlfigoboeogegaaAppS
namespace Go.Proofs.Ytlfigoboeogegaa
open Go.RowKit
set_option linter.unusedVariables false
set_option linter.unusedSimpArgs false

theorem inRangeA_t (x a b : Int) (w : World) (h1 : a ≤ x) (h2 : x ≤ b) :
    Calls Try.prog 47 #[.int .i64 x, .int .i64 a, .int .i64 b] w fun e w' => e = .returned (.bool true) ∧ w = w' := by
  have hd1 : decide (a ≤ x) = true := by simpa using h1
  have hd2 : decide (x ≤ b) = true := by simpa using h2
  go_enter Try.func47, Try.ntmps47
  go_wp2
  go_ret
  exact ⟨rfl, rfl⟩
theorem inRangeA_f (x a b : Int) (w : World) (h : x < a ∨ b < x) :
    Calls Try.prog 47 #[.int .i64 x, .int .i64 a, .int .i64 b] w fun e w' => e = .returned (.bool false) ∧ w = w' := by
  by_cases h1 : a ≤ x
  · have hd1 : decide (a ≤ x) = true := by simpa using h1
    have hd2 : decide (x ≤ b) = false := by simp; omega
    go_enter Try.func47, Try.ntmps47
    go_wp2
    go_ret
    exact ⟨rfl, rfl⟩
  · have hd1 : decide (a ≤ x) = false := by simp; omega
    go_enter Try.func47, Try.ntmps47
    go_wp2
    go_ret
    exact ⟨rfl, rfl⟩
theorem intKeyA_any (n : Int) (w : World) : Calls Try.prog 44 #[.int .i64 n] w fun e w' => e = .returned (.agg #[.bool false, .int .i64 n, .string { data := #[] }]) ∧ w.grownBy w' none := by
  go_enter Try.func44, Try.ntmps44
  go_wp2_with fail
  refine bodyPost_ret (results_cell_row rfl _ _ _ _ _ (0, 0) _ rfl (HoldsT.new _ _ _) Try.underlying34 rfl Try.infoK) rfl ?_
  exact ⟨rfl, gb_alloc (gb_refl _ _) _⟩
theorem gb_of_below {w w1 w2 : World} {lo : Nat} (h1 : w.grownBy w1 none) (h2 : Below lo w1 w2) (hl : w.heap.size ≤ lo) : w.grownBy w2 none :=
  ⟨h2.os.trans h1.os, h2.tape.trans h1.tape, h2.output.trans h1.output, Nat.le_trans h1.size h2.size, fun k hk _ => (h2.block k (Nat.lt_of_lt_of_le hk hl)).trans (h1.block k hk (by simp))⟩
theorem HoldsT.belowT {w w1 : World} {g lo : Nat} {cs : Array Value} {ty : TypeId} (h : HoldsT w g cs ty) (hb : Below lo w w1) (hg : g < lo) : HoldsT w1 g cs ty := (hb.block g hg).trans h
set_option maxHeartbeats 4000000 in
theorem implAppend_any (f xf : Forest) (w : World) (k m : Int) (u : ByteArray) (x : Int) (A : Option Addr) (c : Nat) (L : List Nat) (xk xm : Int) (xu : ByteArray) (xx : Int) (XA : Option Addr) (xc : Nat) (XL : List Nat) (b : Bool) (rx : Int) (D : Forest)
    (hb : AppB k x b) (hD : PutIs b k x f false x { data := #[] } xk xm xu xx xf rx D) (hr : RowF w f A 0 f.len L) (hfz : f.size ≤ 1048576) (hx : RowF w xf XA 0 xf.len XL) (hxz : xf.size ≤ 1048576) :
    Calls Try.prog 29 #[.agg #[.int .i64 k, .int .i64 m, .string u, .int .i64 x, .slice A f.len c], .agg #[.int .i64 xk, .int .i64 xm, .string xu, .int .i64 xx, .slice XA xf.len xc]] w (PairPost w k m u rx D b) := by
  have HR := hid hr
  have HXR := hid hx
  have HDD := hid hD
  clear hr hx hD
  have HX := hid (HoldsT.pre1 w #[.int .i64 xk, .int .i64 xm, .string xu, .int .i64 xx, .slice XA xf.len xc] 31 (.cells #[.int .i64 k, .int .i64 m, .string u, .int .i64 x, .slice A f.len c] 31) (.cells #[.int .i64 0, .int .i64 0, .string { data := #[] }, .int .i64 0, .slice none 0 0] 31))
  have HV := hid (((HoldsT.new w #[.int .i64 k, .int .i64 m, .string u, .int .i64 x, .slice A f.len c] 31).alloc (.cells #[.int .i64 xk, .int .i64 xm, .string xu, .int .i64 xx, .slice XA xf.len xc] 31)).alloc (.cells #[.int .i64 0, .int .i64 0, .string { data := #[] }, .int .i64 0, .slice none 0 0] 31))
  have HZ := hid (HoldsT.pre2 w #[.int .i64 0, .int .i64 0, .string { data := #[] }, .int .i64 0, .slice none 0 0] 31 (.cells #[.int .i64 k, .int .i64 m, .string u, .int .i64 x, .slice A f.len c] 31) (.cells #[.int .i64 xk, .int .i64 xm, .string xu, .int .i64 xx, .slice XA xf.len xc] 31))
  have G0 := hid (gb_alloc (gb_alloc (gb_alloc (gb_refl w none) (.cells #[.int .i64 k, .int .i64 m, .string u, .int .i64 x, .slice A f.len c] 31)) (.cells #[.int .i64 xk, .int .i64 xm, .string xu, .int .i64 xx, .slice XA xf.len xc] 31)) (.cells #[.int .i64 0, .int .i64 0, .string { data := #[] }, .int .i64 0, .slice none 0 0] 31))
  have key : ∀ (Q : Prop), (k = 4 ∧ 0 ≤ x ∧ x ≤ 1000000000 ∧ b = true → Q) → (k ≠ 4 ∧ b = false → Q) → (k = 4 ∧ (x < 0 ∨ 1000000000 < x) ∧ b = false → Q) → Q := fun Q h1 h2 h3 => by
    rcases hb with ⟨a1, a2, a3, a4⟩ | ⟨a1, a2 | ⟨a2, a3⟩⟩
    · exact h1 ⟨a2, a3, a4, a1⟩
    · exact h2 ⟨a2, a1⟩
    · exact h3 ⟨a2, a3, a1⟩
  apply key
  all_goals clear key hb
  · rintro ⟨rfl, hx1, hx2, rfl⟩
    rcases HDD.out with ⟨_, _, h1, h2⟩ | ⟨h1, _⟩
    · subst h1 h2
      have HP := hid (And.intro hx1 hx2)
      clear HDD
      go_enter Try.func29, Try.ntmps29
      go_wp2_with fail
      refine (implCopy_any f _ _ m u x A c L (HR.out.grow G0.out) (by omega)).mono ?_
      rintro e w1 ⟨A1, c1, L1, rfl, _, hT0, hg⟩
      have hT : Rw w1 61 (w.heap.size + 3) f A1 c1 L1 := hT0.mono (by simp)
      have HTL := hid (show ∀ b ∈ blk A1 ++ L1, b < w1.heap.size from hT.own.2.lt)
      have HV1 := hid ((HV.out.grow hg).alloc (.cells #[.int .i64 4, .int .i64 m, .string u, .int .i64 x, .slice A1 f.len c1] 31))
      have HX1 := hid ((HX.out.grow hg).alloc (.cells #[.int .i64 4, .int .i64 m, .string u, .int .i64 x, .slice A1 f.len c1] 31))
      have HZ1 := hid ((HZ.out.grow hg).alloc (.cells #[.int .i64 4, .int .i64 m, .string u, .int .i64 x, .slice A1 f.len c1] 31))
      have HO1 := hid (HoldsT.new w1 #[.int .i64 4, .int .i64 m, .string u, .int .i64 x, .slice A1 f.len c1] 31)
      have HT1 := hid (hT.grow (gb_alloc (gb_refl w1 none) (.cells #[.int .i64 4, .int .i64 m, .string u, .int .i64 x, .slice A1 f.len c1] 31)))
      have G1 := hid (gb_alloc (gb_trans G0.out hg) (.cells #[.int .i64 4, .int .i64 m, .string u, .int .i64 x, .slice A1 f.len c1] 31))
      have hb1 : w.heap.size + 3 ≤ w1.heap.size := by have := hg.size; simpa using this
      have HB1 := hid hb1
      obtain ⟨a0, a1, a2, a3, a4⟩ := HV1.out.cells5
      have la := HV1.out.lt
      clear hT hT0 hg hb1
      go_wp2_with (go_at_call 47; refine (inRangeA_t _ _ _ _ hx1 hx2).mono ?_; rintro e w' ⟨rfl, rfl⟩)
      clear a0 a1 a2 a3 a4 la
      refine wp_region_F 5 6 rfl (by kernel_rfl) (fun wd w' => wd.grownBy w' none) fun wd gd => ?_
      have VD := hid (HV1.out.grow gd)
      have XD := hid (HX1.out.grow gd)
      have ZD := hid (HZ1.out.grow gd)
      have OD := hid (HO1.out.grow gd)
      have TD := hid (HT1.out.grow gd)
      have GD := hid (gb_trans G1.out gd)
      have hwd := gd.size
      have HWD := hid hwd
      have g0 : wd.grownBy wd none := gb_refl _ _
      clear gd hwd
      refine F_take 0 rfl (some 19) rfl (by kernel_rfl) (by kernel_rfl) (by kernel_rfl) (by kernel_rfl) (by kernel_rfl) (fun _ _ _ _ h => h) rfl (.pointer (some ⟨w.heap.size, 3, none⟩)) (fun w' hw => by go_simp) g0 ?_
      simp only [Act.put, List.setIfInBounds_toArray, List.set_cons_succ, List.set_cons_zero]
      refine F_take 1 rfl (some 20) rfl (by kernel_rfl) (by kernel_rfl) (by kernel_rfl) (by kernel_rfl) (by kernel_rfl) (fun _ _ _ _ h => h) rfl (.int .i64 x) (fun w' hw => by have fc := (VD.out.grow hw).cells5.2.2.2.1; go_simp) g0 ?_
      simp only [Act.put, List.setIfInBounds_toArray, List.set_cons_succ, List.set_cons_zero]
      refine F_load 3 rfl (some 22) rfl (by kernel_rfl) (by kernel_rfl) (by kernel_rfl) (by kernel_rfl) (by kernel_rfl) (fun _ _ _ _ h => h) rfl 31 (.tmp 3) rfl (w.heap.size + 1) 0 rfl [.int .i64 xk, .int .i64 xm, .string xu, .int .i64 xx, .slice XA xf.len xc] (fun w' hw => (XD.out.grow hw).rangeV) Try.underlying31 rfl Try.infoV g0 ?_
      simp only [Act.put, List.setIfInBounds_toArray, List.set_cons_succ, List.set_cons_zero]
      refine F_only 2 (by kernel_rfl) (E_call 2 rfl (some 21) rfl rfl 44 _ (run_call1 _ (by kernel_rfl) (.tmp 20) _ (.int .i64 x) rfl rfl) (intKeyA_any x wd) ?_)
      rintro e w3 ⟨rfl, hg3⟩
      refine ⟨_, rfl, fun _ => hg3, ?_⟩
      simp only [Act.put, List.setIfInBounds_toArray, List.set_cons_succ, List.set_cons_zero]
      refine F_only 4 (by kernel_rfl) (E_call 4 rfl (some 23) rfl rfl 34 _ (run_call1 _ (by kernel_rfl) (.tmp 22) _ (.agg #[.int .i64 xk, .int .i64 xm, .string xu, .int .i64 xx, .slice XA xf.len xc]) rfl rfl) (implCopy_any xf w3 xk xm xu xx XA xc XL (HXR.out.grow (gb_trans GD.out hg3)) (by omega)) ?_)
      rintro e w4 ⟨A4, c4, L4, rfl, h40, hT4, hg4⟩
      have G34 := gb_trans hg3 hg4
      refine ⟨_, rfl, fun _ => G34, ?_⟩
      simp only [Act.put, List.setIfInBounds_toArray, List.set_cons_succ, List.set_cons_zero]
      have hO4 := OD.out.grow G34
      have hT4b : Rw w4 61 (w.heap.size + 3) f A1 c1 L1 := TD.out.grow G34
      have hlt : ∀ b ∈ blk A1 ++ L1, b < w1.heap.size := HTL.out
      have h3s : w1.heap.size < w3.heap.size := Nat.lt_of_lt_of_le OD.out.lt hg3.size
      have hX4 : OwnT w4 61 (w.heap.size + 3) xf A4 L4 := hT4.own.mono (by have := HB1.out; omega)
      have hxlo : ∀ b ∈ blk A4 ++ L4, w3.heap.size ≤ b := fun b hb => (hT4.own.2.2 b hb).1
      refine F_only 5 (by kernel_rfl) (E_call 5 rfl (some 24) rfl rfl 48 _ (run_call3 _ (by kernel_rfl) (.tmp 6) (.tmp 21) (.tmp 23) _ (.pointer (some ⟨w1.heap.size, 0, none⟩)) (.agg #[.bool false, .int .i64 x, .string { data := #[] }]) (.agg #[.int .i64 xk, .int .i64 xm, .string xu, .int .i64 xx, .slice A4 xf.len c4]) rfl rfl rfl rfl)
        (implPut_any f xf false x _ ⟨by have := HP.out; omega, by have := HP.out; omega⟩ w4 m u x A1 c1 L1 xk xm xu xx A4 c4 L4 (w.heap.size + 3) w1.heap.size hO4 HB1.out hT4b (fun hm => Nat.lt_irrefl _ (hlt _ hm)) hX4 h40 (fun b hb => ⟨fun hm => by have := hlt b hm; have := hxlo b hb; omega, fun e => by have := hxlo b hb; omega⟩) hfz) ?_)
      rintro e w5 ⟨A5, c5, L5, rfl, hV5, hT5, hb5⟩
      refine ⟨_, rfl, fun h => absurd h (by omega), ?_⟩
      refine F_done (by kernel_rfl) ?_ _
      simp only [Act.put, List.setIfInBounds_toArray, List.set_cons_succ, List.set_cons_zero]
      have HZ5 := hid ((ZD.out.grow G34).belowT hb5 (by omega))
      have HV5 := hid hV5
      have HT5 := hid hT5
      have G5 := hid (gb_of_below (gb_trans GD.out G34) hb5 (by omega))
      clear hO4 hT4b hlt h3s hX4 hxlo hV5 hT5 hb5 G34 hg3 hg4 hT4 h40 g0
      obtain ⟨b0, b1, b2, b3, b4⟩ := HV5.out.cells5
      obtain ⟨r0, r1, r2, r3, r4⟩ := HZ5.out.cells5
      have y0 := HZ5.out.frozen 0; have y1 := HZ5.out.frozen 1; have y2 := HZ5.out.frozen 2; have y3 := HZ5.out.frozen 3; have y4 := HZ5.out.frozen 4
      have lz := HZ5.out.lt
      have lx := HV5.out.lt
      go_wp2_with fail
      refine bodyPost_ret (results_cell_row2 rfl _ _ _ _ _ (0, 0) _ rfl (.bool true) rfl (HZ5.out.set5 _ _ _ _ _) Try.underlying31 rfl Try.infoV) rfl ?_
      exact ⟨A5, c5, L5, rfl, HT5.out.nil0, (HT5.out.low (g := w.heap.size + 1 + 1) (gb_set5 (gb_refl _ _) (.inr rfl) _ _ _ _ _) (by omega)).mono (lo' := w.heap.size) (by omega), gb_set5 G5.out (.inl (Nat.le_succ_of_le (Nat.le_succ _))) _ _ _ _ _⟩
    · cases h1
  · rintro ⟨hk4, rfl⟩
    rcases HDD.out with ⟨h1, _⟩ | ⟨_, h1, h2⟩
    · cases h1
    · subst h1 h2
      clear HDD
      have hk5 : (k != 4) = true := by simpa using hk4
      have hk6 : (k == 4) = false := by simpa using hk4
      clear hk4
      go_enter Try.func29, Try.ntmps29
      go_wp2_with fail
      refine (implCopy_any D _ _ m u rx A c L (HR.out.grow G0.out) (by omega)).mono ?_
      rintro e w1 ⟨A1, c1, L1, rfl, _, hT0, hg⟩
      have hT : Rw w1 61 (w.heap.size + 3) D A1 c1 L1 := hT0.mono (by simp)
      have HTL := hid (show ∀ b ∈ blk A1 ++ L1, b < w1.heap.size from hT.own.2.lt)
      have HV1 := hid ((HV.out.grow hg).alloc (.cells #[.int .i64 k, .int .i64 m, .string u, .int .i64 rx, .slice A1 D.len c1] 31))
      have HX1 := hid ((HX.out.grow hg).alloc (.cells #[.int .i64 k, .int .i64 m, .string u, .int .i64 rx, .slice A1 D.len c1] 31))
      have HZ1 := hid ((HZ.out.grow hg).alloc (.cells #[.int .i64 k, .int .i64 m, .string u, .int .i64 rx, .slice A1 D.len c1] 31))
      have HO1 := hid (HoldsT.new w1 #[.int .i64 k, .int .i64 m, .string u, .int .i64 rx, .slice A1 D.len c1] 31)
      have HT1 := hid (hT.grow (gb_alloc (gb_refl w1 none) (.cells #[.int .i64 k, .int .i64 m, .string u, .int .i64 rx, .slice A1 D.len c1] 31)))
      have G1 := hid (gb_alloc (gb_trans G0.out hg) (.cells #[.int .i64 k, .int .i64 m, .string u, .int .i64 rx, .slice A1 D.len c1] 31))
      have hb1 : w.heap.size + 3 ≤ w1.heap.size := by have := hg.size; simpa using this
      have HB1 := hid hb1
      obtain ⟨a0, a1, a2, a3, a4⟩ := HV1.out.cells5
      have la := HV1.out.lt
      clear hT hT0 hg hb1
      obtain ⟨b0, b1, b2, b3, b4⟩ := HO1.out.cells5
      obtain ⟨r0, r1, r2, r3, r4⟩ := HZ1.out.cells5
      have y0 := HZ1.out.frozen 0; have y1 := HZ1.out.frozen 1; have y2 := HZ1.out.frozen 2; have y3 := HZ1.out.frozen 3; have y4 := HZ1.out.frozen 4
      have lz := HZ1.out.lt
      have lx := HO1.out.lt
      go_wp2_with fail
      refine bodyPost_ret (results_cell_row2 rfl _ _ _ _ _ (0, 0) _ rfl (.bool false) rfl (HZ1.out.set5 _ _ _ _ _) Try.underlying31 rfl Try.infoV) rfl ?_
      exact ⟨A1, c1, L1, rfl, HT1.out.nil0, (HT1.out.low (g := w.heap.size + 1 + 1) (gb_set5 (gb_refl _ _) (.inr rfl) _ _ _ _ _) (by omega)).mono (lo' := w.heap.size) (by omega), gb_set5 G1.out (.inl (Nat.le_succ_of_le (Nat.le_succ _))) _ _ _ _ _⟩
  · rintro ⟨rfl, hx1, rfl⟩
    rcases HDD.out with ⟨h1, _⟩ | ⟨_, h1, h2⟩
    · cases h1
    · subst h1 h2
      clear HDD
      go_enter Try.func29, Try.ntmps29
      go_wp2_with fail
      refine (implCopy_any D _ _ m u rx A c L (HR.out.grow G0.out) (by omega)).mono ?_
      rintro e w1 ⟨A1, c1, L1, rfl, _, hT0, hg⟩
      have hT : Rw w1 61 (w.heap.size + 3) D A1 c1 L1 := hT0.mono (by simp)
      have HTL := hid (show ∀ b ∈ blk A1 ++ L1, b < w1.heap.size from hT.own.2.lt)
      have HV1 := hid ((HV.out.grow hg).alloc (.cells #[.int .i64 4, .int .i64 m, .string u, .int .i64 rx, .slice A1 D.len c1] 31))
      have HX1 := hid ((HX.out.grow hg).alloc (.cells #[.int .i64 4, .int .i64 m, .string u, .int .i64 rx, .slice A1 D.len c1] 31))
      have HZ1 := hid ((HZ.out.grow hg).alloc (.cells #[.int .i64 4, .int .i64 m, .string u, .int .i64 rx, .slice A1 D.len c1] 31))
      have HO1 := hid (HoldsT.new w1 #[.int .i64 4, .int .i64 m, .string u, .int .i64 rx, .slice A1 D.len c1] 31)
      have HT1 := hid (hT.grow (gb_alloc (gb_refl w1 none) (.cells #[.int .i64 4, .int .i64 m, .string u, .int .i64 rx, .slice A1 D.len c1] 31)))
      have G1 := hid (gb_alloc (gb_trans G0.out hg) (.cells #[.int .i64 4, .int .i64 m, .string u, .int .i64 rx, .slice A1 D.len c1] 31))
      have hb1 : w.heap.size + 3 ≤ w1.heap.size := by have := hg.size; simpa using this
      have HB1 := hid hb1
      obtain ⟨a0, a1, a2, a3, a4⟩ := HV1.out.cells5
      have la := HV1.out.lt
      clear hT hT0 hg hb1
      obtain ⟨b0, b1, b2, b3, b4⟩ := HO1.out.cells5
      obtain ⟨r0, r1, r2, r3, r4⟩ := HZ1.out.cells5
      have y0 := HZ1.out.frozen 0; have y1 := HZ1.out.frozen 1; have y2 := HZ1.out.frozen 2; have y3 := HZ1.out.frozen 3; have y4 := HZ1.out.frozen 4
      have lz := HZ1.out.lt
      have lx := HO1.out.lt
      go_wp2_with (go_at_call 47; refine (inRangeA_f _ _ _ _ hx1).mono ?_; rintro e w' ⟨rfl, rfl⟩)
      refine bodyPost_ret (results_cell_row2 rfl _ _ _ _ _ (0, 0) _ rfl (.bool false) rfl (HZ1.out.set5 _ _ _ _ _) Try.underlying31 rfl Try.infoV) rfl ?_
      exact ⟨A1, c1, L1, rfl, HT1.out.nil0, (HT1.out.low (g := w.heap.size + 1 + 1) (gb_set5 (gb_refl _ _) (.inr rfl) _ _ _ _ _) (by omega)).mono (lo' := w.heap.size) (by omega), gb_set5 G1.out (.inl (Nat.le_succ_of_le (Nat.le_succ _))) _ _ _ _ _⟩
end Go.Proofs.Ytlfigoboeogegaa
