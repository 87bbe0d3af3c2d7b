/- The law FnValues (printed by genlval.py). -/
import Derived.Test.YtmbochhmeojmfaaDoorIsV
import Derived.Test.YtmbochhmeojmfaaDoorNest
import Derived.Test.YtmbochhmeojmfaaDoorPlain
import Derived.Test.YtmbochhmeojmfaaDoorMake
import Derived.Test.YtmbochhmeojmfaaDoorDraw9
namespace Go.Proofs.YtmbochhmeojmfaaDoor
set_option maxRecDepth 20000
open Go.RowKit
set_option linter.unusedVariables false
set_option linter.unusedSimpArgs false

set_option maxRecDepth 100000 in
set_option maxHeartbeats 16000000 in
theorem values_walk (a0 : Option Addr) (len0 cap0 : Nat) (z0 : List Int) (w : World) (w0 : IsRow .u8 w a0 len0 cap0 z0) (hL : LaidW w) :
    Calls Tryd.prog 3 #[.slice a0 len0 cap0] w fun e w' => e = .returned (.bool true) ∧ Below w.heap.size w w' := by
  have hlen : len0 ≤ 9223372036854775807 := by
      rcases w0 with ⟨_, rfl, _⟩ | ⟨_, _, h1, h2, _⟩
      · omega
      · unfold maxLen at h2; omega
  obtain ⟨hr, hl⟩ := Rd.isRow w0
  clear w0
  have HL := hid hL
  clear hL
  by_cases h : len0 ≤ 1048576
  · have HR := hid hr
    have HL0 := hid hl
    clear hr hl
    go_enter Tryd.func3, Tryd.ntmps3
    go_wp2_with (go_at_call 7; go_in)
    go_wp2_with fail
    refine (drawIsValue_any _ _ _ _ _ HR.out HL0.out (by omega)).mono ?_
    rintro e w1 ⟨k, m, u, x, A, c, f, Lf, rfl, hrow, hfs, hsm, hz, hg1⟩
    have hfz : f.sz ≤ 1048576 := by have := f.sm_sz hsm; omega
    have hfs2 : f.size ≤ 1048576 := by omega
    have HZ := hid hz
    have HOK := hid (f.sm_ok hsm hfs2)
    have HFS := hid (And.intro hfs (And.intro hfz hfs2))
    have HV1 := hid (HoldsT.new w1 #[.int .i64 k, .int .i64 m, .string u, .int .i64 x, .slice A f.len c] 26)
    have HR1 := hid (hrow.grow (gb_alloc (gb_refl w1 none) (.cells #[.int .i64 k, .int .i64 m, .string u, .int .i64 x, .slice A f.len c] 26)))
    have G1 := hid (gb_alloc hg1 (.cells #[.int .i64 k, .int .i64 m, .string u, .int .i64 x, .slice A f.len c] 26))
    obtain ⟨W0, hW0⟩ : ∃ W0, valWt k f = W0 := ⟨_, rfl⟩
    obtain ⟨N0, hN0⟩ : ∃ N0, valNest k f = N0 := ⟨_, rfl⟩
    have hWb : W0 ≤ 301 := by rw [← hW0]; unfold valWt; have := f.wt_le; split <;> omega
    have hNW : N0 ≤ W0 := by rw [← hW0, ← hN0]; unfold valWt valNest; have := f.nest_le; split <;> omega
    have HW := hid (And.intro hW0 (And.intro hN0 (And.intro hWb hNW)))
    clear hrow hsm hg1 hz hW0 hN0 hfs hfz hfs2 h hlen hWb hNW
    go_wp2_with fail
    refine wp_region_F 21 21 rfl (by kernel_rfl) (fun wd w' => wd.grownBy w' none) fun wd gd => ?_
    have VD := hid (HV1.out.grow gd)
    have RD := hid (HR1.out.grow gd)
    have GD := hid (gb_trans G1.out gd)
    have GS := hid (gb_refl wd none)
    clear gd
    refine G_load 0 rfl (some 9) rfl (by kernel_rfl) (by kernel_rfl) (by kernel_rfl) (by kernel_rfl) (by kernel_rfl) (fun _ _ _ _ h => h) rfl 26 (.tmp 3) rfl (w1.heap.size) 0 rfl [.int .i64 k, .int .i64 m, .string u, .int .i64 x, .slice A f.len c] (fun w' hw => (VD.out.grow hw).rangeV) Tryd.underlying26 rfl Tryd.infoV GS.out ?_
    try simp only [Act.put, List.setIfInBounds_toArray, List.set_cons_succ, List.set_cons_zero]
    refine F_only 1 (by kernel_rfl) (G_call 1 rfl (some 10) rfl rfl 9 _ (run_call1 _ (by kernel_rfl) (.tmp 9) _ (.agg #[.int .i64 k, .int .i64 m, .string u, .int .i64 x, .slice A f.len c]) rfl rfl) (implIsValue_any f wd k m u x A c Lf (RD.out.grow GS.out) HFS.out.2.2 HFS.out.2.1 HOK.out (HL.out.grow (gb_trans GD.out GS.out))) ?_)
    rintro e wn1 ⟨bv, rfl, hbv, hg⟩
    replace GS := hid (gb_trans GS.out hg)
    refine ⟨_, rfl, fun _ => GS.out, ?_⟩
    clear hg
    try simp only [Act.put, List.setIfInBounds_toArray, List.set_cons_succ, List.set_cons_zero]
    have HBV := hid hbv
    clear hbv
    cases bv
    · skip
      refine G_take 2 rfl (some 11) rfl (by kernel_rfl) (by kernel_rfl) (by kernel_rfl) (by kernel_rfl) (by kernel_rfl) (fun _ _ _ _ h => h) rfl (.bool false) (fun w' hw => run_mov (.tmp 10) rfl rfl) GS.out ?_
      try simp only [Act.put, List.setIfInBounds_toArray, List.set_cons_succ, List.set_cons_zero]
      refine G_skip 3 rfl (some 12) rfl (by kernel_rfl) (by kernel_rfl) (by kernel_rfl) (by kernel_rfl) (by kernel_rfl) (fun _ _ _ _ h => h) rfl GS.out ?_
      try simp only [Act.put, List.setIfInBounds_toArray, List.set_cons_succ, List.set_cons_zero]
      refine G_skip 4 rfl (some 13) rfl (by kernel_rfl) (by kernel_rfl) (by kernel_rfl) (by kernel_rfl) (by kernel_rfl) (fun _ _ _ _ h => h) rfl GS.out ?_
      try simp only [Act.put, List.setIfInBounds_toArray, List.set_cons_succ, List.set_cons_zero]
      refine G_skip 5 rfl (some 14) rfl (by kernel_rfl) (by kernel_rfl) (by kernel_rfl) (by kernel_rfl) (by kernel_rfl) (fun _ _ _ _ h => h) rfl GS.out ?_
      try simp only [Act.put, List.setIfInBounds_toArray, List.set_cons_succ, List.set_cons_zero]
      refine G_skip 6 rfl (some 15) rfl (by kernel_rfl) (by kernel_rfl) (by kernel_rfl) (by kernel_rfl) (by kernel_rfl) (fun _ _ _ _ h => h) rfl GS.out ?_
      try simp only [Act.put, List.setIfInBounds_toArray, List.set_cons_succ, List.set_cons_zero]
      refine G_skip 7 rfl (some 16) rfl (by kernel_rfl) (by kernel_rfl) (by kernel_rfl) (by kernel_rfl) (by kernel_rfl) (fun _ _ _ _ h => h) rfl GS.out ?_
      try simp only [Act.put, List.setIfInBounds_toArray, List.set_cons_succ, List.set_cons_zero]
      refine G_skip 8 rfl (some 17) rfl (by kernel_rfl) (by kernel_rfl) (by kernel_rfl) (by kernel_rfl) (by kernel_rfl) (fun _ _ _ _ h => h) rfl GS.out ?_
      try simp only [Act.put, List.setIfInBounds_toArray, List.set_cons_succ, List.set_cons_zero]
      refine G_skip 9 rfl (some 18) rfl (by kernel_rfl) (by kernel_rfl) (by kernel_rfl) (by kernel_rfl) (by kernel_rfl) (fun _ _ _ _ h => h) rfl GS.out ?_
      try simp only [Act.put, List.setIfInBounds_toArray, List.set_cons_succ, List.set_cons_zero]
      refine G_skip 10 rfl (some 19) rfl (by kernel_rfl) (by kernel_rfl) (by kernel_rfl) (by kernel_rfl) (by kernel_rfl) (fun _ _ _ _ h => h) rfl GS.out ?_
      try simp only [Act.put, List.setIfInBounds_toArray, List.set_cons_succ, List.set_cons_zero]
      refine G_skip 11 rfl (some 20) rfl (by kernel_rfl) (by kernel_rfl) (by kernel_rfl) (by kernel_rfl) (by kernel_rfl) (fun _ _ _ _ h => h) rfl GS.out ?_
      try simp only [Act.put, List.setIfInBounds_toArray, List.set_cons_succ, List.set_cons_zero]
      refine G_skip 12 rfl (some 21) rfl (by kernel_rfl) (by kernel_rfl) (by kernel_rfl) (by kernel_rfl) (by kernel_rfl) (fun _ _ _ _ h => h) rfl GS.out ?_
      try simp only [Act.put, List.setIfInBounds_toArray, List.set_cons_succ, List.set_cons_zero]
      refine G_skip 13 rfl (some 22) rfl (by kernel_rfl) (by kernel_rfl) (by kernel_rfl) (by kernel_rfl) (by kernel_rfl) (fun _ _ _ _ h => h) rfl GS.out ?_
      try simp only [Act.put, List.setIfInBounds_toArray, List.set_cons_succ, List.set_cons_zero]
      refine G_skip 14 rfl (some 23) rfl (by kernel_rfl) (by kernel_rfl) (by kernel_rfl) (by kernel_rfl) (by kernel_rfl) (fun _ _ _ _ h => h) rfl GS.out ?_
      try simp only [Act.put, List.setIfInBounds_toArray, List.set_cons_succ, List.set_cons_zero]
      refine G_skip 15 rfl (some 24) rfl (by kernel_rfl) (by kernel_rfl) (by kernel_rfl) (by kernel_rfl) (by kernel_rfl) (fun _ _ _ _ h => h) rfl GS.out ?_
      try simp only [Act.put, List.setIfInBounds_toArray, List.set_cons_succ, List.set_cons_zero]
      refine G_skip 16 rfl (some 25) rfl (by kernel_rfl) (by kernel_rfl) (by kernel_rfl) (by kernel_rfl) (by kernel_rfl) (fun _ _ _ _ h => h) rfl GS.out ?_
      try simp only [Act.put, List.setIfInBounds_toArray, List.set_cons_succ, List.set_cons_zero]
      refine G_skip 17 rfl (some 26) rfl (by kernel_rfl) (by kernel_rfl) (by kernel_rfl) (by kernel_rfl) (by kernel_rfl) (fun _ _ _ _ h => h) rfl GS.out ?_
      try simp only [Act.put, List.setIfInBounds_toArray, List.set_cons_succ, List.set_cons_zero]
      refine G_skip 18 rfl (some 27) rfl (by kernel_rfl) (by kernel_rfl) (by kernel_rfl) (by kernel_rfl) (by kernel_rfl) (fun _ _ _ _ h => h) rfl GS.out ?_
      try simp only [Act.put, List.setIfInBounds_toArray, List.set_cons_succ, List.set_cons_zero]
      refine G_skip 19 rfl (some 28) rfl (by kernel_rfl) (by kernel_rfl) (by kernel_rfl) (by kernel_rfl) (by kernel_rfl) (fun _ _ _ _ h => h) rfl GS.out ?_
      try simp only [Act.put, List.setIfInBounds_toArray, List.set_cons_succ, List.set_cons_zero]
      refine G_take 20 rfl (some 29) rfl (by kernel_rfl) (by kernel_rfl) (by kernel_rfl) (by kernel_rfl) (by kernel_rfl) (fun _ _ _ _ h => h) rfl (.bool false) (fun w' hw => by go_simp) GS.out ?_
      try simp only [Act.put, List.setIfInBounds_toArray, List.set_cons_succ, List.set_cons_zero]
      refine F_done (by kernel_rfl) ?_ _
      try simp only [Act.put, List.setIfInBounds_toArray, List.set_cons_succ, List.set_cons_zero]
      have HV2 := hid (VD.out.grow GS.out)
      have HR2 := hid (RD.out.grow GS.out)
      have G2 := hid (gb_trans GD.out GS.out)
      clear GS VD RD GD HBV
      go_wp2_with fail
      refine (implArrayValue_any _).mono ?_
      rintro e w5 ⟨rfl, hg⟩
      have HV5 := hid (HV2.out.grow hg)
      have HR5 := hid (HR2.out.grow hg)
      have G5 := hid (gb_trans G2.out hg)
      have hlt5 : w1.heap.size < w5.heap.size := HV5.out.lt
      have HLT := hid hlt5
      clear hg HV2 HR2 G2 hlt5
      go_wp2_with fail
      refine wp_region_F 7 8 rfl (by kernel_rfl) (fun wd w' => wd.grownBy w' none) fun wd gd => ?_
      have G5d := hid (show w5.grownBy wd none from gb_trans (gb_alloc (gb_refl w5 none) _) gd)
      have WD := hid (show HoldsT wd w5.heap.size #[.int .i64 4, .int .i64 0, .string { data := #[] }, .int .i64 2, .slice none 0 0] 26 from (HoldsT.new w5 #[.int .i64 4, .int .i64 0, .string { data := #[] }, .int .i64 2, .slice none 0 0] 26).grow gd)
      have VD := hid (HV5.out.grow G5d.out)
      have RD := hid (HR5.out.grow G5d.out)
      have GD := hid (gb_trans G5.out G5d.out)
      have GS := hid (gb_refl wd none)
      have HR5b := HR5
      clear gd HV5 HR5
      refine G_load 0 rfl (some 32) rfl (by kernel_rfl) (by kernel_rfl) (by kernel_rfl) (by kernel_rfl) (by kernel_rfl) (fun _ _ _ _ h => h) rfl 26 (.tmp 3) rfl (w1.heap.size) 0 rfl [.int .i64 k, .int .i64 m, .string u, .int .i64 x, .slice A f.len c] (fun w' hw => (VD.out.grow hw).rangeV) Tryd.underlying26 rfl Tryd.infoV GS.out ?_
      try simp only [Act.put, List.setIfInBounds_toArray, List.set_cons_succ, List.set_cons_zero]
      refine G_take 1 rfl (some 33) rfl (by kernel_rfl) (by kernel_rfl) (by kernel_rfl) (by kernel_rfl) (by kernel_rfl) (fun _ _ _ _ h => h) rfl (.agg #[.bool false, .int .i64 0, .string { data := #[] }, .int .i64 k, .int .i64 m, .string u, .int .i64 x, .slice A f.len c]) (fun w' hw => by go_simp) GS.out ?_
      try simp only [Act.put, List.setIfInBounds_toArray, List.set_cons_succ, List.set_cons_zero]
      refine G_take 2 rfl (some 34) rfl (by kernel_rfl) (by kernel_rfl) (by kernel_rfl) (by kernel_rfl) (by kernel_rfl) (fun _ _ _ _ h => h) rfl (.agg #[.bool false, .int .i64 1, .string { data := #[] }]) (fun w' hw => by go_simp) GS.out ?_
      try simp only [Act.put, List.setIfInBounds_toArray, List.set_cons_succ, List.set_cons_zero]
      refine F_only 3 (by kernel_rfl) (G_call 3 rfl (some 35) rfl rfl 14 _ (run_call1 _ (by kernel_rfl) (.const (.string { data := #[116] })) _ (.string { data := #[116] }) rfl rfl) (implTextValue_any _ wd) ?_)
      rintro e wn2 ⟨rfl, hg⟩
      replace GS := hid (gb_trans GS.out hg)
      refine ⟨_, rfl, fun _ => GS.out, ?_⟩
      clear hg
      try simp only [Act.put, List.setIfInBounds_toArray, List.set_cons_succ, List.set_cons_zero]
      refine F_only 4 (by kernel_rfl) (E_val 4 rfl (some 36) rfl rfl (.agg #[.bool false, .int .i64 1, .string { data := #[] }, .int .i64 3, .int .i64 0, .string { data := #[116] }, .int .i64 0, .slice none 0 0]) wn2 (by go_simp) ⟨fun _ => GS.out, ?_⟩)
      try simp only [Act.put, List.setIfInBounds_toArray, List.set_cons_succ, List.set_cons_zero]
      refine F_only 5 (by kernel_rfl) (E_val 5 rfl (some 37) rfl rfl (.slice (some ⟨wn2.heap.size, 0, none⟩) 2 2) (wn2.alloc (.cells #[.bool false, .int .i64 0, .string { data := #[] }, .int .i64 k, .int .i64 m, .string u, .int .i64 x, .slice A f.len c, .bool false, .int .i64 1, .string { data := #[] }, .int .i64 3, .int .i64 0, .string { data := #[116] }, .int .i64 0, .slice none 0 0] 35)) (by go_simp) ⟨fun _ => gb_alloc GS.out _, ?_⟩)
      try simp only [Act.put, List.setIfInBounds_toArray, List.set_cons_succ, List.set_cons_zero]
      have HS5 := hid (HoldsT.new wn2 #[.bool false, .int .i64 0, .string { data := #[] }, .int .i64 k, .int .i64 m, .string u, .int .i64 x, .slice A f.len c, .bool false, .int .i64 1, .string { data := #[] }, .int .i64 3, .int .i64 0, .string { data := #[116] }, .int .i64 0, .slice none 0 0] 35)
      have hsz5 : w5.heap.size < wn2.heap.size := (WD.out.grow GS.out).lt
      have HSZ5 := hid hsz5
      have WS := hid ((WD.out.grow GS.out).alloc (.cells #[.bool false, .int .i64 0, .string { data := #[] }, .int .i64 k, .int .i64 m, .string u, .int .i64 x, .slice A f.len c, .bool false, .int .i64 1, .string { data := #[] }, .int .i64 3, .int .i64 0, .string { data := #[116] }, .int .i64 0, .slice none 0 0] 35)); have VS := hid ((VD.out.grow GS.out).alloc (.cells #[.bool false, .int .i64 0, .string { data := #[] }, .int .i64 k, .int .i64 m, .string u, .int .i64 x, .slice A f.len c, .bool false, .int .i64 1, .string { data := #[] }, .int .i64 3, .int .i64 0, .string { data := #[116] }, .int .i64 0, .slice none 0 0] 35)); have RS := hid (RD.out.grow (gb_alloc GS.out (.cells #[.bool false, .int .i64 0, .string { data := #[] }, .int .i64 k, .int .i64 m, .string u, .int .i64 x, .slice A f.len c, .bool false, .int .i64 1, .string { data := #[] }, .int .i64 3, .int .i64 0, .string { data := #[116] }, .int .i64 0, .slice none 0 0] 35))); have GDS := hid (gb_trans GD.out (gb_alloc GS.out (.cells #[.bool false, .int .i64 0, .string { data := #[] }, .int .i64 k, .int .i64 m, .string u, .int .i64 x, .slice A f.len c, .bool false, .int .i64 1, .string { data := #[] }, .int .i64 3, .int .i64 0, .string { data := #[116] }, .int .i64 0, .slice none 0 0] 35))); have G5s := hid (gb_trans G5d.out (gb_alloc GS.out (.cells #[.bool false, .int .i64 0, .string { data := #[] }, .int .i64 k, .int .i64 m, .string u, .int .i64 x, .slice A f.len c, .bool false, .int .i64 1, .string { data := #[] }, .int .i64 3, .int .i64 0, .string { data := #[116] }, .int .i64 0, .slice none 0 0] 35)))
      refine F_only 6 (by kernel_rfl) (E_val 6 rfl (some 38) rfl rfl (.pointer (some ⟨w5.heap.size, 4, none⟩)) (wn2.alloc (.cells #[.bool false, .int .i64 0, .string { data := #[] }, .int .i64 k, .int .i64 m, .string u, .int .i64 x, .slice A f.len c, .bool false, .int .i64 1, .string { data := #[] }, .int .i64 3, .int .i64 0, .string { data := #[116] }, .int .i64 0, .slice none 0 0] 35)) (by go_simp) ⟨fun _ => gb_alloc GS.out _, ?_⟩)
      try simp only [Act.put, List.setIfInBounds_toArray, List.set_cons_succ, List.set_cons_zero]
      have fc := WS.out.cells5.2.2.2.2; have fz := WS.out.frozen 4; have fl := WS.out.lt
      refine F_only 7 (by kernel_rfl) (E_skip 7 rfl none rfl rfl ((wn2.alloc (.cells #[.bool false, .int .i64 0, .string { data := #[] }, .int .i64 k, .int .i64 m, .string u, .int .i64 x, .slice A f.len c, .bool false, .int .i64 1, .string { data := #[] }, .int .i64 3, .int .i64 0, .string { data := #[116] }, .int .i64 0, .slice none 0 0] 35)).setCell ⟨w5.heap.size, 4, none⟩ (.slice (some ⟨wn2.heap.size, 0, none⟩) 2 2)) (by go_simp) ⟨fun h => absurd h (by omega), ?_⟩)
      refine F_done (by kernel_rfl) ?_ _
      try simp only [Act.put, List.setIfInBounds_toArray, List.set_cons_succ, List.set_cons_zero]
      clear fc fz fl
      have s9 : (wn2.alloc (.cells #[.bool false, .int .i64 0, .string { data := #[] }, .int .i64 k, .int .i64 m, .string u, .int .i64 x, .slice A f.len c, .bool false, .int .i64 1, .string { data := #[] }, .int .i64 3, .int .i64 0, .string { data := #[116] }, .int .i64 0, .slice none 0 0] 35)).grownBy ((wn2.alloc (.cells #[.bool false, .int .i64 0, .string { data := #[] }, .int .i64 k, .int .i64 m, .string u, .int .i64 x, .slice A f.len c, .bool false, .int .i64 1, .string { data := #[] }, .int .i64 3, .int .i64 0, .string { data := #[116] }, .int .i64 0, .slice none 0 0] 35)).setCell ⟨w5.heap.size, 4, none⟩ (.slice (some ⟨wn2.heap.size, 0, none⟩) 2 2)) (some w5.heap.size) := gb_set (gb_refl _ _) (.inr rfl) _
      have HW9 := hid (show HoldsT ((wn2.alloc (.cells #[.bool false, .int .i64 0, .string { data := #[] }, .int .i64 k, .int .i64 m, .string u, .int .i64 x, .slice A f.len c, .bool false, .int .i64 1, .string { data := #[] }, .int .i64 3, .int .i64 0, .string { data := #[116] }, .int .i64 0, .slice none 0 0] 35)).setCell ⟨w5.heap.size, 4, none⟩ (.slice (some ⟨wn2.heap.size, 0, none⟩) 2 2)) w5.heap.size #[.int .i64 4, .int .i64 0, .string { data := #[] }, .int .i64 2, .slice (some ⟨wn2.heap.size, 0, none⟩) 2 2] 26 from WS.out.set 4 _)
      have HS9 := hid (HS5.out.kept s9 (by intro e; injection e; omega))
      have HV9 := hid (VS.out.kept s9 (by intro e; injection e with e; have := HLT.out; omega))
      have G59 := hid (gb_fresh G5s.out s9 (fun q hq => by have h : w5.heap.size = q := Option.some.inj hq; omega))
      have HG9 := hid (gb_trans G5.out G59.out)
      have HR9 := hid (HR5b.out.grow G59.out)
      have HRW9 : Hid (∃ Lw, RowF ((wn2.alloc (.cells #[.bool false, .int .i64 0, .string { data := #[] }, .int .i64 k, .int .i64 m, .string u, .int .i64 x, .slice A f.len c, .bool false, .int .i64 1, .string { data := #[] }, .int .i64 3, .int .i64 0, .string { data := #[116] }, .int .i64 0, .slice none 0 0] 35)).setCell ⟨w5.heap.size, 4, none⟩ (.slice (some ⟨wn2.heap.size, 0, none⟩) 2 2)) (Forest.cons false 0 { data := #[] } k m u x f (.cons false 1 { data := #[] } 3 0 { data := #[116] } 0 .nil .nil)) (some ⟨wn2.heap.size, 0, none⟩) 0 2 Lw) := hid ⟨_, by
        have hsub : SubF ((wn2.alloc (.cells #[.bool false, .int .i64 0, .string { data := #[] }, .int .i64 k, .int .i64 m, .string u, .int .i64 x, .slice A f.len c, .bool false, .int .i64 1, .string { data := #[] }, .int .i64 3, .int .i64 0, .string { data := #[116] }, .int .i64 0, .slice none 0 0] 35)).setCell ⟨w5.heap.size, 4, none⟩ (.slice (some ⟨wn2.heap.size, 0, none⟩) 2 2)) (Forest.cons false 0 { data := #[] } k m u x f (.cons false 1 { data := #[] } 3 0 { data := #[116] } 0 .nil .nil)) [.bool false, .int .i64 0, .string { data := #[] }, .int .i64 k, .int .i64 m, .string u, .int .i64 x, .slice A f.len c, .bool false, .int .i64 1, .string { data := #[] }, .int .i64 3, .int .i64 0, .string { data := #[116] }, .int .i64 0, .slice none 0 0] _ := ⟨A, c, [.bool false, .int .i64 1, .string { data := #[] }, .int .i64 3, .int .i64 0, .string { data := #[116] }, .int .i64 0, .slice none 0 0], Lf, _, rfl, HZ.out, HR9.out, ⟨none, 0, [], [], [], rfl, fun _ => rfl, ⟨rfl, rfl⟩, ⟨rfl, rfl⟩, rfl⟩, rfl⟩
        have h := SubF.row (b := wn2.heap.size) (o := 0) HS9.out.lt 0 hsub (fun j hj => by
          rw [show 0 + 0 * 8 + j = j by omega, HS9.out.cell j]
          simp)
        exact h⟩
      generalize hw9 : ((wn2.alloc (.cells #[.bool false, .int .i64 0, .string { data := #[] }, .int .i64 k, .int .i64 m, .string u, .int .i64 x, .slice A f.len c, .bool false, .int .i64 1, .string { data := #[] }, .int .i64 3, .int .i64 0, .string { data := #[116] }, .int .i64 0, .slice none 0 0] 35)).setCell ⟨w5.heap.size, 4, none⟩ (.slice (some ⟨wn2.heap.size, 0, none⟩) 2 2)) = w9 at HW9 HS9 HV9 HG9 HR9 HRW9 G59 ⊢
      generalize hsb : wn2.heap.size = sb at HW9 HS9 HRW9 ⊢
      clear hw9 hsb s9 WS VS RS GDS G5s HS5 HSZ5 hsz5 WD VD RD GD GS G5d
      obtain ⟨Lw, hrw⟩ := HRW9.out
      have HRW := hid hrw
      clear hrw HRW9
      obtain ⟨fw, hfw⟩ : ∃ fw, fw = (Forest.cons false 0 { data := #[] } k m u x f (.cons false 1 { data := #[] } 3 0 { data := #[116] } 0 .nil .nil)) := ⟨_, rfl⟩
      have hl2 : fw.len = 2 := by rw [hfw]; rfl
      have hw2 : valWt 4 fw = W0 + 2 := by rw [hfw, ← HW.out.1]; show 1 + (valWt k f + (1 + 0 + 0)) = _; omega
      have hn2 : valNest 4 fw = N0 + 1 := by rw [hfw, ← HW.out.2.1]; show max (valNest k f) (max 0 0) + 1 = _; omega
      have hp2 : valPlain 4 fw = valPlain k f := by rw [hfw]; show (valPlain k f && (valPlain 3 .nil && true)) = _; simp [valPlain]
      have hz2 : fw.size ≤ 1048576 := by rw [hfw]; simp only [Forest.size]; have := HFS.out.1; omega
      rw [← hfw] at HRW
      have HFW := hid (And.intro hw2 (And.intro hn2 (And.intro hp2 (And.intro hz2 hl2))))
      clear hfw hl2 hw2 hn2 hp2 hz2
      obtain ⟨pv, hpv⟩ : ∃ pv, valPlain k f = pv := ⟨_, rfl⟩
      have HPV := hid hpv
      clear hpv
      go_wp2_with fail
      refine wp_region_F 32 32 rfl (by kernel_rfl) (fun wd w' => wd.grownBy w' none) fun wd gd => ?_
      have WD := hid (HW9.out.grow gd)
      have VD := hid (HV9.out.grow gd)
      have RD := hid (HR9.out.grow gd)
      have RWD := hid (show RowF wd fw (some ⟨sb, 0, none⟩) 0 fw.len Lw by rw [HFW.out.2.2.2.2]; exact HRW.out.grow gd)
      have GD := hid (gb_trans HG9.out gd)
      have GS := hid (gb_refl wd none)
      clear gd
      refine G_load 0 rfl (some 39) rfl (by kernel_rfl) (by kernel_rfl) (by kernel_rfl) (by kernel_rfl) (by kernel_rfl) (fun _ _ _ _ h => h) rfl 26 (.tmp 4) rfl (w5.heap.size) 0 rfl [.int .i64 4, .int .i64 0, .string { data := #[] }, .int .i64 2, .slice (some ⟨sb, 0, none⟩) 2 2] (fun w' hw => (WD.out.grow hw).rangeV) Tryd.underlying26 rfl Tryd.infoV GS.out ?_
      try simp only [Act.put, List.setIfInBounds_toArray, List.set_cons_succ, List.set_cons_zero]
      refine G_load 2 rfl (some 41) rfl (by kernel_rfl) (by kernel_rfl) (by kernel_rfl) (by kernel_rfl) (by kernel_rfl) (fun _ _ _ _ h => h) rfl 26 (.tmp 3) rfl (w1.heap.size) 0 rfl [.int .i64 k, .int .i64 m, .string u, .int .i64 x, .slice A f.len c] (fun w' hw => (VD.out.grow hw).rangeV) Tryd.underlying26 rfl Tryd.infoV GS.out ?_
      try simp only [Act.put, List.setIfInBounds_toArray, List.set_cons_succ, List.set_cons_zero]
      refine F_only 1 (by kernel_rfl) (G_call 1 rfl (some 40) rfl rfl 10 _ (run_call1 _ (by kernel_rfl) (.tmp 39) _ (.agg #[.int .i64 4, .int .i64 0, .string { data := #[] }, .int .i64 2, .slice (some ⟨sb, 0, none⟩) 2 2]) rfl rfl) ((by have h := implWeight_any fw wd 4 0 { data := #[] } 2 (some ⟨sb, 0, none⟩) 2 Lw (RWD.out.grow GS.out) HFW.out.2.2.2.1; rw [HFW.out.2.2.2.2, HFW.out.1] at h; exact h)) ?_)
      rintro e wn3 ⟨rfl, hg⟩
      replace GS := hid (gb_trans GS.out hg)
      refine ⟨_, rfl, fun _ => GS.out, ?_⟩
      clear hg
      try simp only [Act.put, List.setIfInBounds_toArray, List.set_cons_succ, List.set_cons_zero]
      refine F_only 3 (by kernel_rfl) (G_call 3 rfl (some 42) rfl rfl 10 _ (run_call1 _ (by kernel_rfl) (.tmp 41) _ (.agg #[.int .i64 k, .int .i64 m, .string u, .int .i64 x, .slice A f.len c]) rfl rfl) (implWeight_any f wn3 k m u x A c Lf (RD.out.grow GS.out) HFS.out.2.2) ?_)
      rintro e wn4 ⟨rfl, hg⟩
      replace GS := hid (gb_trans GS.out hg)
      refine ⟨_, rfl, fun _ => GS.out, ?_⟩
      clear hg
      try simp only [Act.put, List.setIfInBounds_toArray, List.set_cons_succ, List.set_cons_zero]
      rw [HW.out.1]
      refine G_take 4 rfl (some 43) rfl (by kernel_rfl) (by kernel_rfl) (by kernel_rfl) (by kernel_rfl) (by kernel_rfl) (fun _ _ _ _ h => h) rfl (.int .i64 ((W0 + 2 : Nat) : Int)) (fun w' hw => by have h9 := HW.out.2.2.1; go_simp; rw [IntKind.wrap_i64] <;> omega) GS.out ?_
      try simp only [Act.put, List.setIfInBounds_toArray, List.set_cons_succ, List.set_cons_zero]
      refine G_take 5 rfl (some 44) rfl (by kernel_rfl) (by kernel_rfl) (by kernel_rfl) (by kernel_rfl) (by kernel_rfl) (fun _ _ _ _ h => h) rfl (.bool true) (fun w' hw => by go_simp) GS.out ?_
      try simp only [Act.put, List.setIfInBounds_toArray, List.set_cons_succ, List.set_cons_zero]
      refine G_take 6 rfl (some 45) rfl (by kernel_rfl) (by kernel_rfl) (by kernel_rfl) (by kernel_rfl) (by kernel_rfl) (fun _ _ _ _ h => h) rfl (.bool true) (fun w' hw => run_mov (.tmp 44) rfl rfl) GS.out ?_
      try simp only [Act.put, List.setIfInBounds_toArray, List.set_cons_succ, List.set_cons_zero]
      refine G_load 7 rfl (some 46) rfl (by kernel_rfl) (by kernel_rfl) (by kernel_rfl) (by kernel_rfl) (by kernel_rfl) (fun _ _ _ _ h => h) rfl 26 (.tmp 4) rfl (w5.heap.size) 0 rfl [.int .i64 4, .int .i64 0, .string { data := #[] }, .int .i64 2, .slice (some ⟨sb, 0, none⟩) 2 2] (fun w' hw => (WD.out.grow hw).rangeV) Tryd.underlying26 rfl Tryd.infoV GS.out ?_
      try simp only [Act.put, List.setIfInBounds_toArray, List.set_cons_succ, List.set_cons_zero]
      refine G_load 9 rfl (some 48) rfl (by kernel_rfl) (by kernel_rfl) (by kernel_rfl) (by kernel_rfl) (by kernel_rfl) (fun _ _ _ _ h => h) rfl 26 (.tmp 3) rfl (w1.heap.size) 0 rfl [.int .i64 k, .int .i64 m, .string u, .int .i64 x, .slice A f.len c] (fun w' hw => (VD.out.grow hw).rangeV) Tryd.underlying26 rfl Tryd.infoV GS.out ?_
      try simp only [Act.put, List.setIfInBounds_toArray, List.set_cons_succ, List.set_cons_zero]
      refine F_only 8 (by kernel_rfl) (G_call 8 rfl (some 47) rfl rfl 11 _ (run_call1 _ (by kernel_rfl) (.tmp 46) _ (.agg #[.int .i64 4, .int .i64 0, .string { data := #[] }, .int .i64 2, .slice (some ⟨sb, 0, none⟩) 2 2]) rfl rfl) ((by have h := implNest_any fw wn4 4 0 { data := #[] } 2 (some ⟨sb, 0, none⟩) 2 Lw (RWD.out.grow GS.out) HFW.out.2.2.2.1; rw [HFW.out.2.2.2.2, HFW.out.2.1] at h; exact h)) ?_)
      rintro e wn5 ⟨rfl, hg⟩
      replace GS := hid (gb_trans GS.out hg)
      refine ⟨_, rfl, fun _ => GS.out, ?_⟩
      clear hg
      try simp only [Act.put, List.setIfInBounds_toArray, List.set_cons_succ, List.set_cons_zero]
      refine F_only 10 (by kernel_rfl) (G_call 10 rfl (some 49) rfl rfl 11 _ (run_call1 _ (by kernel_rfl) (.tmp 48) _ (.agg #[.int .i64 k, .int .i64 m, .string u, .int .i64 x, .slice A f.len c]) rfl rfl) (implNest_any f wn5 k m u x A c Lf (RD.out.grow GS.out) HFS.out.2.2) ?_)
      rintro e wn6 ⟨rfl, hg⟩
      replace GS := hid (gb_trans GS.out hg)
      refine ⟨_, rfl, fun _ => GS.out, ?_⟩
      clear hg
      try simp only [Act.put, List.setIfInBounds_toArray, List.set_cons_succ, List.set_cons_zero]
      rw [HW.out.2.1]
      refine G_take 11 rfl (some 50) rfl (by kernel_rfl) (by kernel_rfl) (by kernel_rfl) (by kernel_rfl) (by kernel_rfl) (fun _ _ _ _ h => h) rfl (.int .i64 ((N0 + 1 : Nat) : Int)) (fun w' hw => by have h9 := HW.out.2.2; go_simp; rw [IntKind.wrap_i64] <;> omega) GS.out ?_
      try simp only [Act.put, List.setIfInBounds_toArray, List.set_cons_succ, List.set_cons_zero]
      refine G_take 12 rfl (some 51) rfl (by kernel_rfl) (by kernel_rfl) (by kernel_rfl) (by kernel_rfl) (by kernel_rfl) (fun _ _ _ _ h => h) rfl (.bool true) (fun w' hw => by go_simp) GS.out ?_
      try simp only [Act.put, List.setIfInBounds_toArray, List.set_cons_succ, List.set_cons_zero]
      refine G_take 13 rfl (some 52) rfl (by kernel_rfl) (by kernel_rfl) (by kernel_rfl) (by kernel_rfl) (by kernel_rfl) (fun _ _ _ _ h => h) rfl (.bool true) (fun w' hw => by go_simp) GS.out ?_
      try simp only [Act.put, List.setIfInBounds_toArray, List.set_cons_succ, List.set_cons_zero]
      refine G_take 14 rfl (some 53) rfl (by kernel_rfl) (by kernel_rfl) (by kernel_rfl) (by kernel_rfl) (by kernel_rfl) (fun _ _ _ _ h => h) rfl (.bool true) (fun w' hw => run_mov (.tmp 52) rfl rfl) GS.out ?_
      try simp only [Act.put, List.setIfInBounds_toArray, List.set_cons_succ, List.set_cons_zero]
      refine G_load 15 rfl (some 54) rfl (by kernel_rfl) (by kernel_rfl) (by kernel_rfl) (by kernel_rfl) (by kernel_rfl) (fun _ _ _ _ h => h) rfl 26 (.tmp 4) rfl (w5.heap.size) 0 rfl [.int .i64 4, .int .i64 0, .string { data := #[] }, .int .i64 2, .slice (some ⟨sb, 0, none⟩) 2 2] (fun w' hw => (WD.out.grow hw).rangeV) Tryd.underlying26 rfl Tryd.infoV GS.out ?_
      try simp only [Act.put, List.setIfInBounds_toArray, List.set_cons_succ, List.set_cons_zero]
      refine G_load 17 rfl (some 56) rfl (by kernel_rfl) (by kernel_rfl) (by kernel_rfl) (by kernel_rfl) (by kernel_rfl) (fun _ _ _ _ h => h) rfl 26 (.tmp 3) rfl (w1.heap.size) 0 rfl [.int .i64 k, .int .i64 m, .string u, .int .i64 x, .slice A f.len c] (fun w' hw => (VD.out.grow hw).rangeV) Tryd.underlying26 rfl Tryd.infoV GS.out ?_
      try simp only [Act.put, List.setIfInBounds_toArray, List.set_cons_succ, List.set_cons_zero]
      refine F_only 16 (by kernel_rfl) (G_call 16 rfl (some 55) rfl rfl 15 _ (run_call1 _ (by kernel_rfl) (.tmp 54) _ (.agg #[.int .i64 4, .int .i64 0, .string { data := #[] }, .int .i64 2, .slice (some ⟨sb, 0, none⟩) 2 2]) rfl rfl) ((by have h := implIsPlain_any fw wn6 4 0 { data := #[] } 2 (some ⟨sb, 0, none⟩) 2 Lw (RWD.out.grow GS.out) HFW.out.2.2.2.1; rw [HFW.out.2.2.2.2, HFW.out.2.2.1, HPV.out] at h; exact h)) ?_)
      rintro e wn7 ⟨rfl, hg⟩
      replace GS := hid (gb_trans GS.out hg)
      refine ⟨_, rfl, fun _ => GS.out, ?_⟩
      clear hg
      try simp only [Act.put, List.setIfInBounds_toArray, List.set_cons_succ, List.set_cons_zero]
      refine F_only 18 (by kernel_rfl) (G_call 18 rfl (some 57) rfl rfl 15 _ (run_call1 _ (by kernel_rfl) (.tmp 56) _ (.agg #[.int .i64 k, .int .i64 m, .string u, .int .i64 x, .slice A f.len c]) rfl rfl) (implIsPlain_any f wn7 k m u x A c Lf (RD.out.grow GS.out) HFS.out.2.2) ?_)
      rintro e wn8 ⟨rfl, hg⟩
      replace GS := hid (gb_trans GS.out hg)
      refine ⟨_, rfl, fun _ => GS.out, ?_⟩
      clear hg
      try simp only [Act.put, List.setIfInBounds_toArray, List.set_cons_succ, List.set_cons_zero]
      rw [HPV.out]
      refine G_take 19 rfl (some 58) rfl (by kernel_rfl) (by kernel_rfl) (by kernel_rfl) (by kernel_rfl) (by kernel_rfl) (fun _ _ _ _ h => h) rfl (.bool true) (fun w' hw => by cases pv <;> go_simp) GS.out ?_
      try simp only [Act.put, List.setIfInBounds_toArray, List.set_cons_succ, List.set_cons_zero]
      refine G_take 20 rfl (some 59) rfl (by kernel_rfl) (by kernel_rfl) (by kernel_rfl) (by kernel_rfl) (by kernel_rfl) (fun _ _ _ _ h => h) rfl (.bool true) (fun w' hw => by go_simp) GS.out ?_
      try simp only [Act.put, List.setIfInBounds_toArray, List.set_cons_succ, List.set_cons_zero]
      refine G_take 21 rfl (some 60) rfl (by kernel_rfl) (by kernel_rfl) (by kernel_rfl) (by kernel_rfl) (by kernel_rfl) (fun _ _ _ _ h => h) rfl (.bool true) (fun w' hw => run_mov (.tmp 59) rfl rfl) GS.out ?_
      try simp only [Act.put, List.setIfInBounds_toArray, List.set_cons_succ, List.set_cons_zero]
      refine F_only 22 (by kernel_rfl) (G_call 22 rfl (some 61) rfl rfl 16 _ (run_call0 _ (by kernel_rfl) _ rfl) (implNullValue_any wn8) ?_)
      rintro e wn9 ⟨rfl, hg⟩
      replace GS := hid (gb_trans GS.out hg)
      refine ⟨_, rfl, fun _ => GS.out, ?_⟩
      clear hg
      try simp only [Act.put, List.setIfInBounds_toArray, List.set_cons_succ, List.set_cons_zero]
      refine G_take 23 rfl (some 62) rfl (by kernel_rfl) (by kernel_rfl) (by kernel_rfl) (by kernel_rfl) (by kernel_rfl) (fun _ _ _ _ h => h) rfl (.int .i64 0) (fun w' hw => by kernel_rfl) GS.out ?_
      try simp only [Act.put, List.setIfInBounds_toArray, List.set_cons_succ, List.set_cons_zero]
      refine G_take 24 rfl (some 63) rfl (by kernel_rfl) (by kernel_rfl) (by kernel_rfl) (by kernel_rfl) (by kernel_rfl) (fun _ _ _ _ h => h) rfl (.bool true) (fun w' hw => by go_simp) GS.out ?_
      try simp only [Act.put, List.setIfInBounds_toArray, List.set_cons_succ, List.set_cons_zero]
      refine G_take 25 rfl (some 64) rfl (by kernel_rfl) (by kernel_rfl) (by kernel_rfl) (by kernel_rfl) (by kernel_rfl) (fun _ _ _ _ h => h) rfl (.bool true) (fun w' hw => by go_simp) GS.out ?_
      try simp only [Act.put, List.setIfInBounds_toArray, List.set_cons_succ, List.set_cons_zero]
      refine G_take 26 rfl (some 65) rfl (by kernel_rfl) (by kernel_rfl) (by kernel_rfl) (by kernel_rfl) (by kernel_rfl) (fun _ _ _ _ h => h) rfl (.bool true) (fun w' hw => run_mov (.tmp 64) rfl rfl) GS.out ?_
      try simp only [Act.put, List.setIfInBounds_toArray, List.set_cons_succ, List.set_cons_zero]
      refine F_only 27 (by kernel_rfl) (G_call 27 rfl (some 66) rfl rfl 17 _ (run_call1 _ (by kernel_rfl) (.const (.bool true)) _ (.bool true) rfl rfl) (implBoolValue_t wn9) ?_)
      rintro e wn10 ⟨rfl, hg⟩
      replace GS := hid (gb_trans GS.out hg)
      refine ⟨_, rfl, fun _ => GS.out, ?_⟩
      clear hg
      try simp only [Act.put, List.setIfInBounds_toArray, List.set_cons_succ, List.set_cons_zero]
      refine G_take 28 rfl (some 67) rfl (by kernel_rfl) (by kernel_rfl) (by kernel_rfl) (by kernel_rfl) (by kernel_rfl) (fun _ _ _ _ h => h) rfl (.int .i64 1) (fun w' hw => by kernel_rfl) GS.out ?_
      try simp only [Act.put, List.setIfInBounds_toArray, List.set_cons_succ, List.set_cons_zero]
      refine G_take 29 rfl (some 68) rfl (by kernel_rfl) (by kernel_rfl) (by kernel_rfl) (by kernel_rfl) (by kernel_rfl) (fun _ _ _ _ h => h) rfl (.bool true) (fun w' hw => by go_simp) GS.out ?_
      try simp only [Act.put, List.setIfInBounds_toArray, List.set_cons_succ, List.set_cons_zero]
      refine G_take 30 rfl (some 69) rfl (by kernel_rfl) (by kernel_rfl) (by kernel_rfl) (by kernel_rfl) (by kernel_rfl) (fun _ _ _ _ h => h) rfl (.bool true) (fun w' hw => by go_simp) GS.out ?_
      try simp only [Act.put, List.setIfInBounds_toArray, List.set_cons_succ, List.set_cons_zero]
      refine G_take 31 rfl (some 2) rfl (by kernel_rfl) (by kernel_rfl) (by kernel_rfl) (by kernel_rfl) (by kernel_rfl) (fun _ _ _ _ h => h) rfl (.bool true) (fun w' hw => run_asg (.tmp 69) rfl rfl) GS.out ?_
      try simp only [Act.put, List.setIfInBounds_toArray, List.set_cons_succ, List.set_cons_zero]
      refine F_done (by kernel_rfl) ?_ _
      try simp only [Act.put, List.setIfInBounds_toArray, List.set_cons_succ, List.set_cons_zero]
      have GF := hid (gb_trans GD.out GS.out)
      go_wp2_with fail
      go_ret
      exact ⟨rfl, gb_below GF.out⟩
    · have HI := hid (HBV.out.1 rfl)
      have hwi : W0 ≤ 200 := by have := HI.out.1; rw [HW.out.1] at this; exact this
      have HWI := hid hwi
      clear hwi
      refine G_take 2 rfl (some 11) rfl (by kernel_rfl) (by kernel_rfl) (by kernel_rfl) (by kernel_rfl) (by kernel_rfl) (fun _ _ _ _ h => h) rfl (.bool true) (fun w' hw => run_mov (.tmp 10) rfl rfl) GS.out ?_
      try simp only [Act.put, List.setIfInBounds_toArray, List.set_cons_succ, List.set_cons_zero]
      refine G_load 3 rfl (some 12) rfl (by kernel_rfl) (by kernel_rfl) (by kernel_rfl) (by kernel_rfl) (by kernel_rfl) (fun _ _ _ _ h => h) rfl 26 (.tmp 3) rfl (w1.heap.size) 0 rfl [.int .i64 k, .int .i64 m, .string u, .int .i64 x, .slice A f.len c] (fun w' hw => (VD.out.grow hw).rangeV) Tryd.underlying26 rfl Tryd.infoV GS.out ?_
      try simp only [Act.put, List.setIfInBounds_toArray, List.set_cons_succ, List.set_cons_zero]
      refine F_only 4 (by kernel_rfl) (G_call 4 rfl (some 13) rfl rfl 10 _ (run_call1 _ (by kernel_rfl) (.tmp 12) _ (.agg #[.int .i64 k, .int .i64 m, .string u, .int .i64 x, .slice A f.len c]) rfl rfl) (implWeight_any f wn1 k m u x A c Lf (RD.out.grow GS.out) HFS.out.2.2) ?_)
      rintro e wn11 ⟨rfl, hg⟩
      replace GS := hid (gb_trans GS.out hg)
      refine ⟨_, rfl, fun _ => GS.out, ?_⟩
      clear hg
      try simp only [Act.put, List.setIfInBounds_toArray, List.set_cons_succ, List.set_cons_zero]
      rw [HW.out.1]
      refine G_take 5 rfl (some 14) rfl (by kernel_rfl) (by kernel_rfl) (by kernel_rfl) (by kernel_rfl) (by kernel_rfl) (fun _ _ _ _ h => h) rfl (.bool false) (fun w' hw => by have h9 := HWI.out; have h8 : decide ((200 : Int) < (W0 : Int)) = false := (by simp; omega); go_simp; try omega) GS.out ?_
      try simp only [Act.put, List.setIfInBounds_toArray, List.set_cons_succ, List.set_cons_zero]
      refine G_take 6 rfl (some 15) rfl (by kernel_rfl) (by kernel_rfl) (by kernel_rfl) (by kernel_rfl) (by kernel_rfl) (fun _ _ _ _ h => h) rfl (.bool false) (fun w' hw => run_mov (.tmp 14) rfl rfl) GS.out ?_
      try simp only [Act.put, List.setIfInBounds_toArray, List.set_cons_succ, List.set_cons_zero]
      refine G_load 7 rfl (some 16) rfl (by kernel_rfl) (by kernel_rfl) (by kernel_rfl) (by kernel_rfl) (by kernel_rfl) (fun _ _ _ _ h => h) rfl 26 (.tmp 3) rfl (w1.heap.size) 0 rfl [.int .i64 k, .int .i64 m, .string u, .int .i64 x, .slice A f.len c] (fun w' hw => (VD.out.grow hw).rangeV) Tryd.underlying26 rfl Tryd.infoV GS.out ?_
      try simp only [Act.put, List.setIfInBounds_toArray, List.set_cons_succ, List.set_cons_zero]
      refine G_load 9 rfl (some 18) rfl (by kernel_rfl) (by kernel_rfl) (by kernel_rfl) (by kernel_rfl) (by kernel_rfl) (fun _ _ _ _ h => h) rfl 26 (.tmp 3) rfl (w1.heap.size) 0 rfl [.int .i64 k, .int .i64 m, .string u, .int .i64 x, .slice A f.len c] (fun w' hw => (VD.out.grow hw).rangeV) Tryd.underlying26 rfl Tryd.infoV GS.out ?_
      try simp only [Act.put, List.setIfInBounds_toArray, List.set_cons_succ, List.set_cons_zero]
      refine F_only 8 (by kernel_rfl) (G_call 8 rfl (some 17) rfl rfl 11 _ (run_call1 _ (by kernel_rfl) (.tmp 16) _ (.agg #[.int .i64 k, .int .i64 m, .string u, .int .i64 x, .slice A f.len c]) rfl rfl) (implNest_any f wn11 k m u x A c Lf (RD.out.grow GS.out) HFS.out.2.2) ?_)
      rintro e wn12 ⟨rfl, hg⟩
      replace GS := hid (gb_trans GS.out hg)
      refine ⟨_, rfl, fun _ => GS.out, ?_⟩
      clear hg
      try simp only [Act.put, List.setIfInBounds_toArray, List.set_cons_succ, List.set_cons_zero]
      rw [HW.out.2.1]
      refine F_only 10 (by kernel_rfl) (G_call 10 rfl (some 19) rfl rfl 10 _ (run_call1 _ (by kernel_rfl) (.tmp 18) _ (.agg #[.int .i64 k, .int .i64 m, .string u, .int .i64 x, .slice A f.len c]) rfl rfl) (implWeight_any f wn12 k m u x A c Lf (RD.out.grow GS.out) HFS.out.2.2) ?_)
      rintro e wn13 ⟨rfl, hg⟩
      replace GS := hid (gb_trans GS.out hg)
      refine ⟨_, rfl, fun _ => GS.out, ?_⟩
      clear hg
      try simp only [Act.put, List.setIfInBounds_toArray, List.set_cons_succ, List.set_cons_zero]
      rw [HW.out.1]
      refine G_take 11 rfl (some 20) rfl (by kernel_rfl) (by kernel_rfl) (by kernel_rfl) (by kernel_rfl) (by kernel_rfl) (fun _ _ _ _ h => h) rfl (.int .i64 ((W0 + 1 : Nat) : Int)) (fun w' hw => by have h9 := HWI.out; go_simp; rw [IntKind.wrap_i64] <;> omega) GS.out ?_
      try simp only [Act.put, List.setIfInBounds_toArray, List.set_cons_succ, List.set_cons_zero]
      refine G_take 12 rfl (some 21) rfl (by kernel_rfl) (by kernel_rfl) (by kernel_rfl) (by kernel_rfl) (by kernel_rfl) (fun _ _ _ _ h => h) rfl (.bool false) (fun w' hw => by have h9 := HW.out.2.2.2; go_simp; try omega) GS.out ?_
      try simp only [Act.put, List.setIfInBounds_toArray, List.set_cons_succ, List.set_cons_zero]
      refine G_take 13 rfl (some 22) rfl (by kernel_rfl) (by kernel_rfl) (by kernel_rfl) (by kernel_rfl) (by kernel_rfl) (fun _ _ _ _ h => h) rfl (.bool false) (fun w' hw => by go_simp) GS.out ?_
      try simp only [Act.put, List.setIfInBounds_toArray, List.set_cons_succ, List.set_cons_zero]
      refine G_take 14 rfl (some 23) rfl (by kernel_rfl) (by kernel_rfl) (by kernel_rfl) (by kernel_rfl) (by kernel_rfl) (fun _ _ _ _ h => h) rfl (.bool false) (fun w' hw => run_mov (.tmp 22) rfl rfl) GS.out ?_
      try simp only [Act.put, List.setIfInBounds_toArray, List.set_cons_succ, List.set_cons_zero]
      refine G_take 15 rfl (some 24) rfl (by kernel_rfl) (by kernel_rfl) (by kernel_rfl) (by kernel_rfl) (by kernel_rfl) (fun _ _ _ _ h => h) rfl (.pointer (some ⟨w1.heap.size, 0, none⟩)) (fun w' hw => by go_simp) GS.out ?_
      try simp only [Act.put, List.setIfInBounds_toArray, List.set_cons_succ, List.set_cons_zero]
      refine G_take 16 rfl (some 25) rfl (by kernel_rfl) (by kernel_rfl) (by kernel_rfl) (by kernel_rfl) (by kernel_rfl) (fun _ _ _ _ h => h) rfl (.int .i64 k) (fun w' hw => by have fc := (VD.out.grow hw).cells5.1; go_simp) GS.out ?_
      try simp only [Act.put, List.setIfInBounds_toArray, List.set_cons_succ, List.set_cons_zero]
      refine F_only 17 (by kernel_rfl) (G_call 17 rfl (some 26) rfl rfl 12 _ (run_call1 _ (by kernel_rfl) (.tmp 25) _ (.int .i64 k) rfl rfl) (implKind_any k m x u.size f.len HI.out.2.1 wn13) ?_)
      rintro e wn14 ⟨kn, rfl, hkn, hg⟩
      replace GS := hid (gb_trans GS.out hg)
      refine ⟨_, rfl, fun _ => GS.out, ?_⟩
      clear hg
      try simp only [Act.put, List.setIfInBounds_toArray, List.set_cons_succ, List.set_cons_zero]
      refine G_take 18 rfl (some 27) rfl (by kernel_rfl) (by kernel_rfl) (by kernel_rfl) (by kernel_rfl) (by kernel_rfl) (fun _ _ _ _ h => h) rfl (.bool false) (fun w' hw => by have h9 := hkn; go_simp) GS.out ?_
      try simp only [Act.put, List.setIfInBounds_toArray, List.set_cons_succ, List.set_cons_zero]
      refine G_take 19 rfl (some 28) rfl (by kernel_rfl) (by kernel_rfl) (by kernel_rfl) (by kernel_rfl) (by kernel_rfl) (fun _ _ _ _ h => h) rfl (.bool false) (fun w' hw => by go_simp) GS.out ?_
      try simp only [Act.put, List.setIfInBounds_toArray, List.set_cons_succ, List.set_cons_zero]
      refine G_take 20 rfl (some 29) rfl (by kernel_rfl) (by kernel_rfl) (by kernel_rfl) (by kernel_rfl) (by kernel_rfl) (fun _ _ _ _ h => h) rfl (.bool false) (fun w' hw => by go_simp) GS.out ?_
      try simp only [Act.put, List.setIfInBounds_toArray, List.set_cons_succ, List.set_cons_zero]
      clear hkn HI HWI
      refine F_done (by kernel_rfl) ?_ _
      try simp only [Act.put, List.setIfInBounds_toArray, List.set_cons_succ, List.set_cons_zero]
      have HV2 := hid (VD.out.grow GS.out)
      have HR2 := hid (RD.out.grow GS.out)
      have G2 := hid (gb_trans GD.out GS.out)
      clear GS VD RD GD HBV
      go_wp2_with fail
      refine (implArrayValue_any _).mono ?_
      rintro e w5 ⟨rfl, hg⟩
      have HV5 := hid (HV2.out.grow hg)
      have HR5 := hid (HR2.out.grow hg)
      have G5 := hid (gb_trans G2.out hg)
      have hlt5 : w1.heap.size < w5.heap.size := HV5.out.lt
      have HLT := hid hlt5
      clear hg HV2 HR2 G2 hlt5
      go_wp2_with fail
      refine wp_region_F 7 8 rfl (by kernel_rfl) (fun wd w' => wd.grownBy w' none) fun wd gd => ?_
      have G5d := hid (show w5.grownBy wd none from gb_trans (gb_alloc (gb_refl w5 none) _) gd)
      have WD := hid (show HoldsT wd w5.heap.size #[.int .i64 4, .int .i64 0, .string { data := #[] }, .int .i64 2, .slice none 0 0] 26 from (HoldsT.new w5 #[.int .i64 4, .int .i64 0, .string { data := #[] }, .int .i64 2, .slice none 0 0] 26).grow gd)
      have VD := hid (HV5.out.grow G5d.out)
      have RD := hid (HR5.out.grow G5d.out)
      have GD := hid (gb_trans G5.out G5d.out)
      have GS := hid (gb_refl wd none)
      have HR5b := HR5
      clear gd HV5 HR5
      refine G_load 0 rfl (some 32) rfl (by kernel_rfl) (by kernel_rfl) (by kernel_rfl) (by kernel_rfl) (by kernel_rfl) (fun _ _ _ _ h => h) rfl 26 (.tmp 3) rfl (w1.heap.size) 0 rfl [.int .i64 k, .int .i64 m, .string u, .int .i64 x, .slice A f.len c] (fun w' hw => (VD.out.grow hw).rangeV) Tryd.underlying26 rfl Tryd.infoV GS.out ?_
      try simp only [Act.put, List.setIfInBounds_toArray, List.set_cons_succ, List.set_cons_zero]
      refine G_take 1 rfl (some 33) rfl (by kernel_rfl) (by kernel_rfl) (by kernel_rfl) (by kernel_rfl) (by kernel_rfl) (fun _ _ _ _ h => h) rfl (.agg #[.bool false, .int .i64 0, .string { data := #[] }, .int .i64 k, .int .i64 m, .string u, .int .i64 x, .slice A f.len c]) (fun w' hw => by go_simp) GS.out ?_
      try simp only [Act.put, List.setIfInBounds_toArray, List.set_cons_succ, List.set_cons_zero]
      refine G_take 2 rfl (some 34) rfl (by kernel_rfl) (by kernel_rfl) (by kernel_rfl) (by kernel_rfl) (by kernel_rfl) (fun _ _ _ _ h => h) rfl (.agg #[.bool false, .int .i64 1, .string { data := #[] }]) (fun w' hw => by go_simp) GS.out ?_
      try simp only [Act.put, List.setIfInBounds_toArray, List.set_cons_succ, List.set_cons_zero]
      refine F_only 3 (by kernel_rfl) (G_call 3 rfl (some 35) rfl rfl 14 _ (run_call1 _ (by kernel_rfl) (.const (.string { data := #[116] })) _ (.string { data := #[116] }) rfl rfl) (implTextValue_any _ wd) ?_)
      rintro e wn15 ⟨rfl, hg⟩
      replace GS := hid (gb_trans GS.out hg)
      refine ⟨_, rfl, fun _ => GS.out, ?_⟩
      clear hg
      try simp only [Act.put, List.setIfInBounds_toArray, List.set_cons_succ, List.set_cons_zero]
      refine F_only 4 (by kernel_rfl) (E_val 4 rfl (some 36) rfl rfl (.agg #[.bool false, .int .i64 1, .string { data := #[] }, .int .i64 3, .int .i64 0, .string { data := #[116] }, .int .i64 0, .slice none 0 0]) wn15 (by go_simp) ⟨fun _ => GS.out, ?_⟩)
      try simp only [Act.put, List.setIfInBounds_toArray, List.set_cons_succ, List.set_cons_zero]
      refine F_only 5 (by kernel_rfl) (E_val 5 rfl (some 37) rfl rfl (.slice (some ⟨wn15.heap.size, 0, none⟩) 2 2) (wn15.alloc (.cells #[.bool false, .int .i64 0, .string { data := #[] }, .int .i64 k, .int .i64 m, .string u, .int .i64 x, .slice A f.len c, .bool false, .int .i64 1, .string { data := #[] }, .int .i64 3, .int .i64 0, .string { data := #[116] }, .int .i64 0, .slice none 0 0] 35)) (by go_simp) ⟨fun _ => gb_alloc GS.out _, ?_⟩)
      try simp only [Act.put, List.setIfInBounds_toArray, List.set_cons_succ, List.set_cons_zero]
      have HS5 := hid (HoldsT.new wn15 #[.bool false, .int .i64 0, .string { data := #[] }, .int .i64 k, .int .i64 m, .string u, .int .i64 x, .slice A f.len c, .bool false, .int .i64 1, .string { data := #[] }, .int .i64 3, .int .i64 0, .string { data := #[116] }, .int .i64 0, .slice none 0 0] 35)
      have hsz5 : w5.heap.size < wn15.heap.size := (WD.out.grow GS.out).lt
      have HSZ5 := hid hsz5
      have WS := hid ((WD.out.grow GS.out).alloc (.cells #[.bool false, .int .i64 0, .string { data := #[] }, .int .i64 k, .int .i64 m, .string u, .int .i64 x, .slice A f.len c, .bool false, .int .i64 1, .string { data := #[] }, .int .i64 3, .int .i64 0, .string { data := #[116] }, .int .i64 0, .slice none 0 0] 35)); have VS := hid ((VD.out.grow GS.out).alloc (.cells #[.bool false, .int .i64 0, .string { data := #[] }, .int .i64 k, .int .i64 m, .string u, .int .i64 x, .slice A f.len c, .bool false, .int .i64 1, .string { data := #[] }, .int .i64 3, .int .i64 0, .string { data := #[116] }, .int .i64 0, .slice none 0 0] 35)); have RS := hid (RD.out.grow (gb_alloc GS.out (.cells #[.bool false, .int .i64 0, .string { data := #[] }, .int .i64 k, .int .i64 m, .string u, .int .i64 x, .slice A f.len c, .bool false, .int .i64 1, .string { data := #[] }, .int .i64 3, .int .i64 0, .string { data := #[116] }, .int .i64 0, .slice none 0 0] 35))); have GDS := hid (gb_trans GD.out (gb_alloc GS.out (.cells #[.bool false, .int .i64 0, .string { data := #[] }, .int .i64 k, .int .i64 m, .string u, .int .i64 x, .slice A f.len c, .bool false, .int .i64 1, .string { data := #[] }, .int .i64 3, .int .i64 0, .string { data := #[116] }, .int .i64 0, .slice none 0 0] 35))); have G5s := hid (gb_trans G5d.out (gb_alloc GS.out (.cells #[.bool false, .int .i64 0, .string { data := #[] }, .int .i64 k, .int .i64 m, .string u, .int .i64 x, .slice A f.len c, .bool false, .int .i64 1, .string { data := #[] }, .int .i64 3, .int .i64 0, .string { data := #[116] }, .int .i64 0, .slice none 0 0] 35)))
      refine F_only 6 (by kernel_rfl) (E_val 6 rfl (some 38) rfl rfl (.pointer (some ⟨w5.heap.size, 4, none⟩)) (wn15.alloc (.cells #[.bool false, .int .i64 0, .string { data := #[] }, .int .i64 k, .int .i64 m, .string u, .int .i64 x, .slice A f.len c, .bool false, .int .i64 1, .string { data := #[] }, .int .i64 3, .int .i64 0, .string { data := #[116] }, .int .i64 0, .slice none 0 0] 35)) (by go_simp) ⟨fun _ => gb_alloc GS.out _, ?_⟩)
      try simp only [Act.put, List.setIfInBounds_toArray, List.set_cons_succ, List.set_cons_zero]
      have fc := WS.out.cells5.2.2.2.2; have fz := WS.out.frozen 4; have fl := WS.out.lt
      refine F_only 7 (by kernel_rfl) (E_skip 7 rfl none rfl rfl ((wn15.alloc (.cells #[.bool false, .int .i64 0, .string { data := #[] }, .int .i64 k, .int .i64 m, .string u, .int .i64 x, .slice A f.len c, .bool false, .int .i64 1, .string { data := #[] }, .int .i64 3, .int .i64 0, .string { data := #[116] }, .int .i64 0, .slice none 0 0] 35)).setCell ⟨w5.heap.size, 4, none⟩ (.slice (some ⟨wn15.heap.size, 0, none⟩) 2 2)) (by go_simp) ⟨fun h => absurd h (by omega), ?_⟩)
      refine F_done (by kernel_rfl) ?_ _
      try simp only [Act.put, List.setIfInBounds_toArray, List.set_cons_succ, List.set_cons_zero]
      clear fc fz fl
      have s9 : (wn15.alloc (.cells #[.bool false, .int .i64 0, .string { data := #[] }, .int .i64 k, .int .i64 m, .string u, .int .i64 x, .slice A f.len c, .bool false, .int .i64 1, .string { data := #[] }, .int .i64 3, .int .i64 0, .string { data := #[116] }, .int .i64 0, .slice none 0 0] 35)).grownBy ((wn15.alloc (.cells #[.bool false, .int .i64 0, .string { data := #[] }, .int .i64 k, .int .i64 m, .string u, .int .i64 x, .slice A f.len c, .bool false, .int .i64 1, .string { data := #[] }, .int .i64 3, .int .i64 0, .string { data := #[116] }, .int .i64 0, .slice none 0 0] 35)).setCell ⟨w5.heap.size, 4, none⟩ (.slice (some ⟨wn15.heap.size, 0, none⟩) 2 2)) (some w5.heap.size) := gb_set (gb_refl _ _) (.inr rfl) _
      have HW9 := hid (show HoldsT ((wn15.alloc (.cells #[.bool false, .int .i64 0, .string { data := #[] }, .int .i64 k, .int .i64 m, .string u, .int .i64 x, .slice A f.len c, .bool false, .int .i64 1, .string { data := #[] }, .int .i64 3, .int .i64 0, .string { data := #[116] }, .int .i64 0, .slice none 0 0] 35)).setCell ⟨w5.heap.size, 4, none⟩ (.slice (some ⟨wn15.heap.size, 0, none⟩) 2 2)) w5.heap.size #[.int .i64 4, .int .i64 0, .string { data := #[] }, .int .i64 2, .slice (some ⟨wn15.heap.size, 0, none⟩) 2 2] 26 from WS.out.set 4 _)
      have HS9 := hid (HS5.out.kept s9 (by intro e; injection e; omega))
      have HV9 := hid (VS.out.kept s9 (by intro e; injection e with e; have := HLT.out; omega))
      have G59 := hid (gb_fresh G5s.out s9 (fun q hq => by have h : w5.heap.size = q := Option.some.inj hq; omega))
      have HG9 := hid (gb_trans G5.out G59.out)
      have HR9 := hid (HR5b.out.grow G59.out)
      have HRW9 : Hid (∃ Lw, RowF ((wn15.alloc (.cells #[.bool false, .int .i64 0, .string { data := #[] }, .int .i64 k, .int .i64 m, .string u, .int .i64 x, .slice A f.len c, .bool false, .int .i64 1, .string { data := #[] }, .int .i64 3, .int .i64 0, .string { data := #[116] }, .int .i64 0, .slice none 0 0] 35)).setCell ⟨w5.heap.size, 4, none⟩ (.slice (some ⟨wn15.heap.size, 0, none⟩) 2 2)) (Forest.cons false 0 { data := #[] } k m u x f (.cons false 1 { data := #[] } 3 0 { data := #[116] } 0 .nil .nil)) (some ⟨wn15.heap.size, 0, none⟩) 0 2 Lw) := hid ⟨_, by
        have hsub : SubF ((wn15.alloc (.cells #[.bool false, .int .i64 0, .string { data := #[] }, .int .i64 k, .int .i64 m, .string u, .int .i64 x, .slice A f.len c, .bool false, .int .i64 1, .string { data := #[] }, .int .i64 3, .int .i64 0, .string { data := #[116] }, .int .i64 0, .slice none 0 0] 35)).setCell ⟨w5.heap.size, 4, none⟩ (.slice (some ⟨wn15.heap.size, 0, none⟩) 2 2)) (Forest.cons false 0 { data := #[] } k m u x f (.cons false 1 { data := #[] } 3 0 { data := #[116] } 0 .nil .nil)) [.bool false, .int .i64 0, .string { data := #[] }, .int .i64 k, .int .i64 m, .string u, .int .i64 x, .slice A f.len c, .bool false, .int .i64 1, .string { data := #[] }, .int .i64 3, .int .i64 0, .string { data := #[116] }, .int .i64 0, .slice none 0 0] _ := ⟨A, c, [.bool false, .int .i64 1, .string { data := #[] }, .int .i64 3, .int .i64 0, .string { data := #[116] }, .int .i64 0, .slice none 0 0], Lf, _, rfl, HZ.out, HR9.out, ⟨none, 0, [], [], [], rfl, fun _ => rfl, ⟨rfl, rfl⟩, ⟨rfl, rfl⟩, rfl⟩, rfl⟩
        have h := SubF.row (b := wn15.heap.size) (o := 0) HS9.out.lt 0 hsub (fun j hj => by
          rw [show 0 + 0 * 8 + j = j by omega, HS9.out.cell j]
          simp)
        exact h⟩
      generalize hw9 : ((wn15.alloc (.cells #[.bool false, .int .i64 0, .string { data := #[] }, .int .i64 k, .int .i64 m, .string u, .int .i64 x, .slice A f.len c, .bool false, .int .i64 1, .string { data := #[] }, .int .i64 3, .int .i64 0, .string { data := #[116] }, .int .i64 0, .slice none 0 0] 35)).setCell ⟨w5.heap.size, 4, none⟩ (.slice (some ⟨wn15.heap.size, 0, none⟩) 2 2)) = w9 at HW9 HS9 HV9 HG9 HR9 HRW9 G59 ⊢
      generalize hsb : wn15.heap.size = sb at HW9 HS9 HRW9 ⊢
      clear hw9 hsb s9 WS VS RS GDS G5s HS5 HSZ5 hsz5 WD VD RD GD GS G5d
      obtain ⟨Lw, hrw⟩ := HRW9.out
      have HRW := hid hrw
      clear hrw HRW9
      obtain ⟨fw, hfw⟩ : ∃ fw, fw = (Forest.cons false 0 { data := #[] } k m u x f (.cons false 1 { data := #[] } 3 0 { data := #[116] } 0 .nil .nil)) := ⟨_, rfl⟩
      have hl2 : fw.len = 2 := by rw [hfw]; rfl
      have hw2 : valWt 4 fw = W0 + 2 := by rw [hfw, ← HW.out.1]; show 1 + (valWt k f + (1 + 0 + 0)) = _; omega
      have hn2 : valNest 4 fw = N0 + 1 := by rw [hfw, ← HW.out.2.1]; show max (valNest k f) (max 0 0) + 1 = _; omega
      have hp2 : valPlain 4 fw = valPlain k f := by rw [hfw]; show (valPlain k f && (valPlain 3 .nil && true)) = _; simp [valPlain]
      have hz2 : fw.size ≤ 1048576 := by rw [hfw]; simp only [Forest.size]; have := HFS.out.1; omega
      rw [← hfw] at HRW
      have HFW := hid (And.intro hw2 (And.intro hn2 (And.intro hp2 (And.intro hz2 hl2))))
      clear hfw hl2 hw2 hn2 hp2 hz2
      obtain ⟨pv, hpv⟩ : ∃ pv, valPlain k f = pv := ⟨_, rfl⟩
      have HPV := hid hpv
      clear hpv
      go_wp2_with fail
      refine wp_region_F 32 32 rfl (by kernel_rfl) (fun wd w' => wd.grownBy w' none) fun wd gd => ?_
      have WD := hid (HW9.out.grow gd)
      have VD := hid (HV9.out.grow gd)
      have RD := hid (HR9.out.grow gd)
      have RWD := hid (show RowF wd fw (some ⟨sb, 0, none⟩) 0 fw.len Lw by rw [HFW.out.2.2.2.2]; exact HRW.out.grow gd)
      have GD := hid (gb_trans HG9.out gd)
      have GS := hid (gb_refl wd none)
      clear gd
      refine G_load 0 rfl (some 39) rfl (by kernel_rfl) (by kernel_rfl) (by kernel_rfl) (by kernel_rfl) (by kernel_rfl) (fun _ _ _ _ h => h) rfl 26 (.tmp 4) rfl (w5.heap.size) 0 rfl [.int .i64 4, .int .i64 0, .string { data := #[] }, .int .i64 2, .slice (some ⟨sb, 0, none⟩) 2 2] (fun w' hw => (WD.out.grow hw).rangeV) Tryd.underlying26 rfl Tryd.infoV GS.out ?_
      try simp only [Act.put, List.setIfInBounds_toArray, List.set_cons_succ, List.set_cons_zero]
      refine G_load 2 rfl (some 41) rfl (by kernel_rfl) (by kernel_rfl) (by kernel_rfl) (by kernel_rfl) (by kernel_rfl) (fun _ _ _ _ h => h) rfl 26 (.tmp 3) rfl (w1.heap.size) 0 rfl [.int .i64 k, .int .i64 m, .string u, .int .i64 x, .slice A f.len c] (fun w' hw => (VD.out.grow hw).rangeV) Tryd.underlying26 rfl Tryd.infoV GS.out ?_
      try simp only [Act.put, List.setIfInBounds_toArray, List.set_cons_succ, List.set_cons_zero]
      refine F_only 1 (by kernel_rfl) (G_call 1 rfl (some 40) rfl rfl 10 _ (run_call1 _ (by kernel_rfl) (.tmp 39) _ (.agg #[.int .i64 4, .int .i64 0, .string { data := #[] }, .int .i64 2, .slice (some ⟨sb, 0, none⟩) 2 2]) rfl rfl) ((by have h := implWeight_any fw wd 4 0 { data := #[] } 2 (some ⟨sb, 0, none⟩) 2 Lw (RWD.out.grow GS.out) HFW.out.2.2.2.1; rw [HFW.out.2.2.2.2, HFW.out.1] at h; exact h)) ?_)
      rintro e wn16 ⟨rfl, hg⟩
      replace GS := hid (gb_trans GS.out hg)
      refine ⟨_, rfl, fun _ => GS.out, ?_⟩
      clear hg
      try simp only [Act.put, List.setIfInBounds_toArray, List.set_cons_succ, List.set_cons_zero]
      refine F_only 3 (by kernel_rfl) (G_call 3 rfl (some 42) rfl rfl 10 _ (run_call1 _ (by kernel_rfl) (.tmp 41) _ (.agg #[.int .i64 k, .int .i64 m, .string u, .int .i64 x, .slice A f.len c]) rfl rfl) (implWeight_any f wn16 k m u x A c Lf (RD.out.grow GS.out) HFS.out.2.2) ?_)
      rintro e wn17 ⟨rfl, hg⟩
      replace GS := hid (gb_trans GS.out hg)
      refine ⟨_, rfl, fun _ => GS.out, ?_⟩
      clear hg
      try simp only [Act.put, List.setIfInBounds_toArray, List.set_cons_succ, List.set_cons_zero]
      rw [HW.out.1]
      refine G_take 4 rfl (some 43) rfl (by kernel_rfl) (by kernel_rfl) (by kernel_rfl) (by kernel_rfl) (by kernel_rfl) (fun _ _ _ _ h => h) rfl (.int .i64 ((W0 + 2 : Nat) : Int)) (fun w' hw => by have h9 := HW.out.2.2.1; go_simp; rw [IntKind.wrap_i64] <;> omega) GS.out ?_
      try simp only [Act.put, List.setIfInBounds_toArray, List.set_cons_succ, List.set_cons_zero]
      refine G_take 5 rfl (some 44) rfl (by kernel_rfl) (by kernel_rfl) (by kernel_rfl) (by kernel_rfl) (by kernel_rfl) (fun _ _ _ _ h => h) rfl (.bool true) (fun w' hw => by go_simp) GS.out ?_
      try simp only [Act.put, List.setIfInBounds_toArray, List.set_cons_succ, List.set_cons_zero]
      refine G_take 6 rfl (some 45) rfl (by kernel_rfl) (by kernel_rfl) (by kernel_rfl) (by kernel_rfl) (by kernel_rfl) (fun _ _ _ _ h => h) rfl (.bool true) (fun w' hw => run_mov (.tmp 44) rfl rfl) GS.out ?_
      try simp only [Act.put, List.setIfInBounds_toArray, List.set_cons_succ, List.set_cons_zero]
      refine G_load 7 rfl (some 46) rfl (by kernel_rfl) (by kernel_rfl) (by kernel_rfl) (by kernel_rfl) (by kernel_rfl) (fun _ _ _ _ h => h) rfl 26 (.tmp 4) rfl (w5.heap.size) 0 rfl [.int .i64 4, .int .i64 0, .string { data := #[] }, .int .i64 2, .slice (some ⟨sb, 0, none⟩) 2 2] (fun w' hw => (WD.out.grow hw).rangeV) Tryd.underlying26 rfl Tryd.infoV GS.out ?_
      try simp only [Act.put, List.setIfInBounds_toArray, List.set_cons_succ, List.set_cons_zero]
      refine G_load 9 rfl (some 48) rfl (by kernel_rfl) (by kernel_rfl) (by kernel_rfl) (by kernel_rfl) (by kernel_rfl) (fun _ _ _ _ h => h) rfl 26 (.tmp 3) rfl (w1.heap.size) 0 rfl [.int .i64 k, .int .i64 m, .string u, .int .i64 x, .slice A f.len c] (fun w' hw => (VD.out.grow hw).rangeV) Tryd.underlying26 rfl Tryd.infoV GS.out ?_
      try simp only [Act.put, List.setIfInBounds_toArray, List.set_cons_succ, List.set_cons_zero]
      refine F_only 8 (by kernel_rfl) (G_call 8 rfl (some 47) rfl rfl 11 _ (run_call1 _ (by kernel_rfl) (.tmp 46) _ (.agg #[.int .i64 4, .int .i64 0, .string { data := #[] }, .int .i64 2, .slice (some ⟨sb, 0, none⟩) 2 2]) rfl rfl) ((by have h := implNest_any fw wn17 4 0 { data := #[] } 2 (some ⟨sb, 0, none⟩) 2 Lw (RWD.out.grow GS.out) HFW.out.2.2.2.1; rw [HFW.out.2.2.2.2, HFW.out.2.1] at h; exact h)) ?_)
      rintro e wn18 ⟨rfl, hg⟩
      replace GS := hid (gb_trans GS.out hg)
      refine ⟨_, rfl, fun _ => GS.out, ?_⟩
      clear hg
      try simp only [Act.put, List.setIfInBounds_toArray, List.set_cons_succ, List.set_cons_zero]
      refine F_only 10 (by kernel_rfl) (G_call 10 rfl (some 49) rfl rfl 11 _ (run_call1 _ (by kernel_rfl) (.tmp 48) _ (.agg #[.int .i64 k, .int .i64 m, .string u, .int .i64 x, .slice A f.len c]) rfl rfl) (implNest_any f wn18 k m u x A c Lf (RD.out.grow GS.out) HFS.out.2.2) ?_)
      rintro e wn19 ⟨rfl, hg⟩
      replace GS := hid (gb_trans GS.out hg)
      refine ⟨_, rfl, fun _ => GS.out, ?_⟩
      clear hg
      try simp only [Act.put, List.setIfInBounds_toArray, List.set_cons_succ, List.set_cons_zero]
      rw [HW.out.2.1]
      refine G_take 11 rfl (some 50) rfl (by kernel_rfl) (by kernel_rfl) (by kernel_rfl) (by kernel_rfl) (by kernel_rfl) (fun _ _ _ _ h => h) rfl (.int .i64 ((N0 + 1 : Nat) : Int)) (fun w' hw => by have h9 := HW.out.2.2; go_simp; rw [IntKind.wrap_i64] <;> omega) GS.out ?_
      try simp only [Act.put, List.setIfInBounds_toArray, List.set_cons_succ, List.set_cons_zero]
      refine G_take 12 rfl (some 51) rfl (by kernel_rfl) (by kernel_rfl) (by kernel_rfl) (by kernel_rfl) (by kernel_rfl) (fun _ _ _ _ h => h) rfl (.bool true) (fun w' hw => by go_simp) GS.out ?_
      try simp only [Act.put, List.setIfInBounds_toArray, List.set_cons_succ, List.set_cons_zero]
      refine G_take 13 rfl (some 52) rfl (by kernel_rfl) (by kernel_rfl) (by kernel_rfl) (by kernel_rfl) (by kernel_rfl) (fun _ _ _ _ h => h) rfl (.bool true) (fun w' hw => by go_simp) GS.out ?_
      try simp only [Act.put, List.setIfInBounds_toArray, List.set_cons_succ, List.set_cons_zero]
      refine G_take 14 rfl (some 53) rfl (by kernel_rfl) (by kernel_rfl) (by kernel_rfl) (by kernel_rfl) (by kernel_rfl) (fun _ _ _ _ h => h) rfl (.bool true) (fun w' hw => run_mov (.tmp 52) rfl rfl) GS.out ?_
      try simp only [Act.put, List.setIfInBounds_toArray, List.set_cons_succ, List.set_cons_zero]
      refine G_load 15 rfl (some 54) rfl (by kernel_rfl) (by kernel_rfl) (by kernel_rfl) (by kernel_rfl) (by kernel_rfl) (fun _ _ _ _ h => h) rfl 26 (.tmp 4) rfl (w5.heap.size) 0 rfl [.int .i64 4, .int .i64 0, .string { data := #[] }, .int .i64 2, .slice (some ⟨sb, 0, none⟩) 2 2] (fun w' hw => (WD.out.grow hw).rangeV) Tryd.underlying26 rfl Tryd.infoV GS.out ?_
      try simp only [Act.put, List.setIfInBounds_toArray, List.set_cons_succ, List.set_cons_zero]
      refine G_load 17 rfl (some 56) rfl (by kernel_rfl) (by kernel_rfl) (by kernel_rfl) (by kernel_rfl) (by kernel_rfl) (fun _ _ _ _ h => h) rfl 26 (.tmp 3) rfl (w1.heap.size) 0 rfl [.int .i64 k, .int .i64 m, .string u, .int .i64 x, .slice A f.len c] (fun w' hw => (VD.out.grow hw).rangeV) Tryd.underlying26 rfl Tryd.infoV GS.out ?_
      try simp only [Act.put, List.setIfInBounds_toArray, List.set_cons_succ, List.set_cons_zero]
      refine F_only 16 (by kernel_rfl) (G_call 16 rfl (some 55) rfl rfl 15 _ (run_call1 _ (by kernel_rfl) (.tmp 54) _ (.agg #[.int .i64 4, .int .i64 0, .string { data := #[] }, .int .i64 2, .slice (some ⟨sb, 0, none⟩) 2 2]) rfl rfl) ((by have h := implIsPlain_any fw wn19 4 0 { data := #[] } 2 (some ⟨sb, 0, none⟩) 2 Lw (RWD.out.grow GS.out) HFW.out.2.2.2.1; rw [HFW.out.2.2.2.2, HFW.out.2.2.1, HPV.out] at h; exact h)) ?_)
      rintro e wn20 ⟨rfl, hg⟩
      replace GS := hid (gb_trans GS.out hg)
      refine ⟨_, rfl, fun _ => GS.out, ?_⟩
      clear hg
      try simp only [Act.put, List.setIfInBounds_toArray, List.set_cons_succ, List.set_cons_zero]
      refine F_only 18 (by kernel_rfl) (G_call 18 rfl (some 57) rfl rfl 15 _ (run_call1 _ (by kernel_rfl) (.tmp 56) _ (.agg #[.int .i64 k, .int .i64 m, .string u, .int .i64 x, .slice A f.len c]) rfl rfl) (implIsPlain_any f wn20 k m u x A c Lf (RD.out.grow GS.out) HFS.out.2.2) ?_)
      rintro e wn21 ⟨rfl, hg⟩
      replace GS := hid (gb_trans GS.out hg)
      refine ⟨_, rfl, fun _ => GS.out, ?_⟩
      clear hg
      try simp only [Act.put, List.setIfInBounds_toArray, List.set_cons_succ, List.set_cons_zero]
      rw [HPV.out]
      refine G_take 19 rfl (some 58) rfl (by kernel_rfl) (by kernel_rfl) (by kernel_rfl) (by kernel_rfl) (by kernel_rfl) (fun _ _ _ _ h => h) rfl (.bool true) (fun w' hw => by cases pv <;> go_simp) GS.out ?_
      try simp only [Act.put, List.setIfInBounds_toArray, List.set_cons_succ, List.set_cons_zero]
      refine G_take 20 rfl (some 59) rfl (by kernel_rfl) (by kernel_rfl) (by kernel_rfl) (by kernel_rfl) (by kernel_rfl) (fun _ _ _ _ h => h) rfl (.bool true) (fun w' hw => by go_simp) GS.out ?_
      try simp only [Act.put, List.setIfInBounds_toArray, List.set_cons_succ, List.set_cons_zero]
      refine G_take 21 rfl (some 60) rfl (by kernel_rfl) (by kernel_rfl) (by kernel_rfl) (by kernel_rfl) (by kernel_rfl) (fun _ _ _ _ h => h) rfl (.bool true) (fun w' hw => run_mov (.tmp 59) rfl rfl) GS.out ?_
      try simp only [Act.put, List.setIfInBounds_toArray, List.set_cons_succ, List.set_cons_zero]
      refine F_only 22 (by kernel_rfl) (G_call 22 rfl (some 61) rfl rfl 16 _ (run_call0 _ (by kernel_rfl) _ rfl) (implNullValue_any wn21) ?_)
      rintro e wn22 ⟨rfl, hg⟩
      replace GS := hid (gb_trans GS.out hg)
      refine ⟨_, rfl, fun _ => GS.out, ?_⟩
      clear hg
      try simp only [Act.put, List.setIfInBounds_toArray, List.set_cons_succ, List.set_cons_zero]
      refine G_take 23 rfl (some 62) rfl (by kernel_rfl) (by kernel_rfl) (by kernel_rfl) (by kernel_rfl) (by kernel_rfl) (fun _ _ _ _ h => h) rfl (.int .i64 0) (fun w' hw => by kernel_rfl) GS.out ?_
      try simp only [Act.put, List.setIfInBounds_toArray, List.set_cons_succ, List.set_cons_zero]
      refine G_take 24 rfl (some 63) rfl (by kernel_rfl) (by kernel_rfl) (by kernel_rfl) (by kernel_rfl) (by kernel_rfl) (fun _ _ _ _ h => h) rfl (.bool true) (fun w' hw => by go_simp) GS.out ?_
      try simp only [Act.put, List.setIfInBounds_toArray, List.set_cons_succ, List.set_cons_zero]
      refine G_take 25 rfl (some 64) rfl (by kernel_rfl) (by kernel_rfl) (by kernel_rfl) (by kernel_rfl) (by kernel_rfl) (fun _ _ _ _ h => h) rfl (.bool true) (fun w' hw => by go_simp) GS.out ?_
      try simp only [Act.put, List.setIfInBounds_toArray, List.set_cons_succ, List.set_cons_zero]
      refine G_take 26 rfl (some 65) rfl (by kernel_rfl) (by kernel_rfl) (by kernel_rfl) (by kernel_rfl) (by kernel_rfl) (fun _ _ _ _ h => h) rfl (.bool true) (fun w' hw => run_mov (.tmp 64) rfl rfl) GS.out ?_
      try simp only [Act.put, List.setIfInBounds_toArray, List.set_cons_succ, List.set_cons_zero]
      refine F_only 27 (by kernel_rfl) (G_call 27 rfl (some 66) rfl rfl 17 _ (run_call1 _ (by kernel_rfl) (.const (.bool true)) _ (.bool true) rfl rfl) (implBoolValue_t wn22) ?_)
      rintro e wn23 ⟨rfl, hg⟩
      replace GS := hid (gb_trans GS.out hg)
      refine ⟨_, rfl, fun _ => GS.out, ?_⟩
      clear hg
      try simp only [Act.put, List.setIfInBounds_toArray, List.set_cons_succ, List.set_cons_zero]
      refine G_take 28 rfl (some 67) rfl (by kernel_rfl) (by kernel_rfl) (by kernel_rfl) (by kernel_rfl) (by kernel_rfl) (fun _ _ _ _ h => h) rfl (.int .i64 1) (fun w' hw => by kernel_rfl) GS.out ?_
      try simp only [Act.put, List.setIfInBounds_toArray, List.set_cons_succ, List.set_cons_zero]
      refine G_take 29 rfl (some 68) rfl (by kernel_rfl) (by kernel_rfl) (by kernel_rfl) (by kernel_rfl) (by kernel_rfl) (fun _ _ _ _ h => h) rfl (.bool true) (fun w' hw => by go_simp) GS.out ?_
      try simp only [Act.put, List.setIfInBounds_toArray, List.set_cons_succ, List.set_cons_zero]
      refine G_take 30 rfl (some 69) rfl (by kernel_rfl) (by kernel_rfl) (by kernel_rfl) (by kernel_rfl) (by kernel_rfl) (fun _ _ _ _ h => h) rfl (.bool true) (fun w' hw => by go_simp) GS.out ?_
      try simp only [Act.put, List.setIfInBounds_toArray, List.set_cons_succ, List.set_cons_zero]
      refine G_take 31 rfl (some 2) rfl (by kernel_rfl) (by kernel_rfl) (by kernel_rfl) (by kernel_rfl) (by kernel_rfl) (fun _ _ _ _ h => h) rfl (.bool true) (fun w' hw => run_asg (.tmp 69) rfl rfl) GS.out ?_
      try simp only [Act.put, List.setIfInBounds_toArray, List.set_cons_succ, List.set_cons_zero]
      refine F_done (by kernel_rfl) ?_ _
      try simp only [Act.put, List.setIfInBounds_toArray, List.set_cons_succ, List.set_cons_zero]
      have GF := hid (gb_trans GD.out GS.out)
      go_wp2_with fail
      go_ret
      exact ⟨rfl, gb_below GF.out⟩
  · go_enter Tryd.func3, Tryd.ntmps3
    go_wp2_with (go_at_call 7; go_in)
    go_ret
    exact ⟨rfl, gb_below (gb_refl _ _)⟩
theorem valuesLaid {w : World} (h : laidMetH Tryd.prog Rows.fnValuesRow.laid w) : LaidW w := by
  rw [MakeChecks.laidMetH_plain _ _ _ (by kernel_rfl)] at h
  exact allOf h
end Go.Proofs.YtmbochhmeojmfaaDoor
