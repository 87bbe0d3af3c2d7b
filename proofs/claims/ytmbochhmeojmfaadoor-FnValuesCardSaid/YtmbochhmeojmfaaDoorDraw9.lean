/- The walk of DrawIsValue (printed by gendraw8.py). -/
import Derived.Test.YtmbochhmeojmfaaDoorDraw8
namespace Go.Proofs.YtmbochhmeojmfaaDoor
set_option maxRecDepth 20000
open Go.RowKit
set_option linter.unusedVariables false
set_option linter.unusedSimpArgs false

def DrawnI (w : World) (e : Ending) (w' : World) : Prop := ∃ (k m : Int) (u : ByteArray) (x : Int) (A : Option Addr) (c : Nat) (f : Forest) (L : List Nat), e = .returned (.agg #[.int .i64 k, .int .i64 m, .string u, .int .i64 x, .slice A f.len c]) ∧ RowF w' f A 0 f.len L ∧ f.size ≤ 300 ∧ f.sm ∧ (A = none → c = 0) ∧ w.grownBy w' none
set_option maxHeartbeats 4000000 in
theorem drawIsValue_any (A0 : Option Addr) (n0 c0 : Nat) (xs : List Int) (w : World) (hr : Rd w A0 (xs.map (.int .u8))) (hnn : xs.length = n0) (hn : n0 ≤ 1048576) : Calls Tryd.prog 8 #[.slice A0 n0 c0] w (DrawnI w) := by
  obtain ⟨i0, hi, hz0, hz1, hz2⟩ := info_parts Tryd.infoE3
  have HI := hid (And.intro hi (And.intro hz0 (And.intro hz1 hz2)))
  have HL := hid hnn
  have HR := hid (hr.grow (gb_alloc (gb_refl w none) (.cells #[.int .i64 0, .int .i64 0, .string { data := #[] }, .int .i64 0, .slice none 0 0] 26)))
  have HZ0 := hid (HoldsT.new w #[.int .i64 0, .int .i64 0, .string { data := #[] }, .int .i64 0, .slice none 0 0] 26)
  clear hr hnn hi hz0 hz1 hz2
  have tok := hid trivial
  go_enter Tryd.func8, Tryd.ntmps8
  go_wp2_with fail
  refine (l1New_any _ _ _ _ _ HR.out HL.out hn).mono ?_
  rintro e w1 ⟨rfl, hc1, hg1⟩
  have hc1' : CurOk w1 (w.heap.size + 1) := by simpa using hc1
  have hne : (some (w.heap.size + 1) : Option Nat) ≠ some w.heap.size := by intro e; injection e; omega
  have HC1 := hid hc1'
  have HZ1 := hid (HZ0.out.grow hg1)
  have G1 := hid (gb_trans (gb_alloc (gb_refl w none) (.cells #[.int .i64 0, .int .i64 0, .string { data := #[] }, .int .i64 0, .slice none 0 0] 26)) hg1)
  clear hc1 hc1' hg1
  go_wp2_with fail
  refine (l5Any_any (w.heap.size + 1) _ HC1.out).mono ?_
  rintro e w2 ⟨k, m, u, x, A, c, f, L, rfl, hb, hT, hf, hs, hc2, hg2⟩
  have hT2 : Rw w2 35 (w.heap.size + 2) f A c L := hT.mono HC1.out.lt
  have htl : ∀ b ∈ blk A ++ L, b < w2.heap.size := hT.own.2.lt
  have HTL := hid htl
  have HB := hid hs
  have HO2 := hid (HoldsT.new w2 #[.int .i64 k, .int .i64 m, .string u, .int .i64 x, .slice A f.len c] 26)
  have HT2 := hid (hT2.grow (gb_alloc (gb_refl w2 none) (.cells #[.int .i64 k, .int .i64 m, .string u, .int .i64 x, .slice A f.len c] 26)))
  have HC2 := hid (hc2.alloc (.cells #[.int .i64 k, .int .i64 m, .string u, .int .i64 x, .slice A f.len c] 26))
  have HZ2 := hid ((HZ1.out.kept hg2 hne).alloc (.cells #[.int .i64 k, .int .i64 m, .string u, .int .i64 x, .slice A f.len c] 26))
  have G2 := hid (gb_alloc (gb_fresh G1.out hg2 (fun q hq => by have h : w.heap.size + 1 = q := Option.some.inj hq; omega)) (.cells #[.int .i64 k, .int .i64 m, .string u, .int .i64 x, .slice A f.len c] 26))
  have hl2 : w.heap.size + 1 < w2.heap.size := hc2.lt
  have hne2 : (some (w.heap.size + 1) : Option Nat) ≠ some w2.heap.size := by intro e; injection e; omega
  clear hb hT hT2 hs hc2 hg2 htl
  go_wp2_with fail
  refine (once_any (w.heap.size + 1) 9 _ HC2.out).mono ?_
  rintro e w3 ⟨b, rfl, hc3, hg3⟩
  have HO3 := hid (HO2.out.kept hg3 hne2)
  have HT3 := hid (HT2.out.low hg3 (by omega))
  have HC3 := hid hc3
  have HZ3 := hid (HZ2.out.kept hg3 hne)
  have G3 := hid (gb_fresh G2.out hg3 (fun q hq => by have h : w.heap.size + 1 = q := Option.some.inj hq; omega))
  clear hc3 hg3
  cases b
  · skip
    obtain ⟨r0, r1, r2, r3, r4⟩ := HZ3.out.cells5
    have y0 := HZ3.out.frozen 0; have y1 := HZ3.out.frozen 1; have y2 := HZ3.out.frozen 2; have y3 := HZ3.out.frozen 3; have y4 := HZ3.out.frozen 4
    have lz := HZ3.out.lt
    obtain ⟨b0, b1, b2, b3, b4⟩ := HO3.out.cells5
    have lb := HO3.out.lt
    go_wp2_with fail
    refine bodyPost_ret (results_cell_row rfl _ _ _ _ _ (0, 0) _ rfl (HZ3.out.set5 _ _ _ _ _) Tryd.underlying26 rfl Tryd.infoV) rfl ?_
    exact ⟨k, m, u, x, A, c, f, L, rfl, ((HT3.out.low (g := w.heap.size) (gb_set5 (gb_refl _ _) (.inr rfl) _ _ _ _ _) (by omega)).own.1), by omega, HB.out, HT3.out.nil0, gb_set5 G3.out (.inl (Nat.le_refl _)) _ _ _ _ _⟩
  · go_wp2_with fail
    refine (l1Below_any _ _ _ HC3.out).mono ?_
    rintro e w4 ⟨p, ⟨hp0, hp1⟩, rfl, hc4, hg4⟩
    obtain ⟨p0, rfl⟩ := Int.eq_ofNat_of_zero_le hp0
    have HO4 := hid (HO3.out.kept hg4 hne2)
    have HT4 := hid (HT3.out.low hg4 (by omega))
    have HZ4 := hid (HZ3.out.kept hg4 hne)
    have G4 := hid (gb_fresh G3.out hg4 (fun q hq => by have h : w.heap.size + 1 = q := Option.some.inj hq; omega))
    clear hc4 hg4
    have hp2 : p0 ≤ 14 := by omega
    have hpk : ∃ kk : Nat, (190 : Int) + (p0 : Int) = (kk : Int) ∧ kk ≤ 204 := ⟨190 + p0, by omega, by omega⟩
    obtain ⟨kk0, hkk, hkb⟩ := hpk
    clear hp0 hp1 hp2
    go_wp2_with fail
    go_loopw [5] (fun kv wr => ∃ (kk : Nat) (f : Forest) (A : Option Addr) (c : Nat) (L : List Nat), kv = .int .i64 kk ∧ Hid (f.size + kk ≤ 85 + 204) ∧ Hid f.sm ∧ Hid (HoldsT wr w2.heap.size #[.int .i64 k, .int .i64 m, .string u, .int .i64 x, .slice A f.len c] 26) ∧ Hid (Rw wr 35 (w.heap.size + 2) f A c L) ∧ Hid (w2.heap.size ∉ blk A ++ L) ∧ Hid (HoldsT wr w.heap.size #[.int .i64 0, .int .i64 0, .string { data := #[] }, .int .i64 0, .slice none 0 0] 26) ∧ Hid (w.grownBy wr none)) (fun kv _ => (intOf kv).toNat)
    case atStart => exact ⟨kk0, f, A, c, L, by go_num, hid (by omega), HB, HO4, HT4, hid (fun hm => Nat.lt_irrefl _ (HTL.out _ hm)), HZ4, G4⟩
    case round =>
      clear HO2 HT2 HC2 HZ2 G2 HO3 HT3 HC3 HZ3 G3 HO4 HT4 HZ4 G4 HTL HB hkk hkb
      obtain ⟨kk, f, A, c, L, rfl, HKs, HSm, HO, HT, HNo, HZ, HG⟩ := hrel
      rcases Nat.eq_zero_or_pos kk with hk | hk
      · subst hk
        obtain ⟨r0, r1, r2, r3, r4⟩ := HZ.out.cells5
        have y0 := HZ.out.frozen 0; have y1 := HZ.out.frozen 1; have y2 := HZ.out.frozen 2; have y3 := HZ.out.frozen 3; have y4 := HZ.out.frozen 4
        have lz := HZ.out.lt
        obtain ⟨b0, b1, b2, b3, b4⟩ := HO.out.cells5
        have lb := HO.out.lt
        have v0 := HO.out.frozen 0; have v1 := HO.out.frozen 1; have v2 := HO.out.frozen 2; have v3 := HO.out.frozen 3
        have s9 := gb_set (a := ⟨w2.heap.size, 3, none⟩) (gb_set (a := ⟨w2.heap.size, 2, none⟩) (gb_set (a := ⟨w2.heap.size, 1, none⟩) (gb_set (a := ⟨w2.heap.size, 0, none⟩) (gb_refl wr (some w2.heap.size)) (.inr rfl) (.int .i64 4)) (.inr rfl) (.int .i64 0)) (.inr rfl) (.string { data := #[] })) (.inr rfl) (.int .i64 1000)
        have S9 := hid s9
        clear s9
        go_wp2_with fail
        have HZ5 := hid (HZ.out.kept S9.out (by intro e; injection e; omega))
        have HT5 := hid (HT.out.kept S9.out (fun q hq hm => by have h : w2.heap.size = q := Option.some.inj hq; subst h; exact HNo.out hm))
        have G5 := hid (gb_fresh HG.out S9.out (fun q hq => by have h : w2.heap.size = q := Option.some.inj hq; omega))
        refine bodyPost_ret (results_cell_row rfl _ _ _ _ _ (0, 0) _ rfl (HZ5.out.set5 _ _ _ _ _) Tryd.underlying26 rfl Tryd.infoV) rfl ?_
        exact ⟨4, 0, { data := #[] }, 1000, A, c, f, L, rfl, ((HT5.out.low (g := w.heap.size) (gb_set5 (gb_refl _ _) (.inr rfl) _ _ _ _ _) (by omega)).own.1), by have := HKs.out; omega, HSm.out, HT5.out.nil0, gb_set5 G5.out (.inl (Nat.le_refl _)) _ _ _ _ _⟩
      · obtain ⟨kj, rfl⟩ : ∃ kj, kk = kj + 1 := ⟨kk - 1, by omega⟩
        have hfl : f.len ≤ 289 := by have := f.len_le; have := HKs.out; omega
        have hkb2 : kj ≤ 289 := by have := HKs.out; omega
        obtain ⟨cs, hown, hsub, hol, hnb⟩ := HT.out.grow (gb_alloc (gb_refl wr none) (.cells #[.bool false, .int .i64 ((kj : Int) + 1), .string { data := #[] }, .int .i64 0, .int .i64 0, .string { data := #[] }, .int .i64 0, .slice none 0 0] 35))
        have HRq : Hid (∀ q, (Value.slice A f.len c).ownBlock = some q → (w.heap.size + 2 ≤ q ∧ q < wr.heap.size ∧ q ≠ w2.heap.size) ∧ q ∉ L ++ (blk none ++ [])) := hid fun q hq => by
          have hq1 : q ∈ blk A := blk_own.1 hq
          have hq2 := HT.out.own.2.2 q (List.mem_append.2 (.inl hq1))
          refine ⟨⟨hq2.1, hq2.2.lt, fun e => HNo.out (List.mem_append.2 (.inl (e ▸ hq1)))⟩, fun hm => ?_⟩
          simp only [blk, List.append_nil] at hm
          exact hnb q hq1 hm
        have HSub := hid (And.intro hsub hol)
        have HOw := hid hown
        have HNW := hid (news_lit wr [.bool false, .int .i64 ((kj : Int) + 1), .string { data := #[] }, .int .i64 0, .int .i64 0, .string { data := #[] }, .int .i64 0, .slice none 0 0] 35)
        have hszr : w.heap.size + 2 ≤ wr.heap.size := Nat.lt_trans hl2 HO.out.lt
        have HSZ := hid hszr
        clear hsub hol hnb hown hszr hk
        obtain ⟨o0, o1, o2, o3, o4⟩ := HO.out.cells5
        have lo := HO.out.lt
        go_wp2_with (at_builtin; refine wpList_append_own_at _ rfl _ _ 24 rfl (w.heap.size + 2) 35 i0 entry0 8 96 Tryd.underlying24 HI.out.1 HI.out.2.1 HI.out.2.2.1 HI.out.2.2.2 rfl (by omega) (.slice A f.len c) f.len cs rfl HOw.out ⟨wr.heap.size, 0, none⟩ 1 1 [.bool false, .int .i64 ((kj : Int) + 1), .string { data := #[] }, .int .i64 0, .int .i64 0, .string { data := #[] }, .int .i64 0, .slice none 0 0] rfl rfl HNW.out (by simp [Value.oneCell']) (by unfold maxLen; omega) (by omega) (by have := HSZ.out; simp only [World.size_alloc]; omega) ?_; intro v8 w8 hown3 hg3 _ hat3; revert tok)
        intro tok
        obtain ⟨A3, c3, rfl, hA30⟩ := own_form hown3
        have hT8 := rw_snoc (f2 := .nil) (A2 := none) (c2 := 0) (L2 := []) hown3 HSub.out.1 ⟨rfl, rfl⟩ (fun _ => rfl) (by simpa [blk] using HSub.out.2) hg3 (fun q hq => (HRq.out q hq).2) hat3
        have HO8 := hid ((HO.out.alloc (.cells #[.bool false, .int .i64 ((kj : Int) + 1), .string { data := #[] }, .int .i64 0, .int .i64 0, .string { data := #[] }, .int .i64 0, .slice none 0 0] 35)).kept hg3 (fun e => (HRq.out _ e).1.2.2 rfl))
        have HT8 := hid hT8
        have HZ8 := hid ((HZ.out.alloc (.cells #[.bool false, .int .i64 ((kj : Int) + 1), .string { data := #[] }, .int .i64 0, .int .i64 0, .string { data := #[] }, .int .i64 0, .slice none 0 0] 35)).kept hg3 (fun e => by have := (HRq.out _ e).1.1; omega))
        have HG8 : Hid (w.grownBy w8 none) := hid (gb_fresh (gb_alloc HG.out (.cells #[.bool false, .int .i64 ((kj : Int) + 1), .string { data := #[] }, .int .i64 0, .int .i64 0, .string { data := #[] }, .int .i64 0, .slice none 0 0] 35)) hg3 (fun q hq => by have := (HRq.out q hq).1.1; omega))
        have hA3 : w2.heap.size ∉ blk A3 ++ (L ++ (blk none ++ [])) := fun hm => by
          rcases List.mem_append.1 hm with hm | hm
          · rcases hat3 with h | h
            · have h2 := (blk_own (n := f.len + 1) (c := c3)).2 hm; exact (HRq.out _ (h.symm.trans h2)).1.2.2 rfl
            · have h2 := Option.some.inj (h.symm.trans ((blk_own (n := f.len + 1) (c := c3)).2 hm)); have := (HO.out.alloc (.cells #[.bool false, .int .i64 ((kj : Int) + 1), .string { data := #[] }, .int .i64 0, .int .i64 0, .string { data := #[] }, .int .i64 0, .slice none 0 0] 35)).lt; omega
          · simp only [blk, List.append_nil] at hm; exact HNo.out (List.mem_append.2 (.inr hm))
        have HA3 := hid hA3
        clear o0 o1 o2 o3 o4 lo hown3 hg3 hat3 hT8 hA3 hA30
        obtain ⟨o0, o1, o2, o3, o4⟩ := HO8.out.cells5
        have u4 := HO8.out.frozen 4
        have lo := HO8.out.lt
        have s9 : w8.grownBy (w8.setCell ⟨w2.heap.size, 4, none⟩ (.slice A3 (f.len + 1) c3)) (some w2.heap.size) := gb_set (gb_refl _ _) (.inr rfl) _
        have S9 := hid s9
        clear s9
        have HLn := hid (show (f.app (.cons false ((kj : Int) + 1) { data := #[] } 0 0 { data := #[] } 0 .nil .nil)).len = f.len + 1 by rw [Forest.len_app]; rfl)
        go_wp2_with fail
        go_roundw
        case rel => exact ⟨kj, (f.app (.cons false ((kj : Int) + 1) { data := #[] } 0 0 { data := #[] } 0 .nil .nil)), A3, c3, _, by go_num, hid (by rw [sizeTwo]; simp only [Forest.size]; have := HKs.out; omega), hid (Forest.sm_app HSm.out ⟨⟨by decide, by decide, by unfold I64; omega, by unfold I64; omega, by unfold I64; omega, by unfold I64; omega⟩, trivial, trivial⟩), hid (by rw [HLn.out]; exact HO8.out.set 4 _), hid (HT8.out.kept S9.out (fun q hq hm => by have h : w2.heap.size = q := Option.some.inj hq; subst h; exact HA3.out hm)), HA3, hid (HZ8.out.kept S9.out (by intro e; injection e; omega)), hid (gb_fresh HG8.out S9.out (fun q hq => by have h : w2.heap.size = q := Option.some.inj hq; omega))⟩
        case measure => simp [intOf] <;> omega
end Go.Proofs.YtmbochhmeojmfaaDoor
