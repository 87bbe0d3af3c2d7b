/- The walk of l5Draw (printed by gendraw7.py). -/
import Derived.Test.YtmbochhmeojmfaaDoorDraw6
import Derived.Test.YtmbochhmeojmfaaDoorSet
import Derived.Test.YtmbochhmeojmfaaDoorHeldF
namespace Go.Proofs.YtmbochhmeojmfaaDoor
set_option maxRecDepth 20000
open Go.RowKit
set_option linter.unusedVariables false
set_option linter.unusedSimpArgs false

def drawB : Nat → Nat
  | 0 => 0
  | d + 1 => 4 * (1 + drawB d)
/-- A drawn value: a tree of the call's own, at most so many entries, small texts. -/
def DrawnV (g B : Nat) (w : World) (e : Ending) (w' : World) : Prop := ∃ (k m : Int) (u : ByteArray) (x : Int) (A : Option Addr) (c : Nat) (f : Forest) (L : List Nat), e = .returned (.agg #[.int .i64 k, .int .i64 m, .string u, .int .i64 x, .slice A f.len c]) ∧ (I64 k ∧ I64 m ∧ I64 x ∧ u.size ≤ 21) ∧
  Rw w' 35 w.heap.size f A c L ∧ f.size ≤ B ∧ f.sm ∧ CurOk w' g ∧ w.grownBy w' (some g)
theorem OwnL.appG {w w1 : World} {e : TypeId} {lo : Nat} {L M : List Nat} {r : Option Nat} (hlo : lo ≤ w.heap.size) (h : OwnL w e lo L) (hg : w.grownBy w1 r) (hr : ∀ g, r = some g → g ∉ L) (h2 : OwnL w1 e w.heap.size M) : OwnL w1 e lo (L ++ M) := by
  refine ⟨List.nodup_append.2 ⟨h.1, h2.1, fun a ha b hb e => ?_⟩, fun b hb => ?_⟩
  · subst e
    have := h.lt a ha
    have := (h2.2 a hb).1
    omega
  · rcases List.mem_append.1 hb with hb | hb
    · exact (h.kept hg hr).2 b hb
    · exact ⟨Nat.le_trans hlo (h2.2 b hb).1, (h2.2 b hb).2⟩
/-- A row behind an append of one entry. -/
theorem rw_snoc {wa w3 : World} {lo : Nat} {e : TypeId} {f f2 : Forest} {A3 A2 : Option Addr} {c3 c2 : Nat} {cs : List Value} {L L2 : List Nat} {RB : Option Nat} {t : Bool} {n : Int} {s : ByteArray} {k m : Int} {u : ByteArray} {x : Int}
    (hown : w3.ownsRow lo e 8 (.slice A3 (f.len + 1) c3) (f.len + 1) (cs ++ [.bool t, .int .i64 n, .string s, .int .i64 k, .int .i64 m, .string u, .int .i64 x, .slice A2 f2.len c2])) (hsub : SubF wa f cs L) (h2 : RowF wa f2 A2 0 f2.len L2) (hz : A2 = none → c2 = 0)
    (hol : OwnL wa e lo (L ++ (blk A2 ++ L2))) (hg : wa.grownBy w3 RB) (hRB : ∀ q, RB = some q → q ∉ L ++ (blk A2 ++ L2)) (hat : (Value.slice A3 (f.len + 1) c3).ownBlock = RB ∨ (Value.slice A3 (f.len + 1) c3).ownBlock = some wa.heap.size) :
    Rw w3 e lo (f.app (.cons t n s k m u x f2 .nil)) A3 c3 (L ++ (blk A2 ++ L2)) := by
  have hl : (f.app (.cons t n s k m u x f2 .nil)).len = f.len + 1 := by rw [Forest.len_app]; rfl
  refine ⟨cs ++ [.bool t, .int .i64 n, .string s, .int .i64 k, .int .i64 m, .string u, .int .i64 x, .slice A2 f2.len c2], by rw [hl]; exact hown, ((hsub.app (SubF.one t n s k m u x hz h2)).kept hg hRB), hol.kept hg hRB, fun b hb hm => ?_⟩
  have h1 := (blk_own (n := f.len + 1) (c := c3)).2 hb
  rcases hat with h | h
  · exact hRB b (h.symm.trans h1) hm
  · have h3 := Option.some.inj (h.symm.trans h1)
    have := hol.lt b hm
    omega
theorem sizeTwo (f f2 : Forest) (t : Bool) (n : Int) (s : ByteArray) (k m : Int) (u : ByteArray) (x : Int) : (f.app (.cons t n s k m u x f2 .nil)).size = f.size + (f2.size + 1) := by
  rw [Forest.size_app]; simp only [Forest.size]
set_option maxHeartbeats 8000000 in
theorem l5Draw_any (d : Nat) : d ≤ 3 → ∀ (g : Nat) (w : World), CurOk w g → Calls Tryd.prog 54 #[.pointer (some ⟨g, 0, none⟩), .int .i64 d] w (DrawnV g (drawB d) w) := by
  induction d with
  | zero =>
    intro _ g w hcur
    have hl := hcur.lt
    have HC := hid (hcur.alloc (.cells #[.int .i64 0, .int .i64 0, .string { data := #[] }, .int .i64 0, .slice none 0 0] 26))
    have HZ := hid (HoldsT.new w #[.int .i64 0, .int .i64 0, .string { data := #[] }, .int .i64 0, .slice none 0 0] 26)
    have hne : (some g : Option Nat) ≠ some w.heap.size := by intro e; injection e; omega
    have G0 := hid (gb_alloc (gb_refl w (some g)) (.cells #[.int .i64 0, .int .i64 0, .string { data := #[] }, .int .i64 0, .slice none 0 0] 26))
    clear hcur
    go_enter Tryd.func54, Tryd.ntmps54
    go_wp2_with fail
    refine (l5Scalar_any g _ HC.out).mono ?_
    rintro e w9 ⟨k, m, u, x, rfl, hb, hc9, hg9⟩
    have HBs := hid hb
    have HC9 := hid hc9
    have HZ9 := hid (HZ.out.kept hg9 hne)
    have G9 := hid (gb_trans G0.out hg9)
    clear hb hc9 hg9
    obtain ⟨r0, r1, r2, r3, r4⟩ := HZ9.out.cells5
    have y0 := HZ9.out.frozen 0; have y1 := HZ9.out.frozen 1; have y2 := HZ9.out.frozen 2; have y3 := HZ9.out.frozen 3; have y4 := HZ9.out.frozen 4
    have lz := HZ9.out.lt
    go_wp2_with fail
    refine bodyPost_ret (results_cell_row rfl _ _ _ _ _ (0, 0) _ rfl (HZ9.out.set5 _ _ _ _ _) Tryd.underlying26 rfl Tryd.infoV) rfl ?_
    exact ⟨k, m, u, x, none, 0, .nil, [], rfl, HBs.out, ⟨[], World.ownsRow_nil _ _ _ _, ⟨rfl, rfl⟩, OwnL.nil _ _ _, by intro b hb; cases hb⟩, Nat.zero_le _, trivial, HC9.out.kept (gb_set5 (gb_refl w9 (some w.heap.size)) (g := w.heap.size) (.inr rfl) _ _ _ _ _) (fun q hq => by have h : w.heap.size = q := Option.some.inj hq; omega), gb_set5 G9.out (.inl (Nat.le_refl _)) _ _ _ _ _⟩
  | succ d ih =>
    intro hd g w hcur
    have IH := hid (ih (by omega))
    have hl := hcur.lt
    have hP : (drawB (d + 1)) = 4 * (1 + drawB d) := rfl
    rw [hP]
    have HDB : Hid (drawB d ≤ 1000) := hid (by
      have : d = 0 ∨ d = 1 ∨ d = 2 := by omega
      rcases this with rfl | rfl | rfl <;> decide)
    obtain ⟨P, hP2⟩ : ∃ P, drawB d = P := ⟨_, rfl⟩
    rw [hP2] at IH HDB ⊢
    obtain ⟨i0, hi, hz0, hz1, hz2⟩ := info_parts Tryd.infoE3
    have HI := hid (And.intro hi (And.intro hz0 (And.intro hz1 hz2)))
    have HC0 := hid (hcur.alloc (.cells #[.int .i64 0, .int .i64 0, .string { data := #[] }, .int .i64 0, .slice none 0 0] 26))
    have HZ0 := hid (HoldsT.new w #[.int .i64 0, .int .i64 0, .string { data := #[] }, .int .i64 0, .slice none 0 0] 26)
    have hne : (some g : Option Nat) ≠ some w.heap.size := by intro e; injection e; omega
    have G00 := hid (gb_alloc (gb_refl w (some g)) (.cells #[.int .i64 0, .int .i64 0, .string { data := #[] }, .int .i64 0, .slice none 0 0] 26))
    obtain ⟨d1, hd1⟩ : ∃ z : Int, ((d + 1 : Nat) : Int) = z := ⟨_, rfl⟩
    have hd2 : 0 < d1 ∧ d1 = (d : Int) + 1 ∧ d1 ≤ 3 := by omega
    rw [hd1]
    have HD1 := hid hd2
    have hd3 := hd2.1
    clear hcur ih hd hP hP2 hi hz0 hz1 hz2 hd1 hd2
    go_enter Tryd.func54, Tryd.ntmps54
    go_wp2_with fail
    refine (once_any g 3 _ HC0.out).mono ?_
    rintro e w1 ⟨b, rfl, hc1, hg1⟩
    have HC := hid hc1
    have HZ := hid (HZ0.out.kept hg1 hne)
    have G0 := hid (gb_trans G00.out hg1)
    have hl1 : w.heap.size < w1.heap.size := HZ.out.lt
    clear hc1 hg1 HC0 HZ0 G00
    cases b
    · go_wp2_with fail
      refine (l5Scalar_any g _ HC.out).mono ?_
      rintro e w9 ⟨k, m, u, x, rfl, hb, hc9, hg9⟩
      have HBs := hid hb
      have HC9 := hid hc9
      have HZ9 := hid (HZ.out.kept hg9 hne)
      have G9 := hid (gb_trans G0.out hg9)
      clear hb hc9 hg9
      obtain ⟨r0, r1, r2, r3, r4⟩ := HZ9.out.cells5
      have y0 := HZ9.out.frozen 0; have y1 := HZ9.out.frozen 1; have y2 := HZ9.out.frozen 2; have y3 := HZ9.out.frozen 3; have y4 := HZ9.out.frozen 4
      have lz := HZ9.out.lt
      go_wp2_with fail
      refine bodyPost_ret (results_cell_row rfl _ _ _ _ _ (0, 0) _ rfl (HZ9.out.set5 _ _ _ _ _) Tryd.underlying26 rfl Tryd.infoV) rfl ?_
      exact ⟨k, m, u, x, none, 0, .nil, [], rfl, HBs.out, ⟨[], World.ownsRow_nil _ _ _ _, ⟨rfl, rfl⟩, OwnL.nil _ _ _, by intro b hb; cases hb⟩, Nat.zero_le _, trivial, HC9.out.kept (gb_set5 (gb_refl w9 (some w.heap.size)) (g := w.heap.size) (.inr rfl) _ _ _ _ _) (fun q hq => by have h : w.heap.size = q := Option.some.inj hq; omega), gb_set5 G9.out (.inl (Nat.le_refl _)) _ _ _ _ _⟩
    · go_wp2_with fail
      refine (specArrayValue_any _).mono ?_
      rintro e w2 ⟨rfl, hg2⟩
      have hob : w.heap.size < w2.heap.size := Nat.lt_of_lt_of_le hl1 hg2.size
      have HOB := hid hob
      have HC2 := hid ((HC.out.kept hg2 (by simp)).alloc (.cells #[.int .i64 4, .int .i64 0, .string { data := #[] }, .int .i64 0, .slice none 0 0] 26))
      have HO2 := hid (HoldsT.new w2 #[.int .i64 4, .int .i64 0, .string { data := #[] }, .int .i64 0, .slice none 0 0] 26)
      have HZ2 := hid ((HZ.out.grow hg2).alloc (.cells #[.int .i64 4, .int .i64 0, .string { data := #[] }, .int .i64 0, .slice none 0 0] 26))
      have G2 := hid (gb_alloc (gb_trans G0.out (gb_any hg2)) (.cells #[.int .i64 4, .int .i64 0, .string { data := #[] }, .int .i64 0, .slice none 0 0] 26))
      clear hg2 HC HZ G0 hob
      go_wp2_with fail
      refine (l1Below_any _ _ _ HC2.out).mono ?_
      rintro e w3 ⟨kx, ⟨hk0, hk1⟩, rfl, hc3, hg3⟩
      obtain ⟨kk0, rfl⟩ := Int.eq_ofNat_of_zero_le hk0
      have hne2 : (some g : Option Nat) ≠ some w2.heap.size := by intro e; injection e; have := HOB.out; omega
      have HC3 := hid hc3
      have HO3 := hid (HO2.out.kept hg3 hne2)
      have HZ3 := hid (HZ2.out.kept hg3 hne)
      have G3 := hid (gb_trans G2.out hg3)
      have hkk : kk0 * (1 + P) ≤ 4 * (1 + P) := Nat.mul_le_mul_right _ (by omega)
      have HKK := hid hkk
      have HNE := hid (And.intro hne hne2)
      clear hc3 hg3 hk0 hk1 HC2 HO2 HZ2 G2 hkk hl1
      go_wp2_with fail
      go_loopw [6] (fun kv wr => ∃ (kk : Nat) (y : Int) (f : Forest) (A : Option Addr) (c : Nat) (L : List Nat), kv = .int .i64 kk ∧ Hid (f.size + kk * (1 + P) ≤ 4 * (1 + P)) ∧ Hid (0 ≤ y ∧ y ≤ 1000000001) ∧ Hid f.sm ∧ Hid (HoldsT wr w2.heap.size #[.int .i64 4, .int .i64 0, .string { data := #[] }, .int .i64 y, .slice A f.len c] 26) ∧ Hid (Rw wr 35 (w2.heap.size + 1) f A c L) ∧
        Hid (HoldsT wr w.heap.size #[.int .i64 0, .int .i64 0, .string { data := #[] }, .int .i64 0, .slice none 0 0] 26) ∧ Hid (CurOk wr g) ∧ Hid (w.grownBy wr (some g))) (fun kv _ => (intOf kv).toNat)
      case atStart => exact ⟨kk0, 0, .nil, none, 0, [], rfl, hid (by have := HKK.out; simp only [Forest.size]; omega), hid (by omega), hid trivial, HO3, hid ⟨[], World.ownsRow_nil _ _ _ _, ⟨rfl, rfl⟩, OwnL.nil _ _ _, by intro b hb; cases hb⟩, HZ3, HC3, G3⟩
      case round =>
        obtain ⟨kk, y, f, A, c, L, rfl, HKs, HY, HSm, HO, HT, HZ, HC, HG⟩ := hrel
        rcases Nat.eq_zero_or_pos kk with hk | hk
        · subst hk
          obtain ⟨b0, b1, b2, b3, b4⟩ := HO.out.cells5
          obtain ⟨r0, r1, r2, r3, r4⟩ := HZ.out.cells5
          have y0 := HZ.out.frozen 0; have y1 := HZ.out.frozen 1; have y2 := HZ.out.frozen 2; have y3 := HZ.out.frozen 3; have y4 := HZ.out.frozen 4
          have lz := HZ.out.lt
          have lx := HO.out.lt
          go_wp2_with fail
          refine bodyPost_ret (results_cell_row rfl _ _ _ _ _ (0, 0) _ rfl (HZ.out.set5 _ _ _ _ _) Tryd.underlying26 rfl Tryd.infoV) rfl ?_
          exact ⟨4, 0, { data := #[] }, y, A, c, f, L, rfl, ⟨by unfold I64; omega, by unfold I64; omega, by have := HY.out; unfold I64; omega, by decide⟩, (HT.out.low (g := w.heap.size) (gb_set5 (gb_refl _ _) (.inr rfl) _ _ _ _ _) (by have := HOB.out; omega)).mono (by have := HOB.out; omega), by have := HKs.out; omega, HSm.out,
            HC.out.kept (gb_set5 (gb_refl wr (some w.heap.size)) (g := w.heap.size) (.inr rfl) _ _ _ _ _) (fun q hq => by have h : w.heap.size = q := Option.some.inj hq; omega), gb_set5 HG.out (.inl (Nat.le_refl _)) _ _ _ _ _⟩
        · obtain ⟨kj, rfl⟩ : ∃ kj, kk = kj + 1 := ⟨kk - 1, by omega⟩
          have hks2 : f.size + (1 + P) + kj * (1 + P) ≤ 4 * (1 + P) := by have := HKs.out; rw [Nat.add_mul, Nat.one_mul] at this; omega
          have HK2 := hid hks2
          have hfz : f.size ≤ 1048576 := by have := HKs.out; have := HDB.out; omega
          have hkb : kj ≤ 4 := by
            rcases Nat.lt_or_ge 4 kj with h | h
            · have : 5 * (1 + P) ≤ kj * (1 + P) := Nat.mul_le_mul_right _ h
              omega
            · exact h
          have HKJ := hid (show (((kj + 1 : Nat) : Int)) = (kj : Int) + 1 from rfl)
          clear hks2 hk
          go_wp2_with fail
          refine (l5Key_any g _ HC.out).mono ?_
          rintro e w4 ⟨t, n, s, rfl, hs, hn, hc4, hg4⟩
          have HSN := hid (And.intro hs hn)
          have HKa := hid (HoldsT.new w4 #[.bool t, .int .i64 n, .string s] 33)
          have GA := gb_alloc hg4 (.cells #[.bool t, .int .i64 n, .string s] 33)
          have HC4 := hid (hc4.alloc (.cells #[.bool t, .int .i64 n, .string s] 33))
          have HO4 := hid (HO.out.kept GA HNE.out.2)
          have HZ4 := hid (HZ.out.kept GA HNE.out.1)
          have HT4 := hid (HT.out.low GA (by have := HOB.out; omega))
          have HG4 := hid (gb_trans HG.out GA)
          have hkb4 : w2.heap.size < w4.heap.size := Nat.lt_of_lt_of_le HO.out.lt hg4.size
          have HKB := hid hkb4
          have htk : ∀ q ∈ blk A ++ L, q < w4.heap.size := fun q hq => Nat.lt_of_lt_of_le (HT.out.own.2.lt q hq) hg4.size
          have HTK := hid htk
          clear hs hn hc4 hg4 GA hkb4 htk HO HZ HT HG HC
          go_wp2_with fail
          refine (once_any g 2 _ HC4.out).mono ?_
          rintro e w5 ⟨b, rfl, hc5, hg5⟩
          have hnk : (some g : Option Nat) ≠ some w4.heap.size := by intro e; injection e; have := HKB.out; have := HOB.out; omega
          have HNK := hid hnk
          have HKc := hid (HKa.out.kept hg5 hnk)
          have HCc := hid hc5
          have HOc := hid (HO4.out.kept hg5 HNE.out.2)
          have HZc := hid (HZ4.out.kept hg5 HNE.out.1)
          have HTc := hid (HT4.out.low hg5 (by have := HOB.out; omega))
          have HGc := hid (gb_trans HG4.out hg5)
          clear hc5 hg5 hnk HKa HC4 HO4 HZ4 HT4 HG4
          cases b
          · skip
            obtain ⟨o0, o1, o2, o3, o4⟩ := HOc.out.cells5
            have lo := HOc.out.lt
            obtain ⟨q0, q1, q2⟩ := HKc.out.cells3
            have lk := HKc.out.lt
            go_wp2_with fail
            have hfi := specL5Find_any f t n s _ 4 0 { data := #[] } y A c L HTc.out.own.1 hfz
            rw [show valFind 4 t n s f = f.find t n s 0 from if_pos rfl] at hfi
            refine hfi.mono ?_
            rintro e w6 ⟨rfl, hg6⟩
            clear hfi o0 o1 o2 o3 o4 lo q0 q1 q2 lk
            have HK6 := hid (HKc.out.grow hg6)
            have HC6 := hid (HCc.out.kept hg6 (by simp))
            have HO6 := hid (HOc.out.grow hg6)
            have HZ6 := hid (HZc.out.grow hg6)
            have HT6 := hid (HTc.out.grow hg6)
            have HG6 := hid (gb_trans HGc.out (gb_any hg6))
            clear hg6
            rcases f.find_lt t n s 0 with h1 | ⟨j, h1, _, _⟩
            · rw [h1]
              clear h1
              go_wp2_with fail
              refine wp_region_F 11 12 rfl (by kernel_rfl) (fun wd w' => HoldsT w' w2.heap.size #[.int .i64 4, .int .i64 0, .string { data := #[] }, .int .i64 y, .slice A f.len c] 26 ∧ HoldsT w' w4.heap.size #[.bool t, .int .i64 n, .string s] 33) fun wd gd => ?_
              have HTD := hid (HT6.out.grow gd)
              have HZD := hid (HZ6.out.grow gd)
              have HCD := hid (HC6.out.kept gd (by simp))
              have HGD := hid (gb_trans HG6.out (gb_any gd))
              have HSD := hid (And.intro (HO6.out.grow gd) (HK6.out.grow gd))
              clear gd
              refine F_take 0 rfl (some 40) rfl (by kernel_rfl) (by kernel_rfl) (by kernel_rfl) (by kernel_rfl) (by kernel_rfl) (fun _ _ _ _ h => h) rfl (.pointer (some ⟨w2.heap.size, 4, none⟩)) (fun w' hw => by go_simp) HSD.out ?_
              simp only [Act.put, List.setIfInBounds_toArray, List.set_cons_succ, List.set_cons_zero]
              refine F_take 1 rfl (some 41) rfl (by kernel_rfl) (by kernel_rfl) (by kernel_rfl) (by kernel_rfl) (by kernel_rfl) (fun _ _ _ _ h => h) rfl (.slice A f.len c) (fun w' hw => by have fc := hw.1.cells5.2.2.2.2; go_simp) HSD.out ?_
              simp only [Act.put, List.setIfInBounds_toArray, List.set_cons_succ, List.set_cons_zero]
              refine F_load 2 rfl (some 42) rfl (by kernel_rfl) (by kernel_rfl) (by kernel_rfl) (by kernel_rfl) (by kernel_rfl) (fun _ _ _ _ h => h) rfl 33 (.tmp 7) rfl w4.heap.size 0 rfl [.bool t, .int .i64 n, .string s] (fun w' hw => hw.2.rangeV) Tryd.underlying33 rfl Tryd.infoK HSD.out ?_
              simp only [Act.put, List.setIfInBounds_toArray, List.set_cons_succ, List.set_cons_zero]
              refine F_take 3 rfl (some 43) rfl (by kernel_rfl) (by kernel_rfl) (by kernel_rfl) (by kernel_rfl) (by kernel_rfl) (fun _ _ _ _ h => h) rfl (.pointer (some ⟨g, 0, none⟩)) (fun w' hw => run_mov (.tmp 0) rfl rfl) HSD.out ?_
              simp only [Act.put, List.setIfInBounds_toArray, List.set_cons_succ, List.set_cons_zero]
              refine F_take 4 rfl (some 44) rfl (by kernel_rfl) (by kernel_rfl) (by kernel_rfl) (by kernel_rfl) (by kernel_rfl) (fun _ _ _ _ h => h) rfl (.int .i64 d1) (fun w' hw => run_mov (.tmp 1) rfl rfl) HSD.out ?_
              simp only [Act.put, List.setIfInBounds_toArray, List.set_cons_succ, List.set_cons_zero]
              refine F_take 5 rfl (some 45) rfl (by kernel_rfl) (by kernel_rfl) (by kernel_rfl) (by kernel_rfl) (by kernel_rfl) (fun _ _ _ _ h => h) rfl (.int .i64 d) (fun w' hw => by have h9 := HD1.out; go_simp; rw [IntKind.wrap_i64] <;> omega) HSD.out ?_
              simp only [Act.put, List.setIfInBounds_toArray, List.set_cons_succ, List.set_cons_zero]
              refine F_only 6 (by kernel_rfl) (E_call 6 rfl (some 46) rfl rfl 54 _ (run_call2 _ (by kernel_rfl) (.tmp 43) (.tmp 45) _ (.pointer (some ⟨g, 0, none⟩)) (.int .i64 d) rfl rfl rfl) (IH.out g wd HCD.out) ?_)
              rintro e w7 ⟨k2, m2, u2, x2, A2, c2, f2, L2, rfl, hb2, hT2, hf2, hs2, hc7, hg7⟩
              have HS7 := hid (And.intro (HSD.out.1.kept hg7 HNE.out.2) (HSD.out.2.kept hg7 HNK.out))
              refine ⟨_, rfl, fun _ => HS7.out, ?_⟩
              simp only [Act.put, List.setIfInBounds_toArray, List.set_cons_succ, List.set_cons_zero]
              have HB2 := hid (And.intro hb2 (And.intro hf2 hs2))
              have HT2 := hid hT2
              have HC7 := hid hc7
              have HZ7 := hid (HZD.out.kept hg7 HNE.out.1)
              have HT7 := hid (HTD.out.low hg7 (by have := HOB.out; omega))
              have HG7 := hid (gb_trans HGD.out hg7)
              have hwd : w2.heap.size + 1 ≤ wd.heap.size := HSD.out.1.lt
              have HWD := hid hwd
              have HG67 := hid hg7
              clear hb2 hT2 hf2 hs2 hc7 hg7 hwd
              refine F_only 7 (by kernel_rfl) (E_val 7 rfl (some 47) rfl rfl (.agg #[.bool t, .int .i64 n, .string s, .int .i64 k2, .int .i64 m2, .string u2, .int .i64 x2, .slice A2 f2.len c2]) w7 (by go_simp) ⟨fun _ => HS7.out, ?_⟩)
              simp only [Act.put, List.setIfInBounds_toArray, List.set_cons_succ, List.set_cons_zero]
              have HS8 := hid (And.intro (HS7.out.1.alloc (.cells #[.bool t, .int .i64 n, .string s, .int .i64 k2, .int .i64 m2, .string u2, .int .i64 x2, .slice A2 f2.len c2] 35)) (HS7.out.2.alloc (.cells #[.bool t, .int .i64 n, .string s, .int .i64 k2, .int .i64 m2, .string u2, .int .i64 x2, .slice A2 f2.len c2] 35)))
              refine F_only 8 (by kernel_rfl) (E_val 8 rfl (some 48) rfl rfl (.slice (some ⟨w7.heap.size, 0, none⟩) 1 1) (w7.alloc (.cells #[.bool t, .int .i64 n, .string s, .int .i64 k2, .int .i64 m2, .string u2, .int .i64 x2, .slice A2 f2.len c2] 35)) (by go_simp) ⟨fun _ => HS8.out, ?_⟩)
              simp only [Act.put, List.setIfInBounds_toArray, List.set_cons_succ, List.set_cons_zero]
              obtain ⟨cs, hown, hsub, hol, hnb⟩ := HT7.out.grow (gb_alloc (gb_refl w7 none) (.cells #[.bool t, .int .i64 n, .string s, .int .i64 k2, .int .i64 m2, .string u2, .int .i64 x2, .slice A2 f2.len c2] 35))
              have hol2 : OwnL (w7.alloc (.cells #[.bool t, .int .i64 n, .string s, .int .i64 k2, .int .i64 m2, .string u2, .int .i64 x2, .slice A2 f2.len c2] 35)) 35 (w2.heap.size + 1) (L ++ (blk A2 ++ L2)) := by
                have ha := (show OwnL wd 35 (w2.heap.size + 1) L from HTD.out.own.2.sub.2)
                exact OwnL.appG HWD.out ha (gb_trans HG67.out (gb_any (gb_alloc (gb_refl w7 none) _))) (fun q hq hm => by have h : g = q := Option.some.inj hq; have := (ha.2 q hm).1; have := HOB.out; omega) (HT2.out.own.2.grow (gb_alloc (gb_refl w7 none) _))
              have hr2 := HT2.out.own.1.grow (gb_alloc (gb_refl w7 none) (.cells #[.bool t, .int .i64 n, .string s, .int .i64 k2, .int .i64 m2, .string u2, .int .i64 x2, .slice A2 f2.len c2] 35))
              have HSub := hid (And.intro hsub (And.intro hol2 hr2))
              have HRq : Hid (∀ q, (Value.slice A f.len c).ownBlock = some q → (w2.heap.size + 1 ≤ q ∧ q < wd.heap.size) ∧ q ∉ L ++ (blk A2 ++ L2)) := hid fun q hq => by
                have hq1 : q ∈ blk A := blk_own.1 hq
                have hq2 := HTD.out.own.2.2 q (List.mem_append.2 (.inl hq1))
                refine ⟨⟨hq2.1, hq2.2.lt⟩, fun hm => ?_⟩
                rcases List.mem_append.1 hm with hm | hm
                · exact hnb q hq1 hm
                · have := (HT2.out.own.2.2 q hm).1; have := hq2.2.lt; omega
              clear hsub hol hnb hol2 hr2
              refine F_only 9 (by kernel_rfl) (E_append 9 rfl (some 49) rfl rfl (.tmp 41) (.tmp 48) 24 rfl (w2.heap.size + 1) 35 i0 entry0 8 96 Tryd.underlying24 HI.out.1 HI.out.2.1 HI.out.2.2.1 HI.out.2.2.2 rfl (by omega) (.slice A f.len c) f.len cs rfl hown
                ⟨w7.heap.size, 0, none⟩ 1 1 [.bool t, .int .i64 n, .string s, .int .i64 k2, .int .i64 m2, .string u2, .int .i64 x2, .slice A2 f2.len c2] rfl rfl (news_lit w7 [.bool t, .int .i64 n, .string s, .int .i64 k2, .int .i64 m2, .string u2, .int .i64 x2, .slice A2 f2.len c2] 35) (by simp [Value.oneCell']) (by have := f.len_le; unfold maxLen; omega) (by have := f.len_le; omega) (by have := HWD.out; have := HG67.out.size; simp only [World.size_alloc]; omega) ?_)
              intro A3 c3 w8 hown3 _ hg3 hat3
              have hT8 := rw_snoc hown3 HSub.out.1 HSub.out.2.2 HT2.out.nil0 HSub.out.2.1 hg3 (fun q hq => (HRq.out q hq).2) hat3
              have hnq : ∀ b9, b9 < w2.heap.size + 1 → (Value.slice A f.len c).ownBlock ≠ some b9 := fun b9 hb9 e => by have := (HRq.out b9 e).1.1; omega
              have hS9 : HoldsT w8 w2.heap.size #[.int .i64 4, .int .i64 0, .string { data := #[] }, .int .i64 y, .slice A f.len c] 26 ∧ HoldsT w8 w4.heap.size #[.bool t, .int .i64 n, .string s] 33 := ⟨HS8.out.1.kept hg3 (hnq _ (by omega)), HS8.out.2.kept hg3 (fun e => Nat.lt_irrefl _ (HTK.out _ (List.mem_append.2 (.inl (blk_own.1 e)))))⟩
              have HS9 := hid hS9
              have HT8 := hid hT8
              have HZ8 := hid ((HZ7.out.alloc (.cells #[.bool t, .int .i64 n, .string s, .int .i64 k2, .int .i64 m2, .string u2, .int .i64 x2, .slice A2 f2.len c2] 35)).kept hg3 (hnq _ (by have := HOB.out; omega)))
              have HC8 := hid ((HC7.out.alloc (.cells #[.bool t, .int .i64 n, .string s, .int .i64 k2, .int .i64 m2, .string u2, .int .i64 x2, .slice A2 f2.len c2] 35)).kept hg3 (fun q hq => by have := (HRq.out q hq).1.1; have := HOB.out; omega))
              have HG8 := hid (gb_new (gb_alloc HG7.out (.cells #[.bool t, .int .i64 n, .string s, .int .i64 k2, .int .i64 m2, .string u2, .int .i64 x2, .slice A2 f2.len c2] 35)) hg3 (fun q hq => by have := (HRq.out q hq).1.1; have := HOB.out; omega))
              have hA3 : ∀ b9, b9 ∈ blk A3 → b9 ≠ w2.heap.size := fun b9 hb9 e => by have := (HT8.out.own.2.2 b9 (List.mem_append.2 (.inl hb9))).1; omega
              have HA3 := hid hA3
              refine ⟨fun _ => HS9.out, ?_⟩
              simp only [Act.put, List.setIfInBounds_toArray, List.set_cons_succ, List.set_cons_zero]
              clear hown hown3 hg3 hat3 hT8 hnq hS9 hA3
              refine F_only 10 (by kernel_rfl) (E_val 10 rfl (some 50) rfl rfl (.pointer (some ⟨w2.heap.size, 4, none⟩)) w8 (by go_simp) ⟨fun _ => HS9.out, ?_⟩)
              simp only [Act.put, List.setIfInBounds_toArray, List.set_cons_succ, List.set_cons_zero]
              have fc := HS9.out.1.cells5.2.2.2.2
              have fz := HS9.out.1.frozen 4
              have fl := HS9.out.1.lt
              refine F_only 11 (by kernel_rfl) (E_skip 11 rfl none rfl rfl (w8.setCell ⟨w2.heap.size, 4, none⟩ (.slice A3 (f.len + 1) c3)) (by go_simp) ⟨fun h => absurd h (by omega), ?_⟩)
              refine F_done (by kernel_rfl) ?_ _
              simp only [Act.put, List.setIfInBounds_toArray, List.set_cons_succ, List.set_cons_zero]
              clear fc fz fl
              have s9 : w8.grownBy (w8.setCell ⟨w2.heap.size, 4, none⟩ (.slice A3 (f.len + 1) c3)) (some w2.heap.size) := gb_set (gb_refl _ _) (.inr rfl) _
              have hln : (f.app (.cons t n s k2 m2 u2 x2 f2 .nil)).len = f.len + 1 := by rw [Forest.len_app]; rfl
              have HO9 := hid (show HoldsT (w8.setCell ⟨w2.heap.size, 4, none⟩ (.slice A3 (f.len + 1) c3)) w2.heap.size #[.int .i64 4, .int .i64 0, .string { data := #[] }, .int .i64 y, .slice A3 (f.len + 1) c3] 26 from HS9.out.1.set 4 _)
              have HK9 := hid (HS9.out.2.kept s9 (by intro e; injection e with e; have := HKB.out; omega))
              have HT9 := hid (HT8.out.low s9 (by omega))
              have HZ9 := hid (HZ8.out.kept s9 (by intro e; injection e with e; have := HOB.out; omega))
              have HC9 := hid (HC8.out.kept s9 (fun q hq => by have h : w2.heap.size = q := Option.some.inj hq; have := HOB.out; omega))
              have HG9 := hid (gb_new HG8.out s9 (fun q hq => by have h : w2.heap.size = q := Option.some.inj hq; have := HOB.out; omega))
              have HSz := hid (show (f.app (.cons t n s k2 m2 u2 x2 f2 .nil)).size + kj * (1 + P) ≤ 4 * (1 + P) by rw [sizeTwo]; have := HB2.out.2.1; have := HK2.out; omega)
              have HSmN := hid (Forest.sm_app HSm.out (show Forest.sm (.cons t n s k2 m2 u2 x2 f2 .nil) from ⟨⟨HSN.out.1, HB2.out.1.2.2.2, by have := HSN.out.2; unfold I64; omega, HB2.out.1.1, HB2.out.1.2.1, HB2.out.1.2.2.1⟩, HB2.out.2.2, trivial⟩))
              have HLn := hid hln
              generalize hw9 : w8.setCell ⟨w2.heap.size, 4, none⟩ (.slice A3 (f.len + 1) c3) = w9 at HO9 HK9 HT9 HZ9 HC9 HG9 ⊢
              clear hw9 s9 hln HS9 HT8 HZ8 HC8 HG8 HS8 HS7 HT7 HZ7 HC7 HG7 HSub HRq HTD HZD HCD HGD HSD HA3 HG67 HT2 HT6 HO6 HK6 HZ6 HC6 HG6
              obtain ⟨q0, q1, q2⟩ := HK9.out.cells3
              have lk := HK9.out.lt
              obtain ⟨o0, o1, o2, o3, o4⟩ := HO9.out.cells5
              have u3 := HO9.out.frozen 3
              have lo := HO9.out.lt
              cases t with
              | true =>
                go_wp2_with fail
                go_roundw
                case rel => exact ⟨kj, y, _, A3, c3, _, by go_num, HSz, HY, HSmN, hid (by rw [HLn.out]; exact HO9.out), HT9, HZ9, HC9, HG9⟩
                case measure => simp [intOf] <;> omega
              | false =>
                have HNn := hid HSN.out.2
                have hn1 := HNn.out.1
                have hn2 := HNn.out.2
                go_wp2_with fail
                refine (specMaxI_any _ _ _).mono ?_
                rintro e w10 ⟨rfl, rfl⟩
                obtain ⟨y9, hy9⟩ : ∃ z : Int, (if y < n + 1 then n + 1 else y) = z := ⟨_, rfl⟩
                rw [hy9]
                have HY9b : Hid (0 ≤ y9 ∧ y9 ≤ 1000000001) := hid (by have := HY.out; have := HNn.out; rw [← hy9]; split <;> omega)
                clear hy9 hn1 hn2
                go_wp2_with fail
                have s9 : w9.grownBy (w9.setCell ⟨w2.heap.size, 3, none⟩ (.int .i64 y9)) (some w2.heap.size) := gb_set (gb_refl _ _) (.inr rfl) _
                go_roundw
                case rel => exact ⟨kj, y9, _, A3, c3, _, by go_num, HSz, HY9b, HSmN, hid (by rw [HLn.out]; exact HO9.out.set 3 _), hid (HT9.out.low s9 (by omega)), hid (HZ9.out.kept s9 (by intro e; injection e with e; have := HOB.out; omega)), hid (HC9.out.kept s9 (fun q hq => by have h : w2.heap.size = q := Option.some.inj hq; have := HOB.out; omega)), hid (gb_new HG9.out s9 (fun q hq => by have h : w2.heap.size = q := Option.some.inj hq; have := HOB.out; omega))⟩
                case measure => simp [intOf] <;> omega
            · rw [h1]
              have hj0 : (0 : Int) ≤ (j : Int) := by omega
              clear h1
              go_wp2_with fail
              go_roundw
              case rel => exact ⟨kj, y, f, A, c, L, by go_num, hid (by have := HK2.out; omega), HY, HSm, HO6, HT6, HZ6, HC6, HG6⟩
              case measure => simp [intOf] <;> omega
          · obtain ⟨o0, o1, o2, o3, o4⟩ := HOc.out.cells5
            have lo := HOc.out.lt
            by_cases hy9 : y ≤ 1000000000
            · have hd9 : decide (y ≤ 1000000000) = true := by simpa using hy9
              have HY9 := hid hy9
              obtain ⟨q0, q1, q2⟩ := HKc.out.cells3
              have p0 := HKc.out.frozen 0; have p1 := HKc.out.frozen 1; have p2 := HKc.out.frozen 2
              have lk := HKc.out.lt
              have hlt24 := HKB.out
              have hne24 : w2.heap.size ≠ w4.heap.size := by omega
              have hne42 : w4.heap.size ≠ w2.heap.size := by omega
              go_wp2_with fail
              clear hlt24 hne24 hne42
              have s5 := (gb_set (a := ⟨w4.heap.size, 2, none⟩) (gb_set (a := ⟨w4.heap.size, 1, none⟩) (gb_set (a := ⟨w4.heap.size, 0, none⟩) (gb_refl w5 (some w4.heap.size)) (.inr rfl) (.bool false)) (.inr rfl) (.int .i64 y)) (.inr rfl) (.string { data := #[] }))
              have HKd := hid (show HoldsT (((w5.setCell ⟨w4.heap.size, 0, none⟩ (.bool false)).setCell ⟨w4.heap.size, 1, none⟩ (.int .i64 y)).setCell ⟨w4.heap.size, 2, none⟩ (.string { data := #[] })) w4.heap.size #[.bool false, .int .i64 y, .string { data := #[] }] 33 from ((HKc.out.set 0 _).set 1 _).set 2 _)
              have HOd := hid (HOc.out.kept s5 (by intro e; injection e with e; have := HKB.out; omega))
              have HZd := hid (HZc.out.kept s5 (by intro e; injection e with e; have := HKB.out; have := HOB.out; omega))
              have HCd := hid (HCc.out.kept s5 (fun q hq => by have h : w4.heap.size = q := Option.some.inj hq; have := HKB.out; have := HOB.out; omega))
              have HTd := hid (HTc.out.kept s5 (fun q hq hm => by have h : w4.heap.size = q := Option.some.inj hq; subst h; exact Nat.lt_irrefl _ (HTK.out _ hm)))
              have HGd := hid (gb_new HGc.out s5 (fun q hq => by have h : w4.heap.size = q := Option.some.inj hq; have := HKB.out; have := HOB.out; omega))
              clear s5 HKc HOc HZc HCc HTc HGc
              have HKc := HKd; have HOc := HOd; have HZc := HZd; have HCc := HCd; have HTc := HTd; have HGc := HGd
              clear HKd HOd HZd HCd HTd HGd
              clear o0 o1 o2 o3 o4 q0 q1 q2 p0 p1 p2 lk lo
              have hfi := specL5Find_any f false y { data := #[] } _ 4 0 { data := #[] } y A c L HTc.out.own.1 hfz
              rw [show valFind 4 false y { data := #[] } f = f.find false y { data := #[] } 0 from if_pos rfl] at hfi
              refine hfi.mono ?_
              rintro e w6 ⟨rfl, hg6⟩
              clear hfi
              have HK6 := hid (HKc.out.grow hg6)
              have HC6 := hid (HCc.out.kept hg6 (by simp))
              have HO6 := hid (HOc.out.grow hg6)
              have HZ6 := hid (HZc.out.grow hg6)
              have HT6 := hid (HTc.out.grow hg6)
              have HG6 := hid (gb_trans HGc.out (gb_any hg6))
              clear hg6
              rcases f.find_lt false y { data := #[] } 0 with h1 | ⟨j, h1, _, _⟩
              · rw [h1]
                clear h1
                go_wp2_with fail
                refine wp_region_F 11 12 rfl (by kernel_rfl) (fun wd w' => HoldsT w' w2.heap.size #[.int .i64 4, .int .i64 0, .string { data := #[] }, .int .i64 y, .slice A f.len c] 26 ∧ HoldsT w' w4.heap.size #[.bool false, .int .i64 y, .string { data := #[] }] 33) fun wd gd => ?_
                have HTD := hid (HT6.out.grow gd)
                have HZD := hid (HZ6.out.grow gd)
                have HCD := hid (HC6.out.kept gd (by simp))
                have HGD := hid (gb_trans HG6.out (gb_any gd))
                have HSD := hid (And.intro (HO6.out.grow gd) (HK6.out.grow gd))
                clear gd
                refine F_take 0 rfl (some 40) rfl (by kernel_rfl) (by kernel_rfl) (by kernel_rfl) (by kernel_rfl) (by kernel_rfl) (fun _ _ _ _ h => h) rfl (.pointer (some ⟨w2.heap.size, 4, none⟩)) (fun w' hw => by go_simp) HSD.out ?_
                simp only [Act.put, List.setIfInBounds_toArray, List.set_cons_succ, List.set_cons_zero]
                refine F_take 1 rfl (some 41) rfl (by kernel_rfl) (by kernel_rfl) (by kernel_rfl) (by kernel_rfl) (by kernel_rfl) (fun _ _ _ _ h => h) rfl (.slice A f.len c) (fun w' hw => by have fc := hw.1.cells5.2.2.2.2; go_simp) HSD.out ?_
                simp only [Act.put, List.setIfInBounds_toArray, List.set_cons_succ, List.set_cons_zero]
                refine F_load 2 rfl (some 42) rfl (by kernel_rfl) (by kernel_rfl) (by kernel_rfl) (by kernel_rfl) (by kernel_rfl) (fun _ _ _ _ h => h) rfl 33 (.tmp 7) rfl w4.heap.size 0 rfl [.bool false, .int .i64 y, .string { data := #[] }] (fun w' hw => hw.2.rangeV) Tryd.underlying33 rfl Tryd.infoK HSD.out ?_
                simp only [Act.put, List.setIfInBounds_toArray, List.set_cons_succ, List.set_cons_zero]
                refine F_take 3 rfl (some 43) rfl (by kernel_rfl) (by kernel_rfl) (by kernel_rfl) (by kernel_rfl) (by kernel_rfl) (fun _ _ _ _ h => h) rfl (.pointer (some ⟨g, 0, none⟩)) (fun w' hw => run_mov (.tmp 0) rfl rfl) HSD.out ?_
                simp only [Act.put, List.setIfInBounds_toArray, List.set_cons_succ, List.set_cons_zero]
                refine F_take 4 rfl (some 44) rfl (by kernel_rfl) (by kernel_rfl) (by kernel_rfl) (by kernel_rfl) (by kernel_rfl) (fun _ _ _ _ h => h) rfl (.int .i64 d1) (fun w' hw => run_mov (.tmp 1) rfl rfl) HSD.out ?_
                simp only [Act.put, List.setIfInBounds_toArray, List.set_cons_succ, List.set_cons_zero]
                refine F_take 5 rfl (some 45) rfl (by kernel_rfl) (by kernel_rfl) (by kernel_rfl) (by kernel_rfl) (by kernel_rfl) (fun _ _ _ _ h => h) rfl (.int .i64 d) (fun w' hw => by have h9 := HD1.out; go_simp; rw [IntKind.wrap_i64] <;> omega) HSD.out ?_
                simp only [Act.put, List.setIfInBounds_toArray, List.set_cons_succ, List.set_cons_zero]
                refine F_only 6 (by kernel_rfl) (E_call 6 rfl (some 46) rfl rfl 54 _ (run_call2 _ (by kernel_rfl) (.tmp 43) (.tmp 45) _ (.pointer (some ⟨g, 0, none⟩)) (.int .i64 d) rfl rfl rfl) (IH.out g wd HCD.out) ?_)
                rintro e w7 ⟨k2, m2, u2, x2, A2, c2, f2, L2, rfl, hb2, hT2, hf2, hs2, hc7, hg7⟩
                have HS7 := hid (And.intro (HSD.out.1.kept hg7 HNE.out.2) (HSD.out.2.kept hg7 HNK.out))
                refine ⟨_, rfl, fun _ => HS7.out, ?_⟩
                simp only [Act.put, List.setIfInBounds_toArray, List.set_cons_succ, List.set_cons_zero]
                have HB2 := hid (And.intro hb2 (And.intro hf2 hs2))
                have HT2 := hid hT2
                have HC7 := hid hc7
                have HZ7 := hid (HZD.out.kept hg7 HNE.out.1)
                have HT7 := hid (HTD.out.low hg7 (by have := HOB.out; omega))
                have HG7 := hid (gb_trans HGD.out hg7)
                have hwd : w2.heap.size + 1 ≤ wd.heap.size := HSD.out.1.lt
                have HWD := hid hwd
                have HG67 := hid hg7
                clear hb2 hT2 hf2 hs2 hc7 hg7 hwd
                refine F_only 7 (by kernel_rfl) (E_val 7 rfl (some 47) rfl rfl (.agg #[.bool false, .int .i64 y, .string { data := #[] }, .int .i64 k2, .int .i64 m2, .string u2, .int .i64 x2, .slice A2 f2.len c2]) w7 (by go_simp) ⟨fun _ => HS7.out, ?_⟩)
                simp only [Act.put, List.setIfInBounds_toArray, List.set_cons_succ, List.set_cons_zero]
                have HS8 := hid (And.intro (HS7.out.1.alloc (.cells #[.bool false, .int .i64 y, .string { data := #[] }, .int .i64 k2, .int .i64 m2, .string u2, .int .i64 x2, .slice A2 f2.len c2] 35)) (HS7.out.2.alloc (.cells #[.bool false, .int .i64 y, .string { data := #[] }, .int .i64 k2, .int .i64 m2, .string u2, .int .i64 x2, .slice A2 f2.len c2] 35)))
                refine F_only 8 (by kernel_rfl) (E_val 8 rfl (some 48) rfl rfl (.slice (some ⟨w7.heap.size, 0, none⟩) 1 1) (w7.alloc (.cells #[.bool false, .int .i64 y, .string { data := #[] }, .int .i64 k2, .int .i64 m2, .string u2, .int .i64 x2, .slice A2 f2.len c2] 35)) (by go_simp) ⟨fun _ => HS8.out, ?_⟩)
                simp only [Act.put, List.setIfInBounds_toArray, List.set_cons_succ, List.set_cons_zero]
                obtain ⟨cs, hown, hsub, hol, hnb⟩ := HT7.out.grow (gb_alloc (gb_refl w7 none) (.cells #[.bool false, .int .i64 y, .string { data := #[] }, .int .i64 k2, .int .i64 m2, .string u2, .int .i64 x2, .slice A2 f2.len c2] 35))
                have hol2 : OwnL (w7.alloc (.cells #[.bool false, .int .i64 y, .string { data := #[] }, .int .i64 k2, .int .i64 m2, .string u2, .int .i64 x2, .slice A2 f2.len c2] 35)) 35 (w2.heap.size + 1) (L ++ (blk A2 ++ L2)) := by
                  have ha := (show OwnL wd 35 (w2.heap.size + 1) L from HTD.out.own.2.sub.2)
                  exact OwnL.appG HWD.out ha (gb_trans HG67.out (gb_any (gb_alloc (gb_refl w7 none) _))) (fun q hq hm => by have h : g = q := Option.some.inj hq; have := (ha.2 q hm).1; have := HOB.out; omega) (HT2.out.own.2.grow (gb_alloc (gb_refl w7 none) _))
                have hr2 := HT2.out.own.1.grow (gb_alloc (gb_refl w7 none) (.cells #[.bool false, .int .i64 y, .string { data := #[] }, .int .i64 k2, .int .i64 m2, .string u2, .int .i64 x2, .slice A2 f2.len c2] 35))
                have HSub := hid (And.intro hsub (And.intro hol2 hr2))
                have HRq : Hid (∀ q, (Value.slice A f.len c).ownBlock = some q → (w2.heap.size + 1 ≤ q ∧ q < wd.heap.size) ∧ q ∉ L ++ (blk A2 ++ L2)) := hid fun q hq => by
                  have hq1 : q ∈ blk A := blk_own.1 hq
                  have hq2 := HTD.out.own.2.2 q (List.mem_append.2 (.inl hq1))
                  refine ⟨⟨hq2.1, hq2.2.lt⟩, fun hm => ?_⟩
                  rcases List.mem_append.1 hm with hm | hm
                  · exact hnb q hq1 hm
                  · have := (HT2.out.own.2.2 q hm).1; have := hq2.2.lt; omega
                clear hsub hol hnb hol2 hr2
                refine F_only 9 (by kernel_rfl) (E_append 9 rfl (some 49) rfl rfl (.tmp 41) (.tmp 48) 24 rfl (w2.heap.size + 1) 35 i0 entry0 8 96 Tryd.underlying24 HI.out.1 HI.out.2.1 HI.out.2.2.1 HI.out.2.2.2 rfl (by omega) (.slice A f.len c) f.len cs rfl hown
                  ⟨w7.heap.size, 0, none⟩ 1 1 [.bool false, .int .i64 y, .string { data := #[] }, .int .i64 k2, .int .i64 m2, .string u2, .int .i64 x2, .slice A2 f2.len c2] rfl rfl (news_lit w7 [.bool false, .int .i64 y, .string { data := #[] }, .int .i64 k2, .int .i64 m2, .string u2, .int .i64 x2, .slice A2 f2.len c2] 35) (by simp [Value.oneCell']) (by have := f.len_le; unfold maxLen; omega) (by have := f.len_le; omega) (by have := HWD.out; have := HG67.out.size; simp only [World.size_alloc]; omega) ?_)
                intro A3 c3 w8 hown3 _ hg3 hat3
                have hT8 := rw_snoc hown3 HSub.out.1 HSub.out.2.2 HT2.out.nil0 HSub.out.2.1 hg3 (fun q hq => (HRq.out q hq).2) hat3
                have hnq : ∀ b9, b9 < w2.heap.size + 1 → (Value.slice A f.len c).ownBlock ≠ some b9 := fun b9 hb9 e => by have := (HRq.out b9 e).1.1; omega
                have hS9 : HoldsT w8 w2.heap.size #[.int .i64 4, .int .i64 0, .string { data := #[] }, .int .i64 y, .slice A f.len c] 26 ∧ HoldsT w8 w4.heap.size #[.bool false, .int .i64 y, .string { data := #[] }] 33 := ⟨HS8.out.1.kept hg3 (hnq _ (by omega)), HS8.out.2.kept hg3 (fun e => Nat.lt_irrefl _ (HTK.out _ (List.mem_append.2 (.inl (blk_own.1 e)))))⟩
                have HS9 := hid hS9
                have HT8 := hid hT8
                have HZ8 := hid ((HZ7.out.alloc (.cells #[.bool false, .int .i64 y, .string { data := #[] }, .int .i64 k2, .int .i64 m2, .string u2, .int .i64 x2, .slice A2 f2.len c2] 35)).kept hg3 (hnq _ (by have := HOB.out; omega)))
                have HC8 := hid ((HC7.out.alloc (.cells #[.bool false, .int .i64 y, .string { data := #[] }, .int .i64 k2, .int .i64 m2, .string u2, .int .i64 x2, .slice A2 f2.len c2] 35)).kept hg3 (fun q hq => by have := (HRq.out q hq).1.1; have := HOB.out; omega))
                have HG8 := hid (gb_new (gb_alloc HG7.out (.cells #[.bool false, .int .i64 y, .string { data := #[] }, .int .i64 k2, .int .i64 m2, .string u2, .int .i64 x2, .slice A2 f2.len c2] 35)) hg3 (fun q hq => by have := (HRq.out q hq).1.1; have := HOB.out; omega))
                have hA3 : ∀ b9, b9 ∈ blk A3 → b9 ≠ w2.heap.size := fun b9 hb9 e => by have := (HT8.out.own.2.2 b9 (List.mem_append.2 (.inl hb9))).1; omega
                have HA3 := hid hA3
                refine ⟨fun _ => HS9.out, ?_⟩
                simp only [Act.put, List.setIfInBounds_toArray, List.set_cons_succ, List.set_cons_zero]
                clear hown hown3 hg3 hat3 hT8 hnq hS9 hA3
                refine F_only 10 (by kernel_rfl) (E_val 10 rfl (some 50) rfl rfl (.pointer (some ⟨w2.heap.size, 4, none⟩)) w8 (by go_simp) ⟨fun _ => HS9.out, ?_⟩)
                simp only [Act.put, List.setIfInBounds_toArray, List.set_cons_succ, List.set_cons_zero]
                have fc := HS9.out.1.cells5.2.2.2.2
                have fz := HS9.out.1.frozen 4
                have fl := HS9.out.1.lt
                refine F_only 11 (by kernel_rfl) (E_skip 11 rfl none rfl rfl (w8.setCell ⟨w2.heap.size, 4, none⟩ (.slice A3 (f.len + 1) c3)) (by go_simp) ⟨fun h => absurd h (by omega), ?_⟩)
                refine F_done (by kernel_rfl) ?_ _
                simp only [Act.put, List.setIfInBounds_toArray, List.set_cons_succ, List.set_cons_zero]
                clear fc fz fl
                have s9 : w8.grownBy (w8.setCell ⟨w2.heap.size, 4, none⟩ (.slice A3 (f.len + 1) c3)) (some w2.heap.size) := gb_set (gb_refl _ _) (.inr rfl) _
                have hln : (f.app (.cons false y { data := #[] } k2 m2 u2 x2 f2 .nil)).len = f.len + 1 := by rw [Forest.len_app]; rfl
                have HO9 := hid (show HoldsT (w8.setCell ⟨w2.heap.size, 4, none⟩ (.slice A3 (f.len + 1) c3)) w2.heap.size #[.int .i64 4, .int .i64 0, .string { data := #[] }, .int .i64 y, .slice A3 (f.len + 1) c3] 26 from HS9.out.1.set 4 _)
                have HK9 := hid (HS9.out.2.kept s9 (by intro e; injection e with e; have := HKB.out; omega))
                have HT9 := hid (HT8.out.low s9 (by omega))
                have HZ9 := hid (HZ8.out.kept s9 (by intro e; injection e with e; have := HOB.out; omega))
                have HC9 := hid (HC8.out.kept s9 (fun q hq => by have h : w2.heap.size = q := Option.some.inj hq; have := HOB.out; omega))
                have HG9 := hid (gb_new HG8.out s9 (fun q hq => by have h : w2.heap.size = q := Option.some.inj hq; have := HOB.out; omega))
                have HSz := hid (show (f.app (.cons false y { data := #[] } k2 m2 u2 x2 f2 .nil)).size + kj * (1 + P) ≤ 4 * (1 + P) by rw [sizeTwo]; have := HB2.out.2.1; have := HK2.out; omega)
                have HSmN := hid (Forest.sm_app HSm.out (show Forest.sm (.cons false y { data := #[] } k2 m2 u2 x2 f2 .nil) from ⟨⟨by decide, HB2.out.1.2.2.2, by have := HY.out; unfold I64; omega, HB2.out.1.1, HB2.out.1.2.1, HB2.out.1.2.2.1⟩, HB2.out.2.2, trivial⟩))
                have HLn := hid hln
                generalize hw9 : w8.setCell ⟨w2.heap.size, 4, none⟩ (.slice A3 (f.len + 1) c3) = w9 at HO9 HK9 HT9 HZ9 HC9 HG9 ⊢
                clear hw9 s9 hln HS9 HT8 HZ8 HC8 HG8 HS8 HS7 HT7 HZ7 HC7 HG7 HSub HRq HTD HZD HCD HGD HSD HA3 HG67 HT2 HT6 HO6 HK6 HZ6 HC6 HG6
                obtain ⟨q0, q1, q2⟩ := HK9.out.cells3
                have lk := HK9.out.lt
                obtain ⟨o0, o1, o2, o3, o4⟩ := HO9.out.cells5
                have u3 := HO9.out.frozen 3
                have lo := HO9.out.lt
                have HNn := hid (show -1000000000 ≤ y ∧ y ≤ 1000000000 by have := HY.out; have := HY9.out; omega)
                have hn1 := HNn.out.1
                have hn2 := HNn.out.2
                go_wp2_with fail
                refine (specMaxI_any _ _ _).mono ?_
                rintro e w10 ⟨rfl, rfl⟩
                obtain ⟨y9, hy9⟩ : ∃ z : Int, (if y < y + 1 then y + 1 else y) = z := ⟨_, rfl⟩
                rw [hy9]
                have HY9b : Hid (0 ≤ y9 ∧ y9 ≤ 1000000001) := hid (by have := HY.out; have := HNn.out; rw [← hy9]; split <;> omega)
                clear hy9 hn1 hn2
                go_wp2_with fail
                have s9 : w9.grownBy (w9.setCell ⟨w2.heap.size, 3, none⟩ (.int .i64 y9)) (some w2.heap.size) := gb_set (gb_refl _ _) (.inr rfl) _
                go_roundw
                case rel => exact ⟨kj, y9, _, A3, c3, _, by go_num, HSz, HY9b, HSmN, hid (by rw [HLn.out]; exact HO9.out.set 3 _), hid (HT9.out.low s9 (by omega)), hid (HZ9.out.kept s9 (by intro e; injection e with e; have := HOB.out; omega)), hid (HC9.out.kept s9 (fun q hq => by have h : w2.heap.size = q := Option.some.inj hq; have := HOB.out; omega)), hid (gb_new HG9.out s9 (fun q hq => by have h : w2.heap.size = q := Option.some.inj hq; have := HOB.out; omega))⟩
                case measure => simp [intOf] <;> omega
              · rw [h1]
                have hj0 : (0 : Int) ≤ (j : Int) := by omega
                clear h1
                go_wp2_with fail
                go_roundw
                case rel => exact ⟨kj, y, f, A, c, L, by go_num, hid (by have := HK2.out; omega), HY, HSm, HO6, HT6, HZ6, HC6, HG6⟩
                case measure => simp [intOf] <;> omega
            · have hd9 : decide (y ≤ 1000000000) = false := by simp; omega
              clear o0 o1 o2 o3 o4 lo
              obtain ⟨o0, o1, o2, o3, o4⟩ := HOc.out.cells5
              have lo := HOc.out.lt
              obtain ⟨q0, q1, q2⟩ := HKc.out.cells3
              have lk := HKc.out.lt
              go_wp2_with fail
              have hfi := specL5Find_any f t n s _ 4 0 { data := #[] } y A c L HTc.out.own.1 hfz
              rw [show valFind 4 t n s f = f.find t n s 0 from if_pos rfl] at hfi
              refine hfi.mono ?_
              rintro e w6 ⟨rfl, hg6⟩
              clear hfi o0 o1 o2 o3 o4 lo q0 q1 q2 lk
              have HK6 := hid (HKc.out.grow hg6)
              have HC6 := hid (HCc.out.kept hg6 (by simp))
              have HO6 := hid (HOc.out.grow hg6)
              have HZ6 := hid (HZc.out.grow hg6)
              have HT6 := hid (HTc.out.grow hg6)
              have HG6 := hid (gb_trans HGc.out (gb_any hg6))
              clear hg6
              rcases f.find_lt t n s 0 with h1 | ⟨j, h1, _, _⟩
              · rw [h1]
                clear h1
                go_wp2_with fail
                refine wp_region_F 11 12 rfl (by kernel_rfl) (fun wd w' => HoldsT w' w2.heap.size #[.int .i64 4, .int .i64 0, .string { data := #[] }, .int .i64 y, .slice A f.len c] 26 ∧ HoldsT w' w4.heap.size #[.bool t, .int .i64 n, .string s] 33) fun wd gd => ?_
                have HTD := hid (HT6.out.grow gd)
                have HZD := hid (HZ6.out.grow gd)
                have HCD := hid (HC6.out.kept gd (by simp))
                have HGD := hid (gb_trans HG6.out (gb_any gd))
                have HSD := hid (And.intro (HO6.out.grow gd) (HK6.out.grow gd))
                clear gd
                refine F_take 0 rfl (some 40) rfl (by kernel_rfl) (by kernel_rfl) (by kernel_rfl) (by kernel_rfl) (by kernel_rfl) (fun _ _ _ _ h => h) rfl (.pointer (some ⟨w2.heap.size, 4, none⟩)) (fun w' hw => by go_simp) HSD.out ?_
                simp only [Act.put, List.setIfInBounds_toArray, List.set_cons_succ, List.set_cons_zero]
                refine F_take 1 rfl (some 41) rfl (by kernel_rfl) (by kernel_rfl) (by kernel_rfl) (by kernel_rfl) (by kernel_rfl) (fun _ _ _ _ h => h) rfl (.slice A f.len c) (fun w' hw => by have fc := hw.1.cells5.2.2.2.2; go_simp) HSD.out ?_
                simp only [Act.put, List.setIfInBounds_toArray, List.set_cons_succ, List.set_cons_zero]
                refine F_load 2 rfl (some 42) rfl (by kernel_rfl) (by kernel_rfl) (by kernel_rfl) (by kernel_rfl) (by kernel_rfl) (fun _ _ _ _ h => h) rfl 33 (.tmp 7) rfl w4.heap.size 0 rfl [.bool t, .int .i64 n, .string s] (fun w' hw => hw.2.rangeV) Tryd.underlying33 rfl Tryd.infoK HSD.out ?_
                simp only [Act.put, List.setIfInBounds_toArray, List.set_cons_succ, List.set_cons_zero]
                refine F_take 3 rfl (some 43) rfl (by kernel_rfl) (by kernel_rfl) (by kernel_rfl) (by kernel_rfl) (by kernel_rfl) (fun _ _ _ _ h => h) rfl (.pointer (some ⟨g, 0, none⟩)) (fun w' hw => run_mov (.tmp 0) rfl rfl) HSD.out ?_
                simp only [Act.put, List.setIfInBounds_toArray, List.set_cons_succ, List.set_cons_zero]
                refine F_take 4 rfl (some 44) rfl (by kernel_rfl) (by kernel_rfl) (by kernel_rfl) (by kernel_rfl) (by kernel_rfl) (fun _ _ _ _ h => h) rfl (.int .i64 d1) (fun w' hw => run_mov (.tmp 1) rfl rfl) HSD.out ?_
                simp only [Act.put, List.setIfInBounds_toArray, List.set_cons_succ, List.set_cons_zero]
                refine F_take 5 rfl (some 45) rfl (by kernel_rfl) (by kernel_rfl) (by kernel_rfl) (by kernel_rfl) (by kernel_rfl) (fun _ _ _ _ h => h) rfl (.int .i64 d) (fun w' hw => by have h9 := HD1.out; go_simp; rw [IntKind.wrap_i64] <;> omega) HSD.out ?_
                simp only [Act.put, List.setIfInBounds_toArray, List.set_cons_succ, List.set_cons_zero]
                refine F_only 6 (by kernel_rfl) (E_call 6 rfl (some 46) rfl rfl 54 _ (run_call2 _ (by kernel_rfl) (.tmp 43) (.tmp 45) _ (.pointer (some ⟨g, 0, none⟩)) (.int .i64 d) rfl rfl rfl) (IH.out g wd HCD.out) ?_)
                rintro e w7 ⟨k2, m2, u2, x2, A2, c2, f2, L2, rfl, hb2, hT2, hf2, hs2, hc7, hg7⟩
                have HS7 := hid (And.intro (HSD.out.1.kept hg7 HNE.out.2) (HSD.out.2.kept hg7 HNK.out))
                refine ⟨_, rfl, fun _ => HS7.out, ?_⟩
                simp only [Act.put, List.setIfInBounds_toArray, List.set_cons_succ, List.set_cons_zero]
                have HB2 := hid (And.intro hb2 (And.intro hf2 hs2))
                have HT2 := hid hT2
                have HC7 := hid hc7
                have HZ7 := hid (HZD.out.kept hg7 HNE.out.1)
                have HT7 := hid (HTD.out.low hg7 (by have := HOB.out; omega))
                have HG7 := hid (gb_trans HGD.out hg7)
                have hwd : w2.heap.size + 1 ≤ wd.heap.size := HSD.out.1.lt
                have HWD := hid hwd
                have HG67 := hid hg7
                clear hb2 hT2 hf2 hs2 hc7 hg7 hwd
                refine F_only 7 (by kernel_rfl) (E_val 7 rfl (some 47) rfl rfl (.agg #[.bool t, .int .i64 n, .string s, .int .i64 k2, .int .i64 m2, .string u2, .int .i64 x2, .slice A2 f2.len c2]) w7 (by go_simp) ⟨fun _ => HS7.out, ?_⟩)
                simp only [Act.put, List.setIfInBounds_toArray, List.set_cons_succ, List.set_cons_zero]
                have HS8 := hid (And.intro (HS7.out.1.alloc (.cells #[.bool t, .int .i64 n, .string s, .int .i64 k2, .int .i64 m2, .string u2, .int .i64 x2, .slice A2 f2.len c2] 35)) (HS7.out.2.alloc (.cells #[.bool t, .int .i64 n, .string s, .int .i64 k2, .int .i64 m2, .string u2, .int .i64 x2, .slice A2 f2.len c2] 35)))
                refine F_only 8 (by kernel_rfl) (E_val 8 rfl (some 48) rfl rfl (.slice (some ⟨w7.heap.size, 0, none⟩) 1 1) (w7.alloc (.cells #[.bool t, .int .i64 n, .string s, .int .i64 k2, .int .i64 m2, .string u2, .int .i64 x2, .slice A2 f2.len c2] 35)) (by go_simp) ⟨fun _ => HS8.out, ?_⟩)
                simp only [Act.put, List.setIfInBounds_toArray, List.set_cons_succ, List.set_cons_zero]
                obtain ⟨cs, hown, hsub, hol, hnb⟩ := HT7.out.grow (gb_alloc (gb_refl w7 none) (.cells #[.bool t, .int .i64 n, .string s, .int .i64 k2, .int .i64 m2, .string u2, .int .i64 x2, .slice A2 f2.len c2] 35))
                have hol2 : OwnL (w7.alloc (.cells #[.bool t, .int .i64 n, .string s, .int .i64 k2, .int .i64 m2, .string u2, .int .i64 x2, .slice A2 f2.len c2] 35)) 35 (w2.heap.size + 1) (L ++ (blk A2 ++ L2)) := by
                  have ha := (show OwnL wd 35 (w2.heap.size + 1) L from HTD.out.own.2.sub.2)
                  exact OwnL.appG HWD.out ha (gb_trans HG67.out (gb_any (gb_alloc (gb_refl w7 none) _))) (fun q hq hm => by have h : g = q := Option.some.inj hq; have := (ha.2 q hm).1; have := HOB.out; omega) (HT2.out.own.2.grow (gb_alloc (gb_refl w7 none) _))
                have hr2 := HT2.out.own.1.grow (gb_alloc (gb_refl w7 none) (.cells #[.bool t, .int .i64 n, .string s, .int .i64 k2, .int .i64 m2, .string u2, .int .i64 x2, .slice A2 f2.len c2] 35))
                have HSub := hid (And.intro hsub (And.intro hol2 hr2))
                have HRq : Hid (∀ q, (Value.slice A f.len c).ownBlock = some q → (w2.heap.size + 1 ≤ q ∧ q < wd.heap.size) ∧ q ∉ L ++ (blk A2 ++ L2)) := hid fun q hq => by
                  have hq1 : q ∈ blk A := blk_own.1 hq
                  have hq2 := HTD.out.own.2.2 q (List.mem_append.2 (.inl hq1))
                  refine ⟨⟨hq2.1, hq2.2.lt⟩, fun hm => ?_⟩
                  rcases List.mem_append.1 hm with hm | hm
                  · exact hnb q hq1 hm
                  · have := (HT2.out.own.2.2 q hm).1; have := hq2.2.lt; omega
                clear hsub hol hnb hol2 hr2
                refine F_only 9 (by kernel_rfl) (E_append 9 rfl (some 49) rfl rfl (.tmp 41) (.tmp 48) 24 rfl (w2.heap.size + 1) 35 i0 entry0 8 96 Tryd.underlying24 HI.out.1 HI.out.2.1 HI.out.2.2.1 HI.out.2.2.2 rfl (by omega) (.slice A f.len c) f.len cs rfl hown
                  ⟨w7.heap.size, 0, none⟩ 1 1 [.bool t, .int .i64 n, .string s, .int .i64 k2, .int .i64 m2, .string u2, .int .i64 x2, .slice A2 f2.len c2] rfl rfl (news_lit w7 [.bool t, .int .i64 n, .string s, .int .i64 k2, .int .i64 m2, .string u2, .int .i64 x2, .slice A2 f2.len c2] 35) (by simp [Value.oneCell']) (by have := f.len_le; unfold maxLen; omega) (by have := f.len_le; omega) (by have := HWD.out; have := HG67.out.size; simp only [World.size_alloc]; omega) ?_)
                intro A3 c3 w8 hown3 _ hg3 hat3
                have hT8 := rw_snoc hown3 HSub.out.1 HSub.out.2.2 HT2.out.nil0 HSub.out.2.1 hg3 (fun q hq => (HRq.out q hq).2) hat3
                have hnq : ∀ b9, b9 < w2.heap.size + 1 → (Value.slice A f.len c).ownBlock ≠ some b9 := fun b9 hb9 e => by have := (HRq.out b9 e).1.1; omega
                have hS9 : HoldsT w8 w2.heap.size #[.int .i64 4, .int .i64 0, .string { data := #[] }, .int .i64 y, .slice A f.len c] 26 ∧ HoldsT w8 w4.heap.size #[.bool t, .int .i64 n, .string s] 33 := ⟨HS8.out.1.kept hg3 (hnq _ (by omega)), HS8.out.2.kept hg3 (fun e => Nat.lt_irrefl _ (HTK.out _ (List.mem_append.2 (.inl (blk_own.1 e)))))⟩
                have HS9 := hid hS9
                have HT8 := hid hT8
                have HZ8 := hid ((HZ7.out.alloc (.cells #[.bool t, .int .i64 n, .string s, .int .i64 k2, .int .i64 m2, .string u2, .int .i64 x2, .slice A2 f2.len c2] 35)).kept hg3 (hnq _ (by have := HOB.out; omega)))
                have HC8 := hid ((HC7.out.alloc (.cells #[.bool t, .int .i64 n, .string s, .int .i64 k2, .int .i64 m2, .string u2, .int .i64 x2, .slice A2 f2.len c2] 35)).kept hg3 (fun q hq => by have := (HRq.out q hq).1.1; have := HOB.out; omega))
                have HG8 := hid (gb_new (gb_alloc HG7.out (.cells #[.bool t, .int .i64 n, .string s, .int .i64 k2, .int .i64 m2, .string u2, .int .i64 x2, .slice A2 f2.len c2] 35)) hg3 (fun q hq => by have := (HRq.out q hq).1.1; have := HOB.out; omega))
                have hA3 : ∀ b9, b9 ∈ blk A3 → b9 ≠ w2.heap.size := fun b9 hb9 e => by have := (HT8.out.own.2.2 b9 (List.mem_append.2 (.inl hb9))).1; omega
                have HA3 := hid hA3
                refine ⟨fun _ => HS9.out, ?_⟩
                simp only [Act.put, List.setIfInBounds_toArray, List.set_cons_succ, List.set_cons_zero]
                clear hown hown3 hg3 hat3 hT8 hnq hS9 hA3
                refine F_only 10 (by kernel_rfl) (E_val 10 rfl (some 50) rfl rfl (.pointer (some ⟨w2.heap.size, 4, none⟩)) w8 (by go_simp) ⟨fun _ => HS9.out, ?_⟩)
                simp only [Act.put, List.setIfInBounds_toArray, List.set_cons_succ, List.set_cons_zero]
                have fc := HS9.out.1.cells5.2.2.2.2
                have fz := HS9.out.1.frozen 4
                have fl := HS9.out.1.lt
                refine F_only 11 (by kernel_rfl) (E_skip 11 rfl none rfl rfl (w8.setCell ⟨w2.heap.size, 4, none⟩ (.slice A3 (f.len + 1) c3)) (by go_simp) ⟨fun h => absurd h (by omega), ?_⟩)
                refine F_done (by kernel_rfl) ?_ _
                simp only [Act.put, List.setIfInBounds_toArray, List.set_cons_succ, List.set_cons_zero]
                clear fc fz fl
                have s9 : w8.grownBy (w8.setCell ⟨w2.heap.size, 4, none⟩ (.slice A3 (f.len + 1) c3)) (some w2.heap.size) := gb_set (gb_refl _ _) (.inr rfl) _
                have hln : (f.app (.cons t n s k2 m2 u2 x2 f2 .nil)).len = f.len + 1 := by rw [Forest.len_app]; rfl
                have HO9 := hid (show HoldsT (w8.setCell ⟨w2.heap.size, 4, none⟩ (.slice A3 (f.len + 1) c3)) w2.heap.size #[.int .i64 4, .int .i64 0, .string { data := #[] }, .int .i64 y, .slice A3 (f.len + 1) c3] 26 from HS9.out.1.set 4 _)
                have HK9 := hid (HS9.out.2.kept s9 (by intro e; injection e with e; have := HKB.out; omega))
                have HT9 := hid (HT8.out.low s9 (by omega))
                have HZ9 := hid (HZ8.out.kept s9 (by intro e; injection e with e; have := HOB.out; omega))
                have HC9 := hid (HC8.out.kept s9 (fun q hq => by have h : w2.heap.size = q := Option.some.inj hq; have := HOB.out; omega))
                have HG9 := hid (gb_new HG8.out s9 (fun q hq => by have h : w2.heap.size = q := Option.some.inj hq; have := HOB.out; omega))
                have HSz := hid (show (f.app (.cons t n s k2 m2 u2 x2 f2 .nil)).size + kj * (1 + P) ≤ 4 * (1 + P) by rw [sizeTwo]; have := HB2.out.2.1; have := HK2.out; omega)
                have HSmN := hid (Forest.sm_app HSm.out (show Forest.sm (.cons t n s k2 m2 u2 x2 f2 .nil) from ⟨⟨HSN.out.1, HB2.out.1.2.2.2, by have := HSN.out.2; unfold I64; omega, HB2.out.1.1, HB2.out.1.2.1, HB2.out.1.2.2.1⟩, HB2.out.2.2, trivial⟩))
                have HLn := hid hln
                generalize hw9 : w8.setCell ⟨w2.heap.size, 4, none⟩ (.slice A3 (f.len + 1) c3) = w9 at HO9 HK9 HT9 HZ9 HC9 HG9 ⊢
                clear hw9 s9 hln HS9 HT8 HZ8 HC8 HG8 HS8 HS7 HT7 HZ7 HC7 HG7 HSub HRq HTD HZD HCD HGD HSD HA3 HG67 HT2 HT6 HO6 HK6 HZ6 HC6 HG6
                obtain ⟨q0, q1, q2⟩ := HK9.out.cells3
                have lk := HK9.out.lt
                obtain ⟨o0, o1, o2, o3, o4⟩ := HO9.out.cells5
                have u3 := HO9.out.frozen 3
                have lo := HO9.out.lt
                cases t with
                | true =>
                  go_wp2_with fail
                  go_roundw
                  case rel => exact ⟨kj, y, _, A3, c3, _, by go_num, HSz, HY, HSmN, hid (by rw [HLn.out]; exact HO9.out), HT9, HZ9, HC9, HG9⟩
                  case measure => simp [intOf] <;> omega
                | false =>
                  have HNn := hid HSN.out.2
                  have hn1 := HNn.out.1
                  have hn2 := HNn.out.2
                  go_wp2_with fail
                  refine (specMaxI_any _ _ _).mono ?_
                  rintro e w10 ⟨rfl, rfl⟩
                  obtain ⟨y9, hy9⟩ : ∃ z : Int, (if y < n + 1 then n + 1 else y) = z := ⟨_, rfl⟩
                  rw [hy9]
                  have HY9b : Hid (0 ≤ y9 ∧ y9 ≤ 1000000001) := hid (by have := HY.out; have := HNn.out; rw [← hy9]; split <;> omega)
                  clear hy9 hn1 hn2
                  go_wp2_with fail
                  have s9 : w9.grownBy (w9.setCell ⟨w2.heap.size, 3, none⟩ (.int .i64 y9)) (some w2.heap.size) := gb_set (gb_refl _ _) (.inr rfl) _
                  go_roundw
                  case rel => exact ⟨kj, y9, _, A3, c3, _, by go_num, HSz, HY9b, HSmN, hid (by rw [HLn.out]; exact HO9.out.set 3 _), hid (HT9.out.low s9 (by omega)), hid (HZ9.out.kept s9 (by intro e; injection e with e; have := HOB.out; omega)), hid (HC9.out.kept s9 (fun q hq => by have h : w2.heap.size = q := Option.some.inj hq; have := HOB.out; omega)), hid (gb_new HG9.out s9 (fun q hq => by have h : w2.heap.size = q := Option.some.inj hq; have := HOB.out; omega))⟩
                  case measure => simp [intOf] <;> omega
              · rw [h1]
                have hj0 : (0 : Int) ≤ (j : Int) := by omega
                clear h1
                go_wp2_with fail
                go_roundw
                case rel => exact ⟨kj, y, f, A, c, L, by go_num, hid (by have := HK2.out; omega), HY, HSm, HO6, HT6, HZ6, HC6, HG6⟩
                case measure => simp [intOf] <;> omega
end Go.Proofs.YtmbochhmeojmfaaDoor
