/- The walks of UnescapeHTML, and its law. -/
import Derived.Test.YtolefcbkhmcdmaaUnHMath
import Derived.Lib.SlBytesConst
namespace Go.Proofs.Ytolefcbkhmcdmaa
open Go.RowKit
set_option linter.unusedVariables false

def fiveStr : ByteArray := { data := #[38, 60, 62, 34, 39] }
theorem fiveStr_at (q : Nat) (h : q < 5) (hq : q < fiveStr.size) : ((fiveStr[q]'hq).toNat : Int) = spec5 q := by
  have : q = 0 ∨ q = 1 ∨ q = 2 ∨ q = 3 ∨ q = 4 := by omega
  rcases this with rfl | rfl | rfl | rfl | rfl <;> rfl
theorem mt_len {s : ByteArray} {k : Nat} {c : Int} (h : mt s k c = true) : k + (strOf (ent c)).size ≤ s.size := by
  unfold mt at h
  rw [Bool.and_eq_true] at h
  rw [strOf_size]
  exact of_decide_eq_true h.1
theorem mt_eq (s : ByteArray) (k : Nat) (c : Int) (h : k + (strOf (ent c)).size ≤ s.size) : ((s.extract k (k + (strOf (ent c)).size)).toList == (strOf (ent c)).toList) = mt s k c := by
  rw [strOf_size] at h ⊢
  unfold mt
  rw [decide_eq_true h]
  rfl
theorem run_slice_ext {P : Program} (t : TypeId) (ht : P.underlying t = some .string) (s : ByteArray) (k z : Nat) (h : k + z ≤ s.size) (W : World) :
    (Instr.slice t (.string s) (some (.int .i64 (k : Int))) (some (.int .i64 ((k : Int) + (z : Int)))) none).run P W = .ok (.string (s.extract k (k + z))) W := by
  have h1 := run_slice_string (P := P) W t s .i64 .i64 (k : Int) ((k : Int) + (z : Int)) ht (by omega) (by omega) (by omega)
  rw [h1]
  rfl

theorem Rd.litF (w : World) (cs : List Value) (t : TypeId) (fz : Nat × Nat) : Rd (w.alloc (.cells cs.toArray t fz)) (some ⟨w.heap.size, 0, none⟩) cs := fun j _ => by
  have h : (w.alloc (.cells cs.toArray t fz)).heap[w.heap.size]? = some (.cells cs.toArray t fz) := by
    show (w.heap.push _)[w.heap.size]? = _
    simp
  refine ⟨w.heap.size, 0, rfl, by simp, ?_⟩
  unfold World.cell?
  rw [h]
  simp

theorem run_slice_from {P : Program} (t : TypeId) (ht : P.underlying t = some .string) (s : ByteArray) (k : Nat) (h : k ≤ s.size) (W : World) :
    (Instr.slice t (.string s) (some (.int .i64 (k : Int))) none none).run P W = .ok (.string (s.extract k s.size)) W := by
  simp [Instr.slice, Instr.sliceBounds, Instr.sliceBound, asIntOf, run_underlying ht]
  first | done | (intro hc; omega) | skip

/-- How far the five entities are tried. -/
def Tried (s : ByteArray) (k : Nat) (base : Nat) (acc : List Int) (w : World) (q : Nat) (v i fd : Value) (wr : World) : Prop :=
  (fd = .bool false ∧ i = .int .i64 (k : Int) ∧ Hid (noneTo s k q) ∧ ∃ (A : Option Addr) (j c : Nat), v = .slice A j c ∧ j ≤ k ∧ wr.ownsRow base 5 1 (.slice A j c) j (acc.map (.int .u8)) ∧ w.grownBy wr none) ∨
  (fd = .bool true ∧ ∃ (m : Int) (z : Nat), i = .int .i64 ((k + z : Nat) - 1 : Int) ∧ Hid (entAt s k = some m ∧ (ent m).length = z) ∧ 4 ≤ z ∧ k + z ≤ s.size ∧ ∃ (A : Option Addr) (j c : Nat), v = .slice A (j + 1) c ∧ j ≤ k ∧ wr.ownsRow base 5 1 (.slice A (j + 1) c) (j + 1) ((acc ++ [m]).map (.int .u8)) ∧ w.grownBy wr none)

set_option maxHeartbeats 2000000 in
theorem specUnHTML_any (s : ByteArray) (w : World) (hs : s.size ≤ 1048576) :
    Calls Try.prog 22 #[.string s] w (OptPost (unHtml s) w) := by
  obtain ⟨i0, hi, hz0, hz1, hz2⟩ := info_parts Try.infoU8
  obtain ⟨R, hR⟩ : ∃ R, unHtml s = R := ⟨_, rfl⟩
  rw [hR]
  go_enter Try.func22, Try.ntmps22
  go_wp2
  go_loopw [4, 5, 6, 7, 8] (fun v i _ _ _ wr => ∃ (k : Nat) (acc : List Int) (f : Nat), k ≤ s.size ∧ i = .int .i64 k ∧ Hid (unH s f k acc = R) ∧ ∃ (A : Option Addr) (j c : Nat), v = .slice A j c ∧ s.size < k + f ∧ j ≤ k ∧ wr.ownsRow w.heap.size 5 1 (.slice A j c) j (acc.map (.int .u8)) ∧ w.grownBy wr none) (fun _ i _ _ _ _ => s.size - (intOf i).toNat)
  case atStart => exact ⟨0, [], s.size + 1, Nat.zero_le _, rfl, (by show _ = _; rw [← hR]; unfold unHtml; rfl), _, 0, _, rfl, by omega, by omega, World.ownsRow_lit (base := w.heap.size) (e := 5) (size := 1) w #[] 0 (Nat.le_refl _) (by unfold maxLen; omega) rfl, gb_alloc (gb_refl _ _) _⟩
  case round =>
    obtain ⟨k, acc, f, hk, rfl, HU, A, j, c, rfl, hf, hjk, hown, hg⟩ := hrel
    have hsz := hg.size
    by_cases hlt : k < s.size
    · have h256 : (s[k].toNat : Int) < 256 := by have := s[k].toNat_lt; omega
      have h000 : 0 ≤ (s[k].toNat : Int) := by omega
      have g1 := bytesI_getD s k hlt
      obtain ⟨f, rfl⟩ : ∃ f', f = f' + 1 := ⟨f - 1, by omega⟩
      generalize hc : (s[k].toNat : Int) = x at h256 h000 g1
      have HL : Hid (k < s.size) := hlt
      by_cases h38 : x = 38
      · subst h38
        have HG := hid g1
        clear g1
        obtain ⟨wo, rfl⟩ : ∃ wo : World, wo = wr := ⟨_, rfl⟩
        go_wp2
        go_loopw [4, 5, 6, 7, 8] (fun v i fd q _ wr => ∃ qq : Nat, qq ≤ 5 ∧ q = .int .i64 qq ∧ Tried s k w.heap.size acc w qq v i fd wr) (fun _ _ _ q _ _ => 5 - (intOf q).toNat)
        case atStart => exact ⟨0, by omega, rfl, .inl ⟨rfl, rfl, fun j hj => absurd hj (by omega), A, j, c, rfl, hjk, hown, hg⟩⟩
        case round =>
          clear hown hg hsz hjk
          obtain ⟨q, hq, rfl, ht⟩ := hrel
          rcases ht with ⟨rfl, rfl, HN, A, j, c, rfl, hjk, hown, hg⟩ | ⟨rfl, m, z, rfl, HM, hz4, hzs, A, j, c, rfl, hjk, hown, hg⟩
          · have hsz := hg.size
            by_cases hq5 : q < 5
            · have hqs : q < fiveStr.size := hq5
              have g5 := fiveStr_at q hq5 hqs
              have hsp := spec5_mem q hq5
              rw [← g5] at hsp
              have y256 : ((fiveStr[q]'hqs).toNat : Int) < 256 := by have := (fiveStr[q]'hqs).toNat_lt; omega
              have y000 : 0 ≤ ((fiveStr[q]'hqs).toNat : Int) := by omega
              have HQ5 := hid hq5
              unfold fiveStr at hqs g5 hsp y256 y000
              generalize hy : ((({ data := #[38, 60, 62, 34, 39] } : ByteArray)[q]'hqs).toNat : Int) = y at g5 hsp y256 y000
              have HY := hid g5
              have hes := ent_size y hsp
              rw [← strOf_size] at hes
              have HEL : Hid ((ent y).length = (strOf (ent y)).size) := (strOf_size _).symm
              cases hm : mt s k y
              · have HN' : Hid (noneTo s k (q + 1)) := noneTo_succ HN.out (by rw [← HY.out]; exact hm)
                have hme := mt_eq s k y
                have CE := fun w => l4Entity_any y w y000 (by omega)
                rw [hm] at hme
                unfold GivesStr at CE
                obtain ⟨E, hE⟩ : ∃ E, strOf (ent y) = E := ⟨_, rfl⟩
                rw [hE] at hme CE hes
                clear hm hE g5 hsp HEL
                by_cases hle : k + E.size ≤ s.size
                · have hme := hme hle
                  have hsl := fun W => run_slice_ext (P := Try.prog) 9 Try.underlying9 s k E.size hle W
                  generalize hX : s.extract k (k + E.size) = X at hme hsl
                  have HCE := hid CE
                  clear hX CE
                  go_wp2_with fail
                  refine (HCE.out _).mono ?_; rintro e w1 ⟨rfl, hg1⟩
                  go_wp2
                  go_roundw
                  case rel => exact ⟨q + 1, by omega, by go_num, .inl ⟨rfl, rfl, HN'.out, A, j, c, rfl, hjk, own_grow hown hg1, gb_trans hg hg1⟩⟩
                  case measure => simp [intOf]; omega
                · have HCE := hid CE
                  clear hme CE
                  go_wp2_with fail
                  refine (HCE.out _).mono ?_; rintro e w1 ⟨rfl, hg1⟩
                  go_wp2
                  go_roundw
                  case rel => exact ⟨q + 1, by omega, by go_num, .inl ⟨rfl, rfl, HN'.out, A, j, c, rfl, hjk, own_grow hown hg1, gb_trans hg hg1⟩⟩
                  case measure => simp [intOf]; omega
              · have HM : Hid (entAt s k = some y) := by show _ = _; rw [HY.out]; exact entAt_some HQ5.out HN.out (by rw [← HY.out]; exact hm)
                have hle := mt_len hm
                have hme := mt_eq s k y hle
                have CE := fun w => l4Entity_any y w y000 (by omega)
                rw [hm] at hme
                unfold GivesStr at CE
                obtain ⟨E, hE⟩ : ∃ E, strOf (ent y) = E := ⟨_, rfl⟩
                rw [hE] at hme CE hes hle HEL
                clear hm hE g5 hsp
                have hsl := fun W => run_slice_ext (P := Try.prog) 9 Try.underlying9 s k E.size hle W
                generalize hX : s.extract k (k + E.size) = X at hme hsl
                have HCE := hid CE
                clear hX CE
                go_wp2_with fail
                refine (HCE.out _).mono ?_; rintro e w1 ⟨rfl, hg1⟩
                have hg2 := gb_trans hg hg1
                have hown2 := own_grow hown hg1
                have hsz2 := hg2.size
                clear hown hg
                go_wp2_with (at_builtin; refine wpList_app _ rfl _ _ _ rfl w.heap.size 5 i0 (.int .u8 0) 1 Try.underlying28 hi hz0 hz1 hz2 rfl _ j _ rfl (hown2.alloc _) _ 1 1 [.int .u8 y] rfl rfl (by simp) (Rd.one _ _ _) (u8_one _) (by unfold maxLen; simp; omega) (by simp; omega) (by simp; omega) ?_; intro A3 c3 w3 hown3 hA3 hg3 hat3)
                go_roundw
                case rel => exact ⟨q + 1, by omega, by go_num, .inr ⟨rfl, y, E.size, by go_num, ⟨HM.out, HEL.out⟩, by omega, hle, A3, j, c3, rfl, hjk, by rw [List.map_append]; exact hown3, gb_new (gb_alloc hg2 _) hg3 (own_new hown2)⟩⟩
                case measure => simp [intOf]; omega
            · obtain rfl : q = 5 := by omega
              have HR : Hid (R = none) := by show _ = _; rw [← HU.out, unH_bad _ _ _ _ HL.out HG.out (entAt_none HN.out)]
              go_wp2
              go_ret2
              exact ⟨by rw [HR.out]; rfl, hg⟩
          · have HR : Hid (unH s f (k + z) (acc ++ [m]) = R) := by show _ = _; rw [← HU.out, unH_ent _ _ _ _ m HL.out HG.out HM.out.1, HM.out.2]
            by_cases hq5 : q < 5
            all_goals
              go_wp2
              go_roundw
              case rel => exact ⟨k + z, acc ++ [m], f, hzs, by go_num, HR.out, A, j + 1, c, rfl, by omega, by omega, hown, hg⟩
              case measure => simp [intOf]; omega
      · have e1 : (x != 38) = true := by simpa using h38
        have HN : Hid (unH s f (k + 1) (acc ++ [x]) = R) := by show _ = _; rw [← HU.out, unH_other _ _ _ _ HL.out (by rw [g1]; exact h38), g1]
        clear g1 h38
        go_wp2_with (at_builtin; refine wpList_app _ rfl _ _ _ rfl w.heap.size 5 i0 (.int .u8 0) 1 Try.underlying28 hi hz0 hz1 hz2 rfl _ j _ rfl (hown.alloc _) _ 1 1 [.int .u8 x] rfl rfl (by simp) (Rd.one _ _ _) (u8_one _) (by unfold maxLen; simp; omega) (by simp; omega) (by simp; omega) ?_; intro A3 c3 w3 hown3 hA3 hg3 hat3)
        go_roundw
        case rel =>
          refine ⟨k + 1, acc ++ [x], f, by omega, by go_num, HN.out, A3, j + 1, c3, rfl, by omega, by omega, ?_, gb_new (gb_alloc hg _) hg3 (own_new hown)⟩
          rw [List.map_append]
          exact hown3
        case measure => simp [intOf]; omega
    · have HE : Hid (R = some acc) := by show _ = _; rw [← HU.out, unH_end _ _ _ _ (by omega)]
      have kc := run_conv_rd (P := Try.prog) wr 28 5 9 A j c acc Try.underlying28 Try.underlying5 Try.underlying9 (Rd.own hown) (by have := hown.1; rw [List.length_map] at this; omega)
      clear hown
      go_wp2
      go_ret2
      exact ⟨by rw [HE.out]; rfl, hg⟩

set_option maxHeartbeats 2000000 in
theorem implUnHTML_any (s : ByteArray) (w : World) (hs : s.size ≤ 1048576) :
    Calls Try.prog 23 #[.string s] w (OptPost (unHtml s) w) := by
  obtain ⟨i0, hi, hz0, hz1, hz2⟩ := info_parts Try.infoU8
  obtain ⟨R, hR⟩ : ∃ R, unHtml s = R := ⟨_, rfl⟩
  rw [hR]
  go_enter Try.func23, Try.ntmps23
  go_wp2
  go_loopw [4, 5, 6, 8, 9] (fun v i _ _ _ wr => ∃ (k : Nat) (acc : List Int) (f : Nat), k ≤ s.size ∧ i = .int .i64 k ∧ Hid (unH s f k acc = R) ∧ ∃ (A : Option Addr) (j c : Nat), v = .slice A j c ∧ s.size < k + f ∧ j ≤ k ∧ wr.ownsRow w.heap.size 5 1 (.slice A j c) j (acc.map (.int .u8)) ∧ w.grownBy wr none) (fun _ i _ _ _ _ => s.size - (intOf i).toNat)
  case atStart => exact ⟨0, [], s.size + 1, Nat.zero_le _, rfl, (by show _ = _; rw [← hR]; unfold unHtml; rfl), _, 0, _, rfl, by omega, by omega, World.ownsRow_lit (base := w.heap.size) (e := 5) (size := 1) w #[] 0 (Nat.le_refl _) (by unfold maxLen; omega) rfl, gb_alloc (gb_refl _ _) _⟩
  case round =>
    obtain ⟨k, acc, f, hk, rfl, HU, A, j, c, rfl, hf, hjk, hown, hg⟩ := hrel
    have hsz := hg.size
    by_cases hlt : k < s.size
    · have h256 : (s[k].toNat : Int) < 256 := by have := s[k].toNat_lt; omega
      have h000 : 0 ≤ (s[k].toNat : Int) := by omega
      have g1 := bytesI_getD s k hlt
      obtain ⟨f, rfl⟩ : ∃ f', f = f' + 1 := ⟨f - 1, by omega⟩
      generalize hc : (s[k].toNat : Int) = x at h256 h000 g1
      have HL : Hid (k < s.size) := hlt
      by_cases h38 : x = 38
      · subst h38
        have HG := hid g1
        clear g1
        obtain ⟨wo, rfl⟩ : ∃ wo : World, wo = wr := ⟨_, rfl⟩
        have kcc := Lib.run_convert_bytes_const (P := Try.prog) wo 28 5 (five.map (Value.int .u8)).toArray 5 5 Try.underlying28 Try.underlying5
        unfold five at kcc
        simp only [List.map_cons, List.map_nil] at kcc
        go_wp2
        go_loopw [4, 5, 6, 8, 9, 30] (fun v i fd _ _ q wr => ∃ qq : Nat, qq ≤ 5 ∧ q = .int .i64 qq ∧ fd = .bool false ∧ v = .slice A j c ∧ i = .int .i64 k ∧ Hid (noneTo s k qq) ∧ wr.ownsRow w.heap.size 5 1 (.slice A j c) j (acc.map (.int .u8)) ∧ w.grownBy wr none ∧ Rd wr (some ⟨wo.heap.size, 0, none⟩) (five.map (Value.int .u8))) (fun _ _ _ _ _ q _ => 5 - (intOf q).toNat)
        case atStart => exact ⟨0, by omega, rfl, rfl, rfl, rfl, fun j hj => absurd hj (by omega), hown.alloc _, gb_alloc hg _, Rd.litF wo (five.map (Value.int .u8)) 5 _⟩
        case round =>
          clear hown hg hsz
          obtain ⟨q, hq, rfl, rfl, rfl, rfl, HN, hown, hg, hrd⟩ := hrel
          have hsz := hg.size
          by_cases hq5 : q < 5
          · obtain ⟨b, o, hbo, hb, hcell⟩ := hrd q hq5
            injection hbo with hbo
            injection hbo with hb1 hb2
            subst hb1
            subst hb2
            have HRD := hid hrd
            rw [Nat.zero_add, int_at hq5] at hcell
            have hy : five[q] = spec5 q := by unfold spec5; rw [List.getD_eq_getElem?_getD, List.getElem?_eq_getElem hq5]; rfl
            rw [hy] at hcell
            have hsp := spec5_mem q hq5
            obtain ⟨y, hyy⟩ : ∃ y, spec5 q = y := ⟨_, rfl⟩
            have HY := hid hyy
            have HQ5 := hid hq5
            rw [hyy] at hcell hsp
            clear hy hyy hrd hb
            have hyb : 0 ≤ y ∧ y < 256 := by unfold Special at hsp; omega
            have CE := fun w => entityOf_sp y w hsp
            have hes := ent_size y hsp
            rw [← strOf_size] at hes
            have HEL : Hid ((ent y).length = (strOf (ent y)).size) := (strOf_size _).symm
            have hpm := pre_mt s k y hk
            have hxs : (s.extract k s.size).size ≤ 1048576 := by rw [ByteArray.size_extract]; omega
            have hsl := fun W => run_slice_from (P := Try.prog) 9 Try.underlying9 s k hk W
            cases hm : mt s k y
            · have HN' : Hid (noneTo s k (q + 1)) := noneTo_succ HN.out (by rw [HY.out]; exact hm)
              rw [hm] at hpm
              obtain ⟨E, hE⟩ : ∃ E, strOf (ent y) = E := ⟨_, rfl⟩
              rw [hE] at hpm CE hes
              have HPM := hid hpm
              have HCE := hid CE
              clear hm hE hsp HEL hpm CE
              generalize s.extract k s.size = X at HPM hsl hxs
              go_wp2_with fail
              refine (HCE.out _).mono ?_; rintro e w1 ⟨rfl, rfl⟩
              go_wp2_with fail
              refine (prefix_any _ _ _ hxs (by omega) _ HPM.out).mono ?_; rintro e w1 ⟨rfl, rfl⟩
              go_wp2
              go_roundw
              case rel => exact ⟨q + 1, by omega, by go_num, rfl, rfl, rfl, HN'.out, hown, hg, HRD.out⟩
              case measure => simp [intOf]; omega
            · have HM : Hid (entAt s k = some y) := by show _ = _; rw [← HY.out]; exact entAt_some HQ5.out HN.out (by rw [HY.out]; exact hm)
              have HR : Hid (unH s f (k + (ent y).length) (acc ++ [y]) = R) := by show _ = _; rw [← HU.out, unH_ent _ _ _ _ y HL.out HG.out HM.out]
              have hle := mt_len hm
              rw [hm] at hpm
              obtain ⟨E, hE⟩ : ∃ E, strOf (ent y) = E := ⟨_, rfl⟩
              rw [hE] at hpm CE hes hle HEL
              rw [HEL.out] at HR
              have HPM := hid hpm
              have HCE := hid CE
              clear hm hE hsp hpm CE
              generalize s.extract k s.size = X at HPM hsl hxs
              go_wp2_with fail
              refine (HCE.out _).mono ?_; rintro e w1 ⟨rfl, rfl⟩
              go_wp2_with fail
              refine (prefix_any _ _ _ hxs (by omega) _ HPM.out).mono ?_; rintro e w1 ⟨rfl, rfl⟩
              go_wp2_with (at_builtin; refine wpList_app _ rfl _ _ _ rfl w.heap.size 5 i0 (.int .u8 0) 1 Try.underlying28 hi hz0 hz1 hz2 rfl _ j _ rfl (hown.alloc _) _ 1 1 [.int .u8 y] rfl rfl (by simp) (Rd.one _ _ _) (u8_one _) (by unfold maxLen; simp; omega) (by simp; omega) (by simp; omega) ?_; intro A3 c3 w3 hown3 hA3 hg3 hat3)
              go_roundw
              case rel =>
                refine ⟨k + E.size, acc ++ [y], f, hle, by go_num, HR.out, A3, j + 1, c3, rfl, by omega, by omega, ?_, gb_new (gb_alloc hg _) hg3 (own_new hown)⟩
                rw [List.map_append]
                exact hown3
              case measure => simp [intOf]; omega
          · obtain rfl : q = 5 := by omega
            have HR : Hid (R = none) := by show _ = _; rw [← HU.out, unH_bad _ _ _ _ HL.out HG.out (entAt_none HN.out)]
            go_wp2
            go_ret2
            exact ⟨by rw [HR.out]; rfl, hg⟩
      · have e1 : (x != 38) = true := by simpa using h38
        have HN : Hid (unH s f (k + 1) (acc ++ [x]) = R) := by show _ = _; rw [← HU.out, unH_other _ _ _ _ HL.out (by rw [g1]; exact h38), g1]
        clear g1 h38
        go_wp2_with (at_builtin; refine wpList_app _ rfl _ _ _ rfl w.heap.size 5 i0 (.int .u8 0) 1 Try.underlying28 hi hz0 hz1 hz2 rfl _ j _ rfl (hown.alloc _) _ 1 1 [.int .u8 x] rfl rfl (by simp) (Rd.one _ _ _) (u8_one _) (by unfold maxLen; simp; omega) (by simp; omega) (by simp; omega) ?_; intro A3 c3 w3 hown3 hA3 hg3 hat3)
        go_roundw
        case rel =>
          refine ⟨k + 1, acc ++ [x], f, by omega, by go_num, HN.out, A3, j + 1, c3, rfl, by omega, by omega, ?_, gb_new (gb_alloc hg _) hg3 (own_new hown)⟩
          rw [List.map_append]
          exact hown3
        case measure => simp [intOf]; omega
    · have HE : Hid (R = some acc) := by show _ = _; rw [← HU.out, unH_end _ _ _ _ (by omega)]
      have kc := run_conv_rd (P := Try.prog) wr 28 5 9 A j c acc Try.underlying28 Try.underlying5 Try.underlying9 (Rd.own hown) (by have := hown.1; rw [List.length_map] at this; omega)
      clear hown
      go_wp2
      go_ret2
      exact ⟨by rw [HE.out]; rfl, hg⟩


theorem unescapeHTML_walk (a0 : ByteArray) (w : World) (_w0 : a0.size ≤ maxLen) : Calls Try.prog 8 #[.string a0] w fun e w' => e = .returned (.bool true) ∧ Below w.heap.size w w' := by
  unfold maxLen at _w0
  by_cases h : a0.size ≤ 1048576
  · obtain ⟨R, hR⟩ : ∃ R, unHtml a0 = R := ⟨_, rfl⟩
    obtain ⟨T, hT⟩ : ∃ T, optStr R = T := ⟨_, rfl⟩
    obtain ⟨B, hB⟩ : ∃ B, R.isSome = B := ⟨_, rfl⟩
    have c1 := fun w => specUnHTML_any a0 w h
    have c2 := fun w => implUnHTML_any a0 w h
    rw [hR] at c1 c2
    unfold OptPost at c1 c2
    rw [hT, hB] at c1 c2
    clear hR hT hB
    go_enter Try.func8, Try.ntmps8
    go_wp2_with fail
    refine (c1 _).mono ?_
    rintro e w1 ⟨rfl, hg1⟩
    go_wp2_with fail
    refine (c2 _).mono ?_
    rintro e w2 ⟨rfl, hg2⟩
    go_wp2
    go_ret
    exact ⟨ret_bool (by simp), gb_below (gb_trans hg1 hg2)⟩
  · go_enter Try.func8, Try.ntmps8
    go_wp2
    go_ret
    exact ⟨rfl, Below.refl _ _⟩
end Go.Proofs.Ytolefcbkhmcdmaa
