/- The walk of the reference's FormatInt: the decimal numeral, Lib.itoa; and the program's, by the shelf's contract of strconv.Itoa. -/
import Derived.Test.YtmbochhmeojmfaaDoorRows
import Derived.Test.YtmbochhmeojmfaaDoorMem
import Derived.Test.YtmbochhmeojmfaaDoorShelf
import Derived.Lib.ItoaNum
namespace Go.Proofs.YtmbochhmeojmfaaDoor
set_option maxRecDepth 20000
open Go.RowKit
set_option linter.unusedVariables false

theorem strOf_cons' (c : Int) (l : List Int) : byteStr c ++ strOf l = strOf (c :: l) := by
  apply ByteArray.ext
  simp [byteStr, strOf, ByteArray.data_append]
theorem byteStr_size' (c : Int) : (byteStr c).size = 1 := rfl
/-- The decimal digits of k, ahead of l. -/
def digB (k : Nat) (l : List Int) : List Int := if h : k = 0 then l else digB (k / 10) ((48 + (k : Int) % 10) :: l)
termination_by k
decreasing_by omega
theorem digB_zero (l : List Int) : digB 0 l = l := by rw [digB]; simp
theorem digB_step (k : Nat) (h : 0 < k) (l : List Int) : digB k l = digB (k / 10) ((48 + (k : Int) % 10) :: l) := by rw [digB]; simp [show k ≠ 0 by omega]
/-- digB lays the numeral. -/
theorem digB_dec (k : Nat) : ∀ (l : List Int), 0 < k → strOf (digB k l) = ⟨(Lib.decDigits k ++ l.map fun n => UInt8.ofNat n.toNat).toArray⟩ := by
  induction k using Nat.strongRecOn with
  | _ k ih =>
    intro l h
    rw [digB_step k h]
    by_cases h10 : k < 10
    · rw [show k / 10 = 0 by omega, digB_zero, Lib.decDigits, dif_pos h10]
      have : (48 + (k : Int) % 10).toNat = 48 + k := by omega
      simp [strOf, this]
    · rw [ih (k / 10) (by omega) _ (by omega), Lib.decDigits.eq_def k, dif_neg h10]
      have : (48 + (k : Int) % 10).toNat = 48 + k % 10 := by omega
      simp [this]
theorem itoa_pos {n : Int} (h : 0 < n) : strOf (digB n.natAbs []) = ⟨(Lib.itoa n).toArray⟩ := by
  rw [digB_dec _ _ (by omega), Lib.itoa, if_neg (by omega), show n.toNat = n.natAbs by omega]
  simp
theorem itoa_neg {n : Int} (h : n < 0) : (⟨#[45]⟩ : ByteArray) ++ strOf (digB n.natAbs []) = ⟨(Lib.itoa n).toArray⟩ := by
  rw [digB_dec _ _ (by omega), Lib.itoa, if_pos h]
  apply ByteArray.ext
  simp [ByteArray.data_append]
theorem pow_le20 (n : Int) (h0 : -9223372036854775808 ≤ n) (h1 : n ≤ 9223372036854775807) : n.natAbs < 10 ^ 20 := by omega

/-- What a round does to x. -/
theorem tdiv_abs (x : Int) : (x.tdiv 10).natAbs = x.natAbs / 10 := by rw [Int.natAbs_tdiv]; rfl
theorem tmod_abs (x : Int) : ((x.tmod 10).natAbs : Int) = (x.natAbs : Int) % 10 := by rw [Int.natAbs_tmod]; rfl
theorem tmod_lt10 (x : Int) : -10 < x.tmod 10 ∧ x.tmod 10 < 10 := ⟨by have := tmod_abs x; omega, by have := tmod_abs x; omega⟩
theorem tdiv_bd (x : Int) (h0 : -9223372036854775808 ≤ x) (h1 : x ≤ 9223372036854775807) : -9223372036854775808 ≤ x.tdiv 10 ∧ x.tdiv 10 ≤ 9223372036854775807 := by
  have := tdiv_abs x
  constructor <;> omega

set_option maxHeartbeats 2000000 in
theorem specFmt (n : Int) (w : World) (h0 : -9223372036854775808 ≤ n) (h1 : n ≤ 9223372036854775807) :
    Calls Tryd.prog 78 #[.int .i64 n] w fun e w' => e = .returned (.string ⟨(Lib.itoa n).toArray⟩) ∧ w.grownBy w' none := by
  have kc := fun (W : World) (c : Int) => run_conv_one (P := Tryd.prog) W 22 5 9 c Tryd.underlying22 Tryd.underlying5 Tryd.underlying9
  have kz := byteStr_size'
  by_cases hn0 : n = 0
  · subst hn0
    go_enter Tryd.func78, Tryd.ntmps78
    go_wp2_with fail
    go_ret
    exact ⟨ret_str (by rw [show Lib.itoa 0 = [48] by decide +kernel]), gb_refl _ _⟩
  go_enter Tryd.func78, Tryd.ntmps78
  go_wp2_with fail
  go_loopw [3, 4] (fun s t wr => ∃ (x : Int) (l : List Int), Hid (digB x.natAbs l = digB n.natAbs []) ∧ -9223372036854775808 ≤ x ∧ x ≤ 9223372036854775807 ∧ l.length ≤ 20 ∧ Hid (x.natAbs < 10 ^ (20 - l.length)) ∧ t = .int .i64 x ∧ s = .string (strOf l) ∧ Hid (w.grownBy wr none)) (fun _ t _ => (intOf t).natAbs)
  case atStart => exact ⟨n, [], hid rfl, h0, h1, by simp, hid (pow_le20 n h0 h1), rfl, rfl, hid (gb_refl _ _)⟩
  case round =>
    obtain ⟨x, l, HD, hx0, hx1, hl, HP, rfl, rfl, HG⟩ := hrel
    by_cases hx : x = 0
    · subst hx
      have HE : Hid (l = digB n.natAbs []) := by have := HD.out; rw [show (0 : Int).natAbs = 0 from rfl, digB_zero] at this; exact this
      have hs : (strOf l).size ≤ 20 := by rw [strOf_size]; exact hl
      rcases Int.lt_or_gt_of_ne hn0 with hn | hn
      · have HI := hid (itoa_neg hn)
        go_wp2_with fail
        go_ret
        refine ⟨ret_str ?_, HG.out⟩
        rw [HE.out]
        exact HI.out
      · have HI := hid (itoa_pos hn)
        go_wp2_with fail
        go_ret
        refine ⟨ret_str ?_, HG.out⟩
        rw [HE.out]
        exact HI.out
    · have hp : 0 < x.natAbs := by omega
      have hl2 : l.length ≤ 19 := by
        have := HP.out
        by_cases h : l.length ≤ 19
        · exact h
        · rw [show 20 - l.length = 0 by omega] at this; omega
      have HP2 : Hid (x.natAbs / 10 < 10 ^ (20 - (l.length + 1))) := by
        have := HP.out
        rw [show 20 - l.length = (20 - (l.length + 1)) + 1 by omega, Nat.pow_succ] at this
        exact hid (by omega)
      have HD2 : Hid (digB (x.natAbs / 10) ((48 + (x.natAbs : Int) % 10) :: l) = digB n.natAbs []) := by have := HD.out; rw [digB_step _ hp] at this; exact this
      have HTA := hid (tdiv_abs x)
      obtain ⟨hq0, hq1⟩ := tdiv_bd x hx0 hx1
      obtain ⟨hr0, hr1⟩ := tmod_lt10 x
      have hma := tmod_abs x
      have hs : (strOf l).size ≤ 20 := by rw [strOf_size]; exact hl
      have HM : Hid (x.natAbs / 10 < x.natAbs) := hid (by omega)
      obtain ⟨q, hq⟩ : ∃ q, x.tdiv 10 = q := ⟨_, rfl⟩
      obtain ⟨r, hr⟩ : ∃ r, x.tmod 10 = r := ⟨_, rfl⟩
      rw [hq] at HTA hq0 hq1
      rw [hr] at hr0 hr1 hma
      rw [← hma, ← HTA.out] at HD2
      rw [← HTA.out] at HP2 HM
      clear hma HTA HD HP
      rcases Int.lt_or_le r 0 with hr2 | hr2
      · obtain ⟨d, hd⟩ : ∃ d, -r = d := ⟨_, rfl⟩
        rw [show (r.natAbs : Int) = d by omega] at HD2
        have hd0 : 0 < d := by omega
        have hd1 : d < 10 := by omega
        go_wp2_with fail
        go_roundw
        case rel => exact ⟨q, (48 + d) :: l, HD2, hq0, hq1, by simpa using hl2, HP2, rfl, by rw [strOf_cons'], hid (gb_alloc HG.out _)⟩
        case measure => simp [intOf]; exact HM.out
      · rw [show (r.natAbs : Int) = r by omega] at HD2
        go_wp2_with fail
        go_roundw
        case rel => exact ⟨q, (48 + r) :: l, HD2, hq0, hq1, by simpa using hl2, HP2, rfl, by rw [strOf_cons'], hid (gb_alloc HG.out _)⟩
        case measure => simp [intOf]; exact HM.out


/-- The table of powers, in the world behind a call. -/
def PowT (w : World) : Prop := Lib.TabIs Tryd.prog w "internal/strconv.uint64pow10" .u64 Lib.pow10Tab
theorem PowT.grow {w w' : World} (h : PowT w) (hg : w.grownBy w' none) : PowT w' := by
  unfold PowT Lib.TabIs World.var? at h ⊢
  obtain ⟨g, hn, hv⟩ := Option.bind_eq_some_iff.1 h
  have hlt : g < w.heap.size := by
    rcases Nat.lt_or_ge g w.heap.size with h' | h'
    · exact h'
    · rw [Array.getElem?_eq_none h'] at hv; cases hv
  rw [hn, Option.bind_some, hg.block g hlt (by simp)]
  exact hv
theorem int_bd {n : Int} (h : (Lit.int .i64 n).wf = true) : -9223372036854775808 ≤ n ∧ n ≤ 9223372036854775807 := by
  simpa [Lit.wf, IntKind.min, IntKind.max, IntKind.signed, IntKind.bits] using h
end Go.Proofs.YtmbochhmeojmfaaDoor
