/- The walk of markText. -/
import Derived.Test.YtlfigoboeogegaaRows
import Derived.Test.YtlfigoboeogegaaMem
namespace Go.Proofs.Ytlfigoboeogegaa
open Go.RowKit
set_option linter.unusedVariables false

theorem strOf_cons' (c : Int) (l : List Int) : byteStr c ++ strOf l = strOf (c :: l) := by
  apply ByteArray.ext
  simp [byteStr, strOf, ByteArray.data_append]
theorem byteStr_size' (c : Int) : (byteStr c).size = 1 := rfl
/-- The decimal digits of k, ahead of l. -/
def mdigB (k : Nat) (l : List Int) : List Int := if h : k = 0 then l else mdigB (k / 10) ((48 + (k : Int) % 10) :: l)
termination_by k
decreasing_by omega
theorem mdigB_zero (l : List Int) : mdigB 0 l = l := by rw [mdigB]; simp
theorem mdigB_step (k : Nat) (h : 0 < k) (l : List Int) : mdigB k l = mdigB (k / 10) ((48 + (k : Int) % 10) :: l) := by rw [mdigB]; simp [show k ≠ 0 by omega]
def markT (k : Nat) : ByteArray := byteStr 109 ++ strOf (mdigB k [])
set_option maxHeartbeats 1000000 in
theorem markText_any (k : Nat) (w : World) (h0 : 1 ≤ k) (h1 : k ≤ 134217728) :
    Calls Try.prog 41 #[.int .i64 k] w fun e w' => e = .returned (.string (markT k)) ∧ w.grownBy w' none := by
  have kc := fun (W : World) (c : Int) => run_conv_one (P := Try.prog) W 73 5 9 c Try.underlying73 Try.underlying5 Try.underlying9
  have kz := byteStr_size'
  go_enter Try.func41, Try.ntmps41
  go_wp2_with fail
  go_loopw [0, 3] (fun t s wr => ∃ (j : Nat) (l : List Int), Hid (mdigB j l = mdigB k []) ∧ j + l.length ≤ k ∧ t = .int .i64 j ∧ s = .string (strOf l) ∧ Hid (w.grownBy wr none)) (fun t _ _ => (intOf t).toNat)
  case atStart => exact ⟨k, [], hid rfl, by simp, rfl, rfl, hid (gb_refl _ _)⟩
  case round =>
    obtain ⟨j, l, HD, hj, rfl, rfl, HG⟩ := hrel
    by_cases hlt : 0 < j
    · have HD2 : Hid (mdigB (j / 10) ((48 + (j : Int) % 10) :: l) = mdigB k []) := by have := HD.out; rw [mdigB_step j hlt] at this; exact this
      obtain ⟨d, hd⟩ : ∃ d, (j : Int) % 10 = d := ⟨_, rfl⟩
      obtain ⟨q, hq⟩ : ∃ q, j / 10 = q := ⟨_, rfl⟩
      have hqi : (j : Int) / 10 = (q : Int) := by omega
      have hd0 : 0 ≤ d := by omega
      have hd1 : d < 10 := by omega
      have hs : (strOf l).size ≤ 134217728 := by rw [strOf_size]; omega
      have hqj : q + (l.length + 1) ≤ k := by omega
      have hql : q < j := by omega
      rw [hd, hq] at HD2
      clear hq HD
      go_wp2_with fail
      go_roundw
      case rel => exact ⟨q, (48 + d) :: l, HD2, by simpa using hqj, rfl, by rw [strOf_cons'], hid (gb_alloc HG.out _)⟩
      case measure => simp [intOf]; omega
    · obtain rfl : j = 0 := by omega
      have HE : Hid (l = mdigB k []) := by have := HD.out; rw [mdigB_zero] at this; exact this
      have hs : (strOf l).size ≤ 134217728 := by rw [strOf_size]; omega
      go_wp2_with fail
      go_ret
      refine ⟨ret_str ?_, HG.out⟩
      rw [HE.out]
      rfl
end Go.Proofs.Ytlfigoboeogegaa
