/- The walks of HashText. -/
import Derived.Test.YtcgnepgfdipiiaaMods
import Derived.Test.YtcgnepgfdipiiaaMem
namespace Go.Proofs.Ytcgnepgfdipiiaa
open Go.RowKit

theorem specHashText_any (s : ByteArray) (w : World) (hs : s.size ≤ 1048576) :
    Calls Try.prog 49 #[.string s] w fun e w' => e = .returned (.int .i64 (hashL (bytesI s))) ∧ w = w' := by
  go_enter Try.func49, Try.ntmps49
  go_wp2
  go_loop [3, 4] (fun t i => ∃ k : Nat, k ≤ s.size ∧ i = .int .i64 k ∧ t = .int .i64 (hashL ((bytesI s).take k))) (fun _ i => s.size - (intOf i).toNat)
  case atStart => exact ⟨0, Nat.zero_le _, rfl, rfl⟩
  case round =>
    obtain ⟨k, hk, rfl, rfl⟩ := hrel
    have hb := hashL_bd ((bytesI s).take k)
    by_cases hlt : k < s.size
    · have h256 : (s[k].toNat : Int) < 256 := by have := s[k].toNat_lt; omega
      have HS : Hid (hashL ((bytesI s).take (k + 1)) = (hashL ((bytesI s).take k) * 1000003 + (s[k].toNat : Int) + 13) % 2147483647) := by rw [bytesI_take s k hlt, hashL_snoc]; rfl
      go_wp2
      go_round
      case rel => exact ⟨k + 1, by omega, by go_num, by rw [HS.out]⟩
      case measure => simp [intOf]; omega
    · have HS := hid (bytesI_all s k (by omega))
      go_wp2
      go_ret
      exact ⟨ret_int (by rw [HS.out]), rfl⟩

theorem implHashText_any (s : ByteArray) (w : World) (hs : s.size ≤ 1048576) :
    Calls Try.prog 51 #[.string s] w fun e w' => e = .returned (.int .i64 (hashL (bytesI s))) ∧ w = w' := by
  go_enter Try.func51, Try.ntmps51
  go_wp2
  go_loop [3, 4] (fun t i => ∃ k : Nat, k ≤ s.size ∧ i = .int .i64 k ∧ t = .int .i64 (hashL ((bytesI s).take k))) (fun _ i => s.size - (intOf i).toNat)
  case atStart => exact ⟨0, Nat.zero_le _, rfl, rfl⟩
  case round =>
    obtain ⟨k, hk, rfl, rfl⟩ := hrel
    have hb := hashL_bd ((bytesI s).take k)
    by_cases hlt : k < s.size
    · have h256 : (s[k].toNat : Int) < 256 := by have := s[k].toNat_lt; omega
      have HS : Hid (hashL ((bytesI s).take (k + 1)) = (hashL ((bytesI s).take k) * 1000003 + (s[k].toNat : Int) + 13) % 2147483647) := by rw [bytesI_take s k hlt, hashL_snoc]; rfl
      go_wp2
      go_round
      case rel => exact ⟨k + 1, by omega, by go_num, by rw [HS.out]⟩
      case measure => simp [intOf]; omega
    · have HS := hid (bytesI_all s k (by omega))
      go_wp2
      go_ret
      exact ⟨ret_int (by rw [HS.out]), rfl⟩

end Go.Proofs.Ytcgnepgfdipiiaa
