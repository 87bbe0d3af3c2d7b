/- A string's bytes as a list of numbers. No program in sight. -/
import Derived.Test.YtcgnepgfdipiiaaMem
import Derived.Lib.AppendStr
namespace Go.Proofs.Ytcgnepgfdipiiaa
open Go.RowKit

def bytesI (s : ByteArray) : List Int := s.data.toList.map fun b => (b.toNat : Int)
theorem bytesI_length (s : ByteArray) : (bytesI s).length = s.size := by simp [bytesI]
theorem bytesI_take (s : ByteArray) (k : Nat) (h : k < s.size) : (bytesI s).take (k + 1) = (bytesI s).take k ++ [(s[k].toNat : Int)] := by
  rw [List.take_succ_eq_append_getElem (by rw [bytesI_length]; exact h)]
  simp [bytesI]
  rfl
theorem bytesI_all (s : ByteArray) (k : Nat) (h : s.size ≤ k) : (bytesI s).take k = bytesI s := List.take_of_length_le (by rw [bytesI_length]; exact h)
theorem strCells_bytesI (s : ByteArray) : Lib.strCells s = (bytesI s).map (Value.int .u8) := by
  unfold Lib.strCells bytesI
  rw [List.map_map]
  rfl
theorem bytesI_bd (s : ByteArray) : ∀ x ∈ bytesI s, 0 ≤ x ∧ x ≤ 255 := by
  intro x hx
  obtain ⟨b, _, rfl⟩ := List.mem_map.1 hx
  have := b.toNat_lt
  omega
theorem strOf_bytesI (s : ByteArray) : strOf (bytesI s) = s := by
  apply ByteArray.ext
  apply Array.toList_inj.1
  unfold strOf bytesI
  rw [List.map_map]
  conv => rhs; rw [← List.map_id s.data.toList]
  show List.map _ _ = _
  apply List.map_congr_left
  intro b _
  simp
theorem bytesI_strOf (l : List Int) (h : ∀ x ∈ l, 0 ≤ x ∧ x ≤ 255) : bytesI (strOf l) = l := by
  unfold strOf bytesI
  show List.map _ (List.map _ l) = l
  rw [List.map_map]
  conv => rhs; rw [← List.map_id l]
  apply List.map_congr_left
  intro x hx
  have := h x hx
  show ((UInt8.ofNat x.toNat).toNat : Int) = x
  rw [UInt8.toNat_ofNat']
  omega
end Go.Proofs.Ytcgnepgfdipiiaa
