/- Bytes as numbers. -/
import Derived.Test.YtmbochhmeojmfaaDoorRows
import Derived.Test.YtmbochhmeojmfaaDoorMem
namespace Go.Proofs.YtmbochhmeojmfaaDoor
set_option maxRecDepth 20000
open Go.RowKit

def Byte (x : Int) : Prop := 0 ≤ x ∧ x ≤ 255
theorem Tryd.infoU8 : (Tryd.prog.info? 5).map (fun i => (i.zero, i.size, i.bytes)) = some (some (.int .u8 0), 1, 1) := by kernel_rfl
def IsBytes (xs : List Int) : Prop := ∀ x ∈ xs, Byte x
theorem IsBytes.snoc {xs : List Int} (h : IsBytes xs) {x : Int} (hx : Byte x) : IsBytes (xs ++ [x]) := by
  intro y hy
  rcases List.mem_append.1 hy with hy | hy
  · exact h y hy
  · obtain rfl : y = x := by simpa using hy
    exact hx
theorem u8_one (n : Int) : ∀ u ∈ [Value.int .u8 n], u.oneCell' = true := by
  intro u hu
  obtain rfl : u = _ := by simpa using hu
  rfl
end Go.Proofs.YtmbochhmeojmfaaDoor
