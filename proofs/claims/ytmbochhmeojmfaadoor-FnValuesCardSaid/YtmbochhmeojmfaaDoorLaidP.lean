/- From a row's cell 'laid' to the walks' facts: the table of powers. -/
import Derived.Test.YtmbochhmeojmfaaDoorFmt
import Derived.Lib.LaidTab
import Derived.Lay
import Derived.MakeChecks
import Derived.Stop.LaidErr
namespace Go.Proofs.YtmbochhmeojmfaaDoor
set_option maxRecDepth 20000
open Go.RowKit

theorem powOf_pow {r : List (String × DataW Unit)} {w : World} (h : laidMet Tryd.prog (("internal/strconv.uint64pow10", Rows.laid_internal_strconv_uint64pow10) :: r) w) : PowT w :=
  Lib.tabIs_of_head (P := Tryd.prog) (g := 2) (t := 127) (e := 107) (n := 20) (by kernel_rfl) (by kernel_rfl) (by kernel_rfl) (by kernel_rfl) (by kernel_rfl) (by kernel_rfl) h
end Go.Proofs.YtmbochhmeojmfaaDoor
