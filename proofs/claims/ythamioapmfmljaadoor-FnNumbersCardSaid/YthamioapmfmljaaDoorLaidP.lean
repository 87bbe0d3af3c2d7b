/- From a row's cell 'laid' to the walks' facts: the table of powers. -/
import Derived.Test.YthamioapmfmljaaDoorFmt
import Derived.Lib.LaidTab
import Derived.Lay
import Derived.MakeChecks
import Derived.Stop.LaidErr
namespace Go.Proofs.YthamioapmfmljaaDoor
open Go.RowKit

theorem powOf_pow {r : List (String × DataW Unit)} {w : World} (h : laidMet Tryd.prog (("internal/strconv.uint64pow10", Rows.laid_internal_strconv_uint64pow10) :: r) w) : PowT w :=
  Lib.tabIs_of_head (P := Tryd.prog) (g := 0) (t := 76) (e := 62) (n := 20) (by kernel_rfl) (by kernel_rfl) (by kernel_rfl) (by kernel_rfl) (by kernel_rfl) (by kernel_rfl) h
theorem fmtLaid {w : World} (h : laidMetH Tryd.prog Rows.fnExactFormatIntRow.laid w) : PowT w := by
  rw [MakeChecks.laidMetH_plain _ _ _ (by kernel_rfl)] at h
  exact powOf_pow h.tail.tail
end Go.Proofs.YthamioapmfmljaaDoor
