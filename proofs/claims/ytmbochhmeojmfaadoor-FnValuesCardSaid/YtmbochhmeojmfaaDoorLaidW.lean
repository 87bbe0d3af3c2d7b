/- From a row's cell 'laid' to the walks' facts: the table of powers and the two sentinels. -/
import Derived.Test.YtmbochhmeojmfaaDoorLParse
namespace Go.Proofs.YtmbochhmeojmfaaDoor
set_option maxRecDepth 20000
open Go.RowKit

theorem starES : "*" ++ "errors.errorString" = "*errors.errorString" := by decide
theorem rowES (u : TypeId) (h : Tryd.prog.typeName? 3 u = some "*errors.errorString") : u = 122 :=
  typeName_ptr_named (nm := "errors.errorString") (by rw [starES]; kernel_rfl) (by kernel_rfl) (by decide) u (by rw [starES]; exact h)
theorem errOf {n : String} {g : Nat} {text : List UInt8} {r : List (String × DataW Unit)} {w : World} (h : laidMet Tryd.prog ((n, .iface "*errors.errorString" (.ptr (.agg [.lit (.string text)]))) :: r) w)
    (hg : Tryd.prog.globalNamed n = some g) (ht : (Tryd.prog.globals[g]?).map (·.type) = some 96) : ∃ tp p, w.var? Tryd.prog n = some #[.iface tp p] := by
  obtain ⟨a0, s0, hv0, -, -, -⟩ := laid_sentinel (ti := 96) (tp := 122) (te := 124) (ts := 9) h hg ht Tryd.underlying96 rowES Tryd.underlying122 Tryd.underlying124 rfl rfl Tryd.underlying9 (by kernel_rfl) (by kernel_rfl)
  exact ⟨_, _, hv0⟩
theorem allOf {w : World} (h : laidMet Tryd.prog [("math/bits.deBruijn32tab", Rows.laid_math_bits_deBruijn32tab), ("math/bits.deBruijn64tab", Rows.laid_math_bits_deBruijn64tab), ("internal/strconv.uint64pow10", Rows.laid_internal_strconv_uint64pow10), ("strconv.ErrRange", Rows.laid_strconv_ErrRange), ("strconv.ErrSyntax", Rows.laid_strconv_ErrSyntax)] w) : LaidW w :=
  ⟨powOf_pow h.tail.tail, errOf (g := 0) h.tail.tail.tail.tail (by kernel_rfl) (by kernel_rfl), errOf (g := 1) h.tail.tail.tail (by kernel_rfl) (by kernel_rfl)⟩
end Go.Proofs.YtmbochhmeojmfaaDoor
