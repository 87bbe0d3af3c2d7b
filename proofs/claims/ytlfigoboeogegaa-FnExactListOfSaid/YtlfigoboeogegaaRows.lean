/-
  NARROWER THAN 'FOR EVERY INPUT', by the rows' own cells (each row's printed sentence says how): FnExactDeleteKey: loops · FnExactGetKey: loops · FnExactValuesOf: loops · FnExactListOf: loops · FnExactAppendItem: loops.
  DERIVED. THE GIVEN ROWS OF THIS SEAT. 5 by the template 'for every input the law returns true; each argument reads behind the call as it read before'; 0 by the template 'total and deterministic' (their statements: YtlfigoboeogegaaTotals.lean).
  GIVEN WITH THE SEED: the statements are not yours to turn. If you find one false, say at which input.
  Laid BY PROGRAM, IN A SANDBOX (cutbox-rows.mjs): the forced cells as the released guide's own fill.sh prints them over the translation 0260fafb9aa55917… (all of the seat's roots in one cut). By AI agents, Wed Nov 11 2026. No macro, syntax, notation, axiom, sorry.
-/
import Derived.Test.YtlfigoboeogegaaChecked
import GoSem.Claim
import GoSem.ClaimJoined
import GoSem.ClaimMapViews
import Derived.JoinedTies
import Derived.KernelRfl
namespace Go.Proofs.Ytlfigoboeogegaa
/- THE CELL 'sum', in the pinned program and in every row, IS THE sha256 OF THE DUMP (.gsa) THAT YtlfigoboeogegaaProg.lean LOADS. Nothing in Lean hashes anything: it is a label: what it is worth is what the hold of that sum in a sandbox is worth. -/
noncomputable def Try.pinned : Pinned := { name := "ytlfigoboeogegaa", sum := "0260fafb9aa55917883598791e5f14a21923739e29c9d0fdb746949eb1a67f03", checked := Try.checked }
namespace Rows
def none {H : Type} : Left H := { results := [], args := [] }

/-- 'laws.FnExactDeleteKey': WHATEVER THE INPUT: true; the input reads as it did. -/
def fnExactDeleteKeySpec : ChangeSpec := { name := "fnExactDeleteKey", fn := fun _ => fun
  | [d1, d2] => { results := [.lit (.bool true)], args := [d1, d2] }
  | _ => none }
def fnExactDeleteKeyRow : OpenClaim := { program := "ytlfigoboeogegaa", sum := "0260fafb9aa55917883598791e5f14a21923739e29c9d0fdb746949eb1a67f03", func := "loop.example/g03011/laws.FnExactDeleteKey", spec := "fnExactDeleteKey", recurses := true, loops := true, apart := false }
def FnExactDeleteKeySaid : Prop := fnExactDeleteKeyRow.holds Try.pinned (OpenSpec.ofChange fnExactDeleteKeySpec)

/-- ITS FALSE NEIGHBOUR: 'it returns false'. Refute it at one input. -/
def fnExactDeleteKeyWrong : ChangeSpec := { name := "fnExactDeleteKey", fn := fun _ => fun
  | [d1, d2] => { results := [.lit (.bool false)], args := [d1, d2] }
  | _ => none }
def FnExactDeleteKeyWrongFalsely : Prop := fnExactDeleteKeyRow.holds Try.pinned (OpenSpec.ofChange fnExactDeleteKeyWrong)

/-- 'laws.FnExactGetKey': WHATEVER THE INPUT: true; the input reads as it did. -/
def fnExactGetKeySpec : ChangeSpec := { name := "fnExactGetKey", fn := fun _ => fun
  | [d1, d2] => { results := [.lit (.bool true)], args := [d1, d2] }
  | _ => none }
def fnExactGetKeyRow : OpenClaim := { program := "ytlfigoboeogegaa", sum := "0260fafb9aa55917883598791e5f14a21923739e29c9d0fdb746949eb1a67f03", func := "loop.example/g03011/laws.FnExactGetKey", spec := "fnExactGetKey", recurses := true, loops := true, apart := false }
def FnExactGetKeySaid : Prop := fnExactGetKeyRow.holds Try.pinned (OpenSpec.ofChange fnExactGetKeySpec)

/-- ITS FALSE NEIGHBOUR: 'it returns false'. Refute it at one input. -/
def fnExactGetKeyWrong : ChangeSpec := { name := "fnExactGetKey", fn := fun _ => fun
  | [d1, d2] => { results := [.lit (.bool false)], args := [d1, d2] }
  | _ => none }
def FnExactGetKeyWrongFalsely : Prop := fnExactGetKeyRow.holds Try.pinned (OpenSpec.ofChange fnExactGetKeyWrong)

/-- 'laws.FnExactValuesOf': WHATEVER THE INPUT: true; the input reads as it did. -/
def fnExactValuesOfSpec : ChangeSpec := { name := "fnExactValuesOf", fn := fun _ => fun
  | [d] => { results := [.lit (.bool true)], args := [d] }
  | _ => none }
def fnExactValuesOfRow : OpenClaim := { program := "ytlfigoboeogegaa", sum := "0260fafb9aa55917883598791e5f14a21923739e29c9d0fdb746949eb1a67f03", func := "loop.example/g03011/laws.FnExactValuesOf", spec := "fnExactValuesOf", recurses := true, loops := true, apart := false }
def FnExactValuesOfSaid : Prop := fnExactValuesOfRow.holds Try.pinned (OpenSpec.ofChange fnExactValuesOfSpec)

/-- ITS FALSE NEIGHBOUR: 'it returns false'. Refute it at one input. -/
def fnExactValuesOfWrong : ChangeSpec := { name := "fnExactValuesOf", fn := fun _ => fun
  | [d] => { results := [.lit (.bool false)], args := [d] }
  | _ => none }
def FnExactValuesOfWrongFalsely : Prop := fnExactValuesOfRow.holds Try.pinned (OpenSpec.ofChange fnExactValuesOfWrong)

/-- 'laws.FnExactListOf': WHATEVER THE INPUT: true; the input reads as it did. -/
def fnExactListOfSpec : ChangeSpec := { name := "fnExactListOf", fn := fun _ => fun
  | [d] => { results := [.lit (.bool true)], args := [d] }
  | _ => none }
def fnExactListOfRow : OpenClaim := { program := "ytlfigoboeogegaa", sum := "0260fafb9aa55917883598791e5f14a21923739e29c9d0fdb746949eb1a67f03", func := "loop.example/g03011/laws.FnExactListOf", spec := "fnExactListOf", recurses := true, loops := true, apart := false }
def FnExactListOfSaid : Prop := fnExactListOfRow.holds Try.pinned (OpenSpec.ofChange fnExactListOfSpec)

/-- ITS FALSE NEIGHBOUR: 'it returns false'. Refute it at one input. -/
def fnExactListOfWrong : ChangeSpec := { name := "fnExactListOf", fn := fun _ => fun
  | [d] => { results := [.lit (.bool false)], args := [d] }
  | _ => none }
def FnExactListOfWrongFalsely : Prop := fnExactListOfRow.holds Try.pinned (OpenSpec.ofChange fnExactListOfWrong)

/-- 'laws.FnExactAppendItem': WHATEVER THE INPUT: true; the input reads as it did. -/
def fnExactAppendItemSpec : ChangeSpec := { name := "fnExactAppendItem", fn := fun _ => fun
  | [d1, d2] => { results := [.lit (.bool true)], args := [d1, d2] }
  | _ => none }
def fnExactAppendItemRow : OpenClaim := { program := "ytlfigoboeogegaa", sum := "0260fafb9aa55917883598791e5f14a21923739e29c9d0fdb746949eb1a67f03", func := "loop.example/g03011/laws.FnExactAppendItem", spec := "fnExactAppendItem", recurses := true, loops := true, apart := false }
def FnExactAppendItemSaid : Prop := fnExactAppendItemRow.holds Try.pinned (OpenSpec.ofChange fnExactAppendItemSpec)

/-- ITS FALSE NEIGHBOUR: 'it returns false'. Refute it at one input. -/
def fnExactAppendItemWrong : ChangeSpec := { name := "fnExactAppendItem", fn := fun _ => fun
  | [d1, d2] => { results := [.lit (.bool false)], args := [d1, d2] }
  | _ => none }
def FnExactAppendItemWrongFalsely : Prop := fnExactAppendItemRow.holds Try.pinned (OpenSpec.ofChange fnExactAppendItemWrong)

/- THE SECOND FORM. 'bulk': how many values and letters a reading holds, each counted each time it is reached (what is shared counts as often as it is met; a slice's spare places count too). A statement '..UptoSaid' is the law's where the arguments, and the package variables that the reading takes, are together of bulk at most 1048576: NARROWER than '..Said'. Prove '..Said' where nothing that the law and all that it calls make is longer than what came in: it says more and counts as full. Else prove '..UptoSaid'. A law counts once. -/
mutual
def uptoBulk {H : Type} : DataW H → Nat
  | .lit (.string bytes) => bytes.length + 1
  | .lit _ => 1
  | .nil => 1
  | .ptr d => uptoBulk d + 1
  | .slice elems spare => uptoBulkAll elems + uptoBulkAll spare + 1
  | .agg parts => uptoBulkAll parts + 1
  | .iface _ d => uptoBulk d + 1
  | .map entries => uptoBulkEntries entries + 1
  | .held _ => 1
def uptoBulkAll {H : Type} : List (DataW H) → Nat
  | [] => 0
  | d :: r => uptoBulk d + uptoBulkAll r
def uptoBulkEntries {H : Type} : List (Lit × DataW H) → Nat
  | [] => 0
  | x :: r => uptoBulkEntry x + uptoBulkEntries r
def uptoBulkEntry {H : Type} : Lit × DataW H → Nat
  | (.string bytes, d) => bytes.length + uptoBulk d + 1
  | (_, d) => uptoBulk d + 1
 end
def uptoSmall : (H : Type) → List (DataW H) → Bool := fun _ ds => decide (uptoBulkAll ds ≤ 1048576)
def OpenSpec.upto (s : _root_.Go.ChangeSpec) : _root_.Go.OpenSpec := { _root_.Go.OpenSpec.ofChange s with cond := some uptoSmall }

/-- 'laws.FnExactDeleteKey', WHERE WHAT IT READS IS OF BULK AT MOST 1048576: true; the input reads as it did. -/
def fnExactDeleteKeyUptoRow : OpenClaim := { program := "ytlfigoboeogegaa", sum := "0260fafb9aa55917883598791e5f14a21923739e29c9d0fdb746949eb1a67f03", func := "loop.example/g03011/laws.FnExactDeleteKey", spec := "fnExactDeleteKey", recurses := true, loops := true, apart := false, narrowed := true }
def FnExactDeleteKeyUptoSaid : Prop := fnExactDeleteKeyUptoRow.holds Try.pinned (OpenSpec.upto fnExactDeleteKeySpec)

/-- 'laws.FnExactGetKey', WHERE WHAT IT READS IS OF BULK AT MOST 1048576: true; the input reads as it did. -/
def fnExactGetKeyUptoRow : OpenClaim := { program := "ytlfigoboeogegaa", sum := "0260fafb9aa55917883598791e5f14a21923739e29c9d0fdb746949eb1a67f03", func := "loop.example/g03011/laws.FnExactGetKey", spec := "fnExactGetKey", recurses := true, loops := true, apart := false, narrowed := true }
def FnExactGetKeyUptoSaid : Prop := fnExactGetKeyUptoRow.holds Try.pinned (OpenSpec.upto fnExactGetKeySpec)

/-- 'laws.FnExactValuesOf', WHERE WHAT IT READS IS OF BULK AT MOST 1048576: true; the input reads as it did. -/
def fnExactValuesOfUptoRow : OpenClaim := { program := "ytlfigoboeogegaa", sum := "0260fafb9aa55917883598791e5f14a21923739e29c9d0fdb746949eb1a67f03", func := "loop.example/g03011/laws.FnExactValuesOf", spec := "fnExactValuesOf", recurses := true, loops := true, apart := false, narrowed := true }
def FnExactValuesOfUptoSaid : Prop := fnExactValuesOfUptoRow.holds Try.pinned (OpenSpec.upto fnExactValuesOfSpec)

/-- 'laws.FnExactListOf', WHERE WHAT IT READS IS OF BULK AT MOST 1048576: true; the input reads as it did. -/
def fnExactListOfUptoRow : OpenClaim := { program := "ytlfigoboeogegaa", sum := "0260fafb9aa55917883598791e5f14a21923739e29c9d0fdb746949eb1a67f03", func := "loop.example/g03011/laws.FnExactListOf", spec := "fnExactListOf", recurses := true, loops := true, apart := false, narrowed := true }
def FnExactListOfUptoSaid : Prop := fnExactListOfUptoRow.holds Try.pinned (OpenSpec.upto fnExactListOfSpec)

/-- 'laws.FnExactAppendItem', WHERE WHAT IT READS IS OF BULK AT MOST 1048576: true; the input reads as it did. -/
def fnExactAppendItemUptoRow : OpenClaim := { program := "ytlfigoboeogegaa", sum := "0260fafb9aa55917883598791e5f14a21923739e29c9d0fdb746949eb1a67f03", func := "loop.example/g03011/laws.FnExactAppendItem", spec := "fnExactAppendItem", recurses := true, loops := true, apart := false, narrowed := true }
def FnExactAppendItemUptoSaid : Prop := fnExactAppendItemUptoRow.holds Try.pinned (OpenSpec.upto fnExactAppendItemSpec)

end Rows
end Go.Proofs.Ytlfigoboeogegaa
