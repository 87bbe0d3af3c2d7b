/-
  NARROWER THAN 'FOR EVERY INPUT', by the rows' own cells (each row's printed sentence says how): FnExactWeight: loops · FnExactFindKey: loops · FnExactIdentical: loops · FnExactIsPlain: loops · FnExactNest: loops · FnExactKeysOf: loops.
  DERIVED. THE GIVEN ROWS OF THIS SEAT. 12 by the template 'for every input the law returns true; each argument reads behind the call as it read before'; 0 by the template 'total and deterministic' (their statements: YtcgnepgfdipiiaaTotals.lean).
  GIVEN WITH THE SEED: the statements are not yours to turn. If you find one false, say at which input.
  Laid BY PROGRAM, IN A SANDBOX (cutbox-rows.mjs): the forced cells as the released guide's own fill.sh prints them over the translation 54c14d3b81381dc0… (all of the seat's roots in one cut). By AI agents, Wed Nov 11 2026. No macro, syntax, notation, axiom, sorry.
-/
import Derived.Test.YtcgnepgfdipiiaaChecked
import GoSem.Claim
import GoSem.ClaimJoined
import GoSem.ClaimMapViews
import Derived.JoinedTies
import Derived.KernelRfl
namespace Go.Proofs.Ytcgnepgfdipiiaa
/- THE CELL 'sum', in the pinned program and in every row, IS THE sha256 OF THE DUMP (.gsa) THAT YtcgnepgfdipiiaaProg.lean LOADS. Nothing in Lean hashes anything: it is a label: what it is worth is what the hold of that sum in a sandbox is worth. -/
noncomputable def Try.pinned : Pinned := { name := "ytcgnepgfdipiiaa", sum := "54c14d3b81381dc05406224c4c00622de6fc3dc586e1a6928569c4c37601d630", checked := Try.checked }
namespace Rows
def none {H : Type} : Left H := { results := [], args := [] }

/-- 'laws.FnExactKeyHash': WHATEVER THE INPUT: true; the input reads as it did. -/
def fnExactKeyHashSpec : ChangeSpec := { name := "fnExactKeyHash", fn := fun _ => fun
  | [d] => { results := [.lit (.bool true)], args := [d] }
  | _ => none }
def fnExactKeyHashRow : OpenClaim := { program := "ytcgnepgfdipiiaa", sum := "54c14d3b81381dc05406224c4c00622de6fc3dc586e1a6928569c4c37601d630", func := "loop.example/g03011/laws.FnExactKeyHash", spec := "fnExactKeyHash", apart := false }
def FnExactKeyHashSaid : Prop := fnExactKeyHashRow.holds Try.pinned (OpenSpec.ofChange fnExactKeyHashSpec)

/-- ITS FALSE NEIGHBOUR: 'it returns false'. Refute it at one input. -/
def fnExactKeyHashWrong : ChangeSpec := { name := "fnExactKeyHash", fn := fun _ => fun
  | [d] => { results := [.lit (.bool false)], args := [d] }
  | _ => none }
def FnExactKeyHashWrongFalsely : Prop := fnExactKeyHashRow.holds Try.pinned (OpenSpec.ofChange fnExactKeyHashWrong)

/-- 'laws.FnExactArrayValue': WHATEVER THE INPUT: true; the input reads as it did. -/
def fnExactArrayValueSpec : ChangeSpec := { name := "fnExactArrayValue", fn := fun _ => fun
  | [] => { results := [.lit (.bool true)], args := [] }
  | _ => none }
def fnExactArrayValueRow : OpenClaim := { program := "ytcgnepgfdipiiaa", sum := "54c14d3b81381dc05406224c4c00622de6fc3dc586e1a6928569c4c37601d630", func := "loop.example/g03011/laws.FnExactArrayValue", spec := "fnExactArrayValue", recurses := true, apart := false }
def FnExactArrayValueSaid : Prop := fnExactArrayValueRow.holds Try.pinned (OpenSpec.ofChange fnExactArrayValueSpec)

/-- ITS FALSE NEIGHBOUR: 'it returns false'. Refute it at one input. -/
def fnExactArrayValueWrong : ChangeSpec := { name := "fnExactArrayValue", fn := fun _ => fun
  | [] => { results := [.lit (.bool false)], args := [] }
  | _ => none }
def FnExactArrayValueWrongFalsely : Prop := fnExactArrayValueRow.holds Try.pinned (OpenSpec.ofChange fnExactArrayValueWrong)

/-- 'laws.FnExactIntValue': WHATEVER THE INPUT: true; the input reads as it did. -/
def fnExactIntValueSpec : ChangeSpec := { name := "fnExactIntValue", fn := fun _ => fun
  | [d] => { results := [.lit (.bool true)], args := [d] }
  | _ => none }
def fnExactIntValueRow : OpenClaim := { program := "ytcgnepgfdipiiaa", sum := "54c14d3b81381dc05406224c4c00622de6fc3dc586e1a6928569c4c37601d630", func := "loop.example/g03011/laws.FnExactIntValue", spec := "fnExactIntValue", recurses := true, apart := false }
def FnExactIntValueSaid : Prop := fnExactIntValueRow.holds Try.pinned (OpenSpec.ofChange fnExactIntValueSpec)

/-- ITS FALSE NEIGHBOUR: 'it returns false'. Refute it at one input. -/
def fnExactIntValueWrong : ChangeSpec := { name := "fnExactIntValue", fn := fun _ => fun
  | [d] => { results := [.lit (.bool false)], args := [d] }
  | _ => none }
def FnExactIntValueWrongFalsely : Prop := fnExactIntValueRow.holds Try.pinned (OpenSpec.ofChange fnExactIntValueWrong)

/-- 'laws.FnExactTextValue': WHATEVER THE INPUT: true; the input reads as it did. -/
def fnExactTextValueSpec : ChangeSpec := { name := "fnExactTextValue", fn := fun _ => fun
  | [d] => { results := [.lit (.bool true)], args := [d] }
  | _ => none }
def fnExactTextValueRow : OpenClaim := { program := "ytcgnepgfdipiiaa", sum := "54c14d3b81381dc05406224c4c00622de6fc3dc586e1a6928569c4c37601d630", func := "loop.example/g03011/laws.FnExactTextValue", spec := "fnExactTextValue", recurses := true, apart := false }
def FnExactTextValueSaid : Prop := fnExactTextValueRow.holds Try.pinned (OpenSpec.ofChange fnExactTextValueSpec)

/-- ITS FALSE NEIGHBOUR: 'it returns false'. Refute it at one input. -/
def fnExactTextValueWrong : ChangeSpec := { name := "fnExactTextValue", fn := fun _ => fun
  | [d] => { results := [.lit (.bool false)], args := [d] }
  | _ => none }
def FnExactTextValueWrongFalsely : Prop := fnExactTextValueRow.holds Try.pinned (OpenSpec.ofChange fnExactTextValueWrong)

/-- 'laws.FnExactWeight': WHATEVER THE INPUT: true; the input reads as it did. -/
def fnExactWeightSpec : ChangeSpec := { name := "fnExactWeight", fn := fun _ => fun
  | [d] => { results := [.lit (.bool true)], args := [d] }
  | _ => none }
def fnExactWeightRow : OpenClaim := { program := "ytcgnepgfdipiiaa", sum := "54c14d3b81381dc05406224c4c00622de6fc3dc586e1a6928569c4c37601d630", func := "loop.example/g03011/laws.FnExactWeight", spec := "fnExactWeight", recurses := true, loops := true, apart := false }
def FnExactWeightSaid : Prop := fnExactWeightRow.holds Try.pinned (OpenSpec.ofChange fnExactWeightSpec)

/-- ITS FALSE NEIGHBOUR: 'it returns false'. Refute it at one input. -/
def fnExactWeightWrong : ChangeSpec := { name := "fnExactWeight", fn := fun _ => fun
  | [d] => { results := [.lit (.bool false)], args := [d] }
  | _ => none }
def FnExactWeightWrongFalsely : Prop := fnExactWeightRow.holds Try.pinned (OpenSpec.ofChange fnExactWeightWrong)

/-- 'laws.FnExactBoolValue': WHATEVER THE INPUT: true; the input reads as it did. -/
def fnExactBoolValueSpec : ChangeSpec := { name := "fnExactBoolValue", fn := fun _ => fun
  | [d] => { results := [.lit (.bool true)], args := [d] }
  | _ => none }
def fnExactBoolValueRow : OpenClaim := { program := "ytcgnepgfdipiiaa", sum := "54c14d3b81381dc05406224c4c00622de6fc3dc586e1a6928569c4c37601d630", func := "loop.example/g03011/laws.FnExactBoolValue", spec := "fnExactBoolValue", recurses := true, apart := false }
def FnExactBoolValueSaid : Prop := fnExactBoolValueRow.holds Try.pinned (OpenSpec.ofChange fnExactBoolValueSpec)

/-- ITS FALSE NEIGHBOUR: 'it returns false'. Refute it at one input. -/
def fnExactBoolValueWrong : ChangeSpec := { name := "fnExactBoolValue", fn := fun _ => fun
  | [d] => { results := [.lit (.bool false)], args := [d] }
  | _ => none }
def FnExactBoolValueWrongFalsely : Prop := fnExactBoolValueRow.holds Try.pinned (OpenSpec.ofChange fnExactBoolValueWrong)

/-- 'laws.FnExactFindKey': WHATEVER THE INPUT: true; the input reads as it did. -/
def fnExactFindKeySpec : ChangeSpec := { name := "fnExactFindKey", fn := fun _ => fun
  | [d1, d2] => { results := [.lit (.bool true)], args := [d1, d2] }
  | _ => none }
def fnExactFindKeyRow : OpenClaim := { program := "ytcgnepgfdipiiaa", sum := "54c14d3b81381dc05406224c4c00622de6fc3dc586e1a6928569c4c37601d630", func := "loop.example/g03011/laws.FnExactFindKey", spec := "fnExactFindKey", recurses := true, loops := true, apart := false }
def FnExactFindKeySaid : Prop := fnExactFindKeyRow.holds Try.pinned (OpenSpec.ofChange fnExactFindKeySpec)

/-- ITS FALSE NEIGHBOUR: 'it returns false'. Refute it at one input. -/
def fnExactFindKeyWrong : ChangeSpec := { name := "fnExactFindKey", fn := fun _ => fun
  | [d1, d2] => { results := [.lit (.bool false)], args := [d1, d2] }
  | _ => none }
def FnExactFindKeyWrongFalsely : Prop := fnExactFindKeyRow.holds Try.pinned (OpenSpec.ofChange fnExactFindKeyWrong)

/-- 'laws.FnExactIdentical': WHATEVER THE INPUT: true; the input reads as it did. -/
def fnExactIdenticalSpec : ChangeSpec := { name := "fnExactIdentical", fn := fun _ => fun
  | [d1, d2] => { results := [.lit (.bool true)], args := [d1, d2] }
  | _ => none }
def fnExactIdenticalRow : OpenClaim := { program := "ytcgnepgfdipiiaa", sum := "54c14d3b81381dc05406224c4c00622de6fc3dc586e1a6928569c4c37601d630", func := "loop.example/g03011/laws.FnExactIdentical", spec := "fnExactIdentical", recurses := true, loops := true, apart := false }
def FnExactIdenticalSaid : Prop := fnExactIdenticalRow.holds Try.pinned (OpenSpec.ofChange fnExactIdenticalSpec)

/-- ITS FALSE NEIGHBOUR: 'it returns false'. Refute it at one input. -/
def fnExactIdenticalWrong : ChangeSpec := { name := "fnExactIdentical", fn := fun _ => fun
  | [d1, d2] => { results := [.lit (.bool false)], args := [d1, d2] }
  | _ => none }
def FnExactIdenticalWrongFalsely : Prop := fnExactIdenticalRow.holds Try.pinned (OpenSpec.ofChange fnExactIdenticalWrong)

/-- 'laws.FnExactIsPlain': WHATEVER THE INPUT: true; the input reads as it did. -/
def fnExactIsPlainSpec : ChangeSpec := { name := "fnExactIsPlain", fn := fun _ => fun
  | [d] => { results := [.lit (.bool true)], args := [d] }
  | _ => none }
def fnExactIsPlainRow : OpenClaim := { program := "ytcgnepgfdipiiaa", sum := "54c14d3b81381dc05406224c4c00622de6fc3dc586e1a6928569c4c37601d630", func := "loop.example/g03011/laws.FnExactIsPlain", spec := "fnExactIsPlain", recurses := true, loops := true, apart := false }
def FnExactIsPlainSaid : Prop := fnExactIsPlainRow.holds Try.pinned (OpenSpec.ofChange fnExactIsPlainSpec)

/-- ITS FALSE NEIGHBOUR: 'it returns false'. Refute it at one input. -/
def fnExactIsPlainWrong : ChangeSpec := { name := "fnExactIsPlain", fn := fun _ => fun
  | [d] => { results := [.lit (.bool false)], args := [d] }
  | _ => none }
def FnExactIsPlainWrongFalsely : Prop := fnExactIsPlainRow.holds Try.pinned (OpenSpec.ofChange fnExactIsPlainWrong)

/-- 'laws.FnExactNest': WHATEVER THE INPUT: true; the input reads as it did. -/
def fnExactNestSpec : ChangeSpec := { name := "fnExactNest", fn := fun _ => fun
  | [d] => { results := [.lit (.bool true)], args := [d] }
  | _ => none }
def fnExactNestRow : OpenClaim := { program := "ytcgnepgfdipiiaa", sum := "54c14d3b81381dc05406224c4c00622de6fc3dc586e1a6928569c4c37601d630", func := "loop.example/g03011/laws.FnExactNest", spec := "fnExactNest", recurses := true, loops := true, apart := false }
def FnExactNestSaid : Prop := fnExactNestRow.holds Try.pinned (OpenSpec.ofChange fnExactNestSpec)

/-- ITS FALSE NEIGHBOUR: 'it returns false'. Refute it at one input. -/
def fnExactNestWrong : ChangeSpec := { name := "fnExactNest", fn := fun _ => fun
  | [d] => { results := [.lit (.bool false)], args := [d] }
  | _ => none }
def FnExactNestWrongFalsely : Prop := fnExactNestRow.holds Try.pinned (OpenSpec.ofChange fnExactNestWrong)

/-- 'laws.FnExactKeyValue': WHATEVER THE INPUT: true; the input reads as it did. -/
def fnExactKeyValueSpec : ChangeSpec := { name := "fnExactKeyValue", fn := fun _ => fun
  | [d] => { results := [.lit (.bool true)], args := [d] }
  | _ => none }
def fnExactKeyValueRow : OpenClaim := { program := "ytcgnepgfdipiiaa", sum := "54c14d3b81381dc05406224c4c00622de6fc3dc586e1a6928569c4c37601d630", func := "loop.example/g03011/laws.FnExactKeyValue", spec := "fnExactKeyValue", recurses := true, apart := false }
def FnExactKeyValueSaid : Prop := fnExactKeyValueRow.holds Try.pinned (OpenSpec.ofChange fnExactKeyValueSpec)

/-- ITS FALSE NEIGHBOUR: 'it returns false'. Refute it at one input. -/
def fnExactKeyValueWrong : ChangeSpec := { name := "fnExactKeyValue", fn := fun _ => fun
  | [d] => { results := [.lit (.bool false)], args := [d] }
  | _ => none }
def FnExactKeyValueWrongFalsely : Prop := fnExactKeyValueRow.holds Try.pinned (OpenSpec.ofChange fnExactKeyValueWrong)

/-- 'laws.FnExactKeysOf': WHATEVER THE INPUT: true; the input reads as it did. -/
def fnExactKeysOfSpec : ChangeSpec := { name := "fnExactKeysOf", fn := fun _ => fun
  | [d] => { results := [.lit (.bool true)], args := [d] }
  | _ => none }
def fnExactKeysOfRow : OpenClaim := { program := "ytcgnepgfdipiiaa", sum := "54c14d3b81381dc05406224c4c00622de6fc3dc586e1a6928569c4c37601d630", func := "loop.example/g03011/laws.FnExactKeysOf", spec := "fnExactKeysOf", recurses := true, loops := true, apart := false }
def FnExactKeysOfSaid : Prop := fnExactKeysOfRow.holds Try.pinned (OpenSpec.ofChange fnExactKeysOfSpec)

/-- ITS FALSE NEIGHBOUR: 'it returns false'. Refute it at one input. -/
def fnExactKeysOfWrong : ChangeSpec := { name := "fnExactKeysOf", fn := fun _ => fun
  | [d] => { results := [.lit (.bool false)], args := [d] }
  | _ => none }
def FnExactKeysOfWrongFalsely : Prop := fnExactKeysOfRow.holds Try.pinned (OpenSpec.ofChange fnExactKeysOfWrong)

/- THE SECOND FORM. 'bulk': how many values and letters a reading holds, each counted each time it is reached (what is shared counts as often as it is met; a slice's spare places count too). A statement '..UptoSaid' is the law's where the arguments, and the package variables that the reading takes, are together of bulk at most 1048576: NARROWER than '..Said'. Prove '..Said' where nothing that the law and all that it calls make is longer than what came in: it says more and counts as full. Else prove '..UptoSaid'. A law counts once. -/
mutual
def uptoBulk {H : Type} : DataW H → Nat
  | .lit (.string bytes) => bytes.length + 1
  | .lit _ => 1
  | .nil => 1
  | .ptr d => uptoBulk d + 1
  | .slice elems spare => uptoBulkAll elems + uptoBulkAll spare + 1
  | .agg parts => uptoBulkAll parts + 1
  | .iface _ d => uptoBulk d + 1
  | .map entries => uptoBulkEntries entries + 1
  | .held _ => 1
def uptoBulkAll {H : Type} : List (DataW H) → Nat
  | [] => 0
  | d :: r => uptoBulk d + uptoBulkAll r
def uptoBulkEntries {H : Type} : List (Lit × DataW H) → Nat
  | [] => 0
  | x :: r => uptoBulkEntry x + uptoBulkEntries r
def uptoBulkEntry {H : Type} : Lit × DataW H → Nat
  | (.string bytes, d) => bytes.length + uptoBulk d + 1
  | (_, d) => uptoBulk d + 1
 end
def uptoSmall : (H : Type) → List (DataW H) → Bool := fun _ ds => decide (uptoBulkAll ds ≤ 1048576)
def OpenSpec.upto (s : _root_.Go.ChangeSpec) : _root_.Go.OpenSpec := { _root_.Go.OpenSpec.ofChange s with cond := some uptoSmall }

/-- 'laws.FnExactKeyHash', WHERE WHAT IT READS IS OF BULK AT MOST 1048576: true; the input reads as it did. -/
def fnExactKeyHashUptoRow : OpenClaim := { program := "ytcgnepgfdipiiaa", sum := "54c14d3b81381dc05406224c4c00622de6fc3dc586e1a6928569c4c37601d630", func := "loop.example/g03011/laws.FnExactKeyHash", spec := "fnExactKeyHash", apart := false, narrowed := true }
def FnExactKeyHashUptoSaid : Prop := fnExactKeyHashUptoRow.holds Try.pinned (OpenSpec.upto fnExactKeyHashSpec)

/-- 'laws.FnExactArrayValue', WHERE WHAT IT READS IS OF BULK AT MOST 1048576: true; the input reads as it did. -/
def fnExactArrayValueUptoRow : OpenClaim := { program := "ytcgnepgfdipiiaa", sum := "54c14d3b81381dc05406224c4c00622de6fc3dc586e1a6928569c4c37601d630", func := "loop.example/g03011/laws.FnExactArrayValue", spec := "fnExactArrayValue", recurses := true, apart := false, narrowed := true }
def FnExactArrayValueUptoSaid : Prop := fnExactArrayValueUptoRow.holds Try.pinned (OpenSpec.upto fnExactArrayValueSpec)

/-- 'laws.FnExactIntValue', WHERE WHAT IT READS IS OF BULK AT MOST 1048576: true; the input reads as it did. -/
def fnExactIntValueUptoRow : OpenClaim := { program := "ytcgnepgfdipiiaa", sum := "54c14d3b81381dc05406224c4c00622de6fc3dc586e1a6928569c4c37601d630", func := "loop.example/g03011/laws.FnExactIntValue", spec := "fnExactIntValue", recurses := true, apart := false, narrowed := true }
def FnExactIntValueUptoSaid : Prop := fnExactIntValueUptoRow.holds Try.pinned (OpenSpec.upto fnExactIntValueSpec)

/-- 'laws.FnExactTextValue', WHERE WHAT IT READS IS OF BULK AT MOST 1048576: true; the input reads as it did. -/
def fnExactTextValueUptoRow : OpenClaim := { program := "ytcgnepgfdipiiaa", sum := "54c14d3b81381dc05406224c4c00622de6fc3dc586e1a6928569c4c37601d630", func := "loop.example/g03011/laws.FnExactTextValue", spec := "fnExactTextValue", recurses := true, apart := false, narrowed := true }
def FnExactTextValueUptoSaid : Prop := fnExactTextValueUptoRow.holds Try.pinned (OpenSpec.upto fnExactTextValueSpec)

/-- 'laws.FnExactWeight', WHERE WHAT IT READS IS OF BULK AT MOST 1048576: true; the input reads as it did. -/
def fnExactWeightUptoRow : OpenClaim := { program := "ytcgnepgfdipiiaa", sum := "54c14d3b81381dc05406224c4c00622de6fc3dc586e1a6928569c4c37601d630", func := "loop.example/g03011/laws.FnExactWeight", spec := "fnExactWeight", recurses := true, loops := true, apart := false, narrowed := true }
def FnExactWeightUptoSaid : Prop := fnExactWeightUptoRow.holds Try.pinned (OpenSpec.upto fnExactWeightSpec)

/-- 'laws.FnExactBoolValue', WHERE WHAT IT READS IS OF BULK AT MOST 1048576: true; the input reads as it did. -/
def fnExactBoolValueUptoRow : OpenClaim := { program := "ytcgnepgfdipiiaa", sum := "54c14d3b81381dc05406224c4c00622de6fc3dc586e1a6928569c4c37601d630", func := "loop.example/g03011/laws.FnExactBoolValue", spec := "fnExactBoolValue", recurses := true, apart := false, narrowed := true }
def FnExactBoolValueUptoSaid : Prop := fnExactBoolValueUptoRow.holds Try.pinned (OpenSpec.upto fnExactBoolValueSpec)

/-- 'laws.FnExactFindKey', WHERE WHAT IT READS IS OF BULK AT MOST 1048576: true; the input reads as it did. -/
def fnExactFindKeyUptoRow : OpenClaim := { program := "ytcgnepgfdipiiaa", sum := "54c14d3b81381dc05406224c4c00622de6fc3dc586e1a6928569c4c37601d630", func := "loop.example/g03011/laws.FnExactFindKey", spec := "fnExactFindKey", recurses := true, loops := true, apart := false, narrowed := true }
def FnExactFindKeyUptoSaid : Prop := fnExactFindKeyUptoRow.holds Try.pinned (OpenSpec.upto fnExactFindKeySpec)

/-- 'laws.FnExactIdentical', WHERE WHAT IT READS IS OF BULK AT MOST 1048576: true; the input reads as it did. -/
def fnExactIdenticalUptoRow : OpenClaim := { program := "ytcgnepgfdipiiaa", sum := "54c14d3b81381dc05406224c4c00622de6fc3dc586e1a6928569c4c37601d630", func := "loop.example/g03011/laws.FnExactIdentical", spec := "fnExactIdentical", recurses := true, loops := true, apart := false, narrowed := true }
def FnExactIdenticalUptoSaid : Prop := fnExactIdenticalUptoRow.holds Try.pinned (OpenSpec.upto fnExactIdenticalSpec)

/-- 'laws.FnExactIsPlain', WHERE WHAT IT READS IS OF BULK AT MOST 1048576: true; the input reads as it did. -/
def fnExactIsPlainUptoRow : OpenClaim := { program := "ytcgnepgfdipiiaa", sum := "54c14d3b81381dc05406224c4c00622de6fc3dc586e1a6928569c4c37601d630", func := "loop.example/g03011/laws.FnExactIsPlain", spec := "fnExactIsPlain", recurses := true, loops := true, apart := false, narrowed := true }
def FnExactIsPlainUptoSaid : Prop := fnExactIsPlainUptoRow.holds Try.pinned (OpenSpec.upto fnExactIsPlainSpec)

/-- 'laws.FnExactNest', WHERE WHAT IT READS IS OF BULK AT MOST 1048576: true; the input reads as it did. -/
def fnExactNestUptoRow : OpenClaim := { program := "ytcgnepgfdipiiaa", sum := "54c14d3b81381dc05406224c4c00622de6fc3dc586e1a6928569c4c37601d630", func := "loop.example/g03011/laws.FnExactNest", spec := "fnExactNest", recurses := true, loops := true, apart := false, narrowed := true }
def FnExactNestUptoSaid : Prop := fnExactNestUptoRow.holds Try.pinned (OpenSpec.upto fnExactNestSpec)

/-- 'laws.FnExactKeyValue', WHERE WHAT IT READS IS OF BULK AT MOST 1048576: true; the input reads as it did. -/
def fnExactKeyValueUptoRow : OpenClaim := { program := "ytcgnepgfdipiiaa", sum := "54c14d3b81381dc05406224c4c00622de6fc3dc586e1a6928569c4c37601d630", func := "loop.example/g03011/laws.FnExactKeyValue", spec := "fnExactKeyValue", recurses := true, apart := false, narrowed := true }
def FnExactKeyValueUptoSaid : Prop := fnExactKeyValueUptoRow.holds Try.pinned (OpenSpec.upto fnExactKeyValueSpec)

/-- 'laws.FnExactKeysOf', WHERE WHAT IT READS IS OF BULK AT MOST 1048576: true; the input reads as it did. -/
def fnExactKeysOfUptoRow : OpenClaim := { program := "ytcgnepgfdipiiaa", sum := "54c14d3b81381dc05406224c4c00622de6fc3dc586e1a6928569c4c37601d630", func := "loop.example/g03011/laws.FnExactKeysOf", spec := "fnExactKeysOf", recurses := true, loops := true, apart := false, narrowed := true }
def FnExactKeysOfUptoSaid : Prop := fnExactKeysOfUptoRow.holds Try.pinned (OpenSpec.upto fnExactKeysOfSpec)

end Rows
end Go.Proofs.Ytcgnepgfdipiiaa
