/-
  No cell of these rows narrows 'for every input' (looked for: loops, veiled, ifaces, maps, wideKeys, modest, calm, conditions, laid).
  DERIVED. THE GIVEN ROWS OF THIS SEAT. 9 by the template 'for every input the law returns true; each argument reads behind the call as it read before'; 0 by the template 'total and deterministic' (their statements: YtolefcbkhmcdmaaTotals.lean).
  GIVEN WITH THE SEED: the statements are not yours to turn. If you find one false, say at which input.
  Laid BY PROGRAM, IN A SANDBOX (cutbox-rows.mjs): the forced cells as the released guide's own fill.sh prints them over the translation 866c2f7a6cdbe365… (all of the seat's roots in one cut). By AI agents, Wed Nov 11 2026. No macro, syntax, notation, axiom, sorry.
-/
import Derived.Test.YtolefcbkhmcdmaaChecked
import GoSem.Claim
import GoSem.ClaimJoined
import GoSem.ClaimMapViews
import Derived.JoinedTies
import Derived.KernelRfl
namespace Go.Proofs.Ytolefcbkhmcdmaa
/- THE CELL 'sum', in the pinned program and in every row, IS THE sha256 OF THE DUMP (.gsa) THAT YtolefcbkhmcdmaaProg.lean LOADS. Nothing in Lean hashes anything: it is a label: what it is worth is what the hold of that sum in a sandbox is worth. -/
noncomputable def Try.pinned : Pinned := { name := "ytolefcbkhmcdmaa", sum := "866c2f7a6cdbe3652e037d7d181d78cb73aaf966bdc79a35525e608442864af9", checked := Try.checked }
namespace Rows
def none {H : Type} : Left H := { results := [], args := [] }

/-- 'laws.FnExactEscapeURL': WHATEVER THE INPUT: true; the input reads as it did. -/
def fnExactEscapeURLSpec : ChangeSpec := { name := "fnExactEscapeURL", fn := fun _ => fun
  | [d] => { results := [.lit (.bool true)], args := [d] }
  | _ => none }
def fnExactEscapeURLRow : OpenClaim := { program := "ytolefcbkhmcdmaa", sum := "866c2f7a6cdbe3652e037d7d181d78cb73aaf966bdc79a35525e608442864af9", func := "loop.example/g03011/laws.FnExactEscapeURL", spec := "fnExactEscapeURL", apart := false }
def FnExactEscapeURLSaid : Prop := fnExactEscapeURLRow.holds Try.pinned (OpenSpec.ofChange fnExactEscapeURLSpec)

/-- ITS FALSE NEIGHBOUR: 'it returns false'. Refute it at one input. -/
def fnExactEscapeURLWrong : ChangeSpec := { name := "fnExactEscapeURL", fn := fun _ => fun
  | [d] => { results := [.lit (.bool false)], args := [d] }
  | _ => none }
def FnExactEscapeURLWrongFalsely : Prop := fnExactEscapeURLRow.holds Try.pinned (OpenSpec.ofChange fnExactEscapeURLWrong)

/-- 'laws.FnExactEscapeScript': WHATEVER THE INPUT: true; the input reads as it did. -/
def fnExactEscapeScriptSpec : ChangeSpec := { name := "fnExactEscapeScript", fn := fun _ => fun
  | [d] => { results := [.lit (.bool true)], args := [d] }
  | _ => none }
def fnExactEscapeScriptRow : OpenClaim := { program := "ytolefcbkhmcdmaa", sum := "866c2f7a6cdbe3652e037d7d181d78cb73aaf966bdc79a35525e608442864af9", func := "loop.example/g03011/laws.FnExactEscapeScript", spec := "fnExactEscapeScript", inPlace := ["internal/bytealg.IndexByteString"], apart := false }
def FnExactEscapeScriptSaid : Prop := fnExactEscapeScriptRow.holds Try.pinned (OpenSpec.ofChange fnExactEscapeScriptSpec)

/-- ITS FALSE NEIGHBOUR: 'it returns false'. Refute it at one input. -/
def fnExactEscapeScriptWrong : ChangeSpec := { name := "fnExactEscapeScript", fn := fun _ => fun
  | [d] => { results := [.lit (.bool false)], args := [d] }
  | _ => none }
def FnExactEscapeScriptWrongFalsely : Prop := fnExactEscapeScriptRow.holds Try.pinned (OpenSpec.ofChange fnExactEscapeScriptWrong)

/-- 'laws.FnExactEscapeHTML': WHATEVER THE INPUT: true; the input reads as it did. -/
def fnExactEscapeHTMLSpec : ChangeSpec := { name := "fnExactEscapeHTML", fn := fun _ => fun
  | [d] => { results := [.lit (.bool true)], args := [d] }
  | _ => none }
def fnExactEscapeHTMLRow : OpenClaim := { program := "ytolefcbkhmcdmaa", sum := "866c2f7a6cdbe3652e037d7d181d78cb73aaf966bdc79a35525e608442864af9", func := "loop.example/g03011/laws.FnExactEscapeHTML", spec := "fnExactEscapeHTML", apart := false }
def FnExactEscapeHTMLSaid : Prop := fnExactEscapeHTMLRow.holds Try.pinned (OpenSpec.ofChange fnExactEscapeHTMLSpec)

/-- ITS FALSE NEIGHBOUR: 'it returns false'. Refute it at one input. -/
def fnExactEscapeHTMLWrong : ChangeSpec := { name := "fnExactEscapeHTML", fn := fun _ => fun
  | [d] => { results := [.lit (.bool false)], args := [d] }
  | _ => none }
def FnExactEscapeHTMLWrongFalsely : Prop := fnExactEscapeHTMLRow.holds Try.pinned (OpenSpec.ofChange fnExactEscapeHTMLWrong)

/-- 'laws.FnExactUnescapeScript': WHATEVER THE INPUT: true; the input reads as it did. -/
def fnExactUnescapeScriptSpec : ChangeSpec := { name := "fnExactUnescapeScript", fn := fun _ => fun
  | [d] => { results := [.lit (.bool true)], args := [d] }
  | _ => none }
def fnExactUnescapeScriptRow : OpenClaim := { program := "ytolefcbkhmcdmaa", sum := "866c2f7a6cdbe3652e037d7d181d78cb73aaf966bdc79a35525e608442864af9", func := "loop.example/g03011/laws.FnExactUnescapeScript", spec := "fnExactUnescapeScript", apart := false }
def FnExactUnescapeScriptSaid : Prop := fnExactUnescapeScriptRow.holds Try.pinned (OpenSpec.ofChange fnExactUnescapeScriptSpec)

/-- ITS FALSE NEIGHBOUR: 'it returns false'. Refute it at one input. -/
def fnExactUnescapeScriptWrong : ChangeSpec := { name := "fnExactUnescapeScript", fn := fun _ => fun
  | [d] => { results := [.lit (.bool false)], args := [d] }
  | _ => none }
def FnExactUnescapeScriptWrongFalsely : Prop := fnExactUnescapeScriptRow.holds Try.pinned (OpenSpec.ofChange fnExactUnescapeScriptWrong)

/-- 'laws.FnExactUnescapeURL': WHATEVER THE INPUT: true; the input reads as it did. -/
def fnExactUnescapeURLSpec : ChangeSpec := { name := "fnExactUnescapeURL", fn := fun _ => fun
  | [d] => { results := [.lit (.bool true)], args := [d] }
  | _ => none }
def fnExactUnescapeURLRow : OpenClaim := { program := "ytolefcbkhmcdmaa", sum := "866c2f7a6cdbe3652e037d7d181d78cb73aaf966bdc79a35525e608442864af9", func := "loop.example/g03011/laws.FnExactUnescapeURL", spec := "fnExactUnescapeURL", apart := false }
def FnExactUnescapeURLSaid : Prop := fnExactUnescapeURLRow.holds Try.pinned (OpenSpec.ofChange fnExactUnescapeURLSpec)

/-- ITS FALSE NEIGHBOUR: 'it returns false'. Refute it at one input. -/
def fnExactUnescapeURLWrong : ChangeSpec := { name := "fnExactUnescapeURL", fn := fun _ => fun
  | [d] => { results := [.lit (.bool false)], args := [d] }
  | _ => none }
def FnExactUnescapeURLWrongFalsely : Prop := fnExactUnescapeURLRow.holds Try.pinned (OpenSpec.ofChange fnExactUnescapeURLWrong)

/-- 'laws.FnExactUnescapeHTML': WHATEVER THE INPUT: true; the input reads as it did. -/
def fnExactUnescapeHTMLSpec : ChangeSpec := { name := "fnExactUnescapeHTML", fn := fun _ => fun
  | [d] => { results := [.lit (.bool true)], args := [d] }
  | _ => none }
def fnExactUnescapeHTMLRow : OpenClaim := { program := "ytolefcbkhmcdmaa", sum := "866c2f7a6cdbe3652e037d7d181d78cb73aaf966bdc79a35525e608442864af9", func := "loop.example/g03011/laws.FnExactUnescapeHTML", spec := "fnExactUnescapeHTML", apart := false }
def FnExactUnescapeHTMLSaid : Prop := fnExactUnescapeHTMLRow.holds Try.pinned (OpenSpec.ofChange fnExactUnescapeHTMLSpec)

/-- ITS FALSE NEIGHBOUR: 'it returns false'. Refute it at one input. -/
def fnExactUnescapeHTMLWrong : ChangeSpec := { name := "fnExactUnescapeHTML", fn := fun _ => fun
  | [d] => { results := [.lit (.bool false)], args := [d] }
  | _ => none }
def FnExactUnescapeHTMLWrongFalsely : Prop := fnExactUnescapeHTMLRow.holds Try.pinned (OpenSpec.ofChange fnExactUnescapeHTMLWrong)

/-- 'laws.FnExactEscapeIn': WHATEVER THE INPUT: true; the input reads as it did. -/
def fnExactEscapeInSpec : ChangeSpec := { name := "fnExactEscapeIn", fn := fun _ => fun
  | [d1, d2] => { results := [.lit (.bool true)], args := [d1, d2] }
  | _ => none }
def fnExactEscapeInRow : OpenClaim := { program := "ytolefcbkhmcdmaa", sum := "866c2f7a6cdbe3652e037d7d181d78cb73aaf966bdc79a35525e608442864af9", func := "loop.example/g03011/laws.FnExactEscapeIn", spec := "fnExactEscapeIn", inPlace := ["internal/bytealg.IndexByteString"], apart := false }
def FnExactEscapeInSaid : Prop := fnExactEscapeInRow.holds Try.pinned (OpenSpec.ofChange fnExactEscapeInSpec)

/-- ITS FALSE NEIGHBOUR: 'it returns false'. Refute it at one input. -/
def fnExactEscapeInWrong : ChangeSpec := { name := "fnExactEscapeIn", fn := fun _ => fun
  | [d1, d2] => { results := [.lit (.bool false)], args := [d1, d2] }
  | _ => none }
def FnExactEscapeInWrongFalsely : Prop := fnExactEscapeInRow.holds Try.pinned (OpenSpec.ofChange fnExactEscapeInWrong)

/-- 'laws.FnEscapes': WHATEVER THE INPUT: true; the input reads as it did. -/
def fnEscapesSpec : ChangeSpec := { name := "fnEscapes", fn := fun _ => fun
  | [d] => { results := [.lit (.bool true)], args := [d] }
  | _ => none }
def fnEscapesRow : OpenClaim := { program := "ytolefcbkhmcdmaa", sum := "866c2f7a6cdbe3652e037d7d181d78cb73aaf966bdc79a35525e608442864af9", func := "loop.example/g03011/laws.FnEscapes", spec := "fnEscapes", inPlace := ["internal/bytealg.IndexByteString"], apart := false }
def FnEscapesSaid : Prop := fnEscapesRow.holds Try.pinned (OpenSpec.ofChange fnEscapesSpec)

/-- ITS FALSE NEIGHBOUR: 'it returns false'. Refute it at one input. -/
def fnEscapesWrong : ChangeSpec := { name := "fnEscapes", fn := fun _ => fun
  | [d] => { results := [.lit (.bool false)], args := [d] }
  | _ => none }
def FnEscapesWrongFalsely : Prop := fnEscapesRow.holds Try.pinned (OpenSpec.ofChange fnEscapesWrong)

/-- 'laws.FnExactIsSafeIn': WHATEVER THE INPUT: true; the input reads as it did. -/
def fnExactIsSafeInSpec : ChangeSpec := { name := "fnExactIsSafeIn", fn := fun _ => fun
  | [d1, d2] => { results := [.lit (.bool true)], args := [d1, d2] }
  | _ => none }
def fnExactIsSafeInRow : OpenClaim := { program := "ytolefcbkhmcdmaa", sum := "866c2f7a6cdbe3652e037d7d181d78cb73aaf966bdc79a35525e608442864af9", func := "loop.example/g03011/laws.FnExactIsSafeIn", spec := "fnExactIsSafeIn", inPlace := ["internal/bytealg.IndexByteString"], apart := false }
def FnExactIsSafeInSaid : Prop := fnExactIsSafeInRow.holds Try.pinned (OpenSpec.ofChange fnExactIsSafeInSpec)

/-- ITS FALSE NEIGHBOUR: 'it returns false'. Refute it at one input. -/
def fnExactIsSafeInWrong : ChangeSpec := { name := "fnExactIsSafeIn", fn := fun _ => fun
  | [d1, d2] => { results := [.lit (.bool false)], args := [d1, d2] }
  | _ => none }
def FnExactIsSafeInWrongFalsely : Prop := fnExactIsSafeInRow.holds Try.pinned (OpenSpec.ofChange fnExactIsSafeInWrong)

/- THE SECOND FORM. 'bulk': how many values and letters a reading holds, each counted each time it is reached (what is shared counts as often as it is met; a slice's spare places count too). A statement '..UptoSaid' is the law's where the arguments, and the package variables that the reading takes, are together of bulk at most 1048576: NARROWER than '..Said'. Prove '..Said' where nothing that the law and all that it calls make is longer than what came in: it says more and counts as full. Else prove '..UptoSaid'. A law counts once. -/
mutual
def uptoBulk {H : Type} : DataW H → Nat
  | .lit (.string bytes) => bytes.length + 1
  | .lit _ => 1
  | .nil => 1
  | .ptr d => uptoBulk d + 1
  | .slice elems spare => uptoBulkAll elems + uptoBulkAll spare + 1
  | .agg parts => uptoBulkAll parts + 1
  | .iface _ d => uptoBulk d + 1
  | .map entries => uptoBulkEntries entries + 1
  | .held _ => 1
def uptoBulkAll {H : Type} : List (DataW H) → Nat
  | [] => 0
  | d :: r => uptoBulk d + uptoBulkAll r
def uptoBulkEntries {H : Type} : List (Lit × DataW H) → Nat
  | [] => 0
  | x :: r => uptoBulkEntry x + uptoBulkEntries r
def uptoBulkEntry {H : Type} : Lit × DataW H → Nat
  | (.string bytes, d) => bytes.length + uptoBulk d + 1
  | (_, d) => uptoBulk d + 1
 end
def uptoSmall : (H : Type) → List (DataW H) → Bool := fun _ ds => decide (uptoBulkAll ds ≤ 1048576)
def OpenSpec.upto (s : _root_.Go.ChangeSpec) : _root_.Go.OpenSpec := { _root_.Go.OpenSpec.ofChange s with cond := some uptoSmall }

/-- 'laws.FnExactEscapeURL', WHERE WHAT IT READS IS OF BULK AT MOST 1048576: true; the input reads as it did. -/
def fnExactEscapeURLUptoRow : OpenClaim := { program := "ytolefcbkhmcdmaa", sum := "866c2f7a6cdbe3652e037d7d181d78cb73aaf966bdc79a35525e608442864af9", func := "loop.example/g03011/laws.FnExactEscapeURL", spec := "fnExactEscapeURL", apart := false, narrowed := true }
def FnExactEscapeURLUptoSaid : Prop := fnExactEscapeURLUptoRow.holds Try.pinned (OpenSpec.upto fnExactEscapeURLSpec)

/-- 'laws.FnExactEscapeScript', WHERE WHAT IT READS IS OF BULK AT MOST 1048576: true; the input reads as it did. -/
def fnExactEscapeScriptUptoRow : OpenClaim := { program := "ytolefcbkhmcdmaa", sum := "866c2f7a6cdbe3652e037d7d181d78cb73aaf966bdc79a35525e608442864af9", func := "loop.example/g03011/laws.FnExactEscapeScript", spec := "fnExactEscapeScript", inPlace := ["internal/bytealg.IndexByteString"], apart := false, narrowed := true }
def FnExactEscapeScriptUptoSaid : Prop := fnExactEscapeScriptUptoRow.holds Try.pinned (OpenSpec.upto fnExactEscapeScriptSpec)

/-- 'laws.FnExactEscapeHTML', WHERE WHAT IT READS IS OF BULK AT MOST 1048576: true; the input reads as it did. -/
def fnExactEscapeHTMLUptoRow : OpenClaim := { program := "ytolefcbkhmcdmaa", sum := "866c2f7a6cdbe3652e037d7d181d78cb73aaf966bdc79a35525e608442864af9", func := "loop.example/g03011/laws.FnExactEscapeHTML", spec := "fnExactEscapeHTML", apart := false, narrowed := true }
def FnExactEscapeHTMLUptoSaid : Prop := fnExactEscapeHTMLUptoRow.holds Try.pinned (OpenSpec.upto fnExactEscapeHTMLSpec)

/-- 'laws.FnExactUnescapeScript', WHERE WHAT IT READS IS OF BULK AT MOST 1048576: true; the input reads as it did. -/
def fnExactUnescapeScriptUptoRow : OpenClaim := { program := "ytolefcbkhmcdmaa", sum := "866c2f7a6cdbe3652e037d7d181d78cb73aaf966bdc79a35525e608442864af9", func := "loop.example/g03011/laws.FnExactUnescapeScript", spec := "fnExactUnescapeScript", apart := false, narrowed := true }
def FnExactUnescapeScriptUptoSaid : Prop := fnExactUnescapeScriptUptoRow.holds Try.pinned (OpenSpec.upto fnExactUnescapeScriptSpec)

/-- 'laws.FnExactUnescapeURL', WHERE WHAT IT READS IS OF BULK AT MOST 1048576: true; the input reads as it did. -/
def fnExactUnescapeURLUptoRow : OpenClaim := { program := "ytolefcbkhmcdmaa", sum := "866c2f7a6cdbe3652e037d7d181d78cb73aaf966bdc79a35525e608442864af9", func := "loop.example/g03011/laws.FnExactUnescapeURL", spec := "fnExactUnescapeURL", apart := false, narrowed := true }
def FnExactUnescapeURLUptoSaid : Prop := fnExactUnescapeURLUptoRow.holds Try.pinned (OpenSpec.upto fnExactUnescapeURLSpec)

/-- 'laws.FnExactUnescapeHTML', WHERE WHAT IT READS IS OF BULK AT MOST 1048576: true; the input reads as it did. -/
def fnExactUnescapeHTMLUptoRow : OpenClaim := { program := "ytolefcbkhmcdmaa", sum := "866c2f7a6cdbe3652e037d7d181d78cb73aaf966bdc79a35525e608442864af9", func := "loop.example/g03011/laws.FnExactUnescapeHTML", spec := "fnExactUnescapeHTML", apart := false, narrowed := true }
def FnExactUnescapeHTMLUptoSaid : Prop := fnExactUnescapeHTMLUptoRow.holds Try.pinned (OpenSpec.upto fnExactUnescapeHTMLSpec)

/-- 'laws.FnExactEscapeIn', WHERE WHAT IT READS IS OF BULK AT MOST 1048576: true; the input reads as it did. -/
def fnExactEscapeInUptoRow : OpenClaim := { program := "ytolefcbkhmcdmaa", sum := "866c2f7a6cdbe3652e037d7d181d78cb73aaf966bdc79a35525e608442864af9", func := "loop.example/g03011/laws.FnExactEscapeIn", spec := "fnExactEscapeIn", inPlace := ["internal/bytealg.IndexByteString"], apart := false, narrowed := true }
def FnExactEscapeInUptoSaid : Prop := fnExactEscapeInUptoRow.holds Try.pinned (OpenSpec.upto fnExactEscapeInSpec)

/-- 'laws.FnEscapes', WHERE WHAT IT READS IS OF BULK AT MOST 1048576: true; the input reads as it did. -/
def fnEscapesUptoRow : OpenClaim := { program := "ytolefcbkhmcdmaa", sum := "866c2f7a6cdbe3652e037d7d181d78cb73aaf966bdc79a35525e608442864af9", func := "loop.example/g03011/laws.FnEscapes", spec := "fnEscapes", inPlace := ["internal/bytealg.IndexByteString"], apart := false, narrowed := true }
def FnEscapesUptoSaid : Prop := fnEscapesUptoRow.holds Try.pinned (OpenSpec.upto fnEscapesSpec)

/-- 'laws.FnExactIsSafeIn', WHERE WHAT IT READS IS OF BULK AT MOST 1048576: true; the input reads as it did. -/
def fnExactIsSafeInUptoRow : OpenClaim := { program := "ytolefcbkhmcdmaa", sum := "866c2f7a6cdbe3652e037d7d181d78cb73aaf966bdc79a35525e608442864af9", func := "loop.example/g03011/laws.FnExactIsSafeIn", spec := "fnExactIsSafeIn", inPlace := ["internal/bytealg.IndexByteString"], apart := false, narrowed := true }
def FnExactIsSafeInUptoSaid : Prop := fnExactIsSafeInUptoRow.holds Try.pinned (OpenSpec.upto fnExactIsSafeInSpec)

end Rows
end Go.Proofs.Ytolefcbkhmcdmaa
