/-
  No cell of these rows narrows 'for every input' (looked for: loops, veiled, ifaces, maps, wideKeys, modest, calm, conditions, laid).
  DERIVED. THE GIVEN ROWS OF THIS SEAT. 7 by the template 'for every input the law returns true; each argument reads behind the call as it read before'; 0 by the template 'total and deterministic' (their statements: YtdbliaechmjemaaTotals.lean).
  GIVEN WITH THE SEED: the statements are not yours to turn. If you find one false, say at which input.
  Laid BY PROGRAM, IN A SANDBOX (cutbox-rows.mjs): the forced cells as the released guide's own fill.sh prints them over the translation 1be615edb27f0cde… (all of the seat's roots in one cut). By AI agents, Wed Nov 11 2026. No macro, syntax, notation, axiom, sorry.
-/
import Derived.Test.YtdbliaechmjemaaChecked
import GoSem.Claim
import GoSem.ClaimJoined
import GoSem.ClaimMapViews
import Derived.JoinedTies
import Derived.KernelRfl
namespace Go.Proofs.Ytdbliaechmjemaa
/- THE CELL 'sum', in the pinned program and in every row, IS THE sha256 OF THE DUMP (.gsa) THAT YtdbliaechmjemaaProg.lean LOADS. Nothing in Lean hashes anything: it is a label: what it is worth is what the hold of that sum in a sandbox is worth. -/
noncomputable def Try.pinned : Pinned := { name := "ytdbliaechmjemaa", sum := "1be615edb27f0cdee0fc06ed8595145bdba3f9e31b405d80850695edf599b4b9", checked := Try.checked }
namespace Rows
def none {H : Type} : Left H := { results := [], args := [] }

/-- 'laws.FnExactReadUvarint': WHATEVER THE INPUT: true; the input reads as it did. -/
def fnExactReadUvarintSpec : ChangeSpec := { name := "fnExactReadUvarint", fn := fun _ => fun
  | [d1, d2] => { results := [.lit (.bool true)], args := [d1, d2] }
  | _ => none }
def fnExactReadUvarintRow : OpenClaim := { program := "ytdbliaechmjemaa", sum := "1be615edb27f0cdee0fc06ed8595145bdba3f9e31b405d80850695edf599b4b9", func := "loop.example/g03011/laws.FnExactReadUvarint", spec := "fnExactReadUvarint", apart := false }
def FnExactReadUvarintSaid : Prop := fnExactReadUvarintRow.holds Try.pinned (OpenSpec.ofChange fnExactReadUvarintSpec)

/-- ITS FALSE NEIGHBOUR: 'it returns false'. Refute it at one input. -/
def fnExactReadUvarintWrong : ChangeSpec := { name := "fnExactReadUvarint", fn := fun _ => fun
  | [d1, d2] => { results := [.lit (.bool false)], args := [d1, d2] }
  | _ => none }
def FnExactReadUvarintWrongFalsely : Prop := fnExactReadUvarintRow.holds Try.pinned (OpenSpec.ofChange fnExactReadUvarintWrong)

/-- 'laws.FnExactAppendUvarint': WHATEVER THE INPUT: true; the input reads as it did. -/
def fnExactAppendUvarintSpec : ChangeSpec := { name := "fnExactAppendUvarint", fn := fun _ => fun
  | [d1, d2] => { results := [.lit (.bool true)], args := [d1, d2] }
  | _ => none }
def fnExactAppendUvarintRow : OpenClaim := { program := "ytdbliaechmjemaa", sum := "1be615edb27f0cdee0fc06ed8595145bdba3f9e31b405d80850695edf599b4b9", func := "loop.example/g03011/laws.FnExactAppendUvarint", spec := "fnExactAppendUvarint", apart := false }
def FnExactAppendUvarintSaid : Prop := fnExactAppendUvarintRow.holds Try.pinned (OpenSpec.ofChange fnExactAppendUvarintSpec)

/-- ITS FALSE NEIGHBOUR: 'it returns false'. Refute it at one input. -/
def fnExactAppendUvarintWrong : ChangeSpec := { name := "fnExactAppendUvarint", fn := fun _ => fun
  | [d1, d2] => { results := [.lit (.bool false)], args := [d1, d2] }
  | _ => none }
def FnExactAppendUvarintWrongFalsely : Prop := fnExactAppendUvarintRow.holds Try.pinned (OpenSpec.ofChange fnExactAppendUvarintWrong)

/-- 'laws.FnExactAppendText': WHATEVER THE INPUT: true; the input reads as it did. -/
def fnExactAppendTextSpec : ChangeSpec := { name := "fnExactAppendText", fn := fun _ => fun
  | [d1, d2] => { results := [.lit (.bool true)], args := [d1, d2] }
  | _ => none }
def fnExactAppendTextRow : OpenClaim := { program := "ytdbliaechmjemaa", sum := "1be615edb27f0cdee0fc06ed8595145bdba3f9e31b405d80850695edf599b4b9", func := "loop.example/g03011/laws.FnExactAppendText", spec := "fnExactAppendText", apart := false }
def FnExactAppendTextSaid : Prop := fnExactAppendTextRow.holds Try.pinned (OpenSpec.ofChange fnExactAppendTextSpec)

/-- ITS FALSE NEIGHBOUR: 'it returns false'. Refute it at one input. -/
def fnExactAppendTextWrong : ChangeSpec := { name := "fnExactAppendText", fn := fun _ => fun
  | [d1, d2] => { results := [.lit (.bool false)], args := [d1, d2] }
  | _ => none }
def FnExactAppendTextWrongFalsely : Prop := fnExactAppendTextRow.holds Try.pinned (OpenSpec.ofChange fnExactAppendTextWrong)

/-- 'laws.FnExactReadText': WHATEVER THE INPUT: true; the input reads as it did. -/
def fnExactReadTextSpec : ChangeSpec := { name := "fnExactReadText", fn := fun _ => fun
  | [d1, d2, d3] => { results := [.lit (.bool true)], args := [d1, d2, d3] }
  | _ => none }
def fnExactReadTextRow : OpenClaim := { program := "ytdbliaechmjemaa", sum := "1be615edb27f0cdee0fc06ed8595145bdba3f9e31b405d80850695edf599b4b9", func := "loop.example/g03011/laws.FnExactReadText", spec := "fnExactReadText", apart := false }
def FnExactReadTextSaid : Prop := fnExactReadTextRow.holds Try.pinned (OpenSpec.ofChange fnExactReadTextSpec)

/-- ITS FALSE NEIGHBOUR: 'it returns false'. Refute it at one input. -/
def fnExactReadTextWrong : ChangeSpec := { name := "fnExactReadText", fn := fun _ => fun
  | [d1, d2, d3] => { results := [.lit (.bool false)], args := [d1, d2, d3] }
  | _ => none }
def FnExactReadTextWrongFalsely : Prop := fnExactReadTextRow.holds Try.pinned (OpenSpec.ofChange fnExactReadTextWrong)

/-- 'laws.FnExactAppendSigned': WHATEVER THE INPUT: true; the input reads as it did. -/
def fnExactAppendSignedSpec : ChangeSpec := { name := "fnExactAppendSigned", fn := fun _ => fun
  | [d1, d2] => { results := [.lit (.bool true)], args := [d1, d2] }
  | _ => none }
def fnExactAppendSignedRow : OpenClaim := { program := "ytdbliaechmjemaa", sum := "1be615edb27f0cdee0fc06ed8595145bdba3f9e31b405d80850695edf599b4b9", func := "loop.example/g03011/laws.FnExactAppendSigned", spec := "fnExactAppendSigned", apart := false }
def FnExactAppendSignedSaid : Prop := fnExactAppendSignedRow.holds Try.pinned (OpenSpec.ofChange fnExactAppendSignedSpec)

/-- ITS FALSE NEIGHBOUR: 'it returns false'. Refute it at one input. -/
def fnExactAppendSignedWrong : ChangeSpec := { name := "fnExactAppendSigned", fn := fun _ => fun
  | [d1, d2] => { results := [.lit (.bool false)], args := [d1, d2] }
  | _ => none }
def FnExactAppendSignedWrongFalsely : Prop := fnExactAppendSignedRow.holds Try.pinned (OpenSpec.ofChange fnExactAppendSignedWrong)

/-- 'laws.FnExactReadSigned': WHATEVER THE INPUT: true; the input reads as it did. -/
def fnExactReadSignedSpec : ChangeSpec := { name := "fnExactReadSigned", fn := fun _ => fun
  | [d1, d2] => { results := [.lit (.bool true)], args := [d1, d2] }
  | _ => none }
def fnExactReadSignedRow : OpenClaim := { program := "ytdbliaechmjemaa", sum := "1be615edb27f0cdee0fc06ed8595145bdba3f9e31b405d80850695edf599b4b9", func := "loop.example/g03011/laws.FnExactReadSigned", spec := "fnExactReadSigned", apart := false }
def FnExactReadSignedSaid : Prop := fnExactReadSignedRow.holds Try.pinned (OpenSpec.ofChange fnExactReadSignedSpec)

/-- ITS FALSE NEIGHBOUR: 'it returns false'. Refute it at one input. -/
def fnExactReadSignedWrong : ChangeSpec := { name := "fnExactReadSigned", fn := fun _ => fun
  | [d1, d2] => { results := [.lit (.bool false)], args := [d1, d2] }
  | _ => none }
def FnExactReadSignedWrongFalsely : Prop := fnExactReadSignedRow.holds Try.pinned (OpenSpec.ofChange fnExactReadSignedWrong)

/-- 'laws.FnEncodings': WHATEVER THE INPUT: true; the input reads as it did. -/
def fnEncodingsSpec : ChangeSpec := { name := "fnEncodings", fn := fun _ => fun
  | [d] => { results := [.lit (.bool true)], args := [d] }
  | _ => none }
def fnEncodingsRow : OpenClaim := { program := "ytdbliaechmjemaa", sum := "1be615edb27f0cdee0fc06ed8595145bdba3f9e31b405d80850695edf599b4b9", func := "loop.example/g03011/laws.FnEncodings", spec := "fnEncodings", apart := false }
def FnEncodingsSaid : Prop := fnEncodingsRow.holds Try.pinned (OpenSpec.ofChange fnEncodingsSpec)

/-- ITS FALSE NEIGHBOUR: 'it returns false'. Refute it at one input. -/
def fnEncodingsWrong : ChangeSpec := { name := "fnEncodings", fn := fun _ => fun
  | [d] => { results := [.lit (.bool false)], args := [d] }
  | _ => none }
def FnEncodingsWrongFalsely : Prop := fnEncodingsRow.holds Try.pinned (OpenSpec.ofChange fnEncodingsWrong)

/- THE SECOND FORM. 'bulk': how many values and letters a reading holds, each counted each time it is reached (what is shared counts as often as it is met; a slice's spare places count too). A statement '..UptoSaid' is the law's where the arguments, and the package variables that the reading takes, are together of bulk at most 1048576: NARROWER than '..Said'. Prove '..Said' where nothing that the law and all that it calls make is longer than what came in: it says more and counts as full. Else prove '..UptoSaid'. A law counts once. -/
mutual
def uptoBulk {H : Type} : DataW H → Nat
  | .lit (.string bytes) => bytes.length + 1
  | .lit _ => 1
  | .nil => 1
  | .ptr d => uptoBulk d + 1
  | .slice elems spare => uptoBulkAll elems + uptoBulkAll spare + 1
  | .agg parts => uptoBulkAll parts + 1
  | .iface _ d => uptoBulk d + 1
  | .map entries => uptoBulkEntries entries + 1
  | .held _ => 1
def uptoBulkAll {H : Type} : List (DataW H) → Nat
  | [] => 0
  | d :: r => uptoBulk d + uptoBulkAll r
def uptoBulkEntries {H : Type} : List (Lit × DataW H) → Nat
  | [] => 0
  | x :: r => uptoBulkEntry x + uptoBulkEntries r
def uptoBulkEntry {H : Type} : Lit × DataW H → Nat
  | (.string bytes, d) => bytes.length + uptoBulk d + 1
  | (_, d) => uptoBulk d + 1
 end
def uptoSmall : (H : Type) → List (DataW H) → Bool := fun _ ds => decide (uptoBulkAll ds ≤ 1048576)
def OpenSpec.upto (s : _root_.Go.ChangeSpec) : _root_.Go.OpenSpec := { _root_.Go.OpenSpec.ofChange s with cond := some uptoSmall }

/-- 'laws.FnExactReadUvarint', WHERE WHAT IT READS IS OF BULK AT MOST 1048576: true; the input reads as it did. -/
def fnExactReadUvarintUptoRow : OpenClaim := { program := "ytdbliaechmjemaa", sum := "1be615edb27f0cdee0fc06ed8595145bdba3f9e31b405d80850695edf599b4b9", func := "loop.example/g03011/laws.FnExactReadUvarint", spec := "fnExactReadUvarint", apart := false, narrowed := true }
def FnExactReadUvarintUptoSaid : Prop := fnExactReadUvarintUptoRow.holds Try.pinned (OpenSpec.upto fnExactReadUvarintSpec)

/-- 'laws.FnExactAppendUvarint', WHERE WHAT IT READS IS OF BULK AT MOST 1048576: true; the input reads as it did. -/
def fnExactAppendUvarintUptoRow : OpenClaim := { program := "ytdbliaechmjemaa", sum := "1be615edb27f0cdee0fc06ed8595145bdba3f9e31b405d80850695edf599b4b9", func := "loop.example/g03011/laws.FnExactAppendUvarint", spec := "fnExactAppendUvarint", apart := false, narrowed := true }
def FnExactAppendUvarintUptoSaid : Prop := fnExactAppendUvarintUptoRow.holds Try.pinned (OpenSpec.upto fnExactAppendUvarintSpec)

/-- 'laws.FnExactAppendText', WHERE WHAT IT READS IS OF BULK AT MOST 1048576: true; the input reads as it did. -/
def fnExactAppendTextUptoRow : OpenClaim := { program := "ytdbliaechmjemaa", sum := "1be615edb27f0cdee0fc06ed8595145bdba3f9e31b405d80850695edf599b4b9", func := "loop.example/g03011/laws.FnExactAppendText", spec := "fnExactAppendText", apart := false, narrowed := true }
def FnExactAppendTextUptoSaid : Prop := fnExactAppendTextUptoRow.holds Try.pinned (OpenSpec.upto fnExactAppendTextSpec)

/-- 'laws.FnExactReadText', WHERE WHAT IT READS IS OF BULK AT MOST 1048576: true; the input reads as it did. -/
def fnExactReadTextUptoRow : OpenClaim := { program := "ytdbliaechmjemaa", sum := "1be615edb27f0cdee0fc06ed8595145bdba3f9e31b405d80850695edf599b4b9", func := "loop.example/g03011/laws.FnExactReadText", spec := "fnExactReadText", apart := false, narrowed := true }
def FnExactReadTextUptoSaid : Prop := fnExactReadTextUptoRow.holds Try.pinned (OpenSpec.upto fnExactReadTextSpec)

/-- 'laws.FnExactAppendSigned', WHERE WHAT IT READS IS OF BULK AT MOST 1048576: true; the input reads as it did. -/
def fnExactAppendSignedUptoRow : OpenClaim := { program := "ytdbliaechmjemaa", sum := "1be615edb27f0cdee0fc06ed8595145bdba3f9e31b405d80850695edf599b4b9", func := "loop.example/g03011/laws.FnExactAppendSigned", spec := "fnExactAppendSigned", apart := false, narrowed := true }
def FnExactAppendSignedUptoSaid : Prop := fnExactAppendSignedUptoRow.holds Try.pinned (OpenSpec.upto fnExactAppendSignedSpec)

/-- 'laws.FnExactReadSigned', WHERE WHAT IT READS IS OF BULK AT MOST 1048576: true; the input reads as it did. -/
def fnExactReadSignedUptoRow : OpenClaim := { program := "ytdbliaechmjemaa", sum := "1be615edb27f0cdee0fc06ed8595145bdba3f9e31b405d80850695edf599b4b9", func := "loop.example/g03011/laws.FnExactReadSigned", spec := "fnExactReadSigned", apart := false, narrowed := true }
def FnExactReadSignedUptoSaid : Prop := fnExactReadSignedUptoRow.holds Try.pinned (OpenSpec.upto fnExactReadSignedSpec)

/-- 'laws.FnEncodings', WHERE WHAT IT READS IS OF BULK AT MOST 1048576: true; the input reads as it did. -/
def fnEncodingsUptoRow : OpenClaim := { program := "ytdbliaechmjemaa", sum := "1be615edb27f0cdee0fc06ed8595145bdba3f9e31b405d80850695edf599b4b9", func := "loop.example/g03011/laws.FnEncodings", spec := "fnEncodings", apart := false, narrowed := true }
def FnEncodingsUptoSaid : Prop := fnEncodingsUptoRow.holds Try.pinned (OpenSpec.upto fnEncodingsSpec)

end Rows
end Go.Proofs.Ytdbliaechmjemaa
