/-
  DERIVED. GIVEN WITH THE SEED: THE CARDS: each row of YtmbochhmeojmfaaDoorRows.lean that lists a variable, with what it lists TIED to the program's text (the seventh form; the later family's looks); each row that meets fmt, with fmt's text TOLD by the authors' own Lean function (tested against real Go, not proved from fmt's source: count such statements apart). THE CARD IS WHAT COUNTS. Prove the row's statement (the work); the ties are given (YtmbochhmeojmfaaDoorTie.lean); close each card by the builder's one call (the guide's Derived/Test/ToyasCard.lean, 'card_holds'). Laid BY PROGRAM, IN A SANDBOX (cutbox-door.mjs). By AI agents, Wed Nov 11 2026. No macro, syntax, notation, axiom, sorry.
-/
import Derived.Test.YtmbochhmeojmfaaDoorRows
import GoSem.ClaimSeven
namespace Go.Proofs.YtmbochhmeojmfaaDoor
namespace Rows

/-- THE TIED CARD OF 'laws.FnValues'. -/
def fnValuesCard : Claim7 := { stood := { row := fnValuesRow, standIns := [], harness := (true, "1493c3a4c336af18b1a8728c6c00ed67706f9bee348b51e3b7d74924d29bf079"), looks := true }, kinds := [], alts := [], laidByText := true, laidKinds := [.data, .data, .data, .sentinel, .sentinel], laidTests := true, laidLooks := .later }
def FnValuesCardSaid : Prop := Claim7.holds Tryd.pinned (.plain (OpenSpec.ofChange fnValuesSpec)) fnValuesCard

/-- THE TIED CARD OF 'laws.FnExactIsValue'. -/
def fnExactIsValueCard : Claim7 := { stood := { row := fnExactIsValueRow, standIns := [], harness := (true, "1493c3a4c336af18b1a8728c6c00ed67706f9bee348b51e3b7d74924d29bf079"), looks := true }, kinds := [], alts := [], laidByText := true, laidKinds := [.data, .data, .data, .sentinel, .sentinel], laidTests := true, laidLooks := .later }
def FnExactIsValueCardSaid : Prop := Claim7.holds Tryd.pinned (.plain (OpenSpec.ofChange fnExactIsValueSpec)) fnExactIsValueCard

/-- THE TIED CARD OF 'laws.FnExactSetKey'. -/
def fnExactSetKeyCard : Claim7 := { stood := { row := fnExactSetKeyRow, standIns := [], harness := (true, "1493c3a4c336af18b1a8728c6c00ed67706f9bee348b51e3b7d74924d29bf079"), looks := true }, kinds := [], alts := [], laidByText := true, laidKinds := [.data, .data, .data, .sentinel, .sentinel], laidTests := true, laidLooks := .later }
def FnExactSetKeyCardSaid : Prop := Claim7.holds Tryd.pinned (.plain (OpenSpec.ofChange fnExactSetKeySpec)) fnExactSetKeyCard

/-- THE TIED CARD OF 'laws.FnExactKeyOf'. -/
def fnExactKeyOfCard : Claim7 := { stood := { row := fnExactKeyOfRow, standIns := [], harness := (true, "1493c3a4c336af18b1a8728c6c00ed67706f9bee348b51e3b7d74924d29bf079"), looks := true }, kinds := [], alts := [], laidByText := true, laidKinds := [.data, .data, .data, .sentinel, .sentinel], laidTests := true, laidLooks := .later }
def FnExactKeyOfCardSaid : Prop := Claim7.holds Tryd.pinned (.plain (OpenSpec.ofChange fnExactKeyOfSpec)) fnExactKeyOfCard

/-- THE SECOND FORM's CARD OF 'laws.FnValues'. -/
def fnValuesUptoCard : Claim7 := { stood := { row := fnValuesUptoRow, standIns := [], harness := (true, "1493c3a4c336af18b1a8728c6c00ed67706f9bee348b51e3b7d74924d29bf079"), looks := true }, kinds := [], alts := [], laidByText := true, laidKinds := [.data, .data, .data, .sentinel, .sentinel], laidTests := true, laidLooks := .later }
def FnValuesUptoCardSaid : Prop := Claim7.holds Tryd.pinned (.plain (OpenSpec.upto fnValuesSpec)) fnValuesUptoCard

/-- THE SECOND FORM's CARD OF 'laws.FnExactIsValue'. -/
def fnExactIsValueUptoCard : Claim7 := { stood := { row := fnExactIsValueUptoRow, standIns := [], harness := (true, "1493c3a4c336af18b1a8728c6c00ed67706f9bee348b51e3b7d74924d29bf079"), looks := true }, kinds := [], alts := [], laidByText := true, laidKinds := [.data, .data, .data, .sentinel, .sentinel], laidTests := true, laidLooks := .later }
def FnExactIsValueUptoCardSaid : Prop := Claim7.holds Tryd.pinned (.plain (OpenSpec.upto fnExactIsValueSpec)) fnExactIsValueUptoCard

/-- THE SECOND FORM's CARD OF 'laws.FnExactSetKey'. -/
def fnExactSetKeyUptoCard : Claim7 := { stood := { row := fnExactSetKeyUptoRow, standIns := [], harness := (true, "1493c3a4c336af18b1a8728c6c00ed67706f9bee348b51e3b7d74924d29bf079"), looks := true }, kinds := [], alts := [], laidByText := true, laidKinds := [.data, .data, .data, .sentinel, .sentinel], laidTests := true, laidLooks := .later }
def FnExactSetKeyUptoCardSaid : Prop := Claim7.holds Tryd.pinned (.plain (OpenSpec.upto fnExactSetKeySpec)) fnExactSetKeyUptoCard

/-- THE SECOND FORM's CARD OF 'laws.FnExactKeyOf'. -/
def fnExactKeyOfUptoCard : Claim7 := { stood := { row := fnExactKeyOfUptoRow, standIns := [], harness := (true, "1493c3a4c336af18b1a8728c6c00ed67706f9bee348b51e3b7d74924d29bf079"), looks := true }, kinds := [], alts := [], laidByText := true, laidKinds := [.data, .data, .data, .sentinel, .sentinel], laidTests := true, laidLooks := .later }
def FnExactKeyOfUptoCardSaid : Prop := Claim7.holds Tryd.pinned (.plain (OpenSpec.upto fnExactKeyOfSpec)) fnExactKeyOfUptoCard
end Rows
end Go.Proofs.YtmbochhmeojmfaaDoor
