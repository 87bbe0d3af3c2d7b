/-
  DERIVED. GIVEN WITH THE SEED: THE CARDS: each row of YthamioapmfmljaaDoorRows.lean that lists a variable, with what it lists TIED to the program's text (the seventh form; the later family's looks); each row that meets fmt, with fmt's text TOLD by the authors' own Lean function (tested against real Go, not proved from fmt's source: count such statements apart). THE CARD IS WHAT COUNTS. Prove the row's statement (the work); the ties are given (YthamioapmfmljaaDoorTie.lean); close each card by the builder's one call (the guide's Derived/Test/ToyasCard.lean, 'card_holds'). Laid BY PROGRAM, IN A SANDBOX (cutbox-door.mjs). By AI agents, Wed Nov 11 2026. No macro, syntax, notation, axiom, sorry.
-/
import Derived.Test.YthamioapmfmljaaDoorRows
import GoSem.ClaimSeven
namespace Go.Proofs.YthamioapmfmljaaDoor
namespace Rows

/-- THE TIED CARD OF 'laws.FnExactFormatInt'. -/
def fnExactFormatIntCard : Claim7 := { stood := { row := fnExactFormatIntRow, standIns := [], harness := (true, "346100b6a1f3ef5559b44bc31c179068fa0658780a7b0faf65fe0a4ab133c27f"), looks := true }, kinds := [], alts := [], laidByText := true, laidKinds := [.data, .data, .data], laidTests := true, laidLooks := .later }
def FnExactFormatIntCardSaid : Prop := Claim7.holds Tryd.pinned (.plain (OpenSpec.ofChange fnExactFormatIntSpec)) fnExactFormatIntCard

/-- THE TIED CARD OF 'laws.FnExactParseInt'. -/
def fnExactParseIntCard : Claim7 := { stood := { row := fnExactParseIntRow, standIns := [], harness := (true, "346100b6a1f3ef5559b44bc31c179068fa0658780a7b0faf65fe0a4ab133c27f"), looks := true }, kinds := [], alts := [], laidByText := true, laidKinds := [.data, .data, .data, .sentinel, .sentinel], laidTests := true, laidLooks := .later }
def FnExactParseIntCardSaid : Prop := Claim7.holds Tryd.pinned (.plain (OpenSpec.ofChange fnExactParseIntSpec)) fnExactParseIntCard

/-- THE TIED CARD OF 'laws.FnExactParseSigned'. -/
def fnExactParseSignedCard : Claim7 := { stood := { row := fnExactParseSignedRow, standIns := [], harness := (true, "346100b6a1f3ef5559b44bc31c179068fa0658780a7b0faf65fe0a4ab133c27f"), looks := true }, kinds := [], alts := [], laidByText := true, laidKinds := [.data, .data, .data, .sentinel, .sentinel], laidTests := true, laidLooks := .later }
def FnExactParseSignedCardSaid : Prop := Claim7.holds Tryd.pinned (.plain (OpenSpec.ofChange fnExactParseSignedSpec)) fnExactParseSignedCard

/-- THE TIED CARD OF 'laws.FnExactTextKey'. -/
def fnExactTextKeyCard : Claim7 := { stood := { row := fnExactTextKeyRow, standIns := [], harness := (true, "346100b6a1f3ef5559b44bc31c179068fa0658780a7b0faf65fe0a4ab133c27f"), looks := true }, kinds := [], alts := [], laidByText := true, laidKinds := [.data, .data, .data, .sentinel, .sentinel], laidTests := true, laidLooks := .later }
def FnExactTextKeyCardSaid : Prop := Claim7.holds Tryd.pinned (.plain (OpenSpec.ofChange fnExactTextKeySpec)) fnExactTextKeyCard

/-- THE TIED CARD OF 'laws.FnExactIsKey'. -/
def fnExactIsKeyCard : Claim7 := { stood := { row := fnExactIsKeyRow, standIns := [], harness := (true, "346100b6a1f3ef5559b44bc31c179068fa0658780a7b0faf65fe0a4ab133c27f"), looks := true }, kinds := [], alts := [], laidByText := true, laidKinds := [.data, .data, .data, .sentinel, .sentinel], laidTests := true, laidLooks := .later }
def FnExactIsKeyCardSaid : Prop := Claim7.holds Tryd.pinned (.plain (OpenSpec.ofChange fnExactIsKeySpec)) fnExactIsKeyCard

/-- THE TIED CARD OF 'laws.FnNumbers'. -/
def fnNumbersCard : Claim7 := { stood := { row := fnNumbersRow, standIns := [], harness := (true, "346100b6a1f3ef5559b44bc31c179068fa0658780a7b0faf65fe0a4ab133c27f"), looks := true }, kinds := [], alts := [], laidByText := true, laidKinds := [.data, .data, .data, .sentinel, .sentinel], laidTests := true, laidLooks := .later }
def FnNumbersCardSaid : Prop := Claim7.holds Tryd.pinned (.plain (OpenSpec.ofChange fnNumbersSpec)) fnNumbersCard

/-- THE SECOND FORM's CARD OF 'laws.FnExactFormatInt'. -/
def fnExactFormatIntUptoCard : Claim7 := { stood := { row := fnExactFormatIntUptoRow, standIns := [], harness := (true, "346100b6a1f3ef5559b44bc31c179068fa0658780a7b0faf65fe0a4ab133c27f"), looks := true }, kinds := [], alts := [], laidByText := true, laidKinds := [.data, .data, .data], laidTests := true, laidLooks := .later }
def FnExactFormatIntUptoCardSaid : Prop := Claim7.holds Tryd.pinned (.plain (OpenSpec.upto fnExactFormatIntSpec)) fnExactFormatIntUptoCard

/-- THE SECOND FORM's CARD OF 'laws.FnExactParseInt'. -/
def fnExactParseIntUptoCard : Claim7 := { stood := { row := fnExactParseIntUptoRow, standIns := [], harness := (true, "346100b6a1f3ef5559b44bc31c179068fa0658780a7b0faf65fe0a4ab133c27f"), looks := true }, kinds := [], alts := [], laidByText := true, laidKinds := [.data, .data, .data, .sentinel, .sentinel], laidTests := true, laidLooks := .later }
def FnExactParseIntUptoCardSaid : Prop := Claim7.holds Tryd.pinned (.plain (OpenSpec.upto fnExactParseIntSpec)) fnExactParseIntUptoCard

/-- THE SECOND FORM's CARD OF 'laws.FnExactParseSigned'. -/
def fnExactParseSignedUptoCard : Claim7 := { stood := { row := fnExactParseSignedUptoRow, standIns := [], harness := (true, "346100b6a1f3ef5559b44bc31c179068fa0658780a7b0faf65fe0a4ab133c27f"), looks := true }, kinds := [], alts := [], laidByText := true, laidKinds := [.data, .data, .data, .sentinel, .sentinel], laidTests := true, laidLooks := .later }
def FnExactParseSignedUptoCardSaid : Prop := Claim7.holds Tryd.pinned (.plain (OpenSpec.upto fnExactParseSignedSpec)) fnExactParseSignedUptoCard

/-- THE SECOND FORM's CARD OF 'laws.FnExactTextKey'. -/
def fnExactTextKeyUptoCard : Claim7 := { stood := { row := fnExactTextKeyUptoRow, standIns := [], harness := (true, "346100b6a1f3ef5559b44bc31c179068fa0658780a7b0faf65fe0a4ab133c27f"), looks := true }, kinds := [], alts := [], laidByText := true, laidKinds := [.data, .data, .data, .sentinel, .sentinel], laidTests := true, laidLooks := .later }
def FnExactTextKeyUptoCardSaid : Prop := Claim7.holds Tryd.pinned (.plain (OpenSpec.upto fnExactTextKeySpec)) fnExactTextKeyUptoCard

/-- THE SECOND FORM's CARD OF 'laws.FnExactIsKey'. -/
def fnExactIsKeyUptoCard : Claim7 := { stood := { row := fnExactIsKeyUptoRow, standIns := [], harness := (true, "346100b6a1f3ef5559b44bc31c179068fa0658780a7b0faf65fe0a4ab133c27f"), looks := true }, kinds := [], alts := [], laidByText := true, laidKinds := [.data, .data, .data, .sentinel, .sentinel], laidTests := true, laidLooks := .later }
def FnExactIsKeyUptoCardSaid : Prop := Claim7.holds Tryd.pinned (.plain (OpenSpec.upto fnExactIsKeySpec)) fnExactIsKeyUptoCard

/-- THE SECOND FORM's CARD OF 'laws.FnNumbers'. -/
def fnNumbersUptoCard : Claim7 := { stood := { row := fnNumbersUptoRow, standIns := [], harness := (true, "346100b6a1f3ef5559b44bc31c179068fa0658780a7b0faf65fe0a4ab133c27f"), looks := true }, kinds := [], alts := [], laidByText := true, laidKinds := [.data, .data, .data, .sentinel, .sentinel], laidTests := true, laidLooks := .later }
def FnNumbersUptoCardSaid : Prop := Claim7.holds Tryd.pinned (.plain (OpenSpec.upto fnNumbersSpec)) fnNumbersUptoCard
end Rows
end Go.Proofs.YthamioapmfmljaaDoor
