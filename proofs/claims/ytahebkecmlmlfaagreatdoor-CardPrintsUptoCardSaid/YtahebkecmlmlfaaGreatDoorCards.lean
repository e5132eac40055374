/-
  DERIVED. GIVEN WITH THE SEED: THE CARDS: each row of YtahebkecmlmlfaaGreatDoorRows.lean that lists a variable, with what it lists TIED to the program's text (the seventh form; the later family's looks); each row that meets fmt, with fmt's text TOLD by the authors' own Lean function (tested against real Go, not proved from fmt's source: count such statements apart). THE CARD IS WHAT COUNTS. Prove the row's statement (the work); the ties are given (YtahebkecmlmlfaaGreatDoorTie.lean); close each card by the builder's one call (the guide's Derived/Test/ToyasCard.lean, 'card_holds'). Laid BY PROGRAM, IN A SANDBOX (cutbox-door.mjs). By AI agents, Wed Nov 11 2026. No macro, syntax, notation, axiom, sorry.
-/
import Derived.Test.YtahebkecmlmlfaaGreatDoorRows
import GoSem.ClaimSeven
namespace Go.Proofs.YtahebkecmlmlfaaGreatDoor
namespace Rows

/-- THE TIED CARD OF 'visitingcardlaw.CardRights'. -/
def cardRightsCard : Claim7 := { stood := { row := cardRightsRow, standIns := [], harness := (true, "d282ef5e3999e695585eab995361a9ca2334da500f06bf4d9c95578b7a1f699d"), looks := true }, kinds := [], alts := [], laidByText := true, laidKinds := [.data, .data, .data, .data, .handle, .sentinel, .sentinel, .listed, .data, .widerDeep, .pinned, .pinned], laidTests := true, laidLooks := .later }
def CardRightsCardSaid : Prop := Claim7.holds Tryz.pinned (.plain (OpenSpec.ofChange cardRightsSpec)) cardRightsCard

/-- THE TIED CARD OF 'visitingcardlaw.CardPrints'. -/
def cardPrintsCard : Claim7 := { stood := { row := cardPrintsRow, standIns := [], harness := (true, "d282ef5e3999e695585eab995361a9ca2334da500f06bf4d9c95578b7a1f699d"), looks := true }, kinds := [], alts := [], laidByText := true, laidKinds := [.data, .data, .data, .data, .handle, .sentinel, .sentinel, .listed, .data, .widerDeep, .pinned, .pinned], laidTests := true, laidLooks := .later }
def CardPrintsCardSaid : Prop := Claim7.holds Tryz.pinned (.plain (OpenSpec.ofChange cardPrintsSpec)) cardPrintsCard

/-- THE TIED CARD OF 'visitingcardlaw.StreamPrints'. -/
def streamPrintsCard : Claim7 := { stood := { row := streamPrintsRow, standIns := [], harness := (true, "d282ef5e3999e695585eab995361a9ca2334da500f06bf4d9c95578b7a1f699d"), looks := true }, kinds := [], alts := [], laidByText := true, laidKinds := [.data, .data, .data, .data, .handle, .sentinel, .sentinel, .listed, .data, .widerDeep, .pinned, .pinned], laidTests := true, laidLooks := .later }
def StreamPrintsCardSaid : Prop := Claim7.holds Tryz.pinned (.plain (OpenSpec.ofChange streamPrintsSpec)) streamPrintsCard

/-- THE SECOND FORM's CARD OF 'visitingcardlaw.CardRights'. -/
def cardRightsUptoCard : Claim7 := { stood := { row := cardRightsUptoRow, standIns := [], harness := (true, "d282ef5e3999e695585eab995361a9ca2334da500f06bf4d9c95578b7a1f699d"), looks := true }, kinds := [], alts := [], laidByText := true, laidKinds := [.data, .data, .data, .data, .handle, .sentinel, .sentinel, .listed, .data, .widerDeep, .pinned, .pinned], laidTests := true, laidLooks := .later }
def CardRightsUptoCardSaid : Prop := Claim7.holds Tryz.pinned (.plain (OpenSpec.upto cardRightsSpec)) cardRightsUptoCard

/-- THE SECOND FORM's CARD OF 'visitingcardlaw.CardPrints'. -/
def cardPrintsUptoCard : Claim7 := { stood := { row := cardPrintsUptoRow, standIns := [], harness := (true, "d282ef5e3999e695585eab995361a9ca2334da500f06bf4d9c95578b7a1f699d"), looks := true }, kinds := [], alts := [], laidByText := true, laidKinds := [.data, .data, .data, .data, .handle, .sentinel, .sentinel, .listed, .data, .widerDeep, .pinned, .pinned], laidTests := true, laidLooks := .later }
def CardPrintsUptoCardSaid : Prop := Claim7.holds Tryz.pinned (.plain (OpenSpec.upto cardPrintsSpec)) cardPrintsUptoCard

/-- THE SECOND FORM's CARD OF 'visitingcardlaw.StreamPrints'. -/
def streamPrintsUptoCard : Claim7 := { stood := { row := streamPrintsUptoRow, standIns := [], harness := (true, "d282ef5e3999e695585eab995361a9ca2334da500f06bf4d9c95578b7a1f699d"), looks := true }, kinds := [], alts := [], laidByText := true, laidKinds := [.data, .data, .data, .data, .handle, .sentinel, .sentinel, .listed, .data, .widerDeep, .pinned, .pinned], laidTests := true, laidLooks := .later }
def StreamPrintsUptoCardSaid : Prop := Claim7.holds Tryz.pinned (.plain (OpenSpec.upto streamPrintsSpec)) streamPrintsUptoCard
end Rows
end Go.Proofs.YtahebkecmlmlfaaGreatDoor
