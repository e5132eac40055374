/-
  DERIVED. GIVEN WITH THE SEED: THE CARDS: each row of YtnbaflecdkgihaaGreatDoorRows.lean that lists a variable, with what it lists TIED to the program's text (the seventh form; the later family's looks); each row that meets fmt, with fmt's text TOLD by the authors' own Lean function (tested against real Go, not proved from fmt's source: count such statements apart). THE CARD IS WHAT COUNTS. Prove the row's statement (the work); the ties are given (YtnbaflecdkgihaaGreatDoorTie.lean); close each card by the builder's one call (the guide's Derived/Test/ToyasCard.lean, 'card_holds'). Laid BY PROGRAM, IN A SANDBOX (cutbox-door.mjs). By AI agents, Wed Nov 11 2026. No macro, syntax, notation, axiom, sorry.
-/
import Derived.Test.YtnbaflecdkgihaaGreatDoorRows
import GoSem.ClaimSeven
namespace Go.Proofs.YtnbaflecdkgihaaGreatDoor
namespace Rows

/-- THE TIED CARD OF 'visitingcardlaw.CardParses'. -/
def cardParsesCard : Claim7 := { stood := { row := cardParsesRow, standIns := [], harness := (true, "53f5b6a155fe0fc2d9e4ee85cc98feb3e69cdfc02146524f510dd358f05a155d"), looks := true }, kinds := [], alts := [], laidByText := true, laidKinds := [.data, .data, .data, .data, .handle, .sentinel, .sentinel, .listed, .data, .widerDeep, .pinned, .pinned], laidTests := true, laidLooks := .later }
def CardParsesCardSaid : Prop := Claim7.holds Tryz.pinned (.plain (OpenSpec.ofChange cardParsesSpec)) cardParsesCard

/-- THE SECOND FORM's CARD OF 'visitingcardlaw.CardParses'. -/
def cardParsesUptoCard : Claim7 := { stood := { row := cardParsesUptoRow, standIns := [], harness := (true, "53f5b6a155fe0fc2d9e4ee85cc98feb3e69cdfc02146524f510dd358f05a155d"), looks := true }, kinds := [], alts := [], laidByText := true, laidKinds := [.data, .data, .data, .data, .handle, .sentinel, .sentinel, .listed, .data, .widerDeep, .pinned, .pinned], laidTests := true, laidLooks := .later }
def CardParsesUptoCardSaid : Prop := Claim7.holds Tryz.pinned (.plain (OpenSpec.upto cardParsesSpec)) cardParsesUptoCard
end Rows
end Go.Proofs.YtnbaflecdkgihaaGreatDoor
