/-
  DERIVED. GIVEN WITH THE SEED: THE CARDS: each row of YtmdhmodenkjmdaaGreatDoorRows.lean that lists a variable, with what it lists TIED to the program's text (the seventh form; the later family's looks); each row that meets fmt, with fmt's text TOLD by the authors' own Lean function (tested against real Go, not proved from fmt's source: count such statements apart). THE CARD IS WHAT COUNTS. Prove the row's statement (the work); the ties are given (YtmdhmodenkjmdaaGreatDoorTie.lean); close each card by the builder's one call (the guide's Derived/Test/ToyasCard.lean, 'card_holds'). Laid BY PROGRAM, IN A SANDBOX (cutbox-door.mjs). By AI agents, Wed Nov 11 2026. No macro, syntax, notation, axiom, sorry.
-/
import Derived.Test.YtmdhmodenkjmdaaGreatDoorRows
import GoSem.ClaimSeven
namespace Go.Proofs.YtmdhmodenkjmdaaGreatDoor
namespace Rows

/-- THE TIED CARD OF 'visitingcardlaw.CanonItems'. -/
def canonItemsCard : Claim7 := { stood := { row := canonItemsRow, standIns := [], harness := (true, "76a80abd23781c6528ade0304e0117c8693cd7cb6d9a214e35da7e4610298424"), looks := true }, kinds := [], alts := [], laidByText := true, laidKinds := [.data, .data, .data, .data, .handle, .sentinel, .sentinel, .listed, .data, .widerDeep, .pinned, .pinned], laidTests := true, laidLooks := .later }
def CanonItemsCardSaid : Prop := Claim7.holds Tryz.pinned (.plain (OpenSpec.ofChange canonItemsSpec)) canonItemsCard

/-- THE SECOND FORM's CARD OF 'visitingcardlaw.CanonItems'. -/
def canonItemsUptoCard : Claim7 := { stood := { row := canonItemsUptoRow, standIns := [], harness := (true, "76a80abd23781c6528ade0304e0117c8693cd7cb6d9a214e35da7e4610298424"), looks := true }, kinds := [], alts := [], laidByText := true, laidKinds := [.data, .data, .data, .data, .handle, .sentinel, .sentinel, .listed, .data, .widerDeep, .pinned, .pinned], laidTests := true, laidLooks := .later }
def CanonItemsUptoCardSaid : Prop := Claim7.holds Tryz.pinned (.plain (OpenSpec.upto canonItemsSpec)) canonItemsUptoCard
end Rows
end Go.Proofs.YtmdhmodenkjmdaaGreatDoor
