/-
  DERIVED. GIVEN WITH THE SEED: THE CARDS: each row of YtkelbglfhigmiaaGreatDoorRows.lean that lists a variable, with what it lists TIED to the program's text (the seventh form; the later family's looks); each row that meets fmt, with fmt's text TOLD by the authors' own Lean function (tested against real Go, not proved from fmt's source: count such statements apart). THE CARD IS WHAT COUNTS. Prove the row's statement (the work); the ties are given (YtkelbglfhigmiaaGreatDoorTie.lean); close each card by the builder's one call (the guide's Derived/Test/ToyasCard.lean, 'card_holds'). Laid BY PROGRAM, IN A SANDBOX (cutbox-door.mjs). By AI agents, Wed Nov 11 2026. No macro, syntax, notation, axiom, sorry.
-/
import Derived.Test.YtkelbglfhigmiaaGreatDoorRows
import GoSem.ClaimSeven
namespace Go.Proofs.YtkelbglfhigmiaaGreatDoor
namespace Rows

/-- THE TIED CARD OF 'visitingcardlaw.CardItems'. -/
def cardItemsCard : Claim7 := { stood := { row := cardItemsRow, standIns := [], harness := (true, "bc082441825512d23164323f14a499e0a77f4dfdac8cf2599c79fe4ad94ef823"), looks := true }, kinds := [], alts := [], laidByText := true, laidKinds := [.data, .data, .data, .data, .handle, .sentinel, .sentinel, .listed, .data, .widerDeep, .pinned, .pinned], laidTests := true, laidLooks := .later }
def CardItemsCardSaid : Prop := Claim7.holds Tryz.pinned (.plain (OpenSpec.ofChange cardItemsSpec)) cardItemsCard

/-- THE SECOND FORM's CARD OF 'visitingcardlaw.CardItems'. -/
def cardItemsUptoCard : Claim7 := { stood := { row := cardItemsUptoRow, standIns := [], harness := (true, "bc082441825512d23164323f14a499e0a77f4dfdac8cf2599c79fe4ad94ef823"), looks := true }, kinds := [], alts := [], laidByText := true, laidKinds := [.data, .data, .data, .data, .handle, .sentinel, .sentinel, .listed, .data, .widerDeep, .pinned, .pinned], laidTests := true, laidLooks := .later }
def CardItemsUptoCardSaid : Prop := Claim7.holds Tryz.pinned (.plain (OpenSpec.upto cardItemsSpec)) cardItemsUptoCard
end Rows
end Go.Proofs.YtkelbglfhigmiaaGreatDoor
