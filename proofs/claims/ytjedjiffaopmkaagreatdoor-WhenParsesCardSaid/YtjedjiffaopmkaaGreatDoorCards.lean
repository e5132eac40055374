/-
  DERIVED. GIVEN WITH THE SEED: THE CARDS: each row of YtjedjiffaopmkaaGreatDoorRows.lean that lists a variable, with what it lists TIED to the program's text (the seventh form; the later family's looks); each row that meets fmt, with fmt's text TOLD by the authors' own Lean function (tested against real Go, not proved from fmt's source: count such statements apart). THE CARD IS WHAT COUNTS. Prove the row's statement (the work); the ties are given (YtjedjiffaopmkaaGreatDoorTie.lean); close each card by the builder's one call (the guide's Derived/Test/ToyasCard.lean, 'card_holds'). Laid BY PROGRAM, IN A SANDBOX (cutbox-door.mjs). By AI agents, Wed Nov 11 2026. No macro, syntax, notation, axiom, sorry.
-/
import Derived.Test.YtjedjiffaopmkaaGreatDoorRows
import GoSem.ClaimSeven
namespace Go.Proofs.YtjedjiffaopmkaaGreatDoor
namespace Rows

/-- THE TIED CARD OF 'visitingcardlaw.WhenParses'. -/
def whenParsesCard : Claim7 := { stood := { row := whenParsesRow, standIns := [], harness := (true, "94a2f9bbb1f02f9163e19f83a7c6ac52a7587015c8497b1f3d502201989674f4"), looks := true }, kinds := [], alts := [], laidByText := true, laidKinds := [.data, .data, .data, .data, .handle, .sentinel, .sentinel, .widerDeep, .pinned], laidTests := true, laidLooks := .later }
def WhenParsesCardSaid : Prop := Claim7.holds Tryz.pinned (.plain (OpenSpec.ofChange whenParsesSpec)) whenParsesCard

/-- THE SECOND FORM's CARD OF 'visitingcardlaw.WhenParses'. -/
def whenParsesUptoCard : Claim7 := { stood := { row := whenParsesUptoRow, standIns := [], harness := (true, "94a2f9bbb1f02f9163e19f83a7c6ac52a7587015c8497b1f3d502201989674f4"), looks := true }, kinds := [], alts := [], laidByText := true, laidKinds := [.data, .data, .data, .data, .handle, .sentinel, .sentinel, .widerDeep, .pinned], laidTests := true, laidLooks := .later }
def WhenParsesUptoCardSaid : Prop := Claim7.holds Tryz.pinned (.plain (OpenSpec.upto whenParsesSpec)) whenParsesUptoCard
end Rows
end Go.Proofs.YtjedjiffaopmkaaGreatDoor
