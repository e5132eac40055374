/-
  DERIVED. GIVEN WITH THE SEED: THE CARDS: each row of YtgjckfphallmeaaGreatDoorRows.lean that lists a variable, with what it lists TIED to the program's text (the seventh form; the later family's looks); each row that meets fmt, with fmt's text TOLD by the authors' own Lean function (tested against real Go, not proved from fmt's source: count such statements apart). THE CARD IS WHAT COUNTS. Prove the row's statement (the work); the ties are given (YtgjckfphallmeaaGreatDoorTie.lean); close each card by the builder's one call (the guide's Derived/Test/ToyasCard.lean, 'card_holds'). Laid BY PROGRAM, IN A SANDBOX (cutbox-door.mjs). By AI agents, Wed Nov 11 2026. No macro, syntax, notation, axiom, sorry.
-/
import Derived.Test.YtgjckfphallmeaaGreatDoorRows
import GoSem.ClaimSeven
namespace Go.Proofs.YtgjckfphallmeaaGreatDoor
namespace Rows

/-- THE TIED CARD OF 'visitingcardlaw.ValueWrites'. -/
def valueWritesCard : Claim7 := { stood := { row := valueWritesRow, standIns := [], harness := (true, "f5c578ef35f87f7216d34e3398f2a57ee7d2ee6eb740b496f9435a7aca491cb3"), looks := true }, kinds := [], alts := [], laidByText := true, laidKinds := [.data, .data, .data, .data, .handle, .widerDeep, .pinned, .pinned], laidTests := true, laidLooks := .later }
def ValueWritesCardSaid : Prop := Claim7.holds Tryz.pinned (.plain (OpenSpec.ofChange valueWritesSpec)) valueWritesCard

/-- THE SECOND FORM's CARD OF 'visitingcardlaw.ValueWrites'. -/
def valueWritesUptoCard : Claim7 := { stood := { row := valueWritesUptoRow, standIns := [], harness := (true, "f5c578ef35f87f7216d34e3398f2a57ee7d2ee6eb740b496f9435a7aca491cb3"), looks := true }, kinds := [], alts := [], laidByText := true, laidKinds := [.data, .data, .data, .data, .handle, .widerDeep, .pinned, .pinned], laidTests := true, laidLooks := .later }
def ValueWritesUptoCardSaid : Prop := Claim7.holds Tryz.pinned (.plain (OpenSpec.upto valueWritesSpec)) valueWritesUptoCard
end Rows
end Go.Proofs.YtgjckfphallmeaaGreatDoor
