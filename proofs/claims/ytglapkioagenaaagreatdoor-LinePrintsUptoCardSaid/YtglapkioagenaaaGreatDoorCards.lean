/-
  DERIVED. GIVEN WITH THE SEED: THE CARDS: each row of YtglapkioagenaaaGreatDoorRows.lean that lists a variable, with what it lists TIED to the program's text (the seventh form; the later family's looks); each row that meets fmt, with fmt's text TOLD by the authors' own Lean function (tested against real Go, not proved from fmt's source: count such statements apart). THE CARD IS WHAT COUNTS. Prove the row's statement (the work); the ties are given (YtglapkioagenaaaGreatDoorTie.lean); close each card by the builder's one call (the guide's Derived/Test/ToyasCard.lean, 'card_holds'). Laid BY PROGRAM, IN A SANDBOX (cutbox-door.mjs). By AI agents, Wed Nov 11 2026. No macro, syntax, notation, axiom, sorry.
-/
import Derived.Test.YtglapkioagenaaaGreatDoorRows
import GoSem.ClaimSeven
namespace Go.Proofs.YtglapkioagenaaaGreatDoor
namespace Rows

/-- THE TIED CARD OF 'visitingcardlaw.LinePrints'. -/
def linePrintsCard : Claim7 := { stood := { row := linePrintsRow, standIns := [], harness := (true, "cbe991a3d8a63979a66b63da6ac904bc6e87058308527be61142a13eef409646"), looks := true }, kinds := [], alts := [], laidByText := true, laidKinds := [.data, .handle, .pinned, .pinned], laidTests := true, laidLooks := .later }
def LinePrintsCardSaid : Prop := Claim7.holds Tryz.pinned (.plain (OpenSpec.ofChange linePrintsSpec)) linePrintsCard

/-- THE SECOND FORM's CARD OF 'visitingcardlaw.LinePrints'. -/
def linePrintsUptoCard : Claim7 := { stood := { row := linePrintsUptoRow, standIns := [], harness := (true, "cbe991a3d8a63979a66b63da6ac904bc6e87058308527be61142a13eef409646"), looks := true }, kinds := [], alts := [], laidByText := true, laidKinds := [.data, .handle, .pinned, .pinned], laidTests := true, laidLooks := .later }
def LinePrintsUptoCardSaid : Prop := Claim7.holds Tryz.pinned (.plain (OpenSpec.upto linePrintsSpec)) linePrintsUptoCard
end Rows
end Go.Proofs.YtglapkioagenaaaGreatDoor
