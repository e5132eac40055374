/-
  DERIVED. GIVEN WITH THE SEED: THE CARDS: each row of YtcoidjllehieeaaGreatDoorRows.lean that lists a variable, with what it lists TIED to the program's text (the seventh form; the later family's looks); each row that meets fmt, with fmt's text TOLD by the authors' own Lean function (tested against real Go, not proved from fmt's source: count such statements apart). THE CARD IS WHAT COUNTS. Prove the row's statement (the work); the ties are given (YtcoidjllehieeaaGreatDoorTie.lean); close each card by the builder's one call (the guide's Derived/Test/ToyasCard.lean, 'card_holds'). Laid BY PROGRAM, IN A SANDBOX (cutbox-door.mjs). By AI agents, Wed Nov 11 2026. No macro, syntax, notation, axiom, sorry.
-/
import Derived.Test.YtcoidjllehieeaaGreatDoorRows
import GoSem.ClaimSeven
namespace Go.Proofs.YtcoidjllehieeaaGreatDoor
namespace Rows

/-- THE TIED CARD OF 'visitingcardlaw.PickAlls'. -/
def pickAllsCard : Claim7 := { stood := { row := pickAllsRow, standIns := [], harness := (true, "2640f8383379c127e5f0e7afa32b477dae09b9d3070ee8b68f442ceb13a249d6"), looks := true }, kinds := [], alts := [], laidByText := true, laidKinds := [.data, .data, .data, .data, .sentinel, .sentinel, .pinned, .pinned], laidTests := true, laidLooks := .later }
def PickAllsCardSaid : Prop := Claim7.holds Tryz.pinned (.plain (OpenSpec.ofChange pickAllsSpec)) pickAllsCard

/-- THE SECOND FORM's CARD OF 'visitingcardlaw.PickAlls'. -/
def pickAllsUptoCard : Claim7 := { stood := { row := pickAllsUptoRow, standIns := [], harness := (true, "2640f8383379c127e5f0e7afa32b477dae09b9d3070ee8b68f442ceb13a249d6"), looks := true }, kinds := [], alts := [], laidByText := true, laidKinds := [.data, .data, .data, .data, .sentinel, .sentinel, .pinned, .pinned], laidTests := true, laidLooks := .later }
def PickAllsUptoCardSaid : Prop := Claim7.holds Tryz.pinned (.plain (OpenSpec.upto pickAllsSpec)) pickAllsUptoCard
end Rows
end Go.Proofs.YtcoidjllehieeaaGreatDoor
