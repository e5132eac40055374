/-
  DERIVED. GIVEN WITH THE SEED: THE CARDS: each row of YtdpbejofgemloaaGreatDoorRows.lean that lists a variable, with what it lists TIED to the program's text (the seventh form; the later family's looks); each row that meets fmt, with fmt's text TOLD by the authors' own Lean function (tested against real Go, not proved from fmt's source: count such statements apart). THE CARD IS WHAT COUNTS. Prove the row's statement (the work); the ties are given (YtdpbejofgemloaaGreatDoorTie.lean); close each card by the builder's one call (the guide's Derived/Test/ToyasCard.lean, 'card_holds'). Laid BY PROGRAM, IN A SANDBOX (cutbox-door.mjs). By AI agents, Wed Nov 11 2026. No macro, syntax, notation, axiom, sorry.
-/
import Derived.Test.YtdpbejofgemloaaGreatDoorRows
import GoSem.ClaimSeven
namespace Go.Proofs.YtdpbejofgemloaaGreatDoor
namespace Rows

/-- THE TIED CARD OF 'visitingcardlaw.JcardTells'. -/
def jcardTellsCard : Claim7 := { stood := { row := jcardTellsRow, standIns := [], harness := (true, "fc6672a638a3f0eefca57fa1dffb78c8459f0667cde66a2fa3c098e48ed5ba4d"), looks := true }, kinds := [], alts := [], laidByText := true, laidKinds := [.data, .data, .data, .data, .handle, .sentinel, .sentinel, .listed, .data, .widerDeep, .pinned, .pinned], laidTests := true, laidLooks := .later }
def JcardTellsCardSaid : Prop := Claim7.holds Tryz.pinned (.plain (OpenSpec.ofChange jcardTellsSpec)) jcardTellsCard

/-- THE SECOND FORM's CARD OF 'visitingcardlaw.JcardTells'. -/
def jcardTellsUptoCard : Claim7 := { stood := { row := jcardTellsUptoRow, standIns := [], harness := (true, "fc6672a638a3f0eefca57fa1dffb78c8459f0667cde66a2fa3c098e48ed5ba4d"), looks := true }, kinds := [], alts := [], laidByText := true, laidKinds := [.data, .data, .data, .data, .handle, .sentinel, .sentinel, .listed, .data, .widerDeep, .pinned, .pinned], laidTests := true, laidLooks := .later }
def JcardTellsUptoCardSaid : Prop := Claim7.holds Tryz.pinned (.plain (OpenSpec.upto jcardTellsSpec)) jcardTellsUptoCard
end Rows
end Go.Proofs.YtdpbejofgemloaaGreatDoor
