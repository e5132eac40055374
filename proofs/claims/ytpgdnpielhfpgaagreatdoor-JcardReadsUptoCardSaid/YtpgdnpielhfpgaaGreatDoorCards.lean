/-
  DERIVED. GIVEN WITH THE SEED: THE CARDS: each row of YtpgdnpielhfpgaaGreatDoorRows.lean that lists a variable, with what it lists TIED to the program's text (the seventh form; the later family's looks); each row that meets fmt, with fmt's text TOLD by the authors' own Lean function (tested against real Go, not proved from fmt's source: count such statements apart). THE CARD IS WHAT COUNTS. Prove the row's statement (the work); the ties are given (YtpgdnpielhfpgaaGreatDoorTie.lean); close each card by the builder's one call (the guide's Derived/Test/ToyasCard.lean, 'card_holds'). Laid BY PROGRAM, IN A SANDBOX (cutbox-door.mjs). By AI agents, Wed Nov 11 2026. No macro, syntax, notation, axiom, sorry.
-/
import Derived.Test.YtpgdnpielhfpgaaGreatDoorRows
import GoSem.ClaimSeven
namespace Go.Proofs.YtpgdnpielhfpgaaGreatDoor
namespace Rows

/-- THE TIED CARD OF 'visitingcardlaw.JcardReads'. -/
def jcardReadsCard : Claim7 := { stood := { row := jcardReadsRow, standIns := [], harness := (true, "f93bbde6efa327264fe0cee540064be987ffbdeaa183ad71cddfcc2ab737a929"), looks := true }, kinds := [], alts := [], laidByText := true, laidKinds := [.data, .data, .data, .data, .handle, .sentinel, .sentinel, .listed, .data, .widerDeep, .pinned, .pinned], laidTests := true, laidLooks := .later }
def JcardReadsCardSaid : Prop := Claim7.holds Tryz.pinned (.plain (OpenSpec.ofChange jcardReadsSpec)) jcardReadsCard

/-- THE SECOND FORM's CARD OF 'visitingcardlaw.JcardReads'. -/
def jcardReadsUptoCard : Claim7 := { stood := { row := jcardReadsUptoRow, standIns := [], harness := (true, "f93bbde6efa327264fe0cee540064be987ffbdeaa183ad71cddfcc2ab737a929"), looks := true }, kinds := [], alts := [], laidByText := true, laidKinds := [.data, .data, .data, .data, .handle, .sentinel, .sentinel, .listed, .data, .widerDeep, .pinned, .pinned], laidTests := true, laidLooks := .later }
def JcardReadsUptoCardSaid : Prop := Claim7.holds Tryz.pinned (.plain (OpenSpec.upto jcardReadsSpec)) jcardReadsUptoCard
end Rows
end Go.Proofs.YtpgdnpielhfpgaaGreatDoor
