/-
  DERIVED. GIVEN WITH THE SEED: THE CARDS: each row of YtgpjhbhdbjdlgaaGreatDoorRows.lean that lists a variable, with what it lists TIED to the program's text (the seventh form; the later family's looks); each row that meets fmt, with fmt's text TOLD by the authors' own Lean function (tested against real Go, not proved from fmt's source: count such statements apart). THE CARD IS WHAT COUNTS. Prove the row's statement (the work); the ties are given (YtgpjhbhdbjdlgaaGreatDoorTie.lean); close each card by the builder's one call (the guide's Derived/Test/ToyasCard.lean, 'card_holds'). Laid BY PROGRAM, IN A SANDBOX (cutbox-door.mjs). By AI agents, Wed Nov 11 2026. No macro, syntax, notation, axiom, sorry.
-/
import Derived.Test.YtgpjhbhdbjdlgaaGreatDoorRows
import GoSem.ClaimSeven
namespace Go.Proofs.YtgpjhbhdbjdlgaaGreatDoor
namespace Rows

/-- THE TIED CARD OF 'visitingcardlaw.StreamCards'. -/
def streamCardsCard : Claim7 := { stood := { row := streamCardsRow, standIns := [], harness := (true, "6d20b5a17d8dadb556570303f9f26eac94414029ba8ae1cd60c36b6c93f3c874"), looks := true }, kinds := [], alts := [], laidByText := true, laidKinds := [.data, .data, .data, .data, .handle, .sentinel, .sentinel, .listed, .data, .widerDeep, .pinned, .pinned], laidTests := true, laidLooks := .later }
def StreamCardsCardSaid : Prop := Claim7.holds Tryz.pinned (.plain (OpenSpec.ofChange streamCardsSpec)) streamCardsCard

/-- THE SECOND FORM's CARD OF 'visitingcardlaw.StreamCards'. -/
def streamCardsUptoCard : Claim7 := { stood := { row := streamCardsUptoRow, standIns := [], harness := (true, "6d20b5a17d8dadb556570303f9f26eac94414029ba8ae1cd60c36b6c93f3c874"), looks := true }, kinds := [], alts := [], laidByText := true, laidKinds := [.data, .data, .data, .data, .handle, .sentinel, .sentinel, .listed, .data, .widerDeep, .pinned, .pinned], laidTests := true, laidLooks := .later }
def StreamCardsUptoCardSaid : Prop := Claim7.holds Tryz.pinned (.plain (OpenSpec.upto streamCardsSpec)) streamCardsUptoCard
end Rows
end Go.Proofs.YtgpjhbhdbjdlgaaGreatDoor
