/-
  DERIVED. GIVEN WITH THE SEED: THE CARDS: each row of YtjccffnjhdhgfaaGreatDoorRows.lean that lists a variable, with what it lists TIED to the program's text (the seventh form; the later family's looks); each row that meets fmt, with fmt's text TOLD by the authors' own Lean function (tested against real Go, not proved from fmt's source: count such statements apart). THE CARD IS WHAT COUNTS. Prove the row's statement (the work); the ties are given (YtjccffnjhdhgfaaGreatDoorTie.lean); close each card by the builder's one call (the guide's Derived/Test/ToyasCard.lean, 'card_holds'). Laid BY PROGRAM, IN A SANDBOX (cutbox-door.mjs). By AI agents, Wed Nov 11 2026. No macro, syntax, notation, axiom, sorry.
-/
import Derived.Test.YtjccffnjhdhgfaaGreatDoorRows
import GoSem.ClaimSeven
namespace Go.Proofs.YtjccffnjhdhgfaaGreatDoor
namespace Rows

/-- THE TIED CARD OF 'visitingcardlaw.RulesKnow'. -/
def rulesKnowCard : Claim7 := { stood := { row := rulesKnowRow, standIns := [], harness := (true, "903a12d68a8f6596259e30e732ddae2911be637b1a7e893e9e0eed2da8303eb0"), looks := true }, kinds := [], alts := [], laidByText := true, laidKinds := [.data, .data, .data, .data, .handle, .sentinel, .sentinel, .listed, .data, .pinned, .pinned], laidTests := true, laidLooks := .later }
def RulesKnowCardSaid : Prop := Claim7.holds Tryz.pinned (.plain (OpenSpec.ofChange rulesKnowSpec)) rulesKnowCard

/-- THE TIED CARD OF 'visitingcardlaw.RulesTypes'. -/
def rulesTypesCard : Claim7 := { stood := { row := rulesTypesRow, standIns := [], harness := (true, "903a12d68a8f6596259e30e732ddae2911be637b1a7e893e9e0eed2da8303eb0"), looks := true }, kinds := [], alts := [], laidByText := true, laidKinds := [.data, .data, .data, .data, .handle, .sentinel, .sentinel, .listed, .data, .pinned, .pinned], laidTests := true, laidLooks := .later }
def RulesTypesCardSaid : Prop := Claim7.holds Tryz.pinned (.plain (OpenSpec.ofChange rulesTypesSpec)) rulesTypesCard

/-- THE SECOND FORM's CARD OF 'visitingcardlaw.RulesKnow'. -/
def rulesKnowUptoCard : Claim7 := { stood := { row := rulesKnowUptoRow, standIns := [], harness := (true, "903a12d68a8f6596259e30e732ddae2911be637b1a7e893e9e0eed2da8303eb0"), looks := true }, kinds := [], alts := [], laidByText := true, laidKinds := [.data, .data, .data, .data, .handle, .sentinel, .sentinel, .listed, .data, .pinned, .pinned], laidTests := true, laidLooks := .later }
def RulesKnowUptoCardSaid : Prop := Claim7.holds Tryz.pinned (.plain (OpenSpec.upto rulesKnowSpec)) rulesKnowUptoCard

/-- THE SECOND FORM's CARD OF 'visitingcardlaw.RulesTypes'. -/
def rulesTypesUptoCard : Claim7 := { stood := { row := rulesTypesUptoRow, standIns := [], harness := (true, "903a12d68a8f6596259e30e732ddae2911be637b1a7e893e9e0eed2da8303eb0"), looks := true }, kinds := [], alts := [], laidByText := true, laidKinds := [.data, .data, .data, .data, .handle, .sentinel, .sentinel, .listed, .data, .pinned, .pinned], laidTests := true, laidLooks := .later }
def RulesTypesUptoCardSaid : Prop := Claim7.holds Tryz.pinned (.plain (OpenSpec.upto rulesTypesSpec)) rulesTypesUptoCard
end Rows
end Go.Proofs.YtjccffnjhdhgfaaGreatDoor
