/-
  DERIVED. GIVEN WITH THE SEED: THE CARDS: each row of YtfpfjchapjelaaaDoorRows.lean that lists a variable, with what it lists TIED to the program's text (the seventh form; the later family's looks); each row that meets fmt, with fmt's text TOLD by the authors' own Lean function (tested against real Go, not proved from fmt's source: count such statements apart). THE CARD IS WHAT COUNTS. Prove the row's statement (the work); the ties are given (YtfpfjchapjelaaaDoorTie.lean); close each card by the builder's one call (the guide's Derived/Test/ToyasCard.lean, 'card_holds'). Laid BY PROGRAM, IN A SANDBOX (cutbox-door.mjs). By AI agents, Wed Nov 11 2026. No macro, syntax, notation, axiom, sorry.
-/
import Derived.Test.YtfpfjchapjelaaaDoorRows
import GoSem.ClaimSeven
namespace Go.Proofs.YtfpfjchapjelaaaDoor
namespace Rows

/-- THE TIED CARD OF 'visitingcardlaw.UtfNext'. -/
def utfNextCard : Claim7 := { stood := { row := utfNextRow, standIns := [], harness := (true, "df72582538e4b5ee9fc23150d0ee709ff98e301dc3423695ce999d3b3dd4ad59"), looks := true }, kinds := [], alts := [], laidByText := true, laidKinds := [.data, .pinned], laidTests := true, laidLooks := .later }
def UtfNextCardSaid : Prop := Claim7.holds Tryd.pinned (.plain (OpenSpec.ofChange utfNextSpec)) utfNextCard

/-- THE TIED CARD OF 'visitingcardlaw.UtfCuts'. -/
def utfCutsCard : Claim7 := { stood := { row := utfCutsRow, standIns := [], harness := (true, "df72582538e4b5ee9fc23150d0ee709ff98e301dc3423695ce999d3b3dd4ad59"), looks := true }, kinds := [], alts := [], laidByText := true, laidKinds := [.data, .pinned], laidTests := true, laidLooks := .later }
def UtfCutsCardSaid : Prop := Claim7.holds Tryd.pinned (.plain (OpenSpec.ofChange utfCutsSpec)) utfCutsCard

/-- THE TIED CARD OF 'visitingcardlaw.UtfPoints'. -/
def utfPointsCard : Claim7 := { stood := { row := utfPointsRow, standIns := [], harness := (true, "df72582538e4b5ee9fc23150d0ee709ff98e301dc3423695ce999d3b3dd4ad59"), looks := true }, kinds := [], alts := [], laidByText := true, laidKinds := [.data, .handle, .pinned], laidTests := true, laidLooks := .later }
def UtfPointsCardSaid : Prop := Claim7.holds Tryd.pinned (.plain (OpenSpec.ofChange utfPointsSpec)) utfPointsCard

/-- THE TIED CARD OF 'visitingcardlaw.NameTurns'. -/
def nameTurnsCard : Claim7 := { stood := { row := nameTurnsRow, standIns := [], harness := (true, "df72582538e4b5ee9fc23150d0ee709ff98e301dc3423695ce999d3b3dd4ad59"), looks := true }, kinds := [], alts := [], laidByText := true, laidKinds := [.data, .pinned, .pinned], laidTests := true, laidLooks := .later }
def NameTurnsCardSaid : Prop := Claim7.holds Tryd.pinned (.plain (OpenSpec.ofChange nameTurnsSpec)) nameTurnsCard

/-- THE TIED CARD OF 'visitingcardlaw.FoldLines'. -/
def foldLinesCard : Claim7 := { stood := { row := foldLinesRow, standIns := [], harness := (true, "df72582538e4b5ee9fc23150d0ee709ff98e301dc3423695ce999d3b3dd4ad59"), looks := true }, kinds := [], alts := [], laidByText := true, laidKinds := [.handle], laidTests := true, laidLooks := .later }
def FoldLinesCardSaid : Prop := Claim7.holds Tryd.pinned (.plain (OpenSpec.ofChange foldLinesSpec)) foldLinesCard

/-- THE TIED CARD OF 'visitingcardlaw.UriRights'. -/
def uriRightsCard : Claim7 := { stood := { row := uriRightsRow, standIns := [], harness := (true, "df72582538e4b5ee9fc23150d0ee709ff98e301dc3423695ce999d3b3dd4ad59"), looks := true }, kinds := [], alts := [], laidByText := true, laidKinds := [.data, .handle, .pinned, .pinned], laidTests := true, laidLooks := .later }
def UriRightsCardSaid : Prop := Claim7.holds Tryd.pinned (.plain (OpenSpec.ofChange uriRightsSpec)) uriRightsCard

/-- THE TIED CARD OF 'visitingcardlaw.FoldFolds'. -/
def foldFoldsCard : Claim7 := { stood := { row := foldFoldsRow, standIns := [], harness := (true, "df72582538e4b5ee9fc23150d0ee709ff98e301dc3423695ce999d3b3dd4ad59"), looks := true }, kinds := [], alts := [], laidByText := true, laidKinds := [.data, .handle, .pinned], laidTests := true, laidLooks := .later }
def FoldFoldsCardSaid : Prop := Claim7.holds Tryd.pinned (.plain (OpenSpec.ofChange foldFoldsSpec)) foldFoldsCard

/-- THE TIED CARD OF 'visitingcardlaw.WhenPrints'. -/
def whenPrintsCard : Claim7 := { stood := { row := whenPrintsRow, standIns := [], harness := (true, "df72582538e4b5ee9fc23150d0ee709ff98e301dc3423695ce999d3b3dd4ad59"), looks := true }, kinds := [], alts := [], laidByText := true, laidKinds := [.data, .data, .data, .handle, .widerDeep], laidTests := true, laidLooks := .later }
def WhenPrintsCardSaid : Prop := Claim7.holds Tryd.pinned (.plain (OpenSpec.ofChange whenPrintsSpec)) whenPrintsCard

/-- THE SECOND FORM's CARD OF 'visitingcardlaw.UtfNext'. -/
def utfNextUptoCard : Claim7 := { stood := { row := utfNextUptoRow, standIns := [], harness := (true, "df72582538e4b5ee9fc23150d0ee709ff98e301dc3423695ce999d3b3dd4ad59"), looks := true }, kinds := [], alts := [], laidByText := true, laidKinds := [.data, .pinned], laidTests := true, laidLooks := .later }
def UtfNextUptoCardSaid : Prop := Claim7.holds Tryd.pinned (.plain (OpenSpec.upto utfNextSpec)) utfNextUptoCard

/-- THE SECOND FORM's CARD OF 'visitingcardlaw.UtfCuts'. -/
def utfCutsUptoCard : Claim7 := { stood := { row := utfCutsUptoRow, standIns := [], harness := (true, "df72582538e4b5ee9fc23150d0ee709ff98e301dc3423695ce999d3b3dd4ad59"), looks := true }, kinds := [], alts := [], laidByText := true, laidKinds := [.data, .pinned], laidTests := true, laidLooks := .later }
def UtfCutsUptoCardSaid : Prop := Claim7.holds Tryd.pinned (.plain (OpenSpec.upto utfCutsSpec)) utfCutsUptoCard

/-- THE SECOND FORM's CARD OF 'visitingcardlaw.UtfPoints'. -/
def utfPointsUptoCard : Claim7 := { stood := { row := utfPointsUptoRow, standIns := [], harness := (true, "df72582538e4b5ee9fc23150d0ee709ff98e301dc3423695ce999d3b3dd4ad59"), looks := true }, kinds := [], alts := [], laidByText := true, laidKinds := [.data, .handle, .pinned], laidTests := true, laidLooks := .later }
def UtfPointsUptoCardSaid : Prop := Claim7.holds Tryd.pinned (.plain (OpenSpec.upto utfPointsSpec)) utfPointsUptoCard

/-- THE SECOND FORM's CARD OF 'visitingcardlaw.NameTurns'. -/
def nameTurnsUptoCard : Claim7 := { stood := { row := nameTurnsUptoRow, standIns := [], harness := (true, "df72582538e4b5ee9fc23150d0ee709ff98e301dc3423695ce999d3b3dd4ad59"), looks := true }, kinds := [], alts := [], laidByText := true, laidKinds := [.data, .pinned, .pinned], laidTests := true, laidLooks := .later }
def NameTurnsUptoCardSaid : Prop := Claim7.holds Tryd.pinned (.plain (OpenSpec.upto nameTurnsSpec)) nameTurnsUptoCard

/-- THE SECOND FORM's CARD OF 'visitingcardlaw.FoldLines'. -/
def foldLinesUptoCard : Claim7 := { stood := { row := foldLinesUptoRow, standIns := [], harness := (true, "df72582538e4b5ee9fc23150d0ee709ff98e301dc3423695ce999d3b3dd4ad59"), looks := true }, kinds := [], alts := [], laidByText := true, laidKinds := [.handle], laidTests := true, laidLooks := .later }
def FoldLinesUptoCardSaid : Prop := Claim7.holds Tryd.pinned (.plain (OpenSpec.upto foldLinesSpec)) foldLinesUptoCard

/-- THE SECOND FORM's CARD OF 'visitingcardlaw.UriRights'. -/
def uriRightsUptoCard : Claim7 := { stood := { row := uriRightsUptoRow, standIns := [], harness := (true, "df72582538e4b5ee9fc23150d0ee709ff98e301dc3423695ce999d3b3dd4ad59"), looks := true }, kinds := [], alts := [], laidByText := true, laidKinds := [.data, .handle, .pinned, .pinned], laidTests := true, laidLooks := .later }
def UriRightsUptoCardSaid : Prop := Claim7.holds Tryd.pinned (.plain (OpenSpec.upto uriRightsSpec)) uriRightsUptoCard

/-- THE SECOND FORM's CARD OF 'visitingcardlaw.FoldFolds'. -/
def foldFoldsUptoCard : Claim7 := { stood := { row := foldFoldsUptoRow, standIns := [], harness := (true, "df72582538e4b5ee9fc23150d0ee709ff98e301dc3423695ce999d3b3dd4ad59"), looks := true }, kinds := [], alts := [], laidByText := true, laidKinds := [.data, .handle, .pinned], laidTests := true, laidLooks := .later }
def FoldFoldsUptoCardSaid : Prop := Claim7.holds Tryd.pinned (.plain (OpenSpec.upto foldFoldsSpec)) foldFoldsUptoCard

/-- THE SECOND FORM's CARD OF 'visitingcardlaw.WhenPrints'. -/
def whenPrintsUptoCard : Claim7 := { stood := { row := whenPrintsUptoRow, standIns := [], harness := (true, "df72582538e4b5ee9fc23150d0ee709ff98e301dc3423695ce999d3b3dd4ad59"), looks := true }, kinds := [], alts := [], laidByText := true, laidKinds := [.data, .data, .data, .handle, .widerDeep], laidTests := true, laidLooks := .later }
def WhenPrintsUptoCardSaid : Prop := Claim7.holds Tryd.pinned (.plain (OpenSpec.upto whenPrintsSpec)) whenPrintsUptoCard
end Rows
end Go.Proofs.YtfpfjchapjelaaaDoor
