/-
  DERIVED. GIVEN WITH THE SEED: THE CARDS: each row of YtlmihggafbmkaaaDoorRows.lean that lists a variable, with what it lists TIED to the program's text (the seventh form; the later family's looks); each row that meets fmt, with fmt's text TOLD by the authors' own Lean function (tested against real Go, not proved from fmt's source: count such statements apart). THE CARD IS WHAT COUNTS. Prove the row's statement (the work); the ties are given (YtlmihggafbmkaaaDoorTie.lean); close each card by the builder's one call (the guide's Derived/Test/ToyasCard.lean, 'card_holds'). Laid BY PROGRAM, IN A SANDBOX (cutbox-door.mjs). By AI agents, Wed Nov 11 2026. No macro, syntax, notation, axiom, sorry.
-/
import Derived.Test.YtlmihggafbmkaaaDoorRows
import GoSem.ClaimSeven
namespace Go.Proofs.YtlmihggafbmkaaaDoor
namespace Rows

/-- THE TIED CARD OF 'visitingcardlaw.NameTurns'. -/
def nameTurnsCard : Claim7 := { stood := { row := nameTurnsRow, standIns := [], harness := (true, "1f7e5110b112ae0d63ac031286f6997f03af2fc6befdbf76b4262546285c44e8"), looks := true }, kinds := [], alts := [], laidByText := true, laidKinds := [.data, .pinned, .pinned], laidTests := true, laidLooks := .later }
def NameTurnsCardSaid : Prop := Claim7.holds Tryd.pinned (.plain (OpenSpec.ofChange nameTurnsSpec)) nameTurnsCard

/-- THE TIED CARD OF 'visitingcardlaw.FoldLines'. -/
def foldLinesCard : Claim7 := { stood := { row := foldLinesRow, standIns := [], harness := (true, "1f7e5110b112ae0d63ac031286f6997f03af2fc6befdbf76b4262546285c44e8"), looks := true }, kinds := [], alts := [], laidByText := true, laidKinds := [.handle], laidTests := true, laidLooks := .later }
def FoldLinesCardSaid : Prop := Claim7.holds Tryd.pinned (.plain (OpenSpec.ofChange foldLinesSpec)) foldLinesCard

/-- THE TIED CARD OF 'visitingcardlaw.UriRights'. -/
def uriRightsCard : Claim7 := { stood := { row := uriRightsRow, standIns := [], harness := (true, "1f7e5110b112ae0d63ac031286f6997f03af2fc6befdbf76b4262546285c44e8"), looks := true }, kinds := [], alts := [], laidByText := true, laidKinds := [.data, .handle, .pinned, .pinned], laidTests := true, laidLooks := .later }
def UriRightsCardSaid : Prop := Claim7.holds Tryd.pinned (.plain (OpenSpec.ofChange uriRightsSpec)) uriRightsCard

/-- THE TIED CARD OF 'visitingcardlaw.FoldFolds'. -/
def foldFoldsCard : Claim7 := { stood := { row := foldFoldsRow, standIns := [], harness := (true, "1f7e5110b112ae0d63ac031286f6997f03af2fc6befdbf76b4262546285c44e8"), looks := true }, kinds := [], alts := [], laidByText := true, laidKinds := [.data, .handle, .pinned], laidTests := true, laidLooks := .later }
def FoldFoldsCardSaid : Prop := Claim7.holds Tryd.pinned (.plain (OpenSpec.ofChange foldFoldsSpec)) foldFoldsCard

/-- THE TIED CARD OF 'visitingcardlaw.WhenPrints'. -/
def whenPrintsCard : Claim7 := { stood := { row := whenPrintsRow, standIns := [], harness := (true, "1f7e5110b112ae0d63ac031286f6997f03af2fc6befdbf76b4262546285c44e8"), looks := true }, kinds := [], alts := [], laidByText := true, laidKinds := [.data, .data, .data, .handle, .widerDeep], laidTests := true, laidLooks := .later }
def WhenPrintsCardSaid : Prop := Claim7.holds Tryd.pinned (.plain (OpenSpec.ofChange whenPrintsSpec)) whenPrintsCard

/-- THE TIED CARD OF 'visitingcardlaw.ZoneTurns'. -/
def zoneTurnsCard : Claim7 := { stood := { row := zoneTurnsRow, standIns := [], harness := (true, "1f7e5110b112ae0d63ac031286f6997f03af2fc6befdbf76b4262546285c44e8"), looks := true }, kinds := [], alts := [], laidByText := true, laidKinds := [.data, .data, .data, .handle, .sentinel, .sentinel], laidTests := true, laidLooks := .later }
def ZoneTurnsCardSaid : Prop := Claim7.holds Tryd.pinned (.plain (OpenSpec.ofChange zoneTurnsSpec)) zoneTurnsCard

/-- THE TIED CARD OF 'visitingcardlaw.LangCanons'. -/
def langCanonsCard : Claim7 := { stood := { row := langCanonsRow, standIns := [], harness := (true, "1f7e5110b112ae0d63ac031286f6997f03af2fc6befdbf76b4262546285c44e8"), looks := true }, kinds := [], alts := [], laidByText := true, laidKinds := [.data, .handle, .pinned, .pinned], laidTests := true, laidLooks := .later }
def LangCanonsCardSaid : Prop := Claim7.holds Tryd.pinned (.plain (OpenSpec.ofChange langCanonsSpec)) langCanonsCard

/-- THE TIED CARD OF 'visitingcardlaw.ConvertGeos'. -/
def convertGeosCard : Claim7 := { stood := { row := convertGeosRow, standIns := [], harness := (true, "1f7e5110b112ae0d63ac031286f6997f03af2fc6befdbf76b4262546285c44e8"), looks := true }, kinds := [], alts := [], laidByText := true, laidKinds := [.data, .data, .data, .data, .handle, .pinned], laidTests := true, laidLooks := .later }
def ConvertGeosCardSaid : Prop := Claim7.holds Tryd.pinned (.plain (OpenSpec.ofChange convertGeosSpec)) convertGeosCard

/-- THE TIED CARD OF 'visitingcardlaw.JsonWrites'. -/
def jsonWritesCard : Claim7 := { stood := { row := jsonWritesRow, standIns := [], harness := (true, "1f7e5110b112ae0d63ac031286f6997f03af2fc6befdbf76b4262546285c44e8"), looks := true }, kinds := [], alts := [], laidByText := true, laidKinds := [.data, .data, .data, .data, .handle, .pinned], laidTests := true, laidLooks := .later }
def JsonWritesCardSaid : Prop := Claim7.holds Tryd.pinned (.plain (OpenSpec.ofChange jsonWritesSpec)) jsonWritesCard

/-- THE SECOND FORM's CARD OF 'visitingcardlaw.NameTurns'. -/
def nameTurnsUptoCard : Claim7 := { stood := { row := nameTurnsUptoRow, standIns := [], harness := (true, "1f7e5110b112ae0d63ac031286f6997f03af2fc6befdbf76b4262546285c44e8"), looks := true }, kinds := [], alts := [], laidByText := true, laidKinds := [.data, .pinned, .pinned], laidTests := true, laidLooks := .later }
def NameTurnsUptoCardSaid : Prop := Claim7.holds Tryd.pinned (.plain (OpenSpec.upto nameTurnsSpec)) nameTurnsUptoCard

/-- THE SECOND FORM's CARD OF 'visitingcardlaw.FoldLines'. -/
def foldLinesUptoCard : Claim7 := { stood := { row := foldLinesUptoRow, standIns := [], harness := (true, "1f7e5110b112ae0d63ac031286f6997f03af2fc6befdbf76b4262546285c44e8"), looks := true }, kinds := [], alts := [], laidByText := true, laidKinds := [.handle], laidTests := true, laidLooks := .later }
def FoldLinesUptoCardSaid : Prop := Claim7.holds Tryd.pinned (.plain (OpenSpec.upto foldLinesSpec)) foldLinesUptoCard

/-- THE SECOND FORM's CARD OF 'visitingcardlaw.UriRights'. -/
def uriRightsUptoCard : Claim7 := { stood := { row := uriRightsUptoRow, standIns := [], harness := (true, "1f7e5110b112ae0d63ac031286f6997f03af2fc6befdbf76b4262546285c44e8"), looks := true }, kinds := [], alts := [], laidByText := true, laidKinds := [.data, .handle, .pinned, .pinned], laidTests := true, laidLooks := .later }
def UriRightsUptoCardSaid : Prop := Claim7.holds Tryd.pinned (.plain (OpenSpec.upto uriRightsSpec)) uriRightsUptoCard

/-- THE SECOND FORM's CARD OF 'visitingcardlaw.FoldFolds'. -/
def foldFoldsUptoCard : Claim7 := { stood := { row := foldFoldsUptoRow, standIns := [], harness := (true, "1f7e5110b112ae0d63ac031286f6997f03af2fc6befdbf76b4262546285c44e8"), looks := true }, kinds := [], alts := [], laidByText := true, laidKinds := [.data, .handle, .pinned], laidTests := true, laidLooks := .later }
def FoldFoldsUptoCardSaid : Prop := Claim7.holds Tryd.pinned (.plain (OpenSpec.upto foldFoldsSpec)) foldFoldsUptoCard

/-- THE SECOND FORM's CARD OF 'visitingcardlaw.WhenPrints'. -/
def whenPrintsUptoCard : Claim7 := { stood := { row := whenPrintsUptoRow, standIns := [], harness := (true, "1f7e5110b112ae0d63ac031286f6997f03af2fc6befdbf76b4262546285c44e8"), looks := true }, kinds := [], alts := [], laidByText := true, laidKinds := [.data, .data, .data, .handle, .widerDeep], laidTests := true, laidLooks := .later }
def WhenPrintsUptoCardSaid : Prop := Claim7.holds Tryd.pinned (.plain (OpenSpec.upto whenPrintsSpec)) whenPrintsUptoCard

/-- THE SECOND FORM's CARD OF 'visitingcardlaw.ZoneTurns'. -/
def zoneTurnsUptoCard : Claim7 := { stood := { row := zoneTurnsUptoRow, standIns := [], harness := (true, "1f7e5110b112ae0d63ac031286f6997f03af2fc6befdbf76b4262546285c44e8"), looks := true }, kinds := [], alts := [], laidByText := true, laidKinds := [.data, .data, .data, .handle, .sentinel, .sentinel], laidTests := true, laidLooks := .later }
def ZoneTurnsUptoCardSaid : Prop := Claim7.holds Tryd.pinned (.plain (OpenSpec.upto zoneTurnsSpec)) zoneTurnsUptoCard

/-- THE SECOND FORM's CARD OF 'visitingcardlaw.LangCanons'. -/
def langCanonsUptoCard : Claim7 := { stood := { row := langCanonsUptoRow, standIns := [], harness := (true, "1f7e5110b112ae0d63ac031286f6997f03af2fc6befdbf76b4262546285c44e8"), looks := true }, kinds := [], alts := [], laidByText := true, laidKinds := [.data, .handle, .pinned, .pinned], laidTests := true, laidLooks := .later }
def LangCanonsUptoCardSaid : Prop := Claim7.holds Tryd.pinned (.plain (OpenSpec.upto langCanonsSpec)) langCanonsUptoCard

/-- THE SECOND FORM's CARD OF 'visitingcardlaw.ConvertGeos'. -/
def convertGeosUptoCard : Claim7 := { stood := { row := convertGeosUptoRow, standIns := [], harness := (true, "1f7e5110b112ae0d63ac031286f6997f03af2fc6befdbf76b4262546285c44e8"), looks := true }, kinds := [], alts := [], laidByText := true, laidKinds := [.data, .data, .data, .data, .handle, .pinned], laidTests := true, laidLooks := .later }
def ConvertGeosUptoCardSaid : Prop := Claim7.holds Tryd.pinned (.plain (OpenSpec.upto convertGeosSpec)) convertGeosUptoCard

/-- THE SECOND FORM's CARD OF 'visitingcardlaw.JsonWrites'. -/
def jsonWritesUptoCard : Claim7 := { stood := { row := jsonWritesUptoRow, standIns := [], harness := (true, "1f7e5110b112ae0d63ac031286f6997f03af2fc6befdbf76b4262546285c44e8"), looks := true }, kinds := [], alts := [], laidByText := true, laidKinds := [.data, .data, .data, .data, .handle, .pinned], laidTests := true, laidLooks := .later }
def JsonWritesUptoCardSaid : Prop := Claim7.holds Tryd.pinned (.plain (OpenSpec.upto jsonWritesSpec)) jsonWritesUptoCard
end Rows
end Go.Proofs.YtlmihggafbmkaaaDoor
