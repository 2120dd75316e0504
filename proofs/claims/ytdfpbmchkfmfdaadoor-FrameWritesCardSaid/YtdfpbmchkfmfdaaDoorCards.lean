/-
  DERIVED. GIVEN WITH THE SEED: THE CARDS: each row of YtdfpbmchkfmfdaaDoorRows.lean that lists a variable, with what it lists TIED to the program's text (the seventh form; the later family's looks); each row that meets fmt, with fmt's text TOLD by the authors' own Lean function (tested against real Go, not proved from fmt's source: count such statements apart). THE CARD IS WHAT COUNTS. Prove the row's statement (the work); the ties are given (YtdfpbmchkfmfdaaDoorTie.lean); close each card by the builder's one call (the guide's Derived/Test/ToyasCard.lean, 'card_holds'). Laid BY PROGRAM, IN A SANDBOX (cutbox-door.mjs). By AI agents, Wed Nov 11 2026. No macro, syntax, notation, axiom, sorry.
-/
import Derived.Test.YtdfpbmchkfmfdaaDoorRows
import GoSem.ClaimSeven
namespace Go.Proofs.YtdfpbmchkfmfdaaDoor
namespace Rows

/-- THE TIED CARD OF 'switchyardlaw.TreeChecks'. -/
def treeChecksCard : Claim7 := { stood := { row := treeChecksRow, standIns := [], harness := (true, "2b89c8bce08d568fcfa92c5c22064a7aa85b0018f492f940b495737189a5b286"), looks := true }, kinds := [], alts := [], laidByText := true, laidKinds := [.handle], laidTests := true, laidLooks := .later }
def TreeChecksCardSaid : Prop := Claim7.holds Tryd.pinned (.plain (OpenSpec.ofChange treeChecksSpec)) treeChecksCard

/-- THE TIED CARD OF 'switchyardlaw.TreeSolves'. -/
def treeSolvesCard : Claim7 := { stood := { row := treeSolvesRow, standIns := [], harness := (true, "2b89c8bce08d568fcfa92c5c22064a7aa85b0018f492f940b495737189a5b286"), looks := true }, kinds := [], alts := [], laidByText := true, laidKinds := [.handle], laidTests := true, laidLooks := .later }
def TreeSolvesCardSaid : Prop := Claim7.holds Tryd.pinned (.plain (OpenSpec.ofChange treeSolvesSpec)) treeSolvesCard

/-- THE TIED CARD OF 'switchyardlaw.TreeRoles'. -/
def treeRolesCard : Claim7 := { stood := { row := treeRolesRow, standIns := [], harness := (true, "2b89c8bce08d568fcfa92c5c22064a7aa85b0018f492f940b495737189a5b286"), looks := true }, kinds := [], alts := [], laidByText := true, laidKinds := [.handle], laidTests := true, laidLooks := .later }
def TreeRolesCardSaid : Prop := Claim7.holds Tryd.pinned (.plain (OpenSpec.ofChange treeRolesSpec)) treeRolesCard

/-- THE TIED CARD OF 'switchyardlaw.TalkGoes'. -/
def talkGoesCard : Claim7 := { stood := { row := talkGoesRow, standIns := [], harness := (true, "2b89c8bce08d568fcfa92c5c22064a7aa85b0018f492f940b495737189a5b286"), looks := true }, kinds := [], alts := [], laidByText := true, laidKinds := [.handle], laidTests := true, laidLooks := .later }
def TalkGoesCardSaid : Prop := Claim7.holds Tryd.pinned (.plain (OpenSpec.ofChange talkGoesSpec)) talkGoesCard

/-- THE TIED CARD OF 'switchyardlaw.MarkerWrites'. -/
def markerWritesCard : Claim7 := { stood := { row := markerWritesRow, standIns := [], harness := (true, "2b89c8bce08d568fcfa92c5c22064a7aa85b0018f492f940b495737189a5b286"), looks := true }, kinds := [], alts := [], laidByText := true, laidKinds := [.handle], laidTests := true, laidLooks := .later }
def MarkerWritesCardSaid : Prop := Claim7.holds Tryd.pinned (.plain (OpenSpec.ofChange markerWritesSpec)) markerWritesCard

/-- THE TIED CARD OF 'switchyardlaw.FrameWrites'. -/
def frameWritesCard : Claim7 := { stood := { row := frameWritesRow, standIns := [], harness := (true, "2b89c8bce08d568fcfa92c5c22064a7aa85b0018f492f940b495737189a5b286"), looks := true }, kinds := [], alts := [], laidByText := true, laidKinds := [.handle], laidTests := true, laidLooks := .later }
def FrameWritesCardSaid : Prop := Claim7.holds Tryd.pinned (.plain (OpenSpec.ofChange frameWritesSpec)) frameWritesCard

/-- THE TIED CARD OF 'switchyardlaw.MstpWrites'. -/
def mstpWritesCard : Claim7 := { stood := { row := mstpWritesRow, standIns := [], harness := (true, "2b89c8bce08d568fcfa92c5c22064a7aa85b0018f492f940b495737189a5b286"), looks := true }, kinds := [], alts := [], laidByText := true, laidKinds := [.handle], laidTests := true, laidLooks := .later }
def MstpWritesCardSaid : Prop := Claim7.holds Tryd.pinned (.plain (OpenSpec.ofChange mstpWritesSpec)) mstpWritesCard

/-- THE TIED CARD OF 'switchyardlaw.MacTexts'. -/
def macTextsCard : Claim7 := { stood := { row := macTextsRow, standIns := [], harness := (true, "2b89c8bce08d568fcfa92c5c22064a7aa85b0018f492f940b495737189a5b286"), looks := true }, kinds := [], alts := [], laidByText := true, laidKinds := [.data, .data, .data, .data, .handle, .pinned], laidTests := true, laidLooks := .later }
def MacTextsCardSaid : Prop := Claim7.holds Tryd.pinned (.plain (OpenSpec.ofChange macTextsSpec)) macTextsCard

/-- THE TIED CARD OF 'switchyardlaw.TagTexts'. -/
def tagTextsCard : Claim7 := { stood := { row := tagTextsRow, standIns := [], harness := (true, "2b89c8bce08d568fcfa92c5c22064a7aa85b0018f492f940b495737189a5b286"), looks := true }, kinds := [], alts := [], laidByText := true, laidKinds := [.data, .data, .data, .handle, .sentinel, .sentinel], laidTests := true, laidLooks := .later }
def TagTextsCardSaid : Prop := Claim7.holds Tryd.pinned (.plain (OpenSpec.ofChange tagTextsSpec)) tagTextsCard

/-- THE TIED CARD OF 'switchyardlaw.WireReads'. -/
def wireReadsCard : Claim7 := { stood := { row := wireReadsRow, standIns := [], harness := (true, "2b89c8bce08d568fcfa92c5c22064a7aa85b0018f492f940b495737189a5b286"), looks := true }, kinds := [], alts := [], laidByText := true, laidKinds := [.data, .data, .data, .handle], laidTests := true, laidLooks := .later }
def WireReadsCardSaid : Prop := Claim7.holds Tryd.pinned (.plain (OpenSpec.ofChange wireReadsSpec)) wireReadsCard

/-- THE TIED CARD OF 'switchyardlaw.LldpReads'. -/
def lldpReadsCard : Claim7 := { stood := { row := lldpReadsRow, standIns := [], harness := (true, "2b89c8bce08d568fcfa92c5c22064a7aa85b0018f492f940b495737189a5b286"), looks := true }, kinds := [], alts := [], laidByText := true, laidKinds := [.handle], laidTests := true, laidLooks := .later }
def LldpReadsCardSaid : Prop := Claim7.holds Tryd.pinned (.plain (OpenSpec.ofChange lldpReadsSpec)) lldpReadsCard

/-- THE SECOND FORM's CARD OF 'switchyardlaw.TreeChecks'. -/
def treeChecksUptoCard : Claim7 := { stood := { row := treeChecksUptoRow, standIns := [], harness := (true, "2b89c8bce08d568fcfa92c5c22064a7aa85b0018f492f940b495737189a5b286"), looks := true }, kinds := [], alts := [], laidByText := true, laidKinds := [.handle], laidTests := true, laidLooks := .later }
def TreeChecksUptoCardSaid : Prop := Claim7.holds Tryd.pinned (.plain (OpenSpec.upto treeChecksSpec)) treeChecksUptoCard

/-- THE SECOND FORM's CARD OF 'switchyardlaw.TreeSolves'. -/
def treeSolvesUptoCard : Claim7 := { stood := { row := treeSolvesUptoRow, standIns := [], harness := (true, "2b89c8bce08d568fcfa92c5c22064a7aa85b0018f492f940b495737189a5b286"), looks := true }, kinds := [], alts := [], laidByText := true, laidKinds := [.handle], laidTests := true, laidLooks := .later }
def TreeSolvesUptoCardSaid : Prop := Claim7.holds Tryd.pinned (.plain (OpenSpec.upto treeSolvesSpec)) treeSolvesUptoCard

/-- THE SECOND FORM's CARD OF 'switchyardlaw.TreeRoles'. -/
def treeRolesUptoCard : Claim7 := { stood := { row := treeRolesUptoRow, standIns := [], harness := (true, "2b89c8bce08d568fcfa92c5c22064a7aa85b0018f492f940b495737189a5b286"), looks := true }, kinds := [], alts := [], laidByText := true, laidKinds := [.handle], laidTests := true, laidLooks := .later }
def TreeRolesUptoCardSaid : Prop := Claim7.holds Tryd.pinned (.plain (OpenSpec.upto treeRolesSpec)) treeRolesUptoCard

/-- THE SECOND FORM's CARD OF 'switchyardlaw.TalkGoes'. -/
def talkGoesUptoCard : Claim7 := { stood := { row := talkGoesUptoRow, standIns := [], harness := (true, "2b89c8bce08d568fcfa92c5c22064a7aa85b0018f492f940b495737189a5b286"), looks := true }, kinds := [], alts := [], laidByText := true, laidKinds := [.handle], laidTests := true, laidLooks := .later }
def TalkGoesUptoCardSaid : Prop := Claim7.holds Tryd.pinned (.plain (OpenSpec.upto talkGoesSpec)) talkGoesUptoCard

/-- THE SECOND FORM's CARD OF 'switchyardlaw.MarkerWrites'. -/
def markerWritesUptoCard : Claim7 := { stood := { row := markerWritesUptoRow, standIns := [], harness := (true, "2b89c8bce08d568fcfa92c5c22064a7aa85b0018f492f940b495737189a5b286"), looks := true }, kinds := [], alts := [], laidByText := true, laidKinds := [.handle], laidTests := true, laidLooks := .later }
def MarkerWritesUptoCardSaid : Prop := Claim7.holds Tryd.pinned (.plain (OpenSpec.upto markerWritesSpec)) markerWritesUptoCard

/-- THE SECOND FORM's CARD OF 'switchyardlaw.FrameWrites'. -/
def frameWritesUptoCard : Claim7 := { stood := { row := frameWritesUptoRow, standIns := [], harness := (true, "2b89c8bce08d568fcfa92c5c22064a7aa85b0018f492f940b495737189a5b286"), looks := true }, kinds := [], alts := [], laidByText := true, laidKinds := [.handle], laidTests := true, laidLooks := .later }
def FrameWritesUptoCardSaid : Prop := Claim7.holds Tryd.pinned (.plain (OpenSpec.upto frameWritesSpec)) frameWritesUptoCard

/-- THE SECOND FORM's CARD OF 'switchyardlaw.MstpWrites'. -/
def mstpWritesUptoCard : Claim7 := { stood := { row := mstpWritesUptoRow, standIns := [], harness := (true, "2b89c8bce08d568fcfa92c5c22064a7aa85b0018f492f940b495737189a5b286"), looks := true }, kinds := [], alts := [], laidByText := true, laidKinds := [.handle], laidTests := true, laidLooks := .later }
def MstpWritesUptoCardSaid : Prop := Claim7.holds Tryd.pinned (.plain (OpenSpec.upto mstpWritesSpec)) mstpWritesUptoCard

/-- THE SECOND FORM's CARD OF 'switchyardlaw.MacTexts'. -/
def macTextsUptoCard : Claim7 := { stood := { row := macTextsUptoRow, standIns := [], harness := (true, "2b89c8bce08d568fcfa92c5c22064a7aa85b0018f492f940b495737189a5b286"), looks := true }, kinds := [], alts := [], laidByText := true, laidKinds := [.data, .data, .data, .data, .handle, .pinned], laidTests := true, laidLooks := .later }
def MacTextsUptoCardSaid : Prop := Claim7.holds Tryd.pinned (.plain (OpenSpec.upto macTextsSpec)) macTextsUptoCard

/-- THE SECOND FORM's CARD OF 'switchyardlaw.TagTexts'. -/
def tagTextsUptoCard : Claim7 := { stood := { row := tagTextsUptoRow, standIns := [], harness := (true, "2b89c8bce08d568fcfa92c5c22064a7aa85b0018f492f940b495737189a5b286"), looks := true }, kinds := [], alts := [], laidByText := true, laidKinds := [.data, .data, .data, .handle, .sentinel, .sentinel], laidTests := true, laidLooks := .later }
def TagTextsUptoCardSaid : Prop := Claim7.holds Tryd.pinned (.plain (OpenSpec.upto tagTextsSpec)) tagTextsUptoCard

/-- THE SECOND FORM's CARD OF 'switchyardlaw.WireReads'. -/
def wireReadsUptoCard : Claim7 := { stood := { row := wireReadsUptoRow, standIns := [], harness := (true, "2b89c8bce08d568fcfa92c5c22064a7aa85b0018f492f940b495737189a5b286"), looks := true }, kinds := [], alts := [], laidByText := true, laidKinds := [.data, .data, .data, .handle], laidTests := true, laidLooks := .later }
def WireReadsUptoCardSaid : Prop := Claim7.holds Tryd.pinned (.plain (OpenSpec.upto wireReadsSpec)) wireReadsUptoCard

/-- THE SECOND FORM's CARD OF 'switchyardlaw.LldpReads'. -/
def lldpReadsUptoCard : Claim7 := { stood := { row := lldpReadsUptoRow, standIns := [], harness := (true, "2b89c8bce08d568fcfa92c5c22064a7aa85b0018f492f940b495737189a5b286"), looks := true }, kinds := [], alts := [], laidByText := true, laidKinds := [.handle], laidTests := true, laidLooks := .later }
def LldpReadsUptoCardSaid : Prop := Claim7.holds Tryd.pinned (.plain (OpenSpec.upto lldpReadsSpec)) lldpReadsUptoCard
end Rows
end Go.Proofs.YtdfpbmchkfmfdaaDoor
