/-
  DERIVED. GIVEN WITH THE SEED: THE CARDS: each row of YtpdngikdpepekaaDoorRows.lean that lists a variable, with what it lists TIED to the program's text (the seventh form; the later family's looks); each row that meets fmt, with fmt's text TOLD by the authors' own Lean function (tested against real Go, not proved from fmt's source: count such statements apart). THE CARD IS WHAT COUNTS. Prove the row's statement (the work); the ties are given (YtpdngikdpepekaaDoorTie.lean); close each card by the builder's one call (the guide's Derived/Test/ToyasCard.lean, 'card_holds'). Laid BY PROGRAM, IN A SANDBOX (cutbox-door.mjs). By AI agents, Wed Nov 11 2026. No macro, syntax, notation, axiom, sorry.
-/
import Derived.Test.YtpdngikdpepekaaDoorRows
import GoSem.ClaimSeven
namespace Go.Proofs.YtpdngikdpepekaaDoor
namespace Rows

/-- THE TIED CARD OF 'switchyardlaw.LacpWrites'. -/
def lacpWritesCard : Claim7 := { stood := { row := lacpWritesRow, standIns := [], harness := (true, "969f8d7711b91fd1f1b46509d7f3bafac1d11ba645b02ecdcbea96476fdf2712"), looks := true }, kinds := [], alts := [], laidByText := true, laidKinds := [.handle], laidTests := true, laidLooks := .later }
def LacpWritesCardSaid : Prop := Claim7.holds Tryd.pinned (.plain (OpenSpec.ofChange lacpWritesSpec)) lacpWritesCard

/-- THE TIED CARD OF 'switchyardlaw.MarkerWrites'. -/
def markerWritesCard : Claim7 := { stood := { row := markerWritesRow, standIns := [], harness := (true, "969f8d7711b91fd1f1b46509d7f3bafac1d11ba645b02ecdcbea96476fdf2712"), looks := true }, kinds := [], alts := [], laidByText := true, laidKinds := [.handle], laidTests := true, laidLooks := .later }
def MarkerWritesCardSaid : Prop := Claim7.holds Tryd.pinned (.plain (OpenSpec.ofChange markerWritesSpec)) markerWritesCard

/-- THE TIED CARD OF 'switchyardlaw.FrameWrites'. -/
def frameWritesCard : Claim7 := { stood := { row := frameWritesRow, standIns := [], harness := (true, "969f8d7711b91fd1f1b46509d7f3bafac1d11ba645b02ecdcbea96476fdf2712"), looks := true }, kinds := [], alts := [], laidByText := true, laidKinds := [.handle], laidTests := true, laidLooks := .later }
def FrameWritesCardSaid : Prop := Claim7.holds Tryd.pinned (.plain (OpenSpec.ofChange frameWritesSpec)) frameWritesCard

/-- THE TIED CARD OF 'switchyardlaw.MstpWrites'. -/
def mstpWritesCard : Claim7 := { stood := { row := mstpWritesRow, standIns := [], harness := (true, "969f8d7711b91fd1f1b46509d7f3bafac1d11ba645b02ecdcbea96476fdf2712"), looks := true }, kinds := [], alts := [], laidByText := true, laidKinds := [.handle], laidTests := true, laidLooks := .later }
def MstpWritesCardSaid : Prop := Claim7.holds Tryd.pinned (.plain (OpenSpec.ofChange mstpWritesSpec)) mstpWritesCard

/-- THE TIED CARD OF 'switchyardlaw.WirePuts'. -/
def wirePutsCard : Claim7 := { stood := { row := wirePutsRow, standIns := [], harness := (true, "969f8d7711b91fd1f1b46509d7f3bafac1d11ba645b02ecdcbea96476fdf2712"), looks := true }, kinds := [], alts := [], laidByText := true, laidKinds := [.data, .handle, .pinned], laidTests := true, laidLooks := .later }
def WirePutsCardSaid : Prop := Claim7.holds Tryd.pinned (.plain (OpenSpec.ofChange wirePutsSpec)) wirePutsCard

/-- THE SECOND FORM's CARD OF 'switchyardlaw.LacpWrites'. -/
def lacpWritesUptoCard : Claim7 := { stood := { row := lacpWritesUptoRow, standIns := [], harness := (true, "969f8d7711b91fd1f1b46509d7f3bafac1d11ba645b02ecdcbea96476fdf2712"), looks := true }, kinds := [], alts := [], laidByText := true, laidKinds := [.handle], laidTests := true, laidLooks := .later }
def LacpWritesUptoCardSaid : Prop := Claim7.holds Tryd.pinned (.plain (OpenSpec.upto lacpWritesSpec)) lacpWritesUptoCard

/-- THE SECOND FORM's CARD OF 'switchyardlaw.MarkerWrites'. -/
def markerWritesUptoCard : Claim7 := { stood := { row := markerWritesUptoRow, standIns := [], harness := (true, "969f8d7711b91fd1f1b46509d7f3bafac1d11ba645b02ecdcbea96476fdf2712"), looks := true }, kinds := [], alts := [], laidByText := true, laidKinds := [.handle], laidTests := true, laidLooks := .later }
def MarkerWritesUptoCardSaid : Prop := Claim7.holds Tryd.pinned (.plain (OpenSpec.upto markerWritesSpec)) markerWritesUptoCard

/-- THE SECOND FORM's CARD OF 'switchyardlaw.FrameWrites'. -/
def frameWritesUptoCard : Claim7 := { stood := { row := frameWritesUptoRow, standIns := [], harness := (true, "969f8d7711b91fd1f1b46509d7f3bafac1d11ba645b02ecdcbea96476fdf2712"), looks := true }, kinds := [], alts := [], laidByText := true, laidKinds := [.handle], laidTests := true, laidLooks := .later }
def FrameWritesUptoCardSaid : Prop := Claim7.holds Tryd.pinned (.plain (OpenSpec.upto frameWritesSpec)) frameWritesUptoCard

/-- THE SECOND FORM's CARD OF 'switchyardlaw.MstpWrites'. -/
def mstpWritesUptoCard : Claim7 := { stood := { row := mstpWritesUptoRow, standIns := [], harness := (true, "969f8d7711b91fd1f1b46509d7f3bafac1d11ba645b02ecdcbea96476fdf2712"), looks := true }, kinds := [], alts := [], laidByText := true, laidKinds := [.handle], laidTests := true, laidLooks := .later }
def MstpWritesUptoCardSaid : Prop := Claim7.holds Tryd.pinned (.plain (OpenSpec.upto mstpWritesSpec)) mstpWritesUptoCard

/-- THE SECOND FORM's CARD OF 'switchyardlaw.WirePuts'. -/
def wirePutsUptoCard : Claim7 := { stood := { row := wirePutsUptoRow, standIns := [], harness := (true, "969f8d7711b91fd1f1b46509d7f3bafac1d11ba645b02ecdcbea96476fdf2712"), looks := true }, kinds := [], alts := [], laidByText := true, laidKinds := [.data, .handle, .pinned], laidTests := true, laidLooks := .later }
def WirePutsUptoCardSaid : Prop := Claim7.holds Tryd.pinned (.plain (OpenSpec.upto wirePutsSpec)) wirePutsUptoCard
end Rows
end Go.Proofs.YtpdngikdpepekaaDoor
