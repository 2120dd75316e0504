/-
  DERIVED. GIVEN WITH THE SEED: THE CARDS: each row of YtedfohdgigbhiaaDoorRows.lean that lists a variable, with what it lists TIED to the program's text (the seventh form; the later family's looks); each row that meets fmt, with fmt's text TOLD by the authors' own Lean function (tested against real Go, not proved from fmt's source: count such statements apart). THE CARD IS WHAT COUNTS. Prove the row's statement (the work); the ties are given (YtedfohdgigbhiaaDoorTie.lean); close each card by the builder's one call (the guide's Derived/Test/ToyasCard.lean, 'card_holds'). Laid BY PROGRAM, IN A SANDBOX (cutbox-door.mjs). By AI agents, Wed Nov 11 2026. No macro, syntax, notation, axiom, sorry.
-/
import Derived.Test.YtedfohdgigbhiaaDoorRows
import GoSem.ClaimSeven
namespace Go.Proofs.YtedfohdgigbhiaaDoor
namespace Rows

/-- THE TIED CARD OF 'switchyardlaw.TreeSolves'. -/
def treeSolvesCard : Claim7 := { stood := { row := treeSolvesRow, standIns := [], harness := (true, "31e50bf90624d4bab67917e031a2c1c4b1208e73a0d98953b88aeed802c5f893"), looks := true }, kinds := [], alts := [], laidByText := true, laidKinds := [.handle], laidTests := true, laidLooks := .later }
def TreeSolvesCardSaid : Prop := Claim7.holds Tryd.pinned (.plain (OpenSpec.ofChange treeSolvesSpec)) treeSolvesCard

/-- THE TIED CARD OF 'switchyardlaw.TreeRoles'. -/
def treeRolesCard : Claim7 := { stood := { row := treeRolesRow, standIns := [], harness := (true, "31e50bf90624d4bab67917e031a2c1c4b1208e73a0d98953b88aeed802c5f893"), looks := true }, kinds := [], alts := [], laidByText := true, laidKinds := [.handle], laidTests := true, laidLooks := .later }
def TreeRolesCardSaid : Prop := Claim7.holds Tryd.pinned (.plain (OpenSpec.ofChange treeRolesSpec)) treeRolesCard

/-- THE TIED CARD OF 'switchyardlaw.TalkGoes'. -/
def talkGoesCard : Claim7 := { stood := { row := talkGoesRow, standIns := [], harness := (true, "31e50bf90624d4bab67917e031a2c1c4b1208e73a0d98953b88aeed802c5f893"), looks := true }, kinds := [], alts := [], laidByText := true, laidKinds := [.handle], laidTests := true, laidLooks := .later }
def TalkGoesCardSaid : Prop := Claim7.holds Tryd.pinned (.plain (OpenSpec.ofChange talkGoesSpec)) talkGoesCard

/-- THE TIED CARD OF 'switchyardlaw.LearnKeeps'. -/
def learnKeepsCard : Claim7 := { stood := { row := learnKeepsRow, standIns := [], harness := (true, "31e50bf90624d4bab67917e031a2c1c4b1208e73a0d98953b88aeed802c5f893"), looks := true }, kinds := [], alts := [], laidByText := true, laidKinds := [.handle], laidTests := true, laidLooks := .later }
def LearnKeepsCardSaid : Prop := Claim7.holds Tryd.pinned (.plain (OpenSpec.ofChange learnKeepsSpec)) learnKeepsCard

/-- THE TIED CARD OF 'switchyardlaw.MvrpPacks'. -/
def mvrpPacksCard : Claim7 := { stood := { row := mvrpPacksRow, standIns := [], harness := (true, "31e50bf90624d4bab67917e031a2c1c4b1208e73a0d98953b88aeed802c5f893"), looks := true }, kinds := [], alts := [], laidByText := true, laidKinds := [.handle], laidTests := true, laidLooks := .later }
def MvrpPacksCardSaid : Prop := Claim7.holds Tryd.pinned (.plain (OpenSpec.ofChange mvrpPacksSpec)) mvrpPacksCard

/-- THE TIED CARD OF 'switchyardlaw.MvrpWrites'. -/
def mvrpWritesCard : Claim7 := { stood := { row := mvrpWritesRow, standIns := [], harness := (true, "31e50bf90624d4bab67917e031a2c1c4b1208e73a0d98953b88aeed802c5f893"), looks := true }, kinds := [], alts := [], laidByText := true, laidKinds := [.handle], laidTests := true, laidLooks := .later }
def MvrpWritesCardSaid : Prop := Claim7.holds Tryd.pinned (.plain (OpenSpec.ofChange mvrpWritesSpec)) mvrpWritesCard

/-- THE TIED CARD OF 'switchyardlaw.LldpReads'. -/
def lldpReadsCard : Claim7 := { stood := { row := lldpReadsRow, standIns := [], harness := (true, "31e50bf90624d4bab67917e031a2c1c4b1208e73a0d98953b88aeed802c5f893"), looks := true }, kinds := [], alts := [], laidByText := true, laidKinds := [.handle], laidTests := true, laidLooks := .later }
def LldpReadsCardSaid : Prop := Claim7.holds Tryd.pinned (.plain (OpenSpec.ofChange lldpReadsSpec)) lldpReadsCard

/-- THE SECOND FORM's CARD OF 'switchyardlaw.TreeSolves'. -/
def treeSolvesUptoCard : Claim7 := { stood := { row := treeSolvesUptoRow, standIns := [], harness := (true, "31e50bf90624d4bab67917e031a2c1c4b1208e73a0d98953b88aeed802c5f893"), looks := true }, kinds := [], alts := [], laidByText := true, laidKinds := [.handle], laidTests := true, laidLooks := .later }
def TreeSolvesUptoCardSaid : Prop := Claim7.holds Tryd.pinned (.plain (OpenSpec.upto treeSolvesSpec)) treeSolvesUptoCard

/-- THE SECOND FORM's CARD OF 'switchyardlaw.TreeRoles'. -/
def treeRolesUptoCard : Claim7 := { stood := { row := treeRolesUptoRow, standIns := [], harness := (true, "31e50bf90624d4bab67917e031a2c1c4b1208e73a0d98953b88aeed802c5f893"), looks := true }, kinds := [], alts := [], laidByText := true, laidKinds := [.handle], laidTests := true, laidLooks := .later }
def TreeRolesUptoCardSaid : Prop := Claim7.holds Tryd.pinned (.plain (OpenSpec.upto treeRolesSpec)) treeRolesUptoCard

/-- THE SECOND FORM's CARD OF 'switchyardlaw.TalkGoes'. -/
def talkGoesUptoCard : Claim7 := { stood := { row := talkGoesUptoRow, standIns := [], harness := (true, "31e50bf90624d4bab67917e031a2c1c4b1208e73a0d98953b88aeed802c5f893"), looks := true }, kinds := [], alts := [], laidByText := true, laidKinds := [.handle], laidTests := true, laidLooks := .later }
def TalkGoesUptoCardSaid : Prop := Claim7.holds Tryd.pinned (.plain (OpenSpec.upto talkGoesSpec)) talkGoesUptoCard

/-- THE SECOND FORM's CARD OF 'switchyardlaw.LearnKeeps'. -/
def learnKeepsUptoCard : Claim7 := { stood := { row := learnKeepsUptoRow, standIns := [], harness := (true, "31e50bf90624d4bab67917e031a2c1c4b1208e73a0d98953b88aeed802c5f893"), looks := true }, kinds := [], alts := [], laidByText := true, laidKinds := [.handle], laidTests := true, laidLooks := .later }
def LearnKeepsUptoCardSaid : Prop := Claim7.holds Tryd.pinned (.plain (OpenSpec.upto learnKeepsSpec)) learnKeepsUptoCard

/-- THE SECOND FORM's CARD OF 'switchyardlaw.MvrpPacks'. -/
def mvrpPacksUptoCard : Claim7 := { stood := { row := mvrpPacksUptoRow, standIns := [], harness := (true, "31e50bf90624d4bab67917e031a2c1c4b1208e73a0d98953b88aeed802c5f893"), looks := true }, kinds := [], alts := [], laidByText := true, laidKinds := [.handle], laidTests := true, laidLooks := .later }
def MvrpPacksUptoCardSaid : Prop := Claim7.holds Tryd.pinned (.plain (OpenSpec.upto mvrpPacksSpec)) mvrpPacksUptoCard

/-- THE SECOND FORM's CARD OF 'switchyardlaw.MvrpWrites'. -/
def mvrpWritesUptoCard : Claim7 := { stood := { row := mvrpWritesUptoRow, standIns := [], harness := (true, "31e50bf90624d4bab67917e031a2c1c4b1208e73a0d98953b88aeed802c5f893"), looks := true }, kinds := [], alts := [], laidByText := true, laidKinds := [.handle], laidTests := true, laidLooks := .later }
def MvrpWritesUptoCardSaid : Prop := Claim7.holds Tryd.pinned (.plain (OpenSpec.upto mvrpWritesSpec)) mvrpWritesUptoCard

/-- THE SECOND FORM's CARD OF 'switchyardlaw.LldpReads'. -/
def lldpReadsUptoCard : Claim7 := { stood := { row := lldpReadsUptoRow, standIns := [], harness := (true, "31e50bf90624d4bab67917e031a2c1c4b1208e73a0d98953b88aeed802c5f893"), looks := true }, kinds := [], alts := [], laidByText := true, laidKinds := [.handle], laidTests := true, laidLooks := .later }
def LldpReadsUptoCardSaid : Prop := Claim7.holds Tryd.pinned (.plain (OpenSpec.upto lldpReadsSpec)) lldpReadsUptoCard
end Rows
end Go.Proofs.YtedfohdgigbhiaaDoor
