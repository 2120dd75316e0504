/-
  DERIVED. GIVEN WITH THE SEED: THE CARDS: each row of YtfianfpmnglfnaaDoorRows.lean that lists a variable, with what it lists TIED to the program's text (the seventh form; the later family's looks); each row that meets fmt, with fmt's text TOLD by the authors' own Lean function (tested against real Go, not proved from fmt's source: count such statements apart). THE CARD IS WHAT COUNTS. Prove the row's statement (the work); the ties are given (YtfianfpmnglfnaaDoorTie.lean); close each card by the builder's one call (the guide's Derived/Test/ToyasCard.lean, 'card_holds'). Laid BY PROGRAM, IN A SANDBOX (cutbox-door.mjs). By AI agents, Wed Nov 11 2026. No macro, syntax, notation, axiom, sorry.
-/
import Derived.Test.YtfianfpmnglfnaaDoorRows
import GoSem.ClaimSeven
namespace Go.Proofs.YtfianfpmnglfnaaDoor
namespace Rows

/-- THE TIED CARD OF 'switchyardlaw.LldpWrites'. -/
def lldpWritesCard : Claim7 := { stood := { row := lldpWritesRow, standIns := [], harness := (true, "e6a3f1a67bdb414b9378b4ea3fa967ee157d40c446af0ed68627730387f8c963"), looks := true }, kinds := [], alts := [], laidByText := true, laidKinds := [.handle], laidTests := true, laidLooks := .later }
def LldpWritesCardSaid : Prop := Claim7.holds Tryd.pinned (.plain (OpenSpec.ofChange lldpWritesSpec)) lldpWritesCard

/-- THE TIED CARD OF 'switchyardlaw.LldpReads'. -/
def lldpReadsCard : Claim7 := { stood := { row := lldpReadsRow, standIns := [], harness := (true, "e6a3f1a67bdb414b9378b4ea3fa967ee157d40c446af0ed68627730387f8c963"), looks := true }, kinds := [], alts := [], laidByText := true, laidKinds := [.handle], laidTests := true, laidLooks := .later }
def LldpReadsCardSaid : Prop := Claim7.holds Tryd.pinned (.plain (OpenSpec.ofChange lldpReadsSpec)) lldpReadsCard

/-- THE TIED CARD OF 'switchyardlaw.MvrpReads'. -/
def mvrpReadsCard : Claim7 := { stood := { row := mvrpReadsRow, standIns := [], harness := (true, "e6a3f1a67bdb414b9378b4ea3fa967ee157d40c446af0ed68627730387f8c963"), looks := true }, kinds := [], alts := [], laidByText := true, laidKinds := [.handle], laidTests := true, laidLooks := .later }
def MvrpReadsCardSaid : Prop := Claim7.holds Tryd.pinned (.plain (OpenSpec.ofChange mvrpReadsSpec)) mvrpReadsCard

/-- THE TIED CARD OF 'switchyardlaw.LearnKeeps'. -/
def learnKeepsCard : Claim7 := { stood := { row := learnKeepsRow, standIns := [], harness := (true, "e6a3f1a67bdb414b9378b4ea3fa967ee157d40c446af0ed68627730387f8c963"), looks := true }, kinds := [], alts := [], laidByText := true, laidKinds := [.handle], laidTests := true, laidLooks := .later }
def LearnKeepsCardSaid : Prop := Claim7.holds Tryd.pinned (.plain (OpenSpec.ofChange learnKeepsSpec)) learnKeepsCard

/-- THE SECOND FORM's CARD OF 'switchyardlaw.LldpWrites'. -/
def lldpWritesUptoCard : Claim7 := { stood := { row := lldpWritesUptoRow, standIns := [], harness := (true, "e6a3f1a67bdb414b9378b4ea3fa967ee157d40c446af0ed68627730387f8c963"), looks := true }, kinds := [], alts := [], laidByText := true, laidKinds := [.handle], laidTests := true, laidLooks := .later }
def LldpWritesUptoCardSaid : Prop := Claim7.holds Tryd.pinned (.plain (OpenSpec.upto lldpWritesSpec)) lldpWritesUptoCard

/-- THE SECOND FORM's CARD OF 'switchyardlaw.LldpReads'. -/
def lldpReadsUptoCard : Claim7 := { stood := { row := lldpReadsUptoRow, standIns := [], harness := (true, "e6a3f1a67bdb414b9378b4ea3fa967ee157d40c446af0ed68627730387f8c963"), looks := true }, kinds := [], alts := [], laidByText := true, laidKinds := [.handle], laidTests := true, laidLooks := .later }
def LldpReadsUptoCardSaid : Prop := Claim7.holds Tryd.pinned (.plain (OpenSpec.upto lldpReadsSpec)) lldpReadsUptoCard

/-- THE SECOND FORM's CARD OF 'switchyardlaw.MvrpReads'. -/
def mvrpReadsUptoCard : Claim7 := { stood := { row := mvrpReadsUptoRow, standIns := [], harness := (true, "e6a3f1a67bdb414b9378b4ea3fa967ee157d40c446af0ed68627730387f8c963"), looks := true }, kinds := [], alts := [], laidByText := true, laidKinds := [.handle], laidTests := true, laidLooks := .later }
def MvrpReadsUptoCardSaid : Prop := Claim7.holds Tryd.pinned (.plain (OpenSpec.upto mvrpReadsSpec)) mvrpReadsUptoCard

/-- THE SECOND FORM's CARD OF 'switchyardlaw.LearnKeeps'. -/
def learnKeepsUptoCard : Claim7 := { stood := { row := learnKeepsUptoRow, standIns := [], harness := (true, "e6a3f1a67bdb414b9378b4ea3fa967ee157d40c446af0ed68627730387f8c963"), looks := true }, kinds := [], alts := [], laidByText := true, laidKinds := [.handle], laidTests := true, laidLooks := .later }
def LearnKeepsUptoCardSaid : Prop := Claim7.holds Tryd.pinned (.plain (OpenSpec.upto learnKeepsSpec)) learnKeepsUptoCard
end Rows
end Go.Proofs.YtfianfpmnglfnaaDoor
