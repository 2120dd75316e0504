/-
  DERIVED. GIVEN WITH THE SEED: THE CARDS: each row of YtmeoalpmicndbaaDoorRows.lean that lists a variable, with what it lists TIED to the program's text (the seventh form; the later family's looks); each row that meets fmt, with fmt's text TOLD by the authors' own Lean function (tested against real Go, not proved from fmt's source: count such statements apart). THE CARD IS WHAT COUNTS. Prove the row's statement (the work); the ties are given (YtmeoalpmicndbaaDoorTie.lean); close each card by the builder's one call (the guide's Derived/Test/ToyasCard.lean, 'card_holds'). Laid BY PROGRAM, IN A SANDBOX (cutbox-door.mjs). By AI agents, Wed Nov 11 2026. No macro, syntax, notation, axiom, sorry.
-/
import Derived.Test.YtmeoalpmicndbaaDoorRows
import GoSem.ClaimSeven
namespace Go.Proofs.YtmeoalpmicndbaaDoor
namespace Rows

/-- THE TIED CARD OF 'switchyardlaw.LldpWrites'. -/
def lldpWritesCard : Claim7 := { stood := { row := lldpWritesRow, standIns := [], harness := (true, "6fe43efa8b7ddd0fb1b9b2db7afb2ecab2cf60456aa829dbabad7343cad665d5"), looks := true }, kinds := [], alts := [], laidByText := true, laidKinds := [.handle], laidTests := true, laidLooks := .later }
def LldpWritesCardSaid : Prop := Claim7.holds Tryd.pinned (.plain (OpenSpec.ofChange lldpWritesSpec)) lldpWritesCard

/-- THE TIED CARD OF 'switchyardlaw.LldpReads'. -/
def lldpReadsCard : Claim7 := { stood := { row := lldpReadsRow, standIns := [], harness := (true, "6fe43efa8b7ddd0fb1b9b2db7afb2ecab2cf60456aa829dbabad7343cad665d5"), looks := true }, kinds := [], alts := [], laidByText := true, laidKinds := [.handle], laidTests := true, laidLooks := .later }
def LldpReadsCardSaid : Prop := Claim7.holds Tryd.pinned (.plain (OpenSpec.ofChange lldpReadsSpec)) lldpReadsCard

/-- THE TIED CARD OF 'switchyardlaw.MvrpWrites'. -/
def mvrpWritesCard : Claim7 := { stood := { row := mvrpWritesRow, standIns := [], harness := (true, "6fe43efa8b7ddd0fb1b9b2db7afb2ecab2cf60456aa829dbabad7343cad665d5"), looks := true }, kinds := [], alts := [], laidByText := true, laidKinds := [.handle], laidTests := true, laidLooks := .later }
def MvrpWritesCardSaid : Prop := Claim7.holds Tryd.pinned (.plain (OpenSpec.ofChange mvrpWritesSpec)) mvrpWritesCard

/-- THE TIED CARD OF 'switchyardlaw.MvrpReads'. -/
def mvrpReadsCard : Claim7 := { stood := { row := mvrpReadsRow, standIns := [], harness := (true, "6fe43efa8b7ddd0fb1b9b2db7afb2ecab2cf60456aa829dbabad7343cad665d5"), looks := true }, kinds := [], alts := [], laidByText := true, laidKinds := [.handle], laidTests := true, laidLooks := .later }
def MvrpReadsCardSaid : Prop := Claim7.holds Tryd.pinned (.plain (OpenSpec.ofChange mvrpReadsSpec)) mvrpReadsCard

/-- THE TIED CARD OF 'switchyardlaw.MvrpPacks'. -/
def mvrpPacksCard : Claim7 := { stood := { row := mvrpPacksRow, standIns := [], harness := (true, "6fe43efa8b7ddd0fb1b9b2db7afb2ecab2cf60456aa829dbabad7343cad665d5"), looks := true }, kinds := [], alts := [], laidByText := true, laidKinds := [.handle], laidTests := true, laidLooks := .later }
def MvrpPacksCardSaid : Prop := Claim7.holds Tryd.pinned (.plain (OpenSpec.ofChange mvrpPacksSpec)) mvrpPacksCard

/-- THE TIED CARD OF 'switchyardlaw.MstpWrites'. -/
def mstpWritesCard : Claim7 := { stood := { row := mstpWritesRow, standIns := [], harness := (true, "6fe43efa8b7ddd0fb1b9b2db7afb2ecab2cf60456aa829dbabad7343cad665d5"), looks := true }, kinds := [], alts := [], laidByText := true, laidKinds := [.handle], laidTests := true, laidLooks := .later }
def MstpWritesCardSaid : Prop := Claim7.holds Tryd.pinned (.plain (OpenSpec.ofChange mstpWritesSpec)) mstpWritesCard

/-- THE TIED CARD OF 'switchyardlaw.MstpReads'. -/
def mstpReadsCard : Claim7 := { stood := { row := mstpReadsRow, standIns := [], harness := (true, "6fe43efa8b7ddd0fb1b9b2db7afb2ecab2cf60456aa829dbabad7343cad665d5"), looks := true }, kinds := [], alts := [], laidByText := true, laidKinds := [.data, .handle, .pinned], laidTests := true, laidLooks := .later }
def MstpReadsCardSaid : Prop := Claim7.holds Tryd.pinned (.plain (OpenSpec.ofChange mstpReadsSpec)) mstpReadsCard

/-- THE TIED CARD OF 'switchyardlaw.LearnKeeps'. -/
def learnKeepsCard : Claim7 := { stood := { row := learnKeepsRow, standIns := [], harness := (true, "6fe43efa8b7ddd0fb1b9b2db7afb2ecab2cf60456aa829dbabad7343cad665d5"), looks := true }, kinds := [], alts := [], laidByText := true, laidKinds := [.handle], laidTests := true, laidLooks := .later }
def LearnKeepsCardSaid : Prop := Claim7.holds Tryd.pinned (.plain (OpenSpec.ofChange learnKeepsSpec)) learnKeepsCard

/-- THE SECOND FORM's CARD OF 'switchyardlaw.LldpWrites'. -/
def lldpWritesUptoCard : Claim7 := { stood := { row := lldpWritesUptoRow, standIns := [], harness := (true, "6fe43efa8b7ddd0fb1b9b2db7afb2ecab2cf60456aa829dbabad7343cad665d5"), looks := true }, kinds := [], alts := [], laidByText := true, laidKinds := [.handle], laidTests := true, laidLooks := .later }
def LldpWritesUptoCardSaid : Prop := Claim7.holds Tryd.pinned (.plain (OpenSpec.upto lldpWritesSpec)) lldpWritesUptoCard

/-- THE SECOND FORM's CARD OF 'switchyardlaw.LldpReads'. -/
def lldpReadsUptoCard : Claim7 := { stood := { row := lldpReadsUptoRow, standIns := [], harness := (true, "6fe43efa8b7ddd0fb1b9b2db7afb2ecab2cf60456aa829dbabad7343cad665d5"), looks := true }, kinds := [], alts := [], laidByText := true, laidKinds := [.handle], laidTests := true, laidLooks := .later }
def LldpReadsUptoCardSaid : Prop := Claim7.holds Tryd.pinned (.plain (OpenSpec.upto lldpReadsSpec)) lldpReadsUptoCard

/-- THE SECOND FORM's CARD OF 'switchyardlaw.MvrpWrites'. -/
def mvrpWritesUptoCard : Claim7 := { stood := { row := mvrpWritesUptoRow, standIns := [], harness := (true, "6fe43efa8b7ddd0fb1b9b2db7afb2ecab2cf60456aa829dbabad7343cad665d5"), looks := true }, kinds := [], alts := [], laidByText := true, laidKinds := [.handle], laidTests := true, laidLooks := .later }
def MvrpWritesUptoCardSaid : Prop := Claim7.holds Tryd.pinned (.plain (OpenSpec.upto mvrpWritesSpec)) mvrpWritesUptoCard

/-- THE SECOND FORM's CARD OF 'switchyardlaw.MvrpReads'. -/
def mvrpReadsUptoCard : Claim7 := { stood := { row := mvrpReadsUptoRow, standIns := [], harness := (true, "6fe43efa8b7ddd0fb1b9b2db7afb2ecab2cf60456aa829dbabad7343cad665d5"), looks := true }, kinds := [], alts := [], laidByText := true, laidKinds := [.handle], laidTests := true, laidLooks := .later }
def MvrpReadsUptoCardSaid : Prop := Claim7.holds Tryd.pinned (.plain (OpenSpec.upto mvrpReadsSpec)) mvrpReadsUptoCard

/-- THE SECOND FORM's CARD OF 'switchyardlaw.MvrpPacks'. -/
def mvrpPacksUptoCard : Claim7 := { stood := { row := mvrpPacksUptoRow, standIns := [], harness := (true, "6fe43efa8b7ddd0fb1b9b2db7afb2ecab2cf60456aa829dbabad7343cad665d5"), looks := true }, kinds := [], alts := [], laidByText := true, laidKinds := [.handle], laidTests := true, laidLooks := .later }
def MvrpPacksUptoCardSaid : Prop := Claim7.holds Tryd.pinned (.plain (OpenSpec.upto mvrpPacksSpec)) mvrpPacksUptoCard

/-- THE SECOND FORM's CARD OF 'switchyardlaw.MstpWrites'. -/
def mstpWritesUptoCard : Claim7 := { stood := { row := mstpWritesUptoRow, standIns := [], harness := (true, "6fe43efa8b7ddd0fb1b9b2db7afb2ecab2cf60456aa829dbabad7343cad665d5"), looks := true }, kinds := [], alts := [], laidByText := true, laidKinds := [.handle], laidTests := true, laidLooks := .later }
def MstpWritesUptoCardSaid : Prop := Claim7.holds Tryd.pinned (.plain (OpenSpec.upto mstpWritesSpec)) mstpWritesUptoCard

/-- THE SECOND FORM's CARD OF 'switchyardlaw.MstpReads'. -/
def mstpReadsUptoCard : Claim7 := { stood := { row := mstpReadsUptoRow, standIns := [], harness := (true, "6fe43efa8b7ddd0fb1b9b2db7afb2ecab2cf60456aa829dbabad7343cad665d5"), looks := true }, kinds := [], alts := [], laidByText := true, laidKinds := [.data, .handle, .pinned], laidTests := true, laidLooks := .later }
def MstpReadsUptoCardSaid : Prop := Claim7.holds Tryd.pinned (.plain (OpenSpec.upto mstpReadsSpec)) mstpReadsUptoCard

/-- THE SECOND FORM's CARD OF 'switchyardlaw.LearnKeeps'. -/
def learnKeepsUptoCard : Claim7 := { stood := { row := learnKeepsUptoRow, standIns := [], harness := (true, "6fe43efa8b7ddd0fb1b9b2db7afb2ecab2cf60456aa829dbabad7343cad665d5"), looks := true }, kinds := [], alts := [], laidByText := true, laidKinds := [.handle], laidTests := true, laidLooks := .later }
def LearnKeepsUptoCardSaid : Prop := Claim7.holds Tryd.pinned (.plain (OpenSpec.upto learnKeepsSpec)) learnKeepsUptoCard
end Rows
end Go.Proofs.YtmeoalpmicndbaaDoor
