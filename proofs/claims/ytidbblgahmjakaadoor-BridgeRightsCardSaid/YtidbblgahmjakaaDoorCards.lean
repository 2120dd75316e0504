/-
  DERIVED. GIVEN WITH THE SEED: THE CARDS: each row of YtidbblgahmjakaaDoorRows.lean that lists a variable, with what it lists TIED to the program's text (the seventh form; the later family's looks); each row that meets fmt, with fmt's text TOLD by the authors' own Lean function (tested against real Go, not proved from fmt's source: count such statements apart). THE CARD IS WHAT COUNTS. Prove the row's statement (the work); the ties are given (YtidbblgahmjakaaDoorTie.lean); close each card by the builder's one call (the guide's Derived/Test/ToyasCard.lean, 'card_holds'). Laid BY PROGRAM, IN A SANDBOX (cutbox-door.mjs). By AI agents, Wed Nov 11 2026. No macro, syntax, notation, axiom, sorry.
-/
import Derived.Test.YtidbblgahmjakaaDoorRows
import GoSem.ClaimSeven
namespace Go.Proofs.YtidbblgahmjakaaDoor
namespace Rows

/-- THE TIED CARD OF 'switchyardlaw.MacKnows'. -/
def macKnowsCard : Claim7 := { stood := { row := macKnowsRow, standIns := [], harness := (true, "8ba5957a69739d35ba8682001bf96cf475d8984433d0a699513358b2364bc9d7"), looks := true }, kinds := [], alts := [], laidByText := true, laidKinds := [.data, .data, .data], laidTests := true, laidLooks := .later }
def MacKnowsCardSaid : Prop := Claim7.holds Tryd.pinned (.plain (OpenSpec.ofChange macKnowsSpec)) macKnowsCard

/-- THE TIED CARD OF 'switchyardlaw.TreeChecks'. -/
def treeChecksCard : Claim7 := { stood := { row := treeChecksRow, standIns := [], harness := (true, "8ba5957a69739d35ba8682001bf96cf475d8984433d0a699513358b2364bc9d7"), looks := true }, kinds := [], alts := [], laidByText := true, laidKinds := [.handle], laidTests := true, laidLooks := .later }
def TreeChecksCardSaid : Prop := Claim7.holds Tryd.pinned (.plain (OpenSpec.ofChange treeChecksSpec)) treeChecksCard

/-- THE TIED CARD OF 'switchyardlaw.BridgeRights'. -/
def bridgeRightsCard : Claim7 := { stood := { row := bridgeRightsRow, standIns := [], harness := (true, "8ba5957a69739d35ba8682001bf96cf475d8984433d0a699513358b2364bc9d7"), looks := true }, kinds := [], alts := [], laidByText := true, laidKinds := [.handle], laidTests := true, laidLooks := .later }
def BridgeRightsCardSaid : Prop := Claim7.holds Tryd.pinned (.plain (OpenSpec.ofChange bridgeRightsSpec)) bridgeRightsCard

/-- THE TIED CARD OF 'switchyardlaw.MvrpPacks'. -/
def mvrpPacksCard : Claim7 := { stood := { row := mvrpPacksRow, standIns := [], harness := (true, "8ba5957a69739d35ba8682001bf96cf475d8984433d0a699513358b2364bc9d7"), looks := true }, kinds := [], alts := [], laidByText := true, laidKinds := [.handle], laidTests := true, laidLooks := .later }
def MvrpPacksCardSaid : Prop := Claim7.holds Tryd.pinned (.plain (OpenSpec.ofChange mvrpPacksSpec)) mvrpPacksCard

/-- THE TIED CARD OF 'switchyardlaw.LearnKeeps'. -/
def learnKeepsCard : Claim7 := { stood := { row := learnKeepsRow, standIns := [], harness := (true, "8ba5957a69739d35ba8682001bf96cf475d8984433d0a699513358b2364bc9d7"), looks := true }, kinds := [], alts := [], laidByText := true, laidKinds := [.handle], laidTests := true, laidLooks := .later }
def LearnKeepsCardSaid : Prop := Claim7.holds Tryd.pinned (.plain (OpenSpec.ofChange learnKeepsSpec)) learnKeepsCard

/-- THE TIED CARD OF 'switchyardlaw.BpduReads'. -/
def bpduReadsCard : Claim7 := { stood := { row := bpduReadsRow, standIns := [], harness := (true, "8ba5957a69739d35ba8682001bf96cf475d8984433d0a699513358b2364bc9d7"), looks := true }, kinds := [], alts := [], laidByText := true, laidKinds := [.handle], laidTests := true, laidLooks := .later }
def BpduReadsCardSaid : Prop := Claim7.holds Tryd.pinned (.plain (OpenSpec.ofChange bpduReadsSpec)) bpduReadsCard

/-- THE TIED CARD OF 'switchyardlaw.BpduWrites'. -/
def bpduWritesCard : Claim7 := { stood := { row := bpduWritesRow, standIns := [], harness := (true, "8ba5957a69739d35ba8682001bf96cf475d8984433d0a699513358b2364bc9d7"), looks := true }, kinds := [], alts := [], laidByText := true, laidKinds := [.handle], laidTests := true, laidLooks := .later }
def BpduWritesCardSaid : Prop := Claim7.holds Tryd.pinned (.plain (OpenSpec.ofChange bpduWritesSpec)) bpduWritesCard

/-- THE TIED CARD OF 'switchyardlaw.MvrpWrites'. -/
def mvrpWritesCard : Claim7 := { stood := { row := mvrpWritesRow, standIns := [], harness := (true, "8ba5957a69739d35ba8682001bf96cf475d8984433d0a699513358b2364bc9d7"), looks := true }, kinds := [], alts := [], laidByText := true, laidKinds := [.handle], laidTests := true, laidLooks := .later }
def MvrpWritesCardSaid : Prop := Claim7.holds Tryd.pinned (.plain (OpenSpec.ofChange mvrpWritesSpec)) mvrpWritesCard

/-- THE TIED CARD OF 'switchyardlaw.LldpWrites'. -/
def lldpWritesCard : Claim7 := { stood := { row := lldpWritesRow, standIns := [], harness := (true, "8ba5957a69739d35ba8682001bf96cf475d8984433d0a699513358b2364bc9d7"), looks := true }, kinds := [], alts := [], laidByText := true, laidKinds := [.handle], laidTests := true, laidLooks := .later }
def LldpWritesCardSaid : Prop := Claim7.holds Tryd.pinned (.plain (OpenSpec.ofChange lldpWritesSpec)) lldpWritesCard

/-- THE TIED CARD OF 'switchyardlaw.MvrpReads'. -/
def mvrpReadsCard : Claim7 := { stood := { row := mvrpReadsRow, standIns := [], harness := (true, "8ba5957a69739d35ba8682001bf96cf475d8984433d0a699513358b2364bc9d7"), looks := true }, kinds := [], alts := [], laidByText := true, laidKinds := [.handle], laidTests := true, laidLooks := .later }
def MvrpReadsCardSaid : Prop := Claim7.holds Tryd.pinned (.plain (OpenSpec.ofChange mvrpReadsSpec)) mvrpReadsCard

/-- THE SECOND FORM's CARD OF 'switchyardlaw.MacKnows'. -/
def macKnowsUptoCard : Claim7 := { stood := { row := macKnowsUptoRow, standIns := [], harness := (true, "8ba5957a69739d35ba8682001bf96cf475d8984433d0a699513358b2364bc9d7"), looks := true }, kinds := [], alts := [], laidByText := true, laidKinds := [.data, .data, .data], laidTests := true, laidLooks := .later }
def MacKnowsUptoCardSaid : Prop := Claim7.holds Tryd.pinned (.plain (OpenSpec.upto macKnowsSpec)) macKnowsUptoCard

/-- THE SECOND FORM's CARD OF 'switchyardlaw.TreeChecks'. -/
def treeChecksUptoCard : Claim7 := { stood := { row := treeChecksUptoRow, standIns := [], harness := (true, "8ba5957a69739d35ba8682001bf96cf475d8984433d0a699513358b2364bc9d7"), looks := true }, kinds := [], alts := [], laidByText := true, laidKinds := [.handle], laidTests := true, laidLooks := .later }
def TreeChecksUptoCardSaid : Prop := Claim7.holds Tryd.pinned (.plain (OpenSpec.upto treeChecksSpec)) treeChecksUptoCard

/-- THE SECOND FORM's CARD OF 'switchyardlaw.BridgeRights'. -/
def bridgeRightsUptoCard : Claim7 := { stood := { row := bridgeRightsUptoRow, standIns := [], harness := (true, "8ba5957a69739d35ba8682001bf96cf475d8984433d0a699513358b2364bc9d7"), looks := true }, kinds := [], alts := [], laidByText := true, laidKinds := [.handle], laidTests := true, laidLooks := .later }
def BridgeRightsUptoCardSaid : Prop := Claim7.holds Tryd.pinned (.plain (OpenSpec.upto bridgeRightsSpec)) bridgeRightsUptoCard

/-- THE SECOND FORM's CARD OF 'switchyardlaw.MvrpPacks'. -/
def mvrpPacksUptoCard : Claim7 := { stood := { row := mvrpPacksUptoRow, standIns := [], harness := (true, "8ba5957a69739d35ba8682001bf96cf475d8984433d0a699513358b2364bc9d7"), looks := true }, kinds := [], alts := [], laidByText := true, laidKinds := [.handle], laidTests := true, laidLooks := .later }
def MvrpPacksUptoCardSaid : Prop := Claim7.holds Tryd.pinned (.plain (OpenSpec.upto mvrpPacksSpec)) mvrpPacksUptoCard

/-- THE SECOND FORM's CARD OF 'switchyardlaw.LearnKeeps'. -/
def learnKeepsUptoCard : Claim7 := { stood := { row := learnKeepsUptoRow, standIns := [], harness := (true, "8ba5957a69739d35ba8682001bf96cf475d8984433d0a699513358b2364bc9d7"), looks := true }, kinds := [], alts := [], laidByText := true, laidKinds := [.handle], laidTests := true, laidLooks := .later }
def LearnKeepsUptoCardSaid : Prop := Claim7.holds Tryd.pinned (.plain (OpenSpec.upto learnKeepsSpec)) learnKeepsUptoCard

/-- THE SECOND FORM's CARD OF 'switchyardlaw.BpduReads'. -/
def bpduReadsUptoCard : Claim7 := { stood := { row := bpduReadsUptoRow, standIns := [], harness := (true, "8ba5957a69739d35ba8682001bf96cf475d8984433d0a699513358b2364bc9d7"), looks := true }, kinds := [], alts := [], laidByText := true, laidKinds := [.handle], laidTests := true, laidLooks := .later }
def BpduReadsUptoCardSaid : Prop := Claim7.holds Tryd.pinned (.plain (OpenSpec.upto bpduReadsSpec)) bpduReadsUptoCard

/-- THE SECOND FORM's CARD OF 'switchyardlaw.BpduWrites'. -/
def bpduWritesUptoCard : Claim7 := { stood := { row := bpduWritesUptoRow, standIns := [], harness := (true, "8ba5957a69739d35ba8682001bf96cf475d8984433d0a699513358b2364bc9d7"), looks := true }, kinds := [], alts := [], laidByText := true, laidKinds := [.handle], laidTests := true, laidLooks := .later }
def BpduWritesUptoCardSaid : Prop := Claim7.holds Tryd.pinned (.plain (OpenSpec.upto bpduWritesSpec)) bpduWritesUptoCard

/-- THE SECOND FORM's CARD OF 'switchyardlaw.MvrpWrites'. -/
def mvrpWritesUptoCard : Claim7 := { stood := { row := mvrpWritesUptoRow, standIns := [], harness := (true, "8ba5957a69739d35ba8682001bf96cf475d8984433d0a699513358b2364bc9d7"), looks := true }, kinds := [], alts := [], laidByText := true, laidKinds := [.handle], laidTests := true, laidLooks := .later }
def MvrpWritesUptoCardSaid : Prop := Claim7.holds Tryd.pinned (.plain (OpenSpec.upto mvrpWritesSpec)) mvrpWritesUptoCard

/-- THE SECOND FORM's CARD OF 'switchyardlaw.LldpWrites'. -/
def lldpWritesUptoCard : Claim7 := { stood := { row := lldpWritesUptoRow, standIns := [], harness := (true, "8ba5957a69739d35ba8682001bf96cf475d8984433d0a699513358b2364bc9d7"), looks := true }, kinds := [], alts := [], laidByText := true, laidKinds := [.handle], laidTests := true, laidLooks := .later }
def LldpWritesUptoCardSaid : Prop := Claim7.holds Tryd.pinned (.plain (OpenSpec.upto lldpWritesSpec)) lldpWritesUptoCard

/-- THE SECOND FORM's CARD OF 'switchyardlaw.MvrpReads'. -/
def mvrpReadsUptoCard : Claim7 := { stood := { row := mvrpReadsUptoRow, standIns := [], harness := (true, "8ba5957a69739d35ba8682001bf96cf475d8984433d0a699513358b2364bc9d7"), looks := true }, kinds := [], alts := [], laidByText := true, laidKinds := [.handle], laidTests := true, laidLooks := .later }
def MvrpReadsUptoCardSaid : Prop := Claim7.holds Tryd.pinned (.plain (OpenSpec.upto mvrpReadsSpec)) mvrpReadsUptoCard
end Rows
end Go.Proofs.YtidbblgahmjakaaDoor
