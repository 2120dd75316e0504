/-
  DERIVED. GIVEN WITH THE SEED: THE CARDS: each row of YtmbbhodikiikeaaGreatDoorRows.lean that lists a variable, with what it lists TIED to the program's text (the seventh form; the later family's looks); each row that meets fmt, with fmt's text TOLD by the authors' own Lean function (tested against real Go, not proved from fmt's source: count such statements apart). THE CARD IS WHAT COUNTS. Prove the row's statement (the work); the ties are given (YtmbbhodikiikeaaGreatDoorTie.lean); close each card by the builder's one call (the guide's Derived/Test/ToyasCard.lean, 'card_holds'). Laid BY PROGRAM, IN A SANDBOX (cutbox-door.mjs). By AI agents, Wed Nov 11 2026. No macro, syntax, notation, axiom, sorry.
-/
import Derived.Test.YtmbbhodikiikeaaGreatDoorRows
import GoSem.ClaimSeven
namespace Go.Proofs.YtmbbhodikiikeaaGreatDoor
namespace Rows

/-- THE TIED CARD OF 'switchyardlaw.PrioTexts'. -/
def prioTextsCard : Claim7 := { stood := { row := prioTextsRow, standIns := [], harness := (true, "f5e8feb7b5486ebfade8024e5d4b067f70c33a8d893bb6d00ffabd71c0da162e"), looks := true }, kinds := [], alts := [], laidByText := true, laidKinds := [.data, .data, .data, .data, .handle, .sentinel, .sentinel, .pinned], laidTests := true, laidLooks := .later }
def PrioTextsCardSaid : Prop := Claim7.holds Tryz.pinned (.plain (OpenSpec.ofChange prioTextsSpec)) prioTextsCard

/-- THE SECOND FORM's CARD OF 'switchyardlaw.PrioTexts'. -/
def prioTextsUptoCard : Claim7 := { stood := { row := prioTextsUptoRow, standIns := [], harness := (true, "f5e8feb7b5486ebfade8024e5d4b067f70c33a8d893bb6d00ffabd71c0da162e"), looks := true }, kinds := [], alts := [], laidByText := true, laidKinds := [.data, .data, .data, .data, .handle, .sentinel, .sentinel, .pinned], laidTests := true, laidLooks := .later }
def PrioTextsUptoCardSaid : Prop := Claim7.holds Tryz.pinned (.plain (OpenSpec.upto prioTextsSpec)) prioTextsUptoCard
end Rows
end Go.Proofs.YtmbbhodikiikeaaGreatDoor
