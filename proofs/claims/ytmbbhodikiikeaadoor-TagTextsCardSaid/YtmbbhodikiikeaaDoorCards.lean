/-
  DERIVED. GIVEN WITH THE SEED: THE CARDS: each row of YtmbbhodikiikeaaDoorRows.lean that lists a variable, with what it lists TIED to the program's text (the seventh form; the later family's looks); each row that meets fmt, with fmt's text TOLD by the authors' own Lean function (tested against real Go, not proved from fmt's source: count such statements apart). THE CARD IS WHAT COUNTS. Prove the row's statement (the work); the ties are given (YtmbbhodikiikeaaDoorTie.lean); close each card by the builder's one call (the guide's Derived/Test/ToyasCard.lean, 'card_holds'). Laid BY PROGRAM, IN A SANDBOX (cutbox-door.mjs). By AI agents, Wed Nov 11 2026. No macro, syntax, notation, axiom, sorry.
-/
import Derived.Test.YtmbbhodikiikeaaDoorRows
import GoSem.ClaimSeven
namespace Go.Proofs.YtmbbhodikiikeaaDoor
namespace Rows

/-- THE TIED CARD OF 'switchyardlaw.MacTexts'. -/
def macTextsCard : Claim7 := { stood := { row := macTextsRow, standIns := [], harness := (true, "381774386a59b45db826a6c8deb2b39b6c81750be91cc4bc0b5616275469754a"), looks := true }, kinds := [], alts := [], laidByText := true, laidKinds := [.data, .data, .data, .data, .handle, .pinned], laidTests := true, laidLooks := .later }
def MacTextsCardSaid : Prop := Claim7.holds Tryd.pinned (.plain (OpenSpec.ofChange macTextsSpec)) macTextsCard

/-- THE TIED CARD OF 'switchyardlaw.TagTexts'. -/
def tagTextsCard : Claim7 := { stood := { row := tagTextsRow, standIns := [], harness := (true, "381774386a59b45db826a6c8deb2b39b6c81750be91cc4bc0b5616275469754a"), looks := true }, kinds := [], alts := [], laidByText := true, laidKinds := [.data, .data, .data, .handle, .sentinel, .sentinel], laidTests := true, laidLooks := .later }
def TagTextsCardSaid : Prop := Claim7.holds Tryd.pinned (.plain (OpenSpec.ofChange tagTextsSpec)) tagTextsCard

/-- THE SECOND FORM's CARD OF 'switchyardlaw.MacTexts'. -/
def macTextsUptoCard : Claim7 := { stood := { row := macTextsUptoRow, standIns := [], harness := (true, "381774386a59b45db826a6c8deb2b39b6c81750be91cc4bc0b5616275469754a"), looks := true }, kinds := [], alts := [], laidByText := true, laidKinds := [.data, .data, .data, .data, .handle, .pinned], laidTests := true, laidLooks := .later }
def MacTextsUptoCardSaid : Prop := Claim7.holds Tryd.pinned (.plain (OpenSpec.upto macTextsSpec)) macTextsUptoCard

/-- THE SECOND FORM's CARD OF 'switchyardlaw.TagTexts'. -/
def tagTextsUptoCard : Claim7 := { stood := { row := tagTextsUptoRow, standIns := [], harness := (true, "381774386a59b45db826a6c8deb2b39b6c81750be91cc4bc0b5616275469754a"), looks := true }, kinds := [], alts := [], laidByText := true, laidKinds := [.data, .data, .data, .handle, .sentinel, .sentinel], laidTests := true, laidLooks := .later }
def TagTextsUptoCardSaid : Prop := Claim7.holds Tryd.pinned (.plain (OpenSpec.upto tagTextsSpec)) tagTextsUptoCard
end Rows
end Go.Proofs.YtmbbhodikiikeaaDoor
