/-
  DERIVED. GIVEN WITH THE SEED: THE CARDS: each row of YthajjbcnemdacaaDoorRows.lean that lists a variable, with what it lists TIED to the program's text (the seventh form; the later family's looks); each row that meets fmt, with fmt's text TOLD by the authors' own Lean function (tested against real Go, not proved from fmt's source: count such statements apart). THE CARD IS WHAT COUNTS. Prove the row's statement (the work); the ties are given (YthajjbcnemdacaaDoorTie.lean); close each card by the builder's one call (the guide's Derived/Test/ToyasCard.lean, 'card_holds'). Laid BY PROGRAM, IN A SANDBOX (cutbox-door.mjs). By AI agents, Wed Nov 11 2026. No macro, syntax, notation, axiom, sorry.
-/
import Derived.Test.YthajjbcnemdacaaDoorRows
import GoSem.ClaimSeven
namespace Go.Proofs.YthajjbcnemdacaaDoor
namespace Rows

/-- THE TIED CARD OF 'switchyardlaw.CrcSums'. -/
def crcSumsCard : Claim7 := { stood := { row := crcSumsRow, standIns := [], harness := (true, "b12dac1cf7e42b3cb94e57eaa1aa5d32084a36a4e26eadad5299e48973e35477"), looks := true }, kinds := [], alts := [], laidByText := true, laidKinds := [.handle], laidTests := true, laidLooks := .later }
def CrcSumsCardSaid : Prop := Claim7.holds Tryd.pinned (.plain (OpenSpec.ofChange crcSumsSpec)) crcSumsCard

/-- THE TIED CARD OF 'switchyardlaw.Md5Sums'. -/
def md5SumsCard : Claim7 := { stood := { row := md5SumsRow, standIns := [], harness := (true, "b12dac1cf7e42b3cb94e57eaa1aa5d32084a36a4e26eadad5299e48973e35477"), looks := true }, kinds := [], alts := [], laidByText := true, laidKinds := [.data, .data, .data, .sentinel, .sentinel], laidTests := true, laidLooks := .later }
def Md5SumsCardSaid : Prop := Claim7.holds Tryd.pinned (.plain (OpenSpec.ofChange md5SumsSpec)) md5SumsCard

/-- THE TIED CARD OF 'switchyardlaw.RegionMarks'. -/
def regionMarksCard : Claim7 := { stood := { row := regionMarksRow, standIns := [], harness := (true, "b12dac1cf7e42b3cb94e57eaa1aa5d32084a36a4e26eadad5299e48973e35477"), looks := true }, kinds := [], alts := [], laidByText := true, laidKinds := [.data, .data, .data, .handle, .sentinel, .sentinel], laidTests := true, laidLooks := .later }
def RegionMarksCardSaid : Prop := Claim7.holds Tryd.pinned (.plain (OpenSpec.ofChange regionMarksSpec)) regionMarksCard

/-- THE TIED CARD OF 'switchyardlaw.WireReads'. -/
def wireReadsCard : Claim7 := { stood := { row := wireReadsRow, standIns := [], harness := (true, "b12dac1cf7e42b3cb94e57eaa1aa5d32084a36a4e26eadad5299e48973e35477"), looks := true }, kinds := [], alts := [], laidByText := true, laidKinds := [.data, .data, .data, .handle], laidTests := true, laidLooks := .later }
def WireReadsCardSaid : Prop := Claim7.holds Tryd.pinned (.plain (OpenSpec.ofChange wireReadsSpec)) wireReadsCard

/-- THE SECOND FORM's CARD OF 'switchyardlaw.CrcSums'. -/
def crcSumsUptoCard : Claim7 := { stood := { row := crcSumsUptoRow, standIns := [], harness := (true, "b12dac1cf7e42b3cb94e57eaa1aa5d32084a36a4e26eadad5299e48973e35477"), looks := true }, kinds := [], alts := [], laidByText := true, laidKinds := [.handle], laidTests := true, laidLooks := .later }
def CrcSumsUptoCardSaid : Prop := Claim7.holds Tryd.pinned (.plain (OpenSpec.upto crcSumsSpec)) crcSumsUptoCard

/-- THE SECOND FORM's CARD OF 'switchyardlaw.Md5Sums'. -/
def md5SumsUptoCard : Claim7 := { stood := { row := md5SumsUptoRow, standIns := [], harness := (true, "b12dac1cf7e42b3cb94e57eaa1aa5d32084a36a4e26eadad5299e48973e35477"), looks := true }, kinds := [], alts := [], laidByText := true, laidKinds := [.data, .data, .data, .sentinel, .sentinel], laidTests := true, laidLooks := .later }
def Md5SumsUptoCardSaid : Prop := Claim7.holds Tryd.pinned (.plain (OpenSpec.upto md5SumsSpec)) md5SumsUptoCard

/-- THE SECOND FORM's CARD OF 'switchyardlaw.RegionMarks'. -/
def regionMarksUptoCard : Claim7 := { stood := { row := regionMarksUptoRow, standIns := [], harness := (true, "b12dac1cf7e42b3cb94e57eaa1aa5d32084a36a4e26eadad5299e48973e35477"), looks := true }, kinds := [], alts := [], laidByText := true, laidKinds := [.data, .data, .data, .handle, .sentinel, .sentinel], laidTests := true, laidLooks := .later }
def RegionMarksUptoCardSaid : Prop := Claim7.holds Tryd.pinned (.plain (OpenSpec.upto regionMarksSpec)) regionMarksUptoCard

/-- THE SECOND FORM's CARD OF 'switchyardlaw.WireReads'. -/
def wireReadsUptoCard : Claim7 := { stood := { row := wireReadsUptoRow, standIns := [], harness := (true, "b12dac1cf7e42b3cb94e57eaa1aa5d32084a36a4e26eadad5299e48973e35477"), looks := true }, kinds := [], alts := [], laidByText := true, laidKinds := [.data, .data, .data, .handle], laidTests := true, laidLooks := .later }
def WireReadsUptoCardSaid : Prop := Claim7.holds Tryd.pinned (.plain (OpenSpec.upto wireReadsSpec)) wireReadsUptoCard
end Rows
end Go.Proofs.YthajjbcnemdacaaDoor
