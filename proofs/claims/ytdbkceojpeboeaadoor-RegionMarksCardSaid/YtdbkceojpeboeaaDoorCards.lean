/-
  DERIVED. GIVEN WITH THE SEED: THE CARDS: each row of YtdbkceojpeboeaaDoorRows.lean that lists a variable, with what it lists TIED to the program's text (the seventh form; the later family's looks); each row that meets fmt, with fmt's text TOLD by the authors' own Lean function (tested against real Go, not proved from fmt's source: count such statements apart). THE CARD IS WHAT COUNTS. Prove the row's statement (the work); the ties are given (YtdbkceojpeboeaaDoorTie.lean); close each card by the builder's one call (the guide's Derived/Test/ToyasCard.lean, 'card_holds'). Laid BY PROGRAM, IN A SANDBOX (cutbox-door.mjs). By AI agents, Wed Nov 11 2026. No macro, syntax, notation, axiom, sorry.
-/
import Derived.Test.YtdbkceojpeboeaaDoorRows
import GoSem.ClaimSeven
namespace Go.Proofs.YtdbkceojpeboeaaDoor
namespace Rows

/-- THE TIED CARD OF 'switchyardlaw.Md5Sums'. -/
def md5SumsCard : Claim7 := { stood := { row := md5SumsRow, standIns := [], harness := (true, "535465cd279bb935b3c29325653d7f560850a77878e878429048745133fd140b"), looks := true }, kinds := [], alts := [], laidByText := true, laidKinds := [.data, .data, .data, .sentinel, .sentinel], laidTests := true, laidLooks := .later }
def Md5SumsCardSaid : Prop := Claim7.holds Tryd.pinned (.plain (OpenSpec.ofChange md5SumsSpec)) md5SumsCard

/-- THE TIED CARD OF 'switchyardlaw.RegionMarks'. -/
def regionMarksCard : Claim7 := { stood := { row := regionMarksRow, standIns := [], harness := (true, "535465cd279bb935b3c29325653d7f560850a77878e878429048745133fd140b"), looks := true }, kinds := [], alts := [], laidByText := true, laidKinds := [.data, .data, .data, .handle, .sentinel, .sentinel], laidTests := true, laidLooks := .later }
def RegionMarksCardSaid : Prop := Claim7.holds Tryd.pinned (.plain (OpenSpec.ofChange regionMarksSpec)) regionMarksCard

/-- THE SECOND FORM's CARD OF 'switchyardlaw.Md5Sums'. -/
def md5SumsUptoCard : Claim7 := { stood := { row := md5SumsUptoRow, standIns := [], harness := (true, "535465cd279bb935b3c29325653d7f560850a77878e878429048745133fd140b"), looks := true }, kinds := [], alts := [], laidByText := true, laidKinds := [.data, .data, .data, .sentinel, .sentinel], laidTests := true, laidLooks := .later }
def Md5SumsUptoCardSaid : Prop := Claim7.holds Tryd.pinned (.plain (OpenSpec.upto md5SumsSpec)) md5SumsUptoCard

/-- THE SECOND FORM's CARD OF 'switchyardlaw.RegionMarks'. -/
def regionMarksUptoCard : Claim7 := { stood := { row := regionMarksUptoRow, standIns := [], harness := (true, "535465cd279bb935b3c29325653d7f560850a77878e878429048745133fd140b"), looks := true }, kinds := [], alts := [], laidByText := true, laidKinds := [.data, .data, .data, .handle, .sentinel, .sentinel], laidTests := true, laidLooks := .later }
def RegionMarksUptoCardSaid : Prop := Claim7.holds Tryd.pinned (.plain (OpenSpec.upto regionMarksSpec)) regionMarksUptoCard
end Rows
end Go.Proofs.YtdbkceojpeboeaaDoor
