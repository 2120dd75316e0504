/-
  NARROWER THAN 'FOR EVERY INPUT', by the rows' own cells (each row's printed sentence says how): TreeSolves: laid · TreeRoles: laid · TalkGoes: laid · LearnKeeps: laid · MvrpPacks: laid · MvrpWrites: laid · LldpReads: laid.
  DERIVED. THE GIVEN ROWS OF THIS SEAT. 7 by the template 'for every input the law returns true; each argument reads behind the call as it read before'; 0 by the template 'total and deterministic' (their statements: YtedfohdgigbhiaaDoorTotals.lean).
  GIVEN WITH THE SEED: the statements are not yours to turn. If you find one false, say at which input.
  Laid BY PROGRAM, IN A SANDBOX (cutbox-rows.mjs): the forced cells as the released guide's own fill.sh prints them over the translation eae6d3aadbbf7653… (all of the seat's roots in one cut). By AI agents, Wed Nov 11 2026. No macro, syntax, notation, axiom, sorry.
-/
import Derived.Test.YtedfohdgigbhiaaDoorChecked
import GoSem.Claim
import GoSem.ClaimJoined
import GoSem.ClaimMapViews
import Derived.JoinedTies
import Derived.KernelRfl
namespace Go.Proofs.YtedfohdgigbhiaaDoor
/- THE CELL 'sum', in the pinned program and in every row, IS THE sha256 OF THE DUMP (.gsa) THAT YtedfohdgigbhiaaDoorProg.lean LOADS. Nothing in Lean hashes anything: it is a label: what it is worth is what the hold of that sum in a sandbox is worth. -/
noncomputable def Tryd.pinned : Pinned := { name := "ytedfohdgigbhiaadoor", sum := "eae6d3aadbbf765379f98db116ea45a9412cc41e0f7c935ed62584a9531a577b", checked := Tryd.checked }
namespace Rows
def none {H : Type} : Left H := { results := [], args := [] }

/- WHAT THE LISTED PACKAGE-LEVEL VARIABLES READ AS WHEN THE CALL BEGINS. Each datum BY PROGRAM (the guide's laid-datum.mjs) off the statement by which the dump's own 'gosem.cut.vars' lays the variable. In a bare row this is a premise. The card (YtedfohdgigbhiaaDoorCards.lean) ties it to the program's text. -/
def laid_errors_errorType {H : Type} : DataW H := .iface "internal/reflectlite.rtype" (.agg [.ptr (.lit (.string [101, 114, 114, 111, 114]))])

/-- 'switchyardlaw.TreeSolves': WHATEVER THE INPUT: true; the input reads as it did. -/
def treeSolvesSpec : ChangeSpec := { name := "treeSolves", fn := fun _ => fun
  | [d] => { results := [.lit (.bool true)], args := [d] }
  | _ => none }
def treeSolvesRow : OpenClaim := { program := "ytedfohdgigbhiaadoor", sum := "eae6d3aadbbf765379f98db116ea45a9412cc41e0f7c935ed62584a9531a577b", func := "switchyard/switchyardlaw.TreeSolves", spec := "treeSolves", inPlace := ["internal/bytealg.abigen_runtime_cmpstring", "internal/reflectlite.ValueOf", "(internal/reflectlite.Value).Type", "(internal/reflectlite.Value).IsNil", "internal/reflectlite.TypeOf", "(internal/reflectlite.Value).Elem", "(internal/reflectlite.Value).Set"], unfollowed := true, recurses := true, named := ["errors.errorType"], plainKeys := false, apart := false, laid := [("errors.errorType", laid_errors_errorType)] }
def TreeSolvesSaid : Prop := treeSolvesRow.holds Tryd.pinned (OpenSpec.ofChange treeSolvesSpec)

/-- ITS FALSE NEIGHBOUR: 'it returns false'. Refute it at one input. -/
def treeSolvesWrong : ChangeSpec := { name := "treeSolves", fn := fun _ => fun
  | [d] => { results := [.lit (.bool false)], args := [d] }
  | _ => none }
def TreeSolvesWrongFalsely : Prop := treeSolvesRow.holds Tryd.pinned (OpenSpec.ofChange treeSolvesWrong)

/-- 'switchyardlaw.TreeRoles': WHATEVER THE INPUT: true; the input reads as it did. -/
def treeRolesSpec : ChangeSpec := { name := "treeRoles", fn := fun _ => fun
  | [d] => { results := [.lit (.bool true)], args := [d] }
  | _ => none }
def treeRolesRow : OpenClaim := { program := "ytedfohdgigbhiaadoor", sum := "eae6d3aadbbf765379f98db116ea45a9412cc41e0f7c935ed62584a9531a577b", func := "switchyard/switchyardlaw.TreeRoles", spec := "treeRoles", inPlace := ["internal/bytealg.abigen_runtime_cmpstring", "internal/reflectlite.ValueOf", "(internal/reflectlite.Value).Type", "(internal/reflectlite.Value).IsNil", "internal/reflectlite.TypeOf", "(internal/reflectlite.Value).Elem", "(internal/reflectlite.Value).Set"], unfollowed := true, recurses := true, named := ["errors.errorType"], plainKeys := false, apart := false, laid := [("errors.errorType", laid_errors_errorType)] }
def TreeRolesSaid : Prop := treeRolesRow.holds Tryd.pinned (OpenSpec.ofChange treeRolesSpec)

/-- ITS FALSE NEIGHBOUR: 'it returns false'. Refute it at one input. -/
def treeRolesWrong : ChangeSpec := { name := "treeRoles", fn := fun _ => fun
  | [d] => { results := [.lit (.bool false)], args := [d] }
  | _ => none }
def TreeRolesWrongFalsely : Prop := treeRolesRow.holds Tryd.pinned (OpenSpec.ofChange treeRolesWrong)

/-- 'switchyardlaw.TalkGoes': WHATEVER THE INPUT: true; the input reads as it did. -/
def talkGoesSpec : ChangeSpec := { name := "talkGoes", fn := fun _ => fun
  | [d1, d2] => { results := [.lit (.bool true)], args := [d1, d2] }
  | _ => none }
def talkGoesRow : OpenClaim := { program := "ytedfohdgigbhiaadoor", sum := "eae6d3aadbbf765379f98db116ea45a9412cc41e0f7c935ed62584a9531a577b", func := "switchyard/switchyardlaw.TalkGoes", spec := "talkGoes", inPlace := ["internal/reflectlite.ValueOf", "(internal/reflectlite.Value).Type", "(internal/reflectlite.Value).IsNil", "internal/reflectlite.TypeOf", "(internal/reflectlite.Value).Elem", "(internal/reflectlite.Value).Set", "internal/bytealg.abigen_runtime_cmpstring"], unfollowed := true, recurses := true, named := ["errors.errorType"], plainKeys := false, apart := false, laid := [("errors.errorType", laid_errors_errorType)] }
def TalkGoesSaid : Prop := talkGoesRow.holds Tryd.pinned (OpenSpec.ofChange talkGoesSpec)

/-- ITS FALSE NEIGHBOUR: 'it returns false'. Refute it at one input. -/
def talkGoesWrong : ChangeSpec := { name := "talkGoes", fn := fun _ => fun
  | [d1, d2] => { results := [.lit (.bool false)], args := [d1, d2] }
  | _ => none }
def TalkGoesWrongFalsely : Prop := talkGoesRow.holds Tryd.pinned (OpenSpec.ofChange talkGoesWrong)

/-- 'switchyardlaw.LearnKeeps': WHATEVER THE INPUT: true; the input reads as it did. -/
def learnKeepsSpec : ChangeSpec := { name := "learnKeeps", fn := fun _ => fun
  | [d1, d2] => { results := [.lit (.bool true)], args := [d1, d2] }
  | _ => none }
def learnKeepsRow : OpenClaim := { program := "ytedfohdgigbhiaadoor", sum := "eae6d3aadbbf765379f98db116ea45a9412cc41e0f7c935ed62584a9531a577b", func := "switchyard/switchyardlaw.LearnKeeps", spec := "learnKeeps", inPlace := ["internal/reflectlite.ValueOf", "(internal/reflectlite.Value).Type", "(internal/reflectlite.Value).IsNil", "internal/reflectlite.TypeOf", "(internal/reflectlite.Value).Elem", "(internal/reflectlite.Value).Set"], unfollowed := true, recurses := true, named := ["errors.errorType"], plainKeys := false, apart := false, laid := [("errors.errorType", laid_errors_errorType)] }
def LearnKeepsSaid : Prop := learnKeepsRow.holds Tryd.pinned (OpenSpec.ofChange learnKeepsSpec)

/-- ITS FALSE NEIGHBOUR: 'it returns false'. Refute it at one input. -/
def learnKeepsWrong : ChangeSpec := { name := "learnKeeps", fn := fun _ => fun
  | [d1, d2] => { results := [.lit (.bool false)], args := [d1, d2] }
  | _ => none }
def LearnKeepsWrongFalsely : Prop := learnKeepsRow.holds Tryd.pinned (OpenSpec.ofChange learnKeepsWrong)

/-- 'switchyardlaw.MvrpPacks': WHATEVER THE INPUT: true; the input reads as it did. -/
def mvrpPacksSpec : ChangeSpec := { name := "mvrpPacks", fn := fun _ => fun
  | [d1, d2] => { results := [.lit (.bool true)], args := [d1, d2] }
  | _ => none }
def mvrpPacksRow : OpenClaim := { program := "ytedfohdgigbhiaadoor", sum := "eae6d3aadbbf765379f98db116ea45a9412cc41e0f7c935ed62584a9531a577b", func := "switchyard/switchyardlaw.MvrpPacks", spec := "mvrpPacks", inPlace := ["internal/reflectlite.ValueOf", "(internal/reflectlite.Value).Type", "(internal/reflectlite.Value).IsNil", "internal/reflectlite.TypeOf", "(internal/reflectlite.Value).Elem", "(internal/reflectlite.Value).Set"], unfollowed := true, recurses := true, named := ["errors.errorType"], plainKeys := false, apart := false, laid := [("errors.errorType", laid_errors_errorType)] }
def MvrpPacksSaid : Prop := mvrpPacksRow.holds Tryd.pinned (OpenSpec.ofChange mvrpPacksSpec)

/-- ITS FALSE NEIGHBOUR: 'it returns false'. Refute it at one input. -/
def mvrpPacksWrong : ChangeSpec := { name := "mvrpPacks", fn := fun _ => fun
  | [d1, d2] => { results := [.lit (.bool false)], args := [d1, d2] }
  | _ => none }
def MvrpPacksWrongFalsely : Prop := mvrpPacksRow.holds Tryd.pinned (OpenSpec.ofChange mvrpPacksWrong)

/-- 'switchyardlaw.MvrpWrites': WHATEVER THE INPUT: true; the input reads as it did. -/
def mvrpWritesSpec : ChangeSpec := { name := "mvrpWrites", fn := fun _ => fun
  | [d] => { results := [.lit (.bool true)], args := [d] }
  | _ => none }
def mvrpWritesRow : OpenClaim := { program := "ytedfohdgigbhiaadoor", sum := "eae6d3aadbbf765379f98db116ea45a9412cc41e0f7c935ed62584a9531a577b", func := "switchyard/switchyardlaw.MvrpWrites", spec := "mvrpWrites", inPlace := ["internal/abi.NoEscape", "internal/reflectlite.ValueOf", "(internal/reflectlite.Value).Type", "(internal/reflectlite.Value).IsNil", "internal/reflectlite.TypeOf", "(internal/reflectlite.Value).Elem", "(internal/reflectlite.Value).Set"], unfollowed := true, recurses := true, named := ["errors.errorType"], plainKeys := false, apart := false, laid := [("errors.errorType", laid_errors_errorType)] }
def MvrpWritesSaid : Prop := mvrpWritesRow.holds Tryd.pinned (OpenSpec.ofChange mvrpWritesSpec)

/-- ITS FALSE NEIGHBOUR: 'it returns false'. Refute it at one input. -/
def mvrpWritesWrong : ChangeSpec := { name := "mvrpWrites", fn := fun _ => fun
  | [d] => { results := [.lit (.bool false)], args := [d] }
  | _ => none }
def MvrpWritesWrongFalsely : Prop := mvrpWritesRow.holds Tryd.pinned (OpenSpec.ofChange mvrpWritesWrong)

/-- 'switchyardlaw.LldpReads': WHATEVER THE INPUT: true; the input reads as it did. -/
def lldpReadsSpec : ChangeSpec := { name := "lldpReads", fn := fun _ => fun
  | [d] => { results := [.lit (.bool true)], args := [d] }
  | _ => none }
def lldpReadsRow : OpenClaim := { program := "ytedfohdgigbhiaadoor", sum := "eae6d3aadbbf765379f98db116ea45a9412cc41e0f7c935ed62584a9531a577b", func := "switchyard/switchyardlaw.LldpReads", spec := "lldpReads", inPlace := ["internal/reflectlite.ValueOf", "(internal/reflectlite.Value).Type", "(internal/reflectlite.Value).IsNil", "internal/reflectlite.TypeOf", "(internal/reflectlite.Value).Elem", "(internal/reflectlite.Value).Set"], unfollowed := true, recurses := true, named := ["errors.errorType"], plainKeys := false, apart := false, laid := [("errors.errorType", laid_errors_errorType)] }
def LldpReadsSaid : Prop := lldpReadsRow.holds Tryd.pinned (OpenSpec.ofChange lldpReadsSpec)

/-- ITS FALSE NEIGHBOUR: 'it returns false'. Refute it at one input. -/
def lldpReadsWrong : ChangeSpec := { name := "lldpReads", fn := fun _ => fun
  | [d] => { results := [.lit (.bool false)], args := [d] }
  | _ => none }
def LldpReadsWrongFalsely : Prop := lldpReadsRow.holds Tryd.pinned (OpenSpec.ofChange lldpReadsWrong)

/- THE SECOND FORM. 'bulk': how many values and letters a reading holds, each counted each time it is reached (what is shared counts as often as it is met; a slice's spare places count too). A statement '..UptoSaid' is the law's where the arguments, and the package variables that the reading takes, are together of bulk at most 1048576: NARROWER than '..Said'. Prove '..Said' where nothing that the law and all that it calls make is longer than what came in: it says more and counts as full. Else prove '..UptoSaid'. A law counts once. -/
mutual
def uptoBulk {H : Type} : DataW H → Nat
  | .lit (.string bytes) => bytes.length + 1
  | .lit _ => 1
  | .nil => 1
  | .ptr d => uptoBulk d + 1
  | .slice elems spare => uptoBulkAll elems + uptoBulkAll spare + 1
  | .agg parts => uptoBulkAll parts + 1
  | .iface _ d => uptoBulk d + 1
  | .map entries => uptoBulkEntries entries + 1
  | .held _ => 1
def uptoBulkAll {H : Type} : List (DataW H) → Nat
  | [] => 0
  | d :: r => uptoBulk d + uptoBulkAll r
def uptoBulkEntries {H : Type} : List (Lit × DataW H) → Nat
  | [] => 0
  | x :: r => uptoBulkEntry x + uptoBulkEntries r
def uptoBulkEntry {H : Type} : Lit × DataW H → Nat
  | (.string bytes, d) => bytes.length + uptoBulk d + 1
  | (_, d) => uptoBulk d + 1
 end
def uptoSmall : (H : Type) → List (DataW H) → Bool := fun _ ds => decide (uptoBulkAll ds ≤ 1048576)
def OpenSpec.upto (s : _root_.Go.ChangeSpec) : _root_.Go.OpenSpec := { _root_.Go.OpenSpec.ofChange s with cond := some uptoSmall }

/-- 'switchyardlaw.TreeSolves', WHERE WHAT IT READS IS OF BULK AT MOST 1048576: true; the input reads as it did. -/
def treeSolvesUptoRow : OpenClaim := { program := "ytedfohdgigbhiaadoor", sum := "eae6d3aadbbf765379f98db116ea45a9412cc41e0f7c935ed62584a9531a577b", func := "switchyard/switchyardlaw.TreeSolves", spec := "treeSolves", inPlace := ["internal/bytealg.abigen_runtime_cmpstring", "internal/reflectlite.ValueOf", "(internal/reflectlite.Value).Type", "(internal/reflectlite.Value).IsNil", "internal/reflectlite.TypeOf", "(internal/reflectlite.Value).Elem", "(internal/reflectlite.Value).Set"], unfollowed := true, recurses := true, named := ["errors.errorType"], plainKeys := false, apart := false, laid := [("errors.errorType", laid_errors_errorType)], narrowed := true }
def TreeSolvesUptoSaid : Prop := treeSolvesUptoRow.holds Tryd.pinned (OpenSpec.upto treeSolvesSpec)

/-- 'switchyardlaw.TreeRoles', WHERE WHAT IT READS IS OF BULK AT MOST 1048576: true; the input reads as it did. -/
def treeRolesUptoRow : OpenClaim := { program := "ytedfohdgigbhiaadoor", sum := "eae6d3aadbbf765379f98db116ea45a9412cc41e0f7c935ed62584a9531a577b", func := "switchyard/switchyardlaw.TreeRoles", spec := "treeRoles", inPlace := ["internal/bytealg.abigen_runtime_cmpstring", "internal/reflectlite.ValueOf", "(internal/reflectlite.Value).Type", "(internal/reflectlite.Value).IsNil", "internal/reflectlite.TypeOf", "(internal/reflectlite.Value).Elem", "(internal/reflectlite.Value).Set"], unfollowed := true, recurses := true, named := ["errors.errorType"], plainKeys := false, apart := false, laid := [("errors.errorType", laid_errors_errorType)], narrowed := true }
def TreeRolesUptoSaid : Prop := treeRolesUptoRow.holds Tryd.pinned (OpenSpec.upto treeRolesSpec)

/-- 'switchyardlaw.TalkGoes', WHERE WHAT IT READS IS OF BULK AT MOST 1048576: true; the input reads as it did. -/
def talkGoesUptoRow : OpenClaim := { program := "ytedfohdgigbhiaadoor", sum := "eae6d3aadbbf765379f98db116ea45a9412cc41e0f7c935ed62584a9531a577b", func := "switchyard/switchyardlaw.TalkGoes", spec := "talkGoes", inPlace := ["internal/reflectlite.ValueOf", "(internal/reflectlite.Value).Type", "(internal/reflectlite.Value).IsNil", "internal/reflectlite.TypeOf", "(internal/reflectlite.Value).Elem", "(internal/reflectlite.Value).Set", "internal/bytealg.abigen_runtime_cmpstring"], unfollowed := true, recurses := true, named := ["errors.errorType"], plainKeys := false, apart := false, laid := [("errors.errorType", laid_errors_errorType)], narrowed := true }
def TalkGoesUptoSaid : Prop := talkGoesUptoRow.holds Tryd.pinned (OpenSpec.upto talkGoesSpec)

/-- 'switchyardlaw.LearnKeeps', WHERE WHAT IT READS IS OF BULK AT MOST 1048576: true; the input reads as it did. -/
def learnKeepsUptoRow : OpenClaim := { program := "ytedfohdgigbhiaadoor", sum := "eae6d3aadbbf765379f98db116ea45a9412cc41e0f7c935ed62584a9531a577b", func := "switchyard/switchyardlaw.LearnKeeps", spec := "learnKeeps", inPlace := ["internal/reflectlite.ValueOf", "(internal/reflectlite.Value).Type", "(internal/reflectlite.Value).IsNil", "internal/reflectlite.TypeOf", "(internal/reflectlite.Value).Elem", "(internal/reflectlite.Value).Set"], unfollowed := true, recurses := true, named := ["errors.errorType"], plainKeys := false, apart := false, laid := [("errors.errorType", laid_errors_errorType)], narrowed := true }
def LearnKeepsUptoSaid : Prop := learnKeepsUptoRow.holds Tryd.pinned (OpenSpec.upto learnKeepsSpec)

/-- 'switchyardlaw.MvrpPacks', WHERE WHAT IT READS IS OF BULK AT MOST 1048576: true; the input reads as it did. -/
def mvrpPacksUptoRow : OpenClaim := { program := "ytedfohdgigbhiaadoor", sum := "eae6d3aadbbf765379f98db116ea45a9412cc41e0f7c935ed62584a9531a577b", func := "switchyard/switchyardlaw.MvrpPacks", spec := "mvrpPacks", inPlace := ["internal/reflectlite.ValueOf", "(internal/reflectlite.Value).Type", "(internal/reflectlite.Value).IsNil", "internal/reflectlite.TypeOf", "(internal/reflectlite.Value).Elem", "(internal/reflectlite.Value).Set"], unfollowed := true, recurses := true, named := ["errors.errorType"], plainKeys := false, apart := false, laid := [("errors.errorType", laid_errors_errorType)], narrowed := true }
def MvrpPacksUptoSaid : Prop := mvrpPacksUptoRow.holds Tryd.pinned (OpenSpec.upto mvrpPacksSpec)

/-- 'switchyardlaw.MvrpWrites', WHERE WHAT IT READS IS OF BULK AT MOST 1048576: true; the input reads as it did. -/
def mvrpWritesUptoRow : OpenClaim := { program := "ytedfohdgigbhiaadoor", sum := "eae6d3aadbbf765379f98db116ea45a9412cc41e0f7c935ed62584a9531a577b", func := "switchyard/switchyardlaw.MvrpWrites", spec := "mvrpWrites", inPlace := ["internal/abi.NoEscape", "internal/reflectlite.ValueOf", "(internal/reflectlite.Value).Type", "(internal/reflectlite.Value).IsNil", "internal/reflectlite.TypeOf", "(internal/reflectlite.Value).Elem", "(internal/reflectlite.Value).Set"], unfollowed := true, recurses := true, named := ["errors.errorType"], plainKeys := false, apart := false, laid := [("errors.errorType", laid_errors_errorType)], narrowed := true }
def MvrpWritesUptoSaid : Prop := mvrpWritesUptoRow.holds Tryd.pinned (OpenSpec.upto mvrpWritesSpec)

/-- 'switchyardlaw.LldpReads', WHERE WHAT IT READS IS OF BULK AT MOST 1048576: true; the input reads as it did. -/
def lldpReadsUptoRow : OpenClaim := { program := "ytedfohdgigbhiaadoor", sum := "eae6d3aadbbf765379f98db116ea45a9412cc41e0f7c935ed62584a9531a577b", func := "switchyard/switchyardlaw.LldpReads", spec := "lldpReads", inPlace := ["internal/reflectlite.ValueOf", "(internal/reflectlite.Value).Type", "(internal/reflectlite.Value).IsNil", "internal/reflectlite.TypeOf", "(internal/reflectlite.Value).Elem", "(internal/reflectlite.Value).Set"], unfollowed := true, recurses := true, named := ["errors.errorType"], plainKeys := false, apart := false, laid := [("errors.errorType", laid_errors_errorType)], narrowed := true }
def LldpReadsUptoSaid : Prop := lldpReadsUptoRow.holds Tryd.pinned (OpenSpec.upto lldpReadsSpec)

end Rows
end Go.Proofs.YtedfohdgigbhiaaDoor
