/-
  NARROWER THAN 'FOR EVERY INPUT', by the rows' own cells (each row's printed sentence says how): LldpWrites: laid · LldpReads: laid · MvrpReads: laid · LearnKeeps: laid.
  DERIVED. THE GIVEN ROWS OF THIS SEAT. 4 by the template 'for every input the law returns true; each argument reads behind the call as it read before'; 0 by the template 'total and deterministic' (their statements: YtfianfpmnglfnaaDoorTotals.lean).
  GIVEN WITH THE SEED: the statements are not yours to turn. If you find one false, say at which input.
  Laid BY PROGRAM, IN A SANDBOX (cutbox-rows.mjs): the forced cells as the released guide's own fill.sh prints them over the translation efd48b907dba1610… (all of the seat's roots in one cut). By AI agents, Wed Nov 11 2026. No macro, syntax, notation, axiom, sorry.
-/
import Derived.Test.YtfianfpmnglfnaaDoorChecked
import GoSem.Claim
import GoSem.ClaimJoined
import GoSem.ClaimMapViews
import Derived.JoinedTies
import Derived.KernelRfl
namespace Go.Proofs.YtfianfpmnglfnaaDoor
/- THE CELL 'sum', in the pinned program and in every row, IS THE sha256 OF THE DUMP (.gsa) THAT YtfianfpmnglfnaaDoorProg.lean LOADS. Nothing in Lean hashes anything: it is a label: what it is worth is what the hold of that sum in a sandbox is worth. -/
noncomputable def Tryd.pinned : Pinned := { name := "ytfianfpmnglfnaadoor", sum := "efd48b907dba1610e08571fad582c6e5942097aeb7b96128191aad7dfa61dc09", checked := Tryd.checked }
namespace Rows
def none {H : Type} : Left H := { results := [], args := [] }

/- WHAT THE LISTED PACKAGE-LEVEL VARIABLES READ AS WHEN THE CALL BEGINS. Each datum BY PROGRAM (the guide's laid-datum.mjs) off the statement by which the dump's own 'gosem.cut.vars' lays the variable. In a bare row this is a premise. The card (YtfianfpmnglfnaaDoorCards.lean) ties it to the program's text. -/
def laid_errors_errorType {H : Type} : DataW H := .iface "internal/reflectlite.rtype" (.agg [.ptr (.lit (.string [101, 114, 114, 111, 114]))])

/-- 'switchyardlaw.LldpWrites': WHATEVER THE INPUT: true; the input reads as it did. -/
def lldpWritesSpec : ChangeSpec := { name := "lldpWrites", fn := fun _ => fun
  | [d] => { results := [.lit (.bool true)], args := [d] }
  | _ => none }
def lldpWritesRow : OpenClaim := { program := "ytfianfpmnglfnaadoor", sum := "efd48b907dba1610e08571fad582c6e5942097aeb7b96128191aad7dfa61dc09", func := "switchyard/switchyardlaw.LldpWrites", spec := "lldpWrites", inPlace := ["internal/abi.NoEscape", "internal/reflectlite.ValueOf", "(internal/reflectlite.Value).Type", "(internal/reflectlite.Value).IsNil", "internal/reflectlite.TypeOf", "(internal/reflectlite.Value).Elem", "(internal/reflectlite.Value).Set"], unfollowed := true, recurses := true, named := ["errors.errorType"], apart := false, laid := [("errors.errorType", laid_errors_errorType)] }
def LldpWritesSaid : Prop := lldpWritesRow.holds Tryd.pinned (OpenSpec.ofChange lldpWritesSpec)

/-- ITS FALSE NEIGHBOUR: 'it returns false'. Refute it at one input. -/
def lldpWritesWrong : ChangeSpec := { name := "lldpWrites", fn := fun _ => fun
  | [d] => { results := [.lit (.bool false)], args := [d] }
  | _ => none }
def LldpWritesWrongFalsely : Prop := lldpWritesRow.holds Tryd.pinned (OpenSpec.ofChange lldpWritesWrong)

/-- 'switchyardlaw.LldpReads': WHATEVER THE INPUT: true; the input reads as it did. -/
def lldpReadsSpec : ChangeSpec := { name := "lldpReads", fn := fun _ => fun
  | [d] => { results := [.lit (.bool true)], args := [d] }
  | _ => none }
def lldpReadsRow : OpenClaim := { program := "ytfianfpmnglfnaadoor", sum := "efd48b907dba1610e08571fad582c6e5942097aeb7b96128191aad7dfa61dc09", func := "switchyard/switchyardlaw.LldpReads", spec := "lldpReads", inPlace := ["internal/reflectlite.ValueOf", "(internal/reflectlite.Value).Type", "(internal/reflectlite.Value).IsNil", "internal/reflectlite.TypeOf", "(internal/reflectlite.Value).Elem", "(internal/reflectlite.Value).Set"], unfollowed := true, recurses := true, named := ["errors.errorType"], apart := false, laid := [("errors.errorType", laid_errors_errorType)] }
def LldpReadsSaid : Prop := lldpReadsRow.holds Tryd.pinned (OpenSpec.ofChange lldpReadsSpec)

/-- ITS FALSE NEIGHBOUR: 'it returns false'. Refute it at one input. -/
def lldpReadsWrong : ChangeSpec := { name := "lldpReads", fn := fun _ => fun
  | [d] => { results := [.lit (.bool false)], args := [d] }
  | _ => none }
def LldpReadsWrongFalsely : Prop := lldpReadsRow.holds Tryd.pinned (OpenSpec.ofChange lldpReadsWrong)

/-- 'switchyardlaw.MvrpReads': WHATEVER THE INPUT: true; the input reads as it did. -/
def mvrpReadsSpec : ChangeSpec := { name := "mvrpReads", fn := fun _ => fun
  | [d] => { results := [.lit (.bool true)], args := [d] }
  | _ => none }
def mvrpReadsRow : OpenClaim := { program := "ytfianfpmnglfnaadoor", sum := "efd48b907dba1610e08571fad582c6e5942097aeb7b96128191aad7dfa61dc09", func := "switchyard/switchyardlaw.MvrpReads", spec := "mvrpReads", inPlace := ["internal/reflectlite.ValueOf", "(internal/reflectlite.Value).Type", "(internal/reflectlite.Value).IsNil", "internal/reflectlite.TypeOf", "(internal/reflectlite.Value).Elem", "(internal/reflectlite.Value).Set"], unfollowed := true, recurses := true, named := ["errors.errorType"], apart := false, laid := [("errors.errorType", laid_errors_errorType)] }
def MvrpReadsSaid : Prop := mvrpReadsRow.holds Tryd.pinned (OpenSpec.ofChange mvrpReadsSpec)

/-- ITS FALSE NEIGHBOUR: 'it returns false'. Refute it at one input. -/
def mvrpReadsWrong : ChangeSpec := { name := "mvrpReads", fn := fun _ => fun
  | [d] => { results := [.lit (.bool false)], args := [d] }
  | _ => none }
def MvrpReadsWrongFalsely : Prop := mvrpReadsRow.holds Tryd.pinned (OpenSpec.ofChange mvrpReadsWrong)

/-- 'switchyardlaw.LearnKeeps': WHATEVER THE INPUT: true; the input reads as it did. -/
def learnKeepsSpec : ChangeSpec := { name := "learnKeeps", fn := fun _ => fun
  | [d1, d2] => { results := [.lit (.bool true)], args := [d1, d2] }
  | _ => none }
def learnKeepsRow : OpenClaim := { program := "ytfianfpmnglfnaadoor", sum := "efd48b907dba1610e08571fad582c6e5942097aeb7b96128191aad7dfa61dc09", func := "switchyard/switchyardlaw.LearnKeeps", spec := "learnKeeps", inPlace := ["internal/reflectlite.ValueOf", "(internal/reflectlite.Value).Type", "(internal/reflectlite.Value).IsNil", "internal/reflectlite.TypeOf", "(internal/reflectlite.Value).Elem", "(internal/reflectlite.Value).Set"], unfollowed := true, recurses := true, named := ["errors.errorType"], apart := false, laid := [("errors.errorType", laid_errors_errorType)] }
def LearnKeepsSaid : Prop := learnKeepsRow.holds Tryd.pinned (OpenSpec.ofChange learnKeepsSpec)

/-- ITS FALSE NEIGHBOUR: 'it returns false'. Refute it at one input. -/
def learnKeepsWrong : ChangeSpec := { name := "learnKeeps", fn := fun _ => fun
  | [d1, d2] => { results := [.lit (.bool false)], args := [d1, d2] }
  | _ => none }
def LearnKeepsWrongFalsely : Prop := learnKeepsRow.holds Tryd.pinned (OpenSpec.ofChange learnKeepsWrong)

/- THE SECOND FORM. 'bulk': how many values and letters a reading holds, each counted each time it is reached (what is shared counts as often as it is met; a slice's spare places count too). A statement '..UptoSaid' is the law's where the arguments, and the package variables that the reading takes, are together of bulk at most 1048576: NARROWER than '..Said'. Prove '..Said' where nothing that the law and all that it calls make is longer than what came in: it says more and counts as full. Else prove '..UptoSaid'. A law counts once. -/
mutual
def uptoBulk {H : Type} : DataW H → Nat
  | .lit (.string bytes) => bytes.length + 1
  | .lit _ => 1
  | .nil => 1
  | .ptr d => uptoBulk d + 1
  | .slice elems spare => uptoBulkAll elems + uptoBulkAll spare + 1
  | .agg parts => uptoBulkAll parts + 1
  | .iface _ d => uptoBulk d + 1
  | .map entries => uptoBulkEntries entries + 1
  | .held _ => 1
def uptoBulkAll {H : Type} : List (DataW H) → Nat
  | [] => 0
  | d :: r => uptoBulk d + uptoBulkAll r
def uptoBulkEntries {H : Type} : List (Lit × DataW H) → Nat
  | [] => 0
  | x :: r => uptoBulkEntry x + uptoBulkEntries r
def uptoBulkEntry {H : Type} : Lit × DataW H → Nat
  | (.string bytes, d) => bytes.length + uptoBulk d + 1
  | (_, d) => uptoBulk d + 1
 end
def uptoSmall : (H : Type) → List (DataW H) → Bool := fun _ ds => decide (uptoBulkAll ds ≤ 1048576)
def OpenSpec.upto (s : _root_.Go.ChangeSpec) : _root_.Go.OpenSpec := { _root_.Go.OpenSpec.ofChange s with cond := some uptoSmall }

/-- 'switchyardlaw.LldpWrites', WHERE WHAT IT READS IS OF BULK AT MOST 1048576: true; the input reads as it did. -/
def lldpWritesUptoRow : OpenClaim := { program := "ytfianfpmnglfnaadoor", sum := "efd48b907dba1610e08571fad582c6e5942097aeb7b96128191aad7dfa61dc09", func := "switchyard/switchyardlaw.LldpWrites", spec := "lldpWrites", inPlace := ["internal/abi.NoEscape", "internal/reflectlite.ValueOf", "(internal/reflectlite.Value).Type", "(internal/reflectlite.Value).IsNil", "internal/reflectlite.TypeOf", "(internal/reflectlite.Value).Elem", "(internal/reflectlite.Value).Set"], unfollowed := true, recurses := true, named := ["errors.errorType"], apart := false, laid := [("errors.errorType", laid_errors_errorType)], narrowed := true }
def LldpWritesUptoSaid : Prop := lldpWritesUptoRow.holds Tryd.pinned (OpenSpec.upto lldpWritesSpec)

/-- 'switchyardlaw.LldpReads', WHERE WHAT IT READS IS OF BULK AT MOST 1048576: true; the input reads as it did. -/
def lldpReadsUptoRow : OpenClaim := { program := "ytfianfpmnglfnaadoor", sum := "efd48b907dba1610e08571fad582c6e5942097aeb7b96128191aad7dfa61dc09", func := "switchyard/switchyardlaw.LldpReads", spec := "lldpReads", inPlace := ["internal/reflectlite.ValueOf", "(internal/reflectlite.Value).Type", "(internal/reflectlite.Value).IsNil", "internal/reflectlite.TypeOf", "(internal/reflectlite.Value).Elem", "(internal/reflectlite.Value).Set"], unfollowed := true, recurses := true, named := ["errors.errorType"], apart := false, laid := [("errors.errorType", laid_errors_errorType)], narrowed := true }
def LldpReadsUptoSaid : Prop := lldpReadsUptoRow.holds Tryd.pinned (OpenSpec.upto lldpReadsSpec)

/-- 'switchyardlaw.MvrpReads', WHERE WHAT IT READS IS OF BULK AT MOST 1048576: true; the input reads as it did. -/
def mvrpReadsUptoRow : OpenClaim := { program := "ytfianfpmnglfnaadoor", sum := "efd48b907dba1610e08571fad582c6e5942097aeb7b96128191aad7dfa61dc09", func := "switchyard/switchyardlaw.MvrpReads", spec := "mvrpReads", inPlace := ["internal/reflectlite.ValueOf", "(internal/reflectlite.Value).Type", "(internal/reflectlite.Value).IsNil", "internal/reflectlite.TypeOf", "(internal/reflectlite.Value).Elem", "(internal/reflectlite.Value).Set"], unfollowed := true, recurses := true, named := ["errors.errorType"], apart := false, laid := [("errors.errorType", laid_errors_errorType)], narrowed := true }
def MvrpReadsUptoSaid : Prop := mvrpReadsUptoRow.holds Tryd.pinned (OpenSpec.upto mvrpReadsSpec)

/-- 'switchyardlaw.LearnKeeps', WHERE WHAT IT READS IS OF BULK AT MOST 1048576: true; the input reads as it did. -/
def learnKeepsUptoRow : OpenClaim := { program := "ytfianfpmnglfnaadoor", sum := "efd48b907dba1610e08571fad582c6e5942097aeb7b96128191aad7dfa61dc09", func := "switchyard/switchyardlaw.LearnKeeps", spec := "learnKeeps", inPlace := ["internal/reflectlite.ValueOf", "(internal/reflectlite.Value).Type", "(internal/reflectlite.Value).IsNil", "internal/reflectlite.TypeOf", "(internal/reflectlite.Value).Elem", "(internal/reflectlite.Value).Set"], unfollowed := true, recurses := true, named := ["errors.errorType"], apart := false, laid := [("errors.errorType", laid_errors_errorType)], narrowed := true }
def LearnKeepsUptoSaid : Prop := learnKeepsUptoRow.holds Tryd.pinned (OpenSpec.upto learnKeepsSpec)

end Rows
end Go.Proofs.YtfianfpmnglfnaaDoor
