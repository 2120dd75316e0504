/-
  NARROWER THAN 'FOR EVERY INPUT', by the rows' own cells (each row's printed sentence says how): LldpWrites: laid · LldpReads: laid · MvrpWrites: laid · MvrpReads: laid · MvrpPacks: laid · MstpWrites: laid · MstpReads: laid · LearnKeeps: laid.
  DERIVED. THE GIVEN ROWS OF THIS SEAT. 8 by the template 'for every input the law returns true; each argument reads behind the call as it read before'; 0 by the template 'total and deterministic' (their statements: YtmeoalpmicndbaaDoorTotals.lean).
  GIVEN WITH THE SEED: the statements are not yours to turn. If you find one false, say at which input.
  Laid BY PROGRAM, IN A SANDBOX (cutbox-rows.mjs): the forced cells as the released guide's own fill.sh prints them over the translation feabc9bfc4de8536… (all of the seat's roots in one cut). By AI agents, Wed Nov 11 2026. No macro, syntax, notation, axiom, sorry.
-/
import Derived.Test.YtmeoalpmicndbaaDoorChecked
import GoSem.PinnedTables
import GoSem.Claim
import GoSem.ClaimJoined
import GoSem.ClaimMapViews
import Derived.JoinedTies
import Derived.KernelRfl
namespace Go.Proofs.YtmeoalpmicndbaaDoor
/- THE CELL 'sum', in the pinned program and in every row, IS THE sha256 OF THE DUMP (.gsa) THAT YtmeoalpmicndbaaDoorProg.lean LOADS. Nothing in Lean hashes anything: it is a label: what it is worth is what the hold of that sum in a sandbox is worth. -/
noncomputable def Tryd.pinned : Pinned := { name := "ytmeoalpmicndbaadoor", sum := "feabc9bfc4de8536d76274949af07075b73b40d3ac38643064da5dae395f774a", checked := Tryd.checked }
namespace Rows
def none {H : Type} : Left H := { results := [], args := [] }

/- WHAT THE LISTED PACKAGE-LEVEL VARIABLES READ AS WHEN THE CALL BEGINS. Each datum BY PROGRAM (the guide's laid-datum.mjs) off the statement by which the dump's own 'gosem.cut.vars' lays the variable. In a bare row this is a premise. The card (YtmeoalpmicndbaaDoorCards.lean) ties it to the program's text. -/
def laid_errors_errorType {H : Type} : DataW H := .iface "internal/reflectlite.rtype" (.agg [.ptr (.lit (.string [101, 114, 114, 111, 114]))])
def laid_unicode_utf8_acceptRanges {H : Type} : DataW H := .agg [.agg [.lit (.int .u8 128), .lit (.int .u8 191)], .agg [.lit (.int .u8 160), .lit (.int .u8 191)], .agg [.lit (.int .u8 128), .lit (.int .u8 159)], .agg [.lit (.int .u8 144), .lit (.int .u8 191)], .agg [.lit (.int .u8 128), .lit (.int .u8 143)], .agg [.lit (.int .u8 0), .lit (.int .u8 0)], .agg [.lit (.int .u8 0), .lit (.int .u8 0)], .agg [.lit (.int .u8 0), .lit (.int .u8 0)], .agg [.lit (.int .u8 0), .lit (.int .u8 0)], .agg [.lit (.int .u8 0), .lit (.int .u8 0)], .agg [.lit (.int .u8 0), .lit (.int .u8 0)], .agg [.lit (.int .u8 0), .lit (.int .u8 0)], .agg [.lit (.int .u8 0), .lit (.int .u8 0)], .agg [.lit (.int .u8 0), .lit (.int .u8 0)], .agg [.lit (.int .u8 0), .lit (.int .u8 0)], .agg [.lit (.int .u8 0), .lit (.int .u8 0)]]
/-- One of Go's own tables, pinned by name: the form's constant. -/
def laid_unicode_utf8_first : DataW Unit := Go.Pinned.utf8First

/-- 'switchyardlaw.LldpWrites': WHATEVER THE INPUT: true; the input reads as it did. -/
def lldpWritesSpec : ChangeSpec := { name := "lldpWrites", fn := fun _ => fun
  | [d] => { results := [.lit (.bool true)], args := [d] }
  | _ => none }
def lldpWritesRow : OpenClaim := { program := "ytmeoalpmicndbaadoor", sum := "feabc9bfc4de8536d76274949af07075b73b40d3ac38643064da5dae395f774a", func := "switchyard/switchyardlaw.LldpWrites", spec := "lldpWrites", inPlace := ["internal/abi.NoEscape", "internal/reflectlite.ValueOf", "(internal/reflectlite.Value).Type", "(internal/reflectlite.Value).IsNil", "internal/reflectlite.TypeOf", "(internal/reflectlite.Value).Elem", "(internal/reflectlite.Value).Set"], unfollowed := true, recurses := true, named := ["errors.errorType"], apart := false, laid := [("errors.errorType", laid_errors_errorType)] }
def LldpWritesSaid : Prop := lldpWritesRow.holds Tryd.pinned (OpenSpec.ofChange lldpWritesSpec)

/-- ITS FALSE NEIGHBOUR: 'it returns false'. Refute it at one input. -/
def lldpWritesWrong : ChangeSpec := { name := "lldpWrites", fn := fun _ => fun
  | [d] => { results := [.lit (.bool false)], args := [d] }
  | _ => none }
def LldpWritesWrongFalsely : Prop := lldpWritesRow.holds Tryd.pinned (OpenSpec.ofChange lldpWritesWrong)

/-- 'switchyardlaw.LldpReads': WHATEVER THE INPUT: true; the input reads as it did. -/
def lldpReadsSpec : ChangeSpec := { name := "lldpReads", fn := fun _ => fun
  | [d] => { results := [.lit (.bool true)], args := [d] }
  | _ => none }
def lldpReadsRow : OpenClaim := { program := "ytmeoalpmicndbaadoor", sum := "feabc9bfc4de8536d76274949af07075b73b40d3ac38643064da5dae395f774a", func := "switchyard/switchyardlaw.LldpReads", spec := "lldpReads", inPlace := ["internal/reflectlite.ValueOf", "(internal/reflectlite.Value).Type", "(internal/reflectlite.Value).IsNil", "internal/reflectlite.TypeOf", "(internal/reflectlite.Value).Elem", "(internal/reflectlite.Value).Set"], unfollowed := true, recurses := true, named := ["errors.errorType"], apart := false, laid := [("errors.errorType", laid_errors_errorType)] }
def LldpReadsSaid : Prop := lldpReadsRow.holds Tryd.pinned (OpenSpec.ofChange lldpReadsSpec)

/-- ITS FALSE NEIGHBOUR: 'it returns false'. Refute it at one input. -/
def lldpReadsWrong : ChangeSpec := { name := "lldpReads", fn := fun _ => fun
  | [d] => { results := [.lit (.bool false)], args := [d] }
  | _ => none }
def LldpReadsWrongFalsely : Prop := lldpReadsRow.holds Tryd.pinned (OpenSpec.ofChange lldpReadsWrong)

/-- 'switchyardlaw.MvrpWrites': WHATEVER THE INPUT: true; the input reads as it did. -/
def mvrpWritesSpec : ChangeSpec := { name := "mvrpWrites", fn := fun _ => fun
  | [d] => { results := [.lit (.bool true)], args := [d] }
  | _ => none }
def mvrpWritesRow : OpenClaim := { program := "ytmeoalpmicndbaadoor", sum := "feabc9bfc4de8536d76274949af07075b73b40d3ac38643064da5dae395f774a", func := "switchyard/switchyardlaw.MvrpWrites", spec := "mvrpWrites", inPlace := ["internal/abi.NoEscape", "internal/reflectlite.ValueOf", "(internal/reflectlite.Value).Type", "(internal/reflectlite.Value).IsNil", "internal/reflectlite.TypeOf", "(internal/reflectlite.Value).Elem", "(internal/reflectlite.Value).Set"], unfollowed := true, recurses := true, named := ["errors.errorType"], apart := false, laid := [("errors.errorType", laid_errors_errorType)] }
def MvrpWritesSaid : Prop := mvrpWritesRow.holds Tryd.pinned (OpenSpec.ofChange mvrpWritesSpec)

/-- ITS FALSE NEIGHBOUR: 'it returns false'. Refute it at one input. -/
def mvrpWritesWrong : ChangeSpec := { name := "mvrpWrites", fn := fun _ => fun
  | [d] => { results := [.lit (.bool false)], args := [d] }
  | _ => none }
def MvrpWritesWrongFalsely : Prop := mvrpWritesRow.holds Tryd.pinned (OpenSpec.ofChange mvrpWritesWrong)

/-- 'switchyardlaw.MvrpReads': WHATEVER THE INPUT: true; the input reads as it did. -/
def mvrpReadsSpec : ChangeSpec := { name := "mvrpReads", fn := fun _ => fun
  | [d] => { results := [.lit (.bool true)], args := [d] }
  | _ => none }
def mvrpReadsRow : OpenClaim := { program := "ytmeoalpmicndbaadoor", sum := "feabc9bfc4de8536d76274949af07075b73b40d3ac38643064da5dae395f774a", func := "switchyard/switchyardlaw.MvrpReads", spec := "mvrpReads", inPlace := ["internal/reflectlite.ValueOf", "(internal/reflectlite.Value).Type", "(internal/reflectlite.Value).IsNil", "internal/reflectlite.TypeOf", "(internal/reflectlite.Value).Elem", "(internal/reflectlite.Value).Set"], unfollowed := true, recurses := true, named := ["errors.errorType"], apart := false, laid := [("errors.errorType", laid_errors_errorType)] }
def MvrpReadsSaid : Prop := mvrpReadsRow.holds Tryd.pinned (OpenSpec.ofChange mvrpReadsSpec)

/-- ITS FALSE NEIGHBOUR: 'it returns false'. Refute it at one input. -/
def mvrpReadsWrong : ChangeSpec := { name := "mvrpReads", fn := fun _ => fun
  | [d] => { results := [.lit (.bool false)], args := [d] }
  | _ => none }
def MvrpReadsWrongFalsely : Prop := mvrpReadsRow.holds Tryd.pinned (OpenSpec.ofChange mvrpReadsWrong)

/-- 'switchyardlaw.MvrpPacks': WHATEVER THE INPUT: true; the input reads as it did. -/
def mvrpPacksSpec : ChangeSpec := { name := "mvrpPacks", fn := fun _ => fun
  | [d1, d2] => { results := [.lit (.bool true)], args := [d1, d2] }
  | _ => none }
def mvrpPacksRow : OpenClaim := { program := "ytmeoalpmicndbaadoor", sum := "feabc9bfc4de8536d76274949af07075b73b40d3ac38643064da5dae395f774a", func := "switchyard/switchyardlaw.MvrpPacks", spec := "mvrpPacks", inPlace := ["internal/reflectlite.ValueOf", "(internal/reflectlite.Value).Type", "(internal/reflectlite.Value).IsNil", "internal/reflectlite.TypeOf", "(internal/reflectlite.Value).Elem", "(internal/reflectlite.Value).Set"], unfollowed := true, recurses := true, named := ["errors.errorType"], apart := false, laid := [("errors.errorType", laid_errors_errorType)] }
def MvrpPacksSaid : Prop := mvrpPacksRow.holds Tryd.pinned (OpenSpec.ofChange mvrpPacksSpec)

/-- ITS FALSE NEIGHBOUR: 'it returns false'. Refute it at one input. -/
def mvrpPacksWrong : ChangeSpec := { name := "mvrpPacks", fn := fun _ => fun
  | [d1, d2] => { results := [.lit (.bool false)], args := [d1, d2] }
  | _ => none }
def MvrpPacksWrongFalsely : Prop := mvrpPacksRow.holds Tryd.pinned (OpenSpec.ofChange mvrpPacksWrong)

/-- 'switchyardlaw.MstpWrites': WHATEVER THE INPUT: true; the input reads as it did. -/
def mstpWritesSpec : ChangeSpec := { name := "mstpWrites", fn := fun _ => fun
  | [d] => { results := [.lit (.bool true)], args := [d] }
  | _ => none }
def mstpWritesRow : OpenClaim := { program := "ytmeoalpmicndbaadoor", sum := "feabc9bfc4de8536d76274949af07075b73b40d3ac38643064da5dae395f774a", func := "switchyard/switchyardlaw.MstpWrites", spec := "mstpWrites", inPlace := ["internal/abi.NoEscape", "internal/bytealg.MakeNoZero", "internal/reflectlite.ValueOf", "(internal/reflectlite.Value).Type", "(internal/reflectlite.Value).IsNil", "internal/reflectlite.TypeOf", "(internal/reflectlite.Value).Elem", "(internal/reflectlite.Value).Set"], unfollowed := true, recurses := true, named := ["errors.errorType"], apart := false, laid := [("errors.errorType", laid_errors_errorType)] }
def MstpWritesSaid : Prop := mstpWritesRow.holds Tryd.pinned (OpenSpec.ofChange mstpWritesSpec)

/-- ITS FALSE NEIGHBOUR: 'it returns false'. Refute it at one input. -/
def mstpWritesWrong : ChangeSpec := { name := "mstpWrites", fn := fun _ => fun
  | [d] => { results := [.lit (.bool false)], args := [d] }
  | _ => none }
def MstpWritesWrongFalsely : Prop := mstpWritesRow.holds Tryd.pinned (OpenSpec.ofChange mstpWritesWrong)

/-- 'switchyardlaw.MstpReads': WHATEVER THE INPUT: true; the input reads as it did. -/
def mstpReadsSpec : ChangeSpec := { name := "mstpReads", fn := fun _ => fun
  | [d] => { results := [.lit (.bool true)], args := [d] }
  | _ => none }
def mstpReadsRow : OpenClaim := { program := "ytmeoalpmicndbaadoor", sum := "feabc9bfc4de8536d76274949af07075b73b40d3ac38643064da5dae395f774a", func := "switchyard/switchyardlaw.MstpReads", spec := "mstpReads", inPlace := ["internal/bytealg.IndexByteString", "internal/bytealg.IndexString", "internal/reflectlite.ValueOf", "(internal/reflectlite.Value).Type", "(internal/reflectlite.Value).IsNil", "internal/reflectlite.TypeOf", "(internal/reflectlite.Value).Elem", "(internal/reflectlite.Value).Set"], unfollowed := true, recurses := true, named := ["unicode/utf8.first", "unicode/utf8.acceptRanges", "errors.errorType", "internal/bytealg.MaxLen"], apart := false, laid := [("unicode/utf8.acceptRanges", laid_unicode_utf8_acceptRanges), ("errors.errorType", laid_errors_errorType), ("unicode/utf8.first", laid_unicode_utf8_first)] }
def MstpReadsSaid : Prop := mstpReadsRow.holds Tryd.pinned (OpenSpec.ofChange mstpReadsSpec)

/-- ITS FALSE NEIGHBOUR: 'it returns false'. Refute it at one input. -/
def mstpReadsWrong : ChangeSpec := { name := "mstpReads", fn := fun _ => fun
  | [d] => { results := [.lit (.bool false)], args := [d] }
  | _ => none }
def MstpReadsWrongFalsely : Prop := mstpReadsRow.holds Tryd.pinned (OpenSpec.ofChange mstpReadsWrong)

/-- 'switchyardlaw.LearnKeeps': WHATEVER THE INPUT: true; the input reads as it did. -/
def learnKeepsSpec : ChangeSpec := { name := "learnKeeps", fn := fun _ => fun
  | [d1, d2] => { results := [.lit (.bool true)], args := [d1, d2] }
  | _ => none }
def learnKeepsRow : OpenClaim := { program := "ytmeoalpmicndbaadoor", sum := "feabc9bfc4de8536d76274949af07075b73b40d3ac38643064da5dae395f774a", func := "switchyard/switchyardlaw.LearnKeeps", spec := "learnKeeps", inPlace := ["internal/reflectlite.ValueOf", "(internal/reflectlite.Value).Type", "(internal/reflectlite.Value).IsNil", "internal/reflectlite.TypeOf", "(internal/reflectlite.Value).Elem", "(internal/reflectlite.Value).Set"], unfollowed := true, recurses := true, named := ["errors.errorType"], apart := false, laid := [("errors.errorType", laid_errors_errorType)] }
def LearnKeepsSaid : Prop := learnKeepsRow.holds Tryd.pinned (OpenSpec.ofChange learnKeepsSpec)

/-- ITS FALSE NEIGHBOUR: 'it returns false'. Refute it at one input. -/
def learnKeepsWrong : ChangeSpec := { name := "learnKeeps", fn := fun _ => fun
  | [d1, d2] => { results := [.lit (.bool false)], args := [d1, d2] }
  | _ => none }
def LearnKeepsWrongFalsely : Prop := learnKeepsRow.holds Tryd.pinned (OpenSpec.ofChange learnKeepsWrong)

/- THE SECOND FORM. 'bulk': how many values and letters a reading holds, each counted each time it is reached (what is shared counts as often as it is met; a slice's spare places count too). A statement '..UptoSaid' is the law's where the arguments, and the package variables that the reading takes, are together of bulk at most 1048576: NARROWER than '..Said'. Prove '..Said' where nothing that the law and all that it calls make is longer than what came in: it says more and counts as full. Else prove '..UptoSaid'. A law counts once. -/
mutual
def uptoBulk {H : Type} : DataW H → Nat
  | .lit (.string bytes) => bytes.length + 1
  | .lit _ => 1
  | .nil => 1
  | .ptr d => uptoBulk d + 1
  | .slice elems spare => uptoBulkAll elems + uptoBulkAll spare + 1
  | .agg parts => uptoBulkAll parts + 1
  | .iface _ d => uptoBulk d + 1
  | .map entries => uptoBulkEntries entries + 1
  | .held _ => 1
def uptoBulkAll {H : Type} : List (DataW H) → Nat
  | [] => 0
  | d :: r => uptoBulk d + uptoBulkAll r
def uptoBulkEntries {H : Type} : List (Lit × DataW H) → Nat
  | [] => 0
  | x :: r => uptoBulkEntry x + uptoBulkEntries r
def uptoBulkEntry {H : Type} : Lit × DataW H → Nat
  | (.string bytes, d) => bytes.length + uptoBulk d + 1
  | (_, d) => uptoBulk d + 1
 end
def uptoSmall : (H : Type) → List (DataW H) → Bool := fun _ ds => decide (uptoBulkAll ds ≤ 1048576)
def OpenSpec.upto (s : _root_.Go.ChangeSpec) : _root_.Go.OpenSpec := { _root_.Go.OpenSpec.ofChange s with cond := some uptoSmall }

/-- 'switchyardlaw.LldpWrites', WHERE WHAT IT READS IS OF BULK AT MOST 1048576: true; the input reads as it did. -/
def lldpWritesUptoRow : OpenClaim := { program := "ytmeoalpmicndbaadoor", sum := "feabc9bfc4de8536d76274949af07075b73b40d3ac38643064da5dae395f774a", func := "switchyard/switchyardlaw.LldpWrites", spec := "lldpWrites", inPlace := ["internal/abi.NoEscape", "internal/reflectlite.ValueOf", "(internal/reflectlite.Value).Type", "(internal/reflectlite.Value).IsNil", "internal/reflectlite.TypeOf", "(internal/reflectlite.Value).Elem", "(internal/reflectlite.Value).Set"], unfollowed := true, recurses := true, named := ["errors.errorType"], apart := false, laid := [("errors.errorType", laid_errors_errorType)], narrowed := true }
def LldpWritesUptoSaid : Prop := lldpWritesUptoRow.holds Tryd.pinned (OpenSpec.upto lldpWritesSpec)

/-- 'switchyardlaw.LldpReads', WHERE WHAT IT READS IS OF BULK AT MOST 1048576: true; the input reads as it did. -/
def lldpReadsUptoRow : OpenClaim := { program := "ytmeoalpmicndbaadoor", sum := "feabc9bfc4de8536d76274949af07075b73b40d3ac38643064da5dae395f774a", func := "switchyard/switchyardlaw.LldpReads", spec := "lldpReads", inPlace := ["internal/reflectlite.ValueOf", "(internal/reflectlite.Value).Type", "(internal/reflectlite.Value).IsNil", "internal/reflectlite.TypeOf", "(internal/reflectlite.Value).Elem", "(internal/reflectlite.Value).Set"], unfollowed := true, recurses := true, named := ["errors.errorType"], apart := false, laid := [("errors.errorType", laid_errors_errorType)], narrowed := true }
def LldpReadsUptoSaid : Prop := lldpReadsUptoRow.holds Tryd.pinned (OpenSpec.upto lldpReadsSpec)

/-- 'switchyardlaw.MvrpWrites', WHERE WHAT IT READS IS OF BULK AT MOST 1048576: true; the input reads as it did. -/
def mvrpWritesUptoRow : OpenClaim := { program := "ytmeoalpmicndbaadoor", sum := "feabc9bfc4de8536d76274949af07075b73b40d3ac38643064da5dae395f774a", func := "switchyard/switchyardlaw.MvrpWrites", spec := "mvrpWrites", inPlace := ["internal/abi.NoEscape", "internal/reflectlite.ValueOf", "(internal/reflectlite.Value).Type", "(internal/reflectlite.Value).IsNil", "internal/reflectlite.TypeOf", "(internal/reflectlite.Value).Elem", "(internal/reflectlite.Value).Set"], unfollowed := true, recurses := true, named := ["errors.errorType"], apart := false, laid := [("errors.errorType", laid_errors_errorType)], narrowed := true }
def MvrpWritesUptoSaid : Prop := mvrpWritesUptoRow.holds Tryd.pinned (OpenSpec.upto mvrpWritesSpec)

/-- 'switchyardlaw.MvrpReads', WHERE WHAT IT READS IS OF BULK AT MOST 1048576: true; the input reads as it did. -/
def mvrpReadsUptoRow : OpenClaim := { program := "ytmeoalpmicndbaadoor", sum := "feabc9bfc4de8536d76274949af07075b73b40d3ac38643064da5dae395f774a", func := "switchyard/switchyardlaw.MvrpReads", spec := "mvrpReads", inPlace := ["internal/reflectlite.ValueOf", "(internal/reflectlite.Value).Type", "(internal/reflectlite.Value).IsNil", "internal/reflectlite.TypeOf", "(internal/reflectlite.Value).Elem", "(internal/reflectlite.Value).Set"], unfollowed := true, recurses := true, named := ["errors.errorType"], apart := false, laid := [("errors.errorType", laid_errors_errorType)], narrowed := true }
def MvrpReadsUptoSaid : Prop := mvrpReadsUptoRow.holds Tryd.pinned (OpenSpec.upto mvrpReadsSpec)

/-- 'switchyardlaw.MvrpPacks', WHERE WHAT IT READS IS OF BULK AT MOST 1048576: true; the input reads as it did. -/
def mvrpPacksUptoRow : OpenClaim := { program := "ytmeoalpmicndbaadoor", sum := "feabc9bfc4de8536d76274949af07075b73b40d3ac38643064da5dae395f774a", func := "switchyard/switchyardlaw.MvrpPacks", spec := "mvrpPacks", inPlace := ["internal/reflectlite.ValueOf", "(internal/reflectlite.Value).Type", "(internal/reflectlite.Value).IsNil", "internal/reflectlite.TypeOf", "(internal/reflectlite.Value).Elem", "(internal/reflectlite.Value).Set"], unfollowed := true, recurses := true, named := ["errors.errorType"], apart := false, laid := [("errors.errorType", laid_errors_errorType)], narrowed := true }
def MvrpPacksUptoSaid : Prop := mvrpPacksUptoRow.holds Tryd.pinned (OpenSpec.upto mvrpPacksSpec)

/-- 'switchyardlaw.MstpWrites', WHERE WHAT IT READS IS OF BULK AT MOST 1048576: true; the input reads as it did. -/
def mstpWritesUptoRow : OpenClaim := { program := "ytmeoalpmicndbaadoor", sum := "feabc9bfc4de8536d76274949af07075b73b40d3ac38643064da5dae395f774a", func := "switchyard/switchyardlaw.MstpWrites", spec := "mstpWrites", inPlace := ["internal/abi.NoEscape", "internal/bytealg.MakeNoZero", "internal/reflectlite.ValueOf", "(internal/reflectlite.Value).Type", "(internal/reflectlite.Value).IsNil", "internal/reflectlite.TypeOf", "(internal/reflectlite.Value).Elem", "(internal/reflectlite.Value).Set"], unfollowed := true, recurses := true, named := ["errors.errorType"], apart := false, laid := [("errors.errorType", laid_errors_errorType)], narrowed := true }
def MstpWritesUptoSaid : Prop := mstpWritesUptoRow.holds Tryd.pinned (OpenSpec.upto mstpWritesSpec)

/-- 'switchyardlaw.MstpReads', WHERE WHAT IT READS IS OF BULK AT MOST 1048576: true; the input reads as it did. -/
def mstpReadsUptoRow : OpenClaim := { program := "ytmeoalpmicndbaadoor", sum := "feabc9bfc4de8536d76274949af07075b73b40d3ac38643064da5dae395f774a", func := "switchyard/switchyardlaw.MstpReads", spec := "mstpReads", inPlace := ["internal/bytealg.IndexByteString", "internal/bytealg.IndexString", "internal/reflectlite.ValueOf", "(internal/reflectlite.Value).Type", "(internal/reflectlite.Value).IsNil", "internal/reflectlite.TypeOf", "(internal/reflectlite.Value).Elem", "(internal/reflectlite.Value).Set"], unfollowed := true, recurses := true, named := ["unicode/utf8.first", "unicode/utf8.acceptRanges", "errors.errorType", "internal/bytealg.MaxLen"], apart := false, laid := [("unicode/utf8.acceptRanges", laid_unicode_utf8_acceptRanges), ("errors.errorType", laid_errors_errorType), ("unicode/utf8.first", laid_unicode_utf8_first)], narrowed := true }
def MstpReadsUptoSaid : Prop := mstpReadsUptoRow.holds Tryd.pinned (OpenSpec.upto mstpReadsSpec)

/-- 'switchyardlaw.LearnKeeps', WHERE WHAT IT READS IS OF BULK AT MOST 1048576: true; the input reads as it did. -/
def learnKeepsUptoRow : OpenClaim := { program := "ytmeoalpmicndbaadoor", sum := "feabc9bfc4de8536d76274949af07075b73b40d3ac38643064da5dae395f774a", func := "switchyard/switchyardlaw.LearnKeeps", spec := "learnKeeps", inPlace := ["internal/reflectlite.ValueOf", "(internal/reflectlite.Value).Type", "(internal/reflectlite.Value).IsNil", "internal/reflectlite.TypeOf", "(internal/reflectlite.Value).Elem", "(internal/reflectlite.Value).Set"], unfollowed := true, recurses := true, named := ["errors.errorType"], apart := false, laid := [("errors.errorType", laid_errors_errorType)], narrowed := true }
def LearnKeepsUptoSaid : Prop := learnKeepsUptoRow.holds Tryd.pinned (OpenSpec.upto learnKeepsSpec)

end Rows
end Go.Proofs.YtmeoalpmicndbaaDoor
