/-
  NARROWER THAN 'FOR EVERY INPUT', by the rows' own cells (each row's printed sentence says how): MacKnows: laid · TreeChecks: laid · BridgeRights: laid · MvrpPacks: laid · LearnKeeps: laid · BpduReads: laid · BpduWrites: laid · MvrpWrites: laid · LldpWrites: laid · MvrpReads: laid.
  DERIVED. THE GIVEN ROWS OF THIS SEAT. 10 by the template 'for every input the law returns true; each argument reads behind the call as it read before'; 0 by the template 'total and deterministic' (their statements: YtidbblgahmjakaaDoorTotals.lean).
  GIVEN WITH THE SEED: the statements are not yours to turn. If you find one false, say at which input.
  Laid BY PROGRAM, IN A SANDBOX (cutbox-rows.mjs): the forced cells as the released guide's own fill.sh prints them over the translation 3505f304e7b372f0… (all of the seat's roots in one cut). By AI agents, Wed Nov 11 2026. No macro, syntax, notation, axiom, sorry.
-/
import Derived.Test.YtidbblgahmjakaaDoorChecked
import GoSem.Claim
import GoSem.ClaimJoined
import GoSem.ClaimMapViews
import Derived.JoinedTies
import Derived.KernelRfl
namespace Go.Proofs.YtidbblgahmjakaaDoor
/- THE CELL 'sum', in the pinned program and in every row, IS THE sha256 OF THE DUMP (.gsa) THAT YtidbblgahmjakaaDoorProg.lean LOADS. Nothing in Lean hashes anything: it is a label: what it is worth is what the hold of that sum in a sandbox is worth. -/
noncomputable def Tryd.pinned : Pinned := { name := "ytidbblgahmjakaadoor", sum := "3505f304e7b372f0d33a9d7ee61ac710098aabbc64c00616f40c7933c3ab25c6", checked := Tryd.checked }
namespace Rows
def none {H : Type} : Left H := { results := [], args := [] }

/- WHAT THE LISTED PACKAGE-LEVEL VARIABLES READ AS WHEN THE CALL BEGINS. Each datum BY PROGRAM (the guide's laid-datum.mjs) off the statement by which the dump's own 'gosem.cut.vars' lays the variable. In a bare row this is a premise. The card (YtidbblgahmjakaaDoorCards.lean) ties it to the program's text. -/
def laid_math_bits_deBruijn32tab {H : Type} : DataW H := .agg [.lit (.int .u8 0), .lit (.int .u8 1), .lit (.int .u8 28), .lit (.int .u8 2), .lit (.int .u8 29), .lit (.int .u8 14), .lit (.int .u8 24), .lit (.int .u8 3), .lit (.int .u8 30), .lit (.int .u8 22), .lit (.int .u8 20), .lit (.int .u8 15), .lit (.int .u8 25), .lit (.int .u8 17), .lit (.int .u8 4), .lit (.int .u8 8), .lit (.int .u8 31), .lit (.int .u8 27), .lit (.int .u8 13), .lit (.int .u8 23), .lit (.int .u8 21), .lit (.int .u8 19), .lit (.int .u8 16), .lit (.int .u8 7), .lit (.int .u8 26), .lit (.int .u8 12), .lit (.int .u8 18), .lit (.int .u8 6), .lit (.int .u8 11), .lit (.int .u8 5), .lit (.int .u8 10), .lit (.int .u8 9)]
def laid_math_bits_deBruijn64tab {H : Type} : DataW H := .agg [.lit (.int .u8 0), .lit (.int .u8 1), .lit (.int .u8 56), .lit (.int .u8 2), .lit (.int .u8 57), .lit (.int .u8 49), .lit (.int .u8 28), .lit (.int .u8 3), .lit (.int .u8 61), .lit (.int .u8 58), .lit (.int .u8 42), .lit (.int .u8 50), .lit (.int .u8 38), .lit (.int .u8 29), .lit (.int .u8 17), .lit (.int .u8 4), .lit (.int .u8 62), .lit (.int .u8 47), .lit (.int .u8 59), .lit (.int .u8 36), .lit (.int .u8 45), .lit (.int .u8 43), .lit (.int .u8 51), .lit (.int .u8 22), .lit (.int .u8 53), .lit (.int .u8 39), .lit (.int .u8 33), .lit (.int .u8 30), .lit (.int .u8 24), .lit (.int .u8 18), .lit (.int .u8 12), .lit (.int .u8 5), .lit (.int .u8 63), .lit (.int .u8 55), .lit (.int .u8 48), .lit (.int .u8 27), .lit (.int .u8 60), .lit (.int .u8 41), .lit (.int .u8 37), .lit (.int .u8 16), .lit (.int .u8 46), .lit (.int .u8 35), .lit (.int .u8 44), .lit (.int .u8 21), .lit (.int .u8 52), .lit (.int .u8 32), .lit (.int .u8 23), .lit (.int .u8 11), .lit (.int .u8 54), .lit (.int .u8 26), .lit (.int .u8 40), .lit (.int .u8 15), .lit (.int .u8 34), .lit (.int .u8 20), .lit (.int .u8 31), .lit (.int .u8 10), .lit (.int .u8 25), .lit (.int .u8 14), .lit (.int .u8 19), .lit (.int .u8 9), .lit (.int .u8 13), .lit (.int .u8 8), .lit (.int .u8 7), .lit (.int .u8 6)]
def laid_internal_strconv_uint64pow10 {H : Type} : DataW H := .agg [.lit (.int .u64 1), .lit (.int .u64 10), .lit (.int .u64 100), .lit (.int .u64 1000), .lit (.int .u64 10000), .lit (.int .u64 100000), .lit (.int .u64 1000000), .lit (.int .u64 10000000), .lit (.int .u64 100000000), .lit (.int .u64 1000000000), .lit (.int .u64 10000000000), .lit (.int .u64 100000000000), .lit (.int .u64 1000000000000), .lit (.int .u64 10000000000000), .lit (.int .u64 100000000000000), .lit (.int .u64 1000000000000000), .lit (.int .u64 10000000000000000), .lit (.int .u64 100000000000000000), .lit (.int .u64 1000000000000000000), .lit (.int .u64 10000000000000000000)]
def laid_errors_errorType {H : Type} : DataW H := .iface "internal/reflectlite.rtype" (.agg [.ptr (.lit (.string [101, 114, 114, 111, 114]))])

/-- 'switchyardlaw.MacKnows': WHATEVER THE INPUT: true; the input reads as it did. -/
def macKnowsSpec : ChangeSpec := { name := "macKnows", fn := fun _ => fun
  | [d1, d2, d3] => { results := [.lit (.bool true)], args := [d1, d2, d3] }
  | _ => none }
def macKnowsRow : OpenClaim := { program := "ytidbblgahmjakaadoor", sum := "3505f304e7b372f0d33a9d7ee61ac710098aabbc64c00616f40c7933c3ab25c6", func := "switchyard/switchyardlaw.MacKnows", spec := "macKnows", named := ["internal/strconv.uint64pow10", "math/bits.deBruijn32tab", "math/bits.deBruijn64tab"], plainKeys := false, apart := false, laid := [("math/bits.deBruijn32tab", laid_math_bits_deBruijn32tab), ("math/bits.deBruijn64tab", laid_math_bits_deBruijn64tab), ("internal/strconv.uint64pow10", laid_internal_strconv_uint64pow10)] }
def MacKnowsSaid : Prop := macKnowsRow.holds Tryd.pinned (OpenSpec.ofChange macKnowsSpec)

/-- ITS FALSE NEIGHBOUR: 'it returns false'. Refute it at one input. -/
def macKnowsWrong : ChangeSpec := { name := "macKnows", fn := fun _ => fun
  | [d1, d2, d3] => { results := [.lit (.bool false)], args := [d1, d2, d3] }
  | _ => none }
def MacKnowsWrongFalsely : Prop := macKnowsRow.holds Tryd.pinned (OpenSpec.ofChange macKnowsWrong)

/-- 'switchyardlaw.TreeChecks': WHATEVER THE INPUT: true; the input reads as it did. -/
def treeChecksSpec : ChangeSpec := { name := "treeChecks", fn := fun _ => fun
  | [d] => { results := [.lit (.bool true)], args := [d] }
  | _ => none }
def treeChecksRow : OpenClaim := { program := "ytidbblgahmjakaadoor", sum := "3505f304e7b372f0d33a9d7ee61ac710098aabbc64c00616f40c7933c3ab25c6", func := "switchyard/switchyardlaw.TreeChecks", spec := "treeChecks", inPlace := ["internal/reflectlite.ValueOf", "(internal/reflectlite.Value).Type", "(internal/reflectlite.Value).IsNil", "internal/reflectlite.TypeOf", "(internal/reflectlite.Value).Elem", "(internal/reflectlite.Value).Set"], unfollowed := true, recurses := true, named := ["errors.errorType"], plainKeys := false, apart := false, laid := [("errors.errorType", laid_errors_errorType)] }
def TreeChecksSaid : Prop := treeChecksRow.holds Tryd.pinned (OpenSpec.ofChange treeChecksSpec)

/-- ITS FALSE NEIGHBOUR: 'it returns false'. Refute it at one input. -/
def treeChecksWrong : ChangeSpec := { name := "treeChecks", fn := fun _ => fun
  | [d] => { results := [.lit (.bool false)], args := [d] }
  | _ => none }
def TreeChecksWrongFalsely : Prop := treeChecksRow.holds Tryd.pinned (OpenSpec.ofChange treeChecksWrong)

/-- 'switchyardlaw.BridgeRights': WHATEVER THE INPUT: true; the input reads as it did. -/
def bridgeRightsSpec : ChangeSpec := { name := "bridgeRights", fn := fun _ => fun
  | [d1, d2] => { results := [.lit (.bool true)], args := [d1, d2] }
  | _ => none }
def bridgeRightsRow : OpenClaim := { program := "ytidbblgahmjakaadoor", sum := "3505f304e7b372f0d33a9d7ee61ac710098aabbc64c00616f40c7933c3ab25c6", func := "switchyard/switchyardlaw.BridgeRights", spec := "bridgeRights", inPlace := ["internal/reflectlite.ValueOf", "(internal/reflectlite.Value).Type", "(internal/reflectlite.Value).IsNil", "internal/reflectlite.TypeOf", "(internal/reflectlite.Value).Elem", "(internal/reflectlite.Value).Set"], unfollowed := true, recurses := true, named := ["errors.errorType"], plainKeys := false, apart := false, laid := [("errors.errorType", laid_errors_errorType)] }
def BridgeRightsSaid : Prop := bridgeRightsRow.holds Tryd.pinned (OpenSpec.ofChange bridgeRightsSpec)

/-- ITS FALSE NEIGHBOUR: 'it returns false'. Refute it at one input. -/
def bridgeRightsWrong : ChangeSpec := { name := "bridgeRights", fn := fun _ => fun
  | [d1, d2] => { results := [.lit (.bool false)], args := [d1, d2] }
  | _ => none }
def BridgeRightsWrongFalsely : Prop := bridgeRightsRow.holds Tryd.pinned (OpenSpec.ofChange bridgeRightsWrong)

/-- 'switchyardlaw.MvrpPacks': WHATEVER THE INPUT: true; the input reads as it did. -/
def mvrpPacksSpec : ChangeSpec := { name := "mvrpPacks", fn := fun _ => fun
  | [d1, d2] => { results := [.lit (.bool true)], args := [d1, d2] }
  | _ => none }
def mvrpPacksRow : OpenClaim := { program := "ytidbblgahmjakaadoor", sum := "3505f304e7b372f0d33a9d7ee61ac710098aabbc64c00616f40c7933c3ab25c6", func := "switchyard/switchyardlaw.MvrpPacks", spec := "mvrpPacks", inPlace := ["internal/reflectlite.ValueOf", "(internal/reflectlite.Value).Type", "(internal/reflectlite.Value).IsNil", "internal/reflectlite.TypeOf", "(internal/reflectlite.Value).Elem", "(internal/reflectlite.Value).Set"], unfollowed := true, recurses := true, named := ["errors.errorType"], plainKeys := false, apart := false, laid := [("errors.errorType", laid_errors_errorType)] }
def MvrpPacksSaid : Prop := mvrpPacksRow.holds Tryd.pinned (OpenSpec.ofChange mvrpPacksSpec)

/-- ITS FALSE NEIGHBOUR: 'it returns false'. Refute it at one input. -/
def mvrpPacksWrong : ChangeSpec := { name := "mvrpPacks", fn := fun _ => fun
  | [d1, d2] => { results := [.lit (.bool false)], args := [d1, d2] }
  | _ => none }
def MvrpPacksWrongFalsely : Prop := mvrpPacksRow.holds Tryd.pinned (OpenSpec.ofChange mvrpPacksWrong)

/-- 'switchyardlaw.LearnKeeps': WHATEVER THE INPUT: true; the input reads as it did. -/
def learnKeepsSpec : ChangeSpec := { name := "learnKeeps", fn := fun _ => fun
  | [d1, d2] => { results := [.lit (.bool true)], args := [d1, d2] }
  | _ => none }
def learnKeepsRow : OpenClaim := { program := "ytidbblgahmjakaadoor", sum := "3505f304e7b372f0d33a9d7ee61ac710098aabbc64c00616f40c7933c3ab25c6", func := "switchyard/switchyardlaw.LearnKeeps", spec := "learnKeeps", inPlace := ["internal/reflectlite.ValueOf", "(internal/reflectlite.Value).Type", "(internal/reflectlite.Value).IsNil", "internal/reflectlite.TypeOf", "(internal/reflectlite.Value).Elem", "(internal/reflectlite.Value).Set"], unfollowed := true, recurses := true, named := ["errors.errorType"], plainKeys := false, apart := false, laid := [("errors.errorType", laid_errors_errorType)] }
def LearnKeepsSaid : Prop := learnKeepsRow.holds Tryd.pinned (OpenSpec.ofChange learnKeepsSpec)

/-- ITS FALSE NEIGHBOUR: 'it returns false'. Refute it at one input. -/
def learnKeepsWrong : ChangeSpec := { name := "learnKeeps", fn := fun _ => fun
  | [d1, d2] => { results := [.lit (.bool false)], args := [d1, d2] }
  | _ => none }
def LearnKeepsWrongFalsely : Prop := learnKeepsRow.holds Tryd.pinned (OpenSpec.ofChange learnKeepsWrong)

/-- 'switchyardlaw.BpduReads': WHATEVER THE INPUT: true; the input reads as it did. -/
def bpduReadsSpec : ChangeSpec := { name := "bpduReads", fn := fun _ => fun
  | [d] => { results := [.lit (.bool true)], args := [d] }
  | _ => none }
def bpduReadsRow : OpenClaim := { program := "ytidbblgahmjakaadoor", sum := "3505f304e7b372f0d33a9d7ee61ac710098aabbc64c00616f40c7933c3ab25c6", func := "switchyard/switchyardlaw.BpduReads", spec := "bpduReads", inPlace := ["internal/reflectlite.ValueOf", "(internal/reflectlite.Value).Type", "(internal/reflectlite.Value).IsNil", "internal/reflectlite.TypeOf", "(internal/reflectlite.Value).Elem", "(internal/reflectlite.Value).Set"], unfollowed := true, recurses := true, named := ["errors.errorType"], plainKeys := false, apart := false, laid := [("errors.errorType", laid_errors_errorType)] }
def BpduReadsSaid : Prop := bpduReadsRow.holds Tryd.pinned (OpenSpec.ofChange bpduReadsSpec)

/-- ITS FALSE NEIGHBOUR: 'it returns false'. Refute it at one input. -/
def bpduReadsWrong : ChangeSpec := { name := "bpduReads", fn := fun _ => fun
  | [d] => { results := [.lit (.bool false)], args := [d] }
  | _ => none }
def BpduReadsWrongFalsely : Prop := bpduReadsRow.holds Tryd.pinned (OpenSpec.ofChange bpduReadsWrong)

/-- 'switchyardlaw.BpduWrites': WHATEVER THE INPUT: true; the input reads as it did. -/
def bpduWritesSpec : ChangeSpec := { name := "bpduWrites", fn := fun _ => fun
  | [d] => { results := [.lit (.bool true)], args := [d] }
  | _ => none }
def bpduWritesRow : OpenClaim := { program := "ytidbblgahmjakaadoor", sum := "3505f304e7b372f0d33a9d7ee61ac710098aabbc64c00616f40c7933c3ab25c6", func := "switchyard/switchyardlaw.BpduWrites", spec := "bpduWrites", inPlace := ["internal/reflectlite.ValueOf", "(internal/reflectlite.Value).Type", "(internal/reflectlite.Value).IsNil", "internal/reflectlite.TypeOf", "(internal/reflectlite.Value).Elem", "(internal/reflectlite.Value).Set"], unfollowed := true, recurses := true, named := ["errors.errorType"], plainKeys := false, apart := false, laid := [("errors.errorType", laid_errors_errorType)] }
def BpduWritesSaid : Prop := bpduWritesRow.holds Tryd.pinned (OpenSpec.ofChange bpduWritesSpec)

/-- ITS FALSE NEIGHBOUR: 'it returns false'. Refute it at one input. -/
def bpduWritesWrong : ChangeSpec := { name := "bpduWrites", fn := fun _ => fun
  | [d] => { results := [.lit (.bool false)], args := [d] }
  | _ => none }
def BpduWritesWrongFalsely : Prop := bpduWritesRow.holds Tryd.pinned (OpenSpec.ofChange bpduWritesWrong)

/-- 'switchyardlaw.MvrpWrites': WHATEVER THE INPUT: true; the input reads as it did. -/
def mvrpWritesSpec : ChangeSpec := { name := "mvrpWrites", fn := fun _ => fun
  | [d] => { results := [.lit (.bool true)], args := [d] }
  | _ => none }
def mvrpWritesRow : OpenClaim := { program := "ytidbblgahmjakaadoor", sum := "3505f304e7b372f0d33a9d7ee61ac710098aabbc64c00616f40c7933c3ab25c6", func := "switchyard/switchyardlaw.MvrpWrites", spec := "mvrpWrites", inPlace := ["internal/abi.NoEscape", "internal/reflectlite.ValueOf", "(internal/reflectlite.Value).Type", "(internal/reflectlite.Value).IsNil", "internal/reflectlite.TypeOf", "(internal/reflectlite.Value).Elem", "(internal/reflectlite.Value).Set"], unfollowed := true, recurses := true, named := ["errors.errorType"], plainKeys := false, apart := false, laid := [("errors.errorType", laid_errors_errorType)] }
def MvrpWritesSaid : Prop := mvrpWritesRow.holds Tryd.pinned (OpenSpec.ofChange mvrpWritesSpec)

/-- ITS FALSE NEIGHBOUR: 'it returns false'. Refute it at one input. -/
def mvrpWritesWrong : ChangeSpec := { name := "mvrpWrites", fn := fun _ => fun
  | [d] => { results := [.lit (.bool false)], args := [d] }
  | _ => none }
def MvrpWritesWrongFalsely : Prop := mvrpWritesRow.holds Tryd.pinned (OpenSpec.ofChange mvrpWritesWrong)

/-- 'switchyardlaw.LldpWrites': WHATEVER THE INPUT: true; the input reads as it did. -/
def lldpWritesSpec : ChangeSpec := { name := "lldpWrites", fn := fun _ => fun
  | [d] => { results := [.lit (.bool true)], args := [d] }
  | _ => none }
def lldpWritesRow : OpenClaim := { program := "ytidbblgahmjakaadoor", sum := "3505f304e7b372f0d33a9d7ee61ac710098aabbc64c00616f40c7933c3ab25c6", func := "switchyard/switchyardlaw.LldpWrites", spec := "lldpWrites", inPlace := ["internal/abi.NoEscape", "internal/reflectlite.ValueOf", "(internal/reflectlite.Value).Type", "(internal/reflectlite.Value).IsNil", "internal/reflectlite.TypeOf", "(internal/reflectlite.Value).Elem", "(internal/reflectlite.Value).Set"], unfollowed := true, recurses := true, named := ["errors.errorType"], plainKeys := false, apart := false, laid := [("errors.errorType", laid_errors_errorType)] }
def LldpWritesSaid : Prop := lldpWritesRow.holds Tryd.pinned (OpenSpec.ofChange lldpWritesSpec)

/-- ITS FALSE NEIGHBOUR: 'it returns false'. Refute it at one input. -/
def lldpWritesWrong : ChangeSpec := { name := "lldpWrites", fn := fun _ => fun
  | [d] => { results := [.lit (.bool false)], args := [d] }
  | _ => none }
def LldpWritesWrongFalsely : Prop := lldpWritesRow.holds Tryd.pinned (OpenSpec.ofChange lldpWritesWrong)

/-- 'switchyardlaw.MvrpReads': WHATEVER THE INPUT: true; the input reads as it did. -/
def mvrpReadsSpec : ChangeSpec := { name := "mvrpReads", fn := fun _ => fun
  | [d] => { results := [.lit (.bool true)], args := [d] }
  | _ => none }
def mvrpReadsRow : OpenClaim := { program := "ytidbblgahmjakaadoor", sum := "3505f304e7b372f0d33a9d7ee61ac710098aabbc64c00616f40c7933c3ab25c6", func := "switchyard/switchyardlaw.MvrpReads", spec := "mvrpReads", inPlace := ["internal/reflectlite.ValueOf", "(internal/reflectlite.Value).Type", "(internal/reflectlite.Value).IsNil", "internal/reflectlite.TypeOf", "(internal/reflectlite.Value).Elem", "(internal/reflectlite.Value).Set"], unfollowed := true, recurses := true, named := ["errors.errorType"], plainKeys := false, apart := false, laid := [("errors.errorType", laid_errors_errorType)] }
def MvrpReadsSaid : Prop := mvrpReadsRow.holds Tryd.pinned (OpenSpec.ofChange mvrpReadsSpec)

/-- ITS FALSE NEIGHBOUR: 'it returns false'. Refute it at one input. -/
def mvrpReadsWrong : ChangeSpec := { name := "mvrpReads", fn := fun _ => fun
  | [d] => { results := [.lit (.bool false)], args := [d] }
  | _ => none }
def MvrpReadsWrongFalsely : Prop := mvrpReadsRow.holds Tryd.pinned (OpenSpec.ofChange mvrpReadsWrong)

/- THE SECOND FORM. 'bulk': how many values and letters a reading holds, each counted each time it is reached (what is shared counts as often as it is met; a slice's spare places count too). A statement '..UptoSaid' is the law's where the arguments, and the package variables that the reading takes, are together of bulk at most 1048576: NARROWER than '..Said'. Prove '..Said' where nothing that the law and all that it calls make is longer than what came in: it says more and counts as full. Else prove '..UptoSaid'. A law counts once. -/
mutual
def uptoBulk {H : Type} : DataW H → Nat
  | .lit (.string bytes) => bytes.length + 1
  | .lit _ => 1
  | .nil => 1
  | .ptr d => uptoBulk d + 1
  | .slice elems spare => uptoBulkAll elems + uptoBulkAll spare + 1
  | .agg parts => uptoBulkAll parts + 1
  | .iface _ d => uptoBulk d + 1
  | .map entries => uptoBulkEntries entries + 1
  | .held _ => 1
def uptoBulkAll {H : Type} : List (DataW H) → Nat
  | [] => 0
  | d :: r => uptoBulk d + uptoBulkAll r
def uptoBulkEntries {H : Type} : List (Lit × DataW H) → Nat
  | [] => 0
  | x :: r => uptoBulkEntry x + uptoBulkEntries r
def uptoBulkEntry {H : Type} : Lit × DataW H → Nat
  | (.string bytes, d) => bytes.length + uptoBulk d + 1
  | (_, d) => uptoBulk d + 1
 end
def uptoSmall : (H : Type) → List (DataW H) → Bool := fun _ ds => decide (uptoBulkAll ds ≤ 1048576)
def OpenSpec.upto (s : _root_.Go.ChangeSpec) : _root_.Go.OpenSpec := { _root_.Go.OpenSpec.ofChange s with cond := some uptoSmall }

/-- 'switchyardlaw.MacKnows', WHERE WHAT IT READS IS OF BULK AT MOST 1048576: true; the input reads as it did. -/
def macKnowsUptoRow : OpenClaim := { program := "ytidbblgahmjakaadoor", sum := "3505f304e7b372f0d33a9d7ee61ac710098aabbc64c00616f40c7933c3ab25c6", func := "switchyard/switchyardlaw.MacKnows", spec := "macKnows", named := ["internal/strconv.uint64pow10", "math/bits.deBruijn32tab", "math/bits.deBruijn64tab"], plainKeys := false, apart := false, laid := [("math/bits.deBruijn32tab", laid_math_bits_deBruijn32tab), ("math/bits.deBruijn64tab", laid_math_bits_deBruijn64tab), ("internal/strconv.uint64pow10", laid_internal_strconv_uint64pow10)], narrowed := true }
def MacKnowsUptoSaid : Prop := macKnowsUptoRow.holds Tryd.pinned (OpenSpec.upto macKnowsSpec)

/-- 'switchyardlaw.TreeChecks', WHERE WHAT IT READS IS OF BULK AT MOST 1048576: true; the input reads as it did. -/
def treeChecksUptoRow : OpenClaim := { program := "ytidbblgahmjakaadoor", sum := "3505f304e7b372f0d33a9d7ee61ac710098aabbc64c00616f40c7933c3ab25c6", func := "switchyard/switchyardlaw.TreeChecks", spec := "treeChecks", inPlace := ["internal/reflectlite.ValueOf", "(internal/reflectlite.Value).Type", "(internal/reflectlite.Value).IsNil", "internal/reflectlite.TypeOf", "(internal/reflectlite.Value).Elem", "(internal/reflectlite.Value).Set"], unfollowed := true, recurses := true, named := ["errors.errorType"], plainKeys := false, apart := false, laid := [("errors.errorType", laid_errors_errorType)], narrowed := true }
def TreeChecksUptoSaid : Prop := treeChecksUptoRow.holds Tryd.pinned (OpenSpec.upto treeChecksSpec)

/-- 'switchyardlaw.BridgeRights', WHERE WHAT IT READS IS OF BULK AT MOST 1048576: true; the input reads as it did. -/
def bridgeRightsUptoRow : OpenClaim := { program := "ytidbblgahmjakaadoor", sum := "3505f304e7b372f0d33a9d7ee61ac710098aabbc64c00616f40c7933c3ab25c6", func := "switchyard/switchyardlaw.BridgeRights", spec := "bridgeRights", inPlace := ["internal/reflectlite.ValueOf", "(internal/reflectlite.Value).Type", "(internal/reflectlite.Value).IsNil", "internal/reflectlite.TypeOf", "(internal/reflectlite.Value).Elem", "(internal/reflectlite.Value).Set"], unfollowed := true, recurses := true, named := ["errors.errorType"], plainKeys := false, apart := false, laid := [("errors.errorType", laid_errors_errorType)], narrowed := true }
def BridgeRightsUptoSaid : Prop := bridgeRightsUptoRow.holds Tryd.pinned (OpenSpec.upto bridgeRightsSpec)

/-- 'switchyardlaw.MvrpPacks', WHERE WHAT IT READS IS OF BULK AT MOST 1048576: true; the input reads as it did. -/
def mvrpPacksUptoRow : OpenClaim := { program := "ytidbblgahmjakaadoor", sum := "3505f304e7b372f0d33a9d7ee61ac710098aabbc64c00616f40c7933c3ab25c6", func := "switchyard/switchyardlaw.MvrpPacks", spec := "mvrpPacks", inPlace := ["internal/reflectlite.ValueOf", "(internal/reflectlite.Value).Type", "(internal/reflectlite.Value).IsNil", "internal/reflectlite.TypeOf", "(internal/reflectlite.Value).Elem", "(internal/reflectlite.Value).Set"], unfollowed := true, recurses := true, named := ["errors.errorType"], plainKeys := false, apart := false, laid := [("errors.errorType", laid_errors_errorType)], narrowed := true }
def MvrpPacksUptoSaid : Prop := mvrpPacksUptoRow.holds Tryd.pinned (OpenSpec.upto mvrpPacksSpec)

/-- 'switchyardlaw.LearnKeeps', WHERE WHAT IT READS IS OF BULK AT MOST 1048576: true; the input reads as it did. -/
def learnKeepsUptoRow : OpenClaim := { program := "ytidbblgahmjakaadoor", sum := "3505f304e7b372f0d33a9d7ee61ac710098aabbc64c00616f40c7933c3ab25c6", func := "switchyard/switchyardlaw.LearnKeeps", spec := "learnKeeps", inPlace := ["internal/reflectlite.ValueOf", "(internal/reflectlite.Value).Type", "(internal/reflectlite.Value).IsNil", "internal/reflectlite.TypeOf", "(internal/reflectlite.Value).Elem", "(internal/reflectlite.Value).Set"], unfollowed := true, recurses := true, named := ["errors.errorType"], plainKeys := false, apart := false, laid := [("errors.errorType", laid_errors_errorType)], narrowed := true }
def LearnKeepsUptoSaid : Prop := learnKeepsUptoRow.holds Tryd.pinned (OpenSpec.upto learnKeepsSpec)

/-- 'switchyardlaw.BpduReads', WHERE WHAT IT READS IS OF BULK AT MOST 1048576: true; the input reads as it did. -/
def bpduReadsUptoRow : OpenClaim := { program := "ytidbblgahmjakaadoor", sum := "3505f304e7b372f0d33a9d7ee61ac710098aabbc64c00616f40c7933c3ab25c6", func := "switchyard/switchyardlaw.BpduReads", spec := "bpduReads", inPlace := ["internal/reflectlite.ValueOf", "(internal/reflectlite.Value).Type", "(internal/reflectlite.Value).IsNil", "internal/reflectlite.TypeOf", "(internal/reflectlite.Value).Elem", "(internal/reflectlite.Value).Set"], unfollowed := true, recurses := true, named := ["errors.errorType"], plainKeys := false, apart := false, laid := [("errors.errorType", laid_errors_errorType)], narrowed := true }
def BpduReadsUptoSaid : Prop := bpduReadsUptoRow.holds Tryd.pinned (OpenSpec.upto bpduReadsSpec)

/-- 'switchyardlaw.BpduWrites', WHERE WHAT IT READS IS OF BULK AT MOST 1048576: true; the input reads as it did. -/
def bpduWritesUptoRow : OpenClaim := { program := "ytidbblgahmjakaadoor", sum := "3505f304e7b372f0d33a9d7ee61ac710098aabbc64c00616f40c7933c3ab25c6", func := "switchyard/switchyardlaw.BpduWrites", spec := "bpduWrites", inPlace := ["internal/reflectlite.ValueOf", "(internal/reflectlite.Value).Type", "(internal/reflectlite.Value).IsNil", "internal/reflectlite.TypeOf", "(internal/reflectlite.Value).Elem", "(internal/reflectlite.Value).Set"], unfollowed := true, recurses := true, named := ["errors.errorType"], plainKeys := false, apart := false, laid := [("errors.errorType", laid_errors_errorType)], narrowed := true }
def BpduWritesUptoSaid : Prop := bpduWritesUptoRow.holds Tryd.pinned (OpenSpec.upto bpduWritesSpec)

/-- 'switchyardlaw.MvrpWrites', WHERE WHAT IT READS IS OF BULK AT MOST 1048576: true; the input reads as it did. -/
def mvrpWritesUptoRow : OpenClaim := { program := "ytidbblgahmjakaadoor", sum := "3505f304e7b372f0d33a9d7ee61ac710098aabbc64c00616f40c7933c3ab25c6", func := "switchyard/switchyardlaw.MvrpWrites", spec := "mvrpWrites", inPlace := ["internal/abi.NoEscape", "internal/reflectlite.ValueOf", "(internal/reflectlite.Value).Type", "(internal/reflectlite.Value).IsNil", "internal/reflectlite.TypeOf", "(internal/reflectlite.Value).Elem", "(internal/reflectlite.Value).Set"], unfollowed := true, recurses := true, named := ["errors.errorType"], plainKeys := false, apart := false, laid := [("errors.errorType", laid_errors_errorType)], narrowed := true }
def MvrpWritesUptoSaid : Prop := mvrpWritesUptoRow.holds Tryd.pinned (OpenSpec.upto mvrpWritesSpec)

/-- 'switchyardlaw.LldpWrites', WHERE WHAT IT READS IS OF BULK AT MOST 1048576: true; the input reads as it did. -/
def lldpWritesUptoRow : OpenClaim := { program := "ytidbblgahmjakaadoor", sum := "3505f304e7b372f0d33a9d7ee61ac710098aabbc64c00616f40c7933c3ab25c6", func := "switchyard/switchyardlaw.LldpWrites", spec := "lldpWrites", inPlace := ["internal/abi.NoEscape", "internal/reflectlite.ValueOf", "(internal/reflectlite.Value).Type", "(internal/reflectlite.Value).IsNil", "internal/reflectlite.TypeOf", "(internal/reflectlite.Value).Elem", "(internal/reflectlite.Value).Set"], unfollowed := true, recurses := true, named := ["errors.errorType"], plainKeys := false, apart := false, laid := [("errors.errorType", laid_errors_errorType)], narrowed := true }
def LldpWritesUptoSaid : Prop := lldpWritesUptoRow.holds Tryd.pinned (OpenSpec.upto lldpWritesSpec)

/-- 'switchyardlaw.MvrpReads', WHERE WHAT IT READS IS OF BULK AT MOST 1048576: true; the input reads as it did. -/
def mvrpReadsUptoRow : OpenClaim := { program := "ytidbblgahmjakaadoor", sum := "3505f304e7b372f0d33a9d7ee61ac710098aabbc64c00616f40c7933c3ab25c6", func := "switchyard/switchyardlaw.MvrpReads", spec := "mvrpReads", inPlace := ["internal/reflectlite.ValueOf", "(internal/reflectlite.Value).Type", "(internal/reflectlite.Value).IsNil", "internal/reflectlite.TypeOf", "(internal/reflectlite.Value).Elem", "(internal/reflectlite.Value).Set"], unfollowed := true, recurses := true, named := ["errors.errorType"], plainKeys := false, apart := false, laid := [("errors.errorType", laid_errors_errorType)], narrowed := true }
def MvrpReadsUptoSaid : Prop := mvrpReadsUptoRow.holds Tryd.pinned (OpenSpec.upto mvrpReadsSpec)

end Rows
end Go.Proofs.YtidbblgahmjakaaDoor
