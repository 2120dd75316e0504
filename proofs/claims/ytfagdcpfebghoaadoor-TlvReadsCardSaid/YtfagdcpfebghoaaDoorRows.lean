/-
  NARROWER THAN 'FOR EVERY INPUT', by the rows' own cells (each row's printed sentence says how): TagPacks: laid · CrcSums: laid · ArpWrites: laid · PrioPacks: laid · RegionRights: laid · PauseWrites: laid · PrioReads: laid · ArpReads: laid · PauseReads: laid · TlvWrites: laid · TlvReads: laid.
  DERIVED. THE GIVEN ROWS OF THIS SEAT. 11 by the template 'for every input the law returns true; each argument reads behind the call as it read before'; 0 by the template 'total and deterministic' (their statements: YtfagdcpfebghoaaDoorTotals.lean).
  GIVEN WITH THE SEED: the statements are not yours to turn. If you find one false, say at which input.
  Laid BY PROGRAM, IN A SANDBOX (cutbox-rows.mjs): the forced cells as the released guide's own fill.sh prints them over the translation e216ac81d49491b3… (all of the seat's roots in one cut). By AI agents, Wed Nov 11 2026. No macro, syntax, notation, axiom, sorry.
-/
import Derived.Test.YtfagdcpfebghoaaDoorChecked
import GoSem.Claim
import GoSem.ClaimJoined
import GoSem.ClaimMapViews
import Derived.JoinedTies
import Derived.KernelRfl
namespace Go.Proofs.YtfagdcpfebghoaaDoor
/- THE CELL 'sum', in the pinned program and in every row, IS THE sha256 OF THE DUMP (.gsa) THAT YtfagdcpfebghoaaDoorProg.lean LOADS. Nothing in Lean hashes anything: it is a label: what it is worth is what the hold of that sum in a sandbox is worth. -/
noncomputable def Tryd.pinned : Pinned := { name := "ytfagdcpfebghoaadoor", sum := "e216ac81d49491b395ae85197df4f42d0a77f4e97c53416ef376009aa56081a0", checked := Tryd.checked }
namespace Rows
def none {H : Type} : Left H := { results := [], args := [] }

/- WHAT THE LISTED PACKAGE-LEVEL VARIABLES READ AS WHEN THE CALL BEGINS. Each datum BY PROGRAM (the guide's laid-datum.mjs) off the statement by which the dump's own 'gosem.cut.vars' lays the variable. In a bare row this is a premise. The card (YtfagdcpfebghoaaDoorCards.lean) ties it to the program's text. -/
def laid_errors_errorType {H : Type} : DataW H := .iface "internal/reflectlite.rtype" (.agg [.ptr (.lit (.string [101, 114, 114, 111, 114]))])

/-- 'switchyardlaw.TagPacks': WHATEVER THE INPUT: true; the input reads as it did. -/
def tagPacksSpec : ChangeSpec := { name := "tagPacks", fn := fun _ => fun
  | [d1, d2, d3] => { results := [.lit (.bool true)], args := [d1, d2, d3] }
  | _ => none }
def tagPacksRow : OpenClaim := { program := "ytfagdcpfebghoaadoor", sum := "e216ac81d49491b395ae85197df4f42d0a77f4e97c53416ef376009aa56081a0", func := "switchyard/switchyardlaw.TagPacks", spec := "tagPacks", inPlace := ["internal/reflectlite.ValueOf", "(internal/reflectlite.Value).Type", "(internal/reflectlite.Value).IsNil", "internal/reflectlite.TypeOf", "(internal/reflectlite.Value).Elem", "(internal/reflectlite.Value).Set"], unfollowed := true, recurses := true, named := ["errors.errorType"], apart := false, laid := [("errors.errorType", laid_errors_errorType)] }
def TagPacksSaid : Prop := tagPacksRow.holds Tryd.pinned (OpenSpec.ofChange tagPacksSpec)

/-- ITS FALSE NEIGHBOUR: 'it returns false'. Refute it at one input. -/
def tagPacksWrong : ChangeSpec := { name := "tagPacks", fn := fun _ => fun
  | [d1, d2, d3] => { results := [.lit (.bool false)], args := [d1, d2, d3] }
  | _ => none }
def TagPacksWrongFalsely : Prop := tagPacksRow.holds Tryd.pinned (OpenSpec.ofChange tagPacksWrong)

/-- 'switchyardlaw.CrcSums': WHATEVER THE INPUT: true; the input reads as it did. -/
def crcSumsSpec : ChangeSpec := { name := "crcSums", fn := fun _ => fun
  | [d] => { results := [.lit (.bool true)], args := [d] }
  | _ => none }
def crcSumsRow : OpenClaim := { program := "ytfagdcpfebghoaadoor", sum := "e216ac81d49491b395ae85197df4f42d0a77f4e97c53416ef376009aa56081a0", func := "switchyard/switchyardlaw.CrcSums", spec := "crcSums", inPlace := ["internal/reflectlite.ValueOf", "(internal/reflectlite.Value).Type", "(internal/reflectlite.Value).IsNil", "internal/reflectlite.TypeOf", "(internal/reflectlite.Value).Elem", "(internal/reflectlite.Value).Set"], unfollowed := true, recurses := true, named := ["errors.errorType"], apart := false, laid := [("errors.errorType", laid_errors_errorType)] }
def CrcSumsSaid : Prop := crcSumsRow.holds Tryd.pinned (OpenSpec.ofChange crcSumsSpec)

/-- ITS FALSE NEIGHBOUR: 'it returns false'. Refute it at one input. -/
def crcSumsWrong : ChangeSpec := { name := "crcSums", fn := fun _ => fun
  | [d] => { results := [.lit (.bool false)], args := [d] }
  | _ => none }
def CrcSumsWrongFalsely : Prop := crcSumsRow.holds Tryd.pinned (OpenSpec.ofChange crcSumsWrong)

/-- 'switchyardlaw.ArpWrites': WHATEVER THE INPUT: true; the input reads as it did. -/
def arpWritesSpec : ChangeSpec := { name := "arpWrites", fn := fun _ => fun
  | [d1, d2] => { results := [.lit (.bool true)], args := [d1, d2] }
  | _ => none }
def arpWritesRow : OpenClaim := { program := "ytfagdcpfebghoaadoor", sum := "e216ac81d49491b395ae85197df4f42d0a77f4e97c53416ef376009aa56081a0", func := "switchyard/switchyardlaw.ArpWrites", spec := "arpWrites", inPlace := ["internal/reflectlite.ValueOf", "(internal/reflectlite.Value).Type", "(internal/reflectlite.Value).IsNil", "internal/reflectlite.TypeOf", "(internal/reflectlite.Value).Elem", "(internal/reflectlite.Value).Set"], unfollowed := true, recurses := true, named := ["errors.errorType"], apart := false, laid := [("errors.errorType", laid_errors_errorType)] }
def ArpWritesSaid : Prop := arpWritesRow.holds Tryd.pinned (OpenSpec.ofChange arpWritesSpec)

/-- ITS FALSE NEIGHBOUR: 'it returns false'. Refute it at one input. -/
def arpWritesWrong : ChangeSpec := { name := "arpWrites", fn := fun _ => fun
  | [d1, d2] => { results := [.lit (.bool false)], args := [d1, d2] }
  | _ => none }
def ArpWritesWrongFalsely : Prop := arpWritesRow.holds Tryd.pinned (OpenSpec.ofChange arpWritesWrong)

/-- 'switchyardlaw.PrioPacks': WHATEVER THE INPUT: true; the input reads as it did. -/
def prioPacksSpec : ChangeSpec := { name := "prioPacks", fn := fun _ => fun
  | [d1, d2] => { results := [.lit (.bool true)], args := [d1, d2] }
  | _ => none }
def prioPacksRow : OpenClaim := { program := "ytfagdcpfebghoaadoor", sum := "e216ac81d49491b395ae85197df4f42d0a77f4e97c53416ef376009aa56081a0", func := "switchyard/switchyardlaw.PrioPacks", spec := "prioPacks", inPlace := ["internal/reflectlite.ValueOf", "(internal/reflectlite.Value).Type", "(internal/reflectlite.Value).IsNil", "internal/reflectlite.TypeOf", "(internal/reflectlite.Value).Elem", "(internal/reflectlite.Value).Set"], unfollowed := true, recurses := true, named := ["errors.errorType"], apart := false, laid := [("errors.errorType", laid_errors_errorType)] }
def PrioPacksSaid : Prop := prioPacksRow.holds Tryd.pinned (OpenSpec.ofChange prioPacksSpec)

/-- ITS FALSE NEIGHBOUR: 'it returns false'. Refute it at one input. -/
def prioPacksWrong : ChangeSpec := { name := "prioPacks", fn := fun _ => fun
  | [d1, d2] => { results := [.lit (.bool false)], args := [d1, d2] }
  | _ => none }
def PrioPacksWrongFalsely : Prop := prioPacksRow.holds Tryd.pinned (OpenSpec.ofChange prioPacksWrong)

/-- 'switchyardlaw.RegionRights': WHATEVER THE INPUT: true; the input reads as it did. -/
def regionRightsSpec : ChangeSpec := { name := "regionRights", fn := fun _ => fun
  | [d1, d2] => { results := [.lit (.bool true)], args := [d1, d2] }
  | _ => none }
def regionRightsRow : OpenClaim := { program := "ytfagdcpfebghoaadoor", sum := "e216ac81d49491b395ae85197df4f42d0a77f4e97c53416ef376009aa56081a0", func := "switchyard/switchyardlaw.RegionRights", spec := "regionRights", inPlace := ["internal/reflectlite.ValueOf", "(internal/reflectlite.Value).Type", "(internal/reflectlite.Value).IsNil", "internal/reflectlite.TypeOf", "(internal/reflectlite.Value).Elem", "(internal/reflectlite.Value).Set"], unfollowed := true, recurses := true, named := ["errors.errorType"], apart := false, laid := [("errors.errorType", laid_errors_errorType)] }
def RegionRightsSaid : Prop := regionRightsRow.holds Tryd.pinned (OpenSpec.ofChange regionRightsSpec)

/-- ITS FALSE NEIGHBOUR: 'it returns false'. Refute it at one input. -/
def regionRightsWrong : ChangeSpec := { name := "regionRights", fn := fun _ => fun
  | [d1, d2] => { results := [.lit (.bool false)], args := [d1, d2] }
  | _ => none }
def RegionRightsWrongFalsely : Prop := regionRightsRow.holds Tryd.pinned (OpenSpec.ofChange regionRightsWrong)

/-- 'switchyardlaw.PauseWrites': WHATEVER THE INPUT: true; the input reads as it did. -/
def pauseWritesSpec : ChangeSpec := { name := "pauseWrites", fn := fun _ => fun
  | [d] => { results := [.lit (.bool true)], args := [d] }
  | _ => none }
def pauseWritesRow : OpenClaim := { program := "ytfagdcpfebghoaadoor", sum := "e216ac81d49491b395ae85197df4f42d0a77f4e97c53416ef376009aa56081a0", func := "switchyard/switchyardlaw.PauseWrites", spec := "pauseWrites", inPlace := ["internal/reflectlite.ValueOf", "(internal/reflectlite.Value).Type", "(internal/reflectlite.Value).IsNil", "internal/reflectlite.TypeOf", "(internal/reflectlite.Value).Elem", "(internal/reflectlite.Value).Set"], unfollowed := true, recurses := true, named := ["errors.errorType"], apart := false, laid := [("errors.errorType", laid_errors_errorType)] }
def PauseWritesSaid : Prop := pauseWritesRow.holds Tryd.pinned (OpenSpec.ofChange pauseWritesSpec)

/-- ITS FALSE NEIGHBOUR: 'it returns false'. Refute it at one input. -/
def pauseWritesWrong : ChangeSpec := { name := "pauseWrites", fn := fun _ => fun
  | [d] => { results := [.lit (.bool false)], args := [d] }
  | _ => none }
def PauseWritesWrongFalsely : Prop := pauseWritesRow.holds Tryd.pinned (OpenSpec.ofChange pauseWritesWrong)

/-- 'switchyardlaw.PrioReads': WHATEVER THE INPUT: true; the input reads as it did. -/
def prioReadsSpec : ChangeSpec := { name := "prioReads", fn := fun _ => fun
  | [d] => { results := [.lit (.bool true)], args := [d] }
  | _ => none }
def prioReadsRow : OpenClaim := { program := "ytfagdcpfebghoaadoor", sum := "e216ac81d49491b395ae85197df4f42d0a77f4e97c53416ef376009aa56081a0", func := "switchyard/switchyardlaw.PrioReads", spec := "prioReads", inPlace := ["internal/reflectlite.ValueOf", "(internal/reflectlite.Value).Type", "(internal/reflectlite.Value).IsNil", "internal/reflectlite.TypeOf", "(internal/reflectlite.Value).Elem", "(internal/reflectlite.Value).Set"], unfollowed := true, recurses := true, named := ["errors.errorType"], apart := false, laid := [("errors.errorType", laid_errors_errorType)] }
def PrioReadsSaid : Prop := prioReadsRow.holds Tryd.pinned (OpenSpec.ofChange prioReadsSpec)

/-- ITS FALSE NEIGHBOUR: 'it returns false'. Refute it at one input. -/
def prioReadsWrong : ChangeSpec := { name := "prioReads", fn := fun _ => fun
  | [d] => { results := [.lit (.bool false)], args := [d] }
  | _ => none }
def PrioReadsWrongFalsely : Prop := prioReadsRow.holds Tryd.pinned (OpenSpec.ofChange prioReadsWrong)

/-- 'switchyardlaw.ArpReads': WHATEVER THE INPUT: true; the input reads as it did. -/
def arpReadsSpec : ChangeSpec := { name := "arpReads", fn := fun _ => fun
  | [d] => { results := [.lit (.bool true)], args := [d] }
  | _ => none }
def arpReadsRow : OpenClaim := { program := "ytfagdcpfebghoaadoor", sum := "e216ac81d49491b395ae85197df4f42d0a77f4e97c53416ef376009aa56081a0", func := "switchyard/switchyardlaw.ArpReads", spec := "arpReads", inPlace := ["internal/reflectlite.ValueOf", "(internal/reflectlite.Value).Type", "(internal/reflectlite.Value).IsNil", "internal/reflectlite.TypeOf", "(internal/reflectlite.Value).Elem", "(internal/reflectlite.Value).Set"], unfollowed := true, recurses := true, named := ["errors.errorType"], apart := false, laid := [("errors.errorType", laid_errors_errorType)] }
def ArpReadsSaid : Prop := arpReadsRow.holds Tryd.pinned (OpenSpec.ofChange arpReadsSpec)

/-- ITS FALSE NEIGHBOUR: 'it returns false'. Refute it at one input. -/
def arpReadsWrong : ChangeSpec := { name := "arpReads", fn := fun _ => fun
  | [d] => { results := [.lit (.bool false)], args := [d] }
  | _ => none }
def ArpReadsWrongFalsely : Prop := arpReadsRow.holds Tryd.pinned (OpenSpec.ofChange arpReadsWrong)

/-- 'switchyardlaw.PauseReads': WHATEVER THE INPUT: true; the input reads as it did. -/
def pauseReadsSpec : ChangeSpec := { name := "pauseReads", fn := fun _ => fun
  | [d] => { results := [.lit (.bool true)], args := [d] }
  | _ => none }
def pauseReadsRow : OpenClaim := { program := "ytfagdcpfebghoaadoor", sum := "e216ac81d49491b395ae85197df4f42d0a77f4e97c53416ef376009aa56081a0", func := "switchyard/switchyardlaw.PauseReads", spec := "pauseReads", inPlace := ["internal/reflectlite.ValueOf", "(internal/reflectlite.Value).Type", "(internal/reflectlite.Value).IsNil", "internal/reflectlite.TypeOf", "(internal/reflectlite.Value).Elem", "(internal/reflectlite.Value).Set"], unfollowed := true, recurses := true, named := ["errors.errorType"], apart := false, laid := [("errors.errorType", laid_errors_errorType)] }
def PauseReadsSaid : Prop := pauseReadsRow.holds Tryd.pinned (OpenSpec.ofChange pauseReadsSpec)

/-- ITS FALSE NEIGHBOUR: 'it returns false'. Refute it at one input. -/
def pauseReadsWrong : ChangeSpec := { name := "pauseReads", fn := fun _ => fun
  | [d] => { results := [.lit (.bool false)], args := [d] }
  | _ => none }
def PauseReadsWrongFalsely : Prop := pauseReadsRow.holds Tryd.pinned (OpenSpec.ofChange pauseReadsWrong)

/-- 'switchyardlaw.TlvWrites': WHATEVER THE INPUT: true; the input reads as it did. -/
def tlvWritesSpec : ChangeSpec := { name := "tlvWrites", fn := fun _ => fun
  | [d] => { results := [.lit (.bool true)], args := [d] }
  | _ => none }
def tlvWritesRow : OpenClaim := { program := "ytfagdcpfebghoaadoor", sum := "e216ac81d49491b395ae85197df4f42d0a77f4e97c53416ef376009aa56081a0", func := "switchyard/switchyardlaw.TlvWrites", spec := "tlvWrites", inPlace := ["internal/abi.NoEscape", "internal/reflectlite.ValueOf", "(internal/reflectlite.Value).Type", "(internal/reflectlite.Value).IsNil", "internal/reflectlite.TypeOf", "(internal/reflectlite.Value).Elem", "(internal/reflectlite.Value).Set"], unfollowed := true, recurses := true, named := ["errors.errorType"], apart := false, laid := [("errors.errorType", laid_errors_errorType)] }
def TlvWritesSaid : Prop := tlvWritesRow.holds Tryd.pinned (OpenSpec.ofChange tlvWritesSpec)

/-- ITS FALSE NEIGHBOUR: 'it returns false'. Refute it at one input. -/
def tlvWritesWrong : ChangeSpec := { name := "tlvWrites", fn := fun _ => fun
  | [d] => { results := [.lit (.bool false)], args := [d] }
  | _ => none }
def TlvWritesWrongFalsely : Prop := tlvWritesRow.holds Tryd.pinned (OpenSpec.ofChange tlvWritesWrong)

/-- 'switchyardlaw.TlvReads': WHATEVER THE INPUT: true; the input reads as it did. -/
def tlvReadsSpec : ChangeSpec := { name := "tlvReads", fn := fun _ => fun
  | [d] => { results := [.lit (.bool true)], args := [d] }
  | _ => none }
def tlvReadsRow : OpenClaim := { program := "ytfagdcpfebghoaadoor", sum := "e216ac81d49491b395ae85197df4f42d0a77f4e97c53416ef376009aa56081a0", func := "switchyard/switchyardlaw.TlvReads", spec := "tlvReads", inPlace := ["internal/reflectlite.ValueOf", "(internal/reflectlite.Value).Type", "(internal/reflectlite.Value).IsNil", "internal/reflectlite.TypeOf", "(internal/reflectlite.Value).Elem", "(internal/reflectlite.Value).Set"], unfollowed := true, recurses := true, named := ["errors.errorType"], apart := false, laid := [("errors.errorType", laid_errors_errorType)] }
def TlvReadsSaid : Prop := tlvReadsRow.holds Tryd.pinned (OpenSpec.ofChange tlvReadsSpec)

/-- ITS FALSE NEIGHBOUR: 'it returns false'. Refute it at one input. -/
def tlvReadsWrong : ChangeSpec := { name := "tlvReads", fn := fun _ => fun
  | [d] => { results := [.lit (.bool false)], args := [d] }
  | _ => none }
def TlvReadsWrongFalsely : Prop := tlvReadsRow.holds Tryd.pinned (OpenSpec.ofChange tlvReadsWrong)

/- THE SECOND FORM. 'bulk': how many values and letters a reading holds, each counted each time it is reached (what is shared counts as often as it is met; a slice's spare places count too). A statement '..UptoSaid' is the law's where the arguments, and the package variables that the reading takes, are together of bulk at most 1048576: NARROWER than '..Said'. Prove '..Said' where nothing that the law and all that it calls make is longer than what came in: it says more and counts as full. Else prove '..UptoSaid'. A law counts once. -/
mutual
def uptoBulk {H : Type} : DataW H → Nat
  | .lit (.string bytes) => bytes.length + 1
  | .lit _ => 1
  | .nil => 1
  | .ptr d => uptoBulk d + 1
  | .slice elems spare => uptoBulkAll elems + uptoBulkAll spare + 1
  | .agg parts => uptoBulkAll parts + 1
  | .iface _ d => uptoBulk d + 1
  | .map entries => uptoBulkEntries entries + 1
  | .held _ => 1
def uptoBulkAll {H : Type} : List (DataW H) → Nat
  | [] => 0
  | d :: r => uptoBulk d + uptoBulkAll r
def uptoBulkEntries {H : Type} : List (Lit × DataW H) → Nat
  | [] => 0
  | x :: r => uptoBulkEntry x + uptoBulkEntries r
def uptoBulkEntry {H : Type} : Lit × DataW H → Nat
  | (.string bytes, d) => bytes.length + uptoBulk d + 1
  | (_, d) => uptoBulk d + 1
 end
def uptoSmall : (H : Type) → List (DataW H) → Bool := fun _ ds => decide (uptoBulkAll ds ≤ 1048576)
def OpenSpec.upto (s : _root_.Go.ChangeSpec) : _root_.Go.OpenSpec := { _root_.Go.OpenSpec.ofChange s with cond := some uptoSmall }

/-- 'switchyardlaw.TagPacks', WHERE WHAT IT READS IS OF BULK AT MOST 1048576: true; the input reads as it did. -/
def tagPacksUptoRow : OpenClaim := { program := "ytfagdcpfebghoaadoor", sum := "e216ac81d49491b395ae85197df4f42d0a77f4e97c53416ef376009aa56081a0", func := "switchyard/switchyardlaw.TagPacks", spec := "tagPacks", inPlace := ["internal/reflectlite.ValueOf", "(internal/reflectlite.Value).Type", "(internal/reflectlite.Value).IsNil", "internal/reflectlite.TypeOf", "(internal/reflectlite.Value).Elem", "(internal/reflectlite.Value).Set"], unfollowed := true, recurses := true, named := ["errors.errorType"], apart := false, laid := [("errors.errorType", laid_errors_errorType)], narrowed := true }
def TagPacksUptoSaid : Prop := tagPacksUptoRow.holds Tryd.pinned (OpenSpec.upto tagPacksSpec)

/-- 'switchyardlaw.CrcSums', WHERE WHAT IT READS IS OF BULK AT MOST 1048576: true; the input reads as it did. -/
def crcSumsUptoRow : OpenClaim := { program := "ytfagdcpfebghoaadoor", sum := "e216ac81d49491b395ae85197df4f42d0a77f4e97c53416ef376009aa56081a0", func := "switchyard/switchyardlaw.CrcSums", spec := "crcSums", inPlace := ["internal/reflectlite.ValueOf", "(internal/reflectlite.Value).Type", "(internal/reflectlite.Value).IsNil", "internal/reflectlite.TypeOf", "(internal/reflectlite.Value).Elem", "(internal/reflectlite.Value).Set"], unfollowed := true, recurses := true, named := ["errors.errorType"], apart := false, laid := [("errors.errorType", laid_errors_errorType)], narrowed := true }
def CrcSumsUptoSaid : Prop := crcSumsUptoRow.holds Tryd.pinned (OpenSpec.upto crcSumsSpec)

/-- 'switchyardlaw.ArpWrites', WHERE WHAT IT READS IS OF BULK AT MOST 1048576: true; the input reads as it did. -/
def arpWritesUptoRow : OpenClaim := { program := "ytfagdcpfebghoaadoor", sum := "e216ac81d49491b395ae85197df4f42d0a77f4e97c53416ef376009aa56081a0", func := "switchyard/switchyardlaw.ArpWrites", spec := "arpWrites", inPlace := ["internal/reflectlite.ValueOf", "(internal/reflectlite.Value).Type", "(internal/reflectlite.Value).IsNil", "internal/reflectlite.TypeOf", "(internal/reflectlite.Value).Elem", "(internal/reflectlite.Value).Set"], unfollowed := true, recurses := true, named := ["errors.errorType"], apart := false, laid := [("errors.errorType", laid_errors_errorType)], narrowed := true }
def ArpWritesUptoSaid : Prop := arpWritesUptoRow.holds Tryd.pinned (OpenSpec.upto arpWritesSpec)

/-- 'switchyardlaw.PrioPacks', WHERE WHAT IT READS IS OF BULK AT MOST 1048576: true; the input reads as it did. -/
def prioPacksUptoRow : OpenClaim := { program := "ytfagdcpfebghoaadoor", sum := "e216ac81d49491b395ae85197df4f42d0a77f4e97c53416ef376009aa56081a0", func := "switchyard/switchyardlaw.PrioPacks", spec := "prioPacks", inPlace := ["internal/reflectlite.ValueOf", "(internal/reflectlite.Value).Type", "(internal/reflectlite.Value).IsNil", "internal/reflectlite.TypeOf", "(internal/reflectlite.Value).Elem", "(internal/reflectlite.Value).Set"], unfollowed := true, recurses := true, named := ["errors.errorType"], apart := false, laid := [("errors.errorType", laid_errors_errorType)], narrowed := true }
def PrioPacksUptoSaid : Prop := prioPacksUptoRow.holds Tryd.pinned (OpenSpec.upto prioPacksSpec)

/-- 'switchyardlaw.RegionRights', WHERE WHAT IT READS IS OF BULK AT MOST 1048576: true; the input reads as it did. -/
def regionRightsUptoRow : OpenClaim := { program := "ytfagdcpfebghoaadoor", sum := "e216ac81d49491b395ae85197df4f42d0a77f4e97c53416ef376009aa56081a0", func := "switchyard/switchyardlaw.RegionRights", spec := "regionRights", inPlace := ["internal/reflectlite.ValueOf", "(internal/reflectlite.Value).Type", "(internal/reflectlite.Value).IsNil", "internal/reflectlite.TypeOf", "(internal/reflectlite.Value).Elem", "(internal/reflectlite.Value).Set"], unfollowed := true, recurses := true, named := ["errors.errorType"], apart := false, laid := [("errors.errorType", laid_errors_errorType)], narrowed := true }
def RegionRightsUptoSaid : Prop := regionRightsUptoRow.holds Tryd.pinned (OpenSpec.upto regionRightsSpec)

/-- 'switchyardlaw.PauseWrites', WHERE WHAT IT READS IS OF BULK AT MOST 1048576: true; the input reads as it did. -/
def pauseWritesUptoRow : OpenClaim := { program := "ytfagdcpfebghoaadoor", sum := "e216ac81d49491b395ae85197df4f42d0a77f4e97c53416ef376009aa56081a0", func := "switchyard/switchyardlaw.PauseWrites", spec := "pauseWrites", inPlace := ["internal/reflectlite.ValueOf", "(internal/reflectlite.Value).Type", "(internal/reflectlite.Value).IsNil", "internal/reflectlite.TypeOf", "(internal/reflectlite.Value).Elem", "(internal/reflectlite.Value).Set"], unfollowed := true, recurses := true, named := ["errors.errorType"], apart := false, laid := [("errors.errorType", laid_errors_errorType)], narrowed := true }
def PauseWritesUptoSaid : Prop := pauseWritesUptoRow.holds Tryd.pinned (OpenSpec.upto pauseWritesSpec)

/-- 'switchyardlaw.PrioReads', WHERE WHAT IT READS IS OF BULK AT MOST 1048576: true; the input reads as it did. -/
def prioReadsUptoRow : OpenClaim := { program := "ytfagdcpfebghoaadoor", sum := "e216ac81d49491b395ae85197df4f42d0a77f4e97c53416ef376009aa56081a0", func := "switchyard/switchyardlaw.PrioReads", spec := "prioReads", inPlace := ["internal/reflectlite.ValueOf", "(internal/reflectlite.Value).Type", "(internal/reflectlite.Value).IsNil", "internal/reflectlite.TypeOf", "(internal/reflectlite.Value).Elem", "(internal/reflectlite.Value).Set"], unfollowed := true, recurses := true, named := ["errors.errorType"], apart := false, laid := [("errors.errorType", laid_errors_errorType)], narrowed := true }
def PrioReadsUptoSaid : Prop := prioReadsUptoRow.holds Tryd.pinned (OpenSpec.upto prioReadsSpec)

/-- 'switchyardlaw.ArpReads', WHERE WHAT IT READS IS OF BULK AT MOST 1048576: true; the input reads as it did. -/
def arpReadsUptoRow : OpenClaim := { program := "ytfagdcpfebghoaadoor", sum := "e216ac81d49491b395ae85197df4f42d0a77f4e97c53416ef376009aa56081a0", func := "switchyard/switchyardlaw.ArpReads", spec := "arpReads", inPlace := ["internal/reflectlite.ValueOf", "(internal/reflectlite.Value).Type", "(internal/reflectlite.Value).IsNil", "internal/reflectlite.TypeOf", "(internal/reflectlite.Value).Elem", "(internal/reflectlite.Value).Set"], unfollowed := true, recurses := true, named := ["errors.errorType"], apart := false, laid := [("errors.errorType", laid_errors_errorType)], narrowed := true }
def ArpReadsUptoSaid : Prop := arpReadsUptoRow.holds Tryd.pinned (OpenSpec.upto arpReadsSpec)

/-- 'switchyardlaw.PauseReads', WHERE WHAT IT READS IS OF BULK AT MOST 1048576: true; the input reads as it did. -/
def pauseReadsUptoRow : OpenClaim := { program := "ytfagdcpfebghoaadoor", sum := "e216ac81d49491b395ae85197df4f42d0a77f4e97c53416ef376009aa56081a0", func := "switchyard/switchyardlaw.PauseReads", spec := "pauseReads", inPlace := ["internal/reflectlite.ValueOf", "(internal/reflectlite.Value).Type", "(internal/reflectlite.Value).IsNil", "internal/reflectlite.TypeOf", "(internal/reflectlite.Value).Elem", "(internal/reflectlite.Value).Set"], unfollowed := true, recurses := true, named := ["errors.errorType"], apart := false, laid := [("errors.errorType", laid_errors_errorType)], narrowed := true }
def PauseReadsUptoSaid : Prop := pauseReadsUptoRow.holds Tryd.pinned (OpenSpec.upto pauseReadsSpec)

/-- 'switchyardlaw.TlvWrites', WHERE WHAT IT READS IS OF BULK AT MOST 1048576: true; the input reads as it did. -/
def tlvWritesUptoRow : OpenClaim := { program := "ytfagdcpfebghoaadoor", sum := "e216ac81d49491b395ae85197df4f42d0a77f4e97c53416ef376009aa56081a0", func := "switchyard/switchyardlaw.TlvWrites", spec := "tlvWrites", inPlace := ["internal/abi.NoEscape", "internal/reflectlite.ValueOf", "(internal/reflectlite.Value).Type", "(internal/reflectlite.Value).IsNil", "internal/reflectlite.TypeOf", "(internal/reflectlite.Value).Elem", "(internal/reflectlite.Value).Set"], unfollowed := true, recurses := true, named := ["errors.errorType"], apart := false, laid := [("errors.errorType", laid_errors_errorType)], narrowed := true }
def TlvWritesUptoSaid : Prop := tlvWritesUptoRow.holds Tryd.pinned (OpenSpec.upto tlvWritesSpec)

/-- 'switchyardlaw.TlvReads', WHERE WHAT IT READS IS OF BULK AT MOST 1048576: true; the input reads as it did. -/
def tlvReadsUptoRow : OpenClaim := { program := "ytfagdcpfebghoaadoor", sum := "e216ac81d49491b395ae85197df4f42d0a77f4e97c53416ef376009aa56081a0", func := "switchyard/switchyardlaw.TlvReads", spec := "tlvReads", inPlace := ["internal/reflectlite.ValueOf", "(internal/reflectlite.Value).Type", "(internal/reflectlite.Value).IsNil", "internal/reflectlite.TypeOf", "(internal/reflectlite.Value).Elem", "(internal/reflectlite.Value).Set"], unfollowed := true, recurses := true, named := ["errors.errorType"], apart := false, laid := [("errors.errorType", laid_errors_errorType)], narrowed := true }
def TlvReadsUptoSaid : Prop := tlvReadsUptoRow.holds Tryd.pinned (OpenSpec.upto tlvReadsSpec)

end Rows
end Go.Proofs.YtfagdcpfebghoaaDoor
