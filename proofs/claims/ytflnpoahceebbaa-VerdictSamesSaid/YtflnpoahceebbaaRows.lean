/-
  No cell of these rows narrows 'for every input' (looked for: loops, veiled, ifaces, maps, wideKeys, modest, calm, conditions, laid).
  DERIVED. THE GIVEN ROWS OF THIS SEAT. 9 by the template 'for every input the law returns true; each argument reads behind the call as it read before'; 0 by the template 'total and deterministic' (their statements: YtflnpoahceebbaaTotals.lean).
  GIVEN WITH THE SEED: the statements are not yours to turn. If you find one false, say at which input.
  Laid BY PROGRAM, IN A SANDBOX (cutbox-rows.mjs): the forced cells as the released guide's own fill.sh prints them over the translation cb986ca420042ede… (all of the seat's roots in one cut). By AI agents, Wed Nov 11 2026. No macro, syntax, notation, axiom, sorry.
-/
import Derived.Test.YtflnpoahceebbaaChecked
import GoSem.Claim
import GoSem.ClaimJoined
import GoSem.ClaimMapViews
import Derived.JoinedTies
import Derived.KernelRfl
namespace Go.Proofs.Ytflnpoahceebbaa
/- THE CELL 'sum', in the pinned program and in every row, IS THE sha256 OF THE DUMP (.gsa) THAT YtflnpoahceebbaaProg.lean LOADS. Nothing in Lean hashes anything: it is a label: what it is worth is what the hold of that sum in a sandbox is worth. -/
noncomputable def Try.pinned : Pinned := { name := "ytflnpoahceebbaa", sum := "cb986ca420042ede99df88a9b4ad79f85109f7ddeae577d39e167c404880a14b", checked := Try.checked }
namespace Rows
def none {H : Type} : Left H := { results := [], args := [] }

/-- 'switchyardlaw.TagStacks': WHATEVER THE INPUT: true; the input reads as it did. -/
def tagStacksSpec : ChangeSpec := { name := "tagStacks", fn := fun _ => fun
  | [d] => { results := [.lit (.bool true)], args := [d] }
  | _ => none }
def tagStacksRow : OpenClaim := { program := "ytflnpoahceebbaa", sum := "cb986ca420042ede99df88a9b4ad79f85109f7ddeae577d39e167c404880a14b", func := "switchyard/switchyardlaw.TagStacks", spec := "tagStacks", apart := false }
def TagStacksSaid : Prop := tagStacksRow.holds Try.pinned (OpenSpec.ofChange tagStacksSpec)

/-- ITS FALSE NEIGHBOUR: 'it returns false'. Refute it at one input. -/
def tagStacksWrong : ChangeSpec := { name := "tagStacks", fn := fun _ => fun
  | [d] => { results := [.lit (.bool false)], args := [d] }
  | _ => none }
def TagStacksWrongFalsely : Prop := tagStacksRow.holds Try.pinned (OpenSpec.ofChange tagStacksWrong)

/-- 'switchyardlaw.PauseLasts': WHATEVER THE INPUT: true; the input reads as it did. -/
def pauseLastsSpec : ChangeSpec := { name := "pauseLasts", fn := fun _ => fun
  | [d1, d2] => { results := [.lit (.bool true)], args := [d1, d2] }
  | _ => none }
def pauseLastsRow : OpenClaim := { program := "ytflnpoahceebbaa", sum := "cb986ca420042ede99df88a9b4ad79f85109f7ddeae577d39e167c404880a14b", func := "switchyard/switchyardlaw.PauseLasts", spec := "pauseLasts", apart := false }
def PauseLastsSaid : Prop := pauseLastsRow.holds Try.pinned (OpenSpec.ofChange pauseLastsSpec)

/-- ITS FALSE NEIGHBOUR: 'it returns false'. Refute it at one input. -/
def pauseLastsWrong : ChangeSpec := { name := "pauseLasts", fn := fun _ => fun
  | [d1, d2] => { results := [.lit (.bool false)], args := [d1, d2] }
  | _ => none }
def PauseLastsWrongFalsely : Prop := pauseLastsRow.holds Try.pinned (OpenSpec.ofChange pauseLastsWrong)

/-- 'switchyardlaw.BpduFlags': WHATEVER THE INPUT: true; the input reads as it did. -/
def bpduFlagsSpec : ChangeSpec := { name := "bpduFlags", fn := fun _ => fun
  | [d1, d2] => { results := [.lit (.bool true)], args := [d1, d2] }
  | _ => none }
def bpduFlagsRow : OpenClaim := { program := "ytflnpoahceebbaa", sum := "cb986ca420042ede99df88a9b4ad79f85109f7ddeae577d39e167c404880a14b", func := "switchyard/switchyardlaw.BpduFlags", spec := "bpduFlags", unfollowed := true, recurses := true, apart := false }
def BpduFlagsSaid : Prop := bpduFlagsRow.holds Try.pinned (OpenSpec.ofChange bpduFlagsSpec)

/-- ITS FALSE NEIGHBOUR: 'it returns false'. Refute it at one input. -/
def bpduFlagsWrong : ChangeSpec := { name := "bpduFlags", fn := fun _ => fun
  | [d1, d2] => { results := [.lit (.bool false)], args := [d1, d2] }
  | _ => none }
def BpduFlagsWrongFalsely : Prop := bpduFlagsRow.holds Try.pinned (OpenSpec.ofChange bpduFlagsWrong)

/-- 'switchyardlaw.FrameSames': WHATEVER THE INPUT: true; the input reads as it did. -/
def frameSamesSpec : ChangeSpec := { name := "frameSames", fn := fun _ => fun
  | [d1, d2] => { results := [.lit (.bool true)], args := [d1, d2] }
  | _ => none }
def frameSamesRow : OpenClaim := { program := "ytflnpoahceebbaa", sum := "cb986ca420042ede99df88a9b4ad79f85109f7ddeae577d39e167c404880a14b", func := "switchyard/switchyardlaw.FrameSames", spec := "frameSames", apart := false }
def FrameSamesSaid : Prop := frameSamesRow.holds Try.pinned (OpenSpec.ofChange frameSamesSpec)

/-- ITS FALSE NEIGHBOUR: 'it returns false'. Refute it at one input. -/
def frameSamesWrong : ChangeSpec := { name := "frameSames", fn := fun _ => fun
  | [d1, d2] => { results := [.lit (.bool false)], args := [d1, d2] }
  | _ => none }
def FrameSamesWrongFalsely : Prop := frameSamesRow.holds Try.pinned (OpenSpec.ofChange frameSamesWrong)

/-- 'switchyardlaw.TreeTells': WHATEVER THE INPUT: true; the input reads as it did. -/
def treeTellsSpec : ChangeSpec := { name := "treeTells", fn := fun _ => fun
  | [d1, d2, d3, d4] => { results := [.lit (.bool true)], args := [d1, d2, d3, d4] }
  | _ => none }
def treeTellsRow : OpenClaim := { program := "ytflnpoahceebbaa", sum := "cb986ca420042ede99df88a9b4ad79f85109f7ddeae577d39e167c404880a14b", func := "switchyard/switchyardlaw.TreeTells", spec := "treeTells", apart := false }
def TreeTellsSaid : Prop := treeTellsRow.holds Try.pinned (OpenSpec.ofChange treeTellsSpec)

/-- ITS FALSE NEIGHBOUR: 'it returns false'. Refute it at one input. -/
def treeTellsWrong : ChangeSpec := { name := "treeTells", fn := fun _ => fun
  | [d1, d2, d3, d4] => { results := [.lit (.bool false)], args := [d1, d2, d3, d4] }
  | _ => none }
def TreeTellsWrongFalsely : Prop := treeTellsRow.holds Try.pinned (OpenSpec.ofChange treeTellsWrong)

/-- 'switchyardlaw.VerdictSames': WHATEVER THE INPUT: true; the input reads as it did. -/
def verdictSamesSpec : ChangeSpec := { name := "verdictSames", fn := fun _ => fun
  | [d1, d2] => { results := [.lit (.bool true)], args := [d1, d2] }
  | _ => none }
def verdictSamesRow : OpenClaim := { program := "ytflnpoahceebbaa", sum := "cb986ca420042ede99df88a9b4ad79f85109f7ddeae577d39e167c404880a14b", func := "switchyard/switchyardlaw.VerdictSames", spec := "verdictSames", unfollowed := true, recurses := true, apart := false }
def VerdictSamesSaid : Prop := verdictSamesRow.holds Try.pinned (OpenSpec.ofChange verdictSamesSpec)

/-- ITS FALSE NEIGHBOUR: 'it returns false'. Refute it at one input. -/
def verdictSamesWrong : ChangeSpec := { name := "verdictSames", fn := fun _ => fun
  | [d1, d2] => { results := [.lit (.bool false)], args := [d1, d2] }
  | _ => none }
def VerdictSamesWrongFalsely : Prop := verdictSamesRow.holds Try.pinned (OpenSpec.ofChange verdictSamesWrong)

/-- 'switchyardlaw.FrameRights': WHATEVER THE INPUT: true; the input reads as it did. -/
def frameRightsSpec : ChangeSpec := { name := "frameRights", fn := fun _ => fun
  | [d] => { results := [.lit (.bool true)], args := [d] }
  | _ => none }
def frameRightsRow : OpenClaim := { program := "ytflnpoahceebbaa", sum := "cb986ca420042ede99df88a9b4ad79f85109f7ddeae577d39e167c404880a14b", func := "switchyard/switchyardlaw.FrameRights", spec := "frameRights", unfollowed := true, recurses := true, apart := false }
def FrameRightsSaid : Prop := frameRightsRow.holds Try.pinned (OpenSpec.ofChange frameRightsSpec)

/-- ITS FALSE NEIGHBOUR: 'it returns false'. Refute it at one input. -/
def frameRightsWrong : ChangeSpec := { name := "frameRights", fn := fun _ => fun
  | [d] => { results := [.lit (.bool false)], args := [d] }
  | _ => none }
def FrameRightsWrongFalsely : Prop := frameRightsRow.holds Try.pinned (OpenSpec.ofChange frameRightsWrong)

/-- 'switchyardlaw.PrioOrders': WHATEVER THE INPUT: true; the input reads as it did. -/
def prioOrdersSpec : ChangeSpec := { name := "prioOrders", fn := fun _ => fun
  | [d1, d2, d3, d4] => { results := [.lit (.bool true)], args := [d1, d2, d3, d4] }
  | _ => none }
def prioOrdersRow : OpenClaim := { program := "ytflnpoahceebbaa", sum := "cb986ca420042ede99df88a9b4ad79f85109f7ddeae577d39e167c404880a14b", func := "switchyard/switchyardlaw.PrioOrders", spec := "prioOrders", inPlace := ["internal/bytealg.abigen_runtime_cmpstring"], apart := false }
def PrioOrdersSaid : Prop := prioOrdersRow.holds Try.pinned (OpenSpec.ofChange prioOrdersSpec)

/-- ITS FALSE NEIGHBOUR: 'it returns false'. Refute it at one input. -/
def prioOrdersWrong : ChangeSpec := { name := "prioOrders", fn := fun _ => fun
  | [d1, d2, d3, d4] => { results := [.lit (.bool false)], args := [d1, d2, d3, d4] }
  | _ => none }
def PrioOrdersWrongFalsely : Prop := prioOrdersRow.holds Try.pinned (OpenSpec.ofChange prioOrdersWrong)

/-- 'switchyardlaw.PrioBest': WHATEVER THE INPUT: true; the input reads as it did. -/
def prioBestSpec : ChangeSpec := { name := "prioBest", fn := fun _ => fun
  | [d] => { results := [.lit (.bool true)], args := [d] }
  | _ => none }
def prioBestRow : OpenClaim := { program := "ytflnpoahceebbaa", sum := "cb986ca420042ede99df88a9b4ad79f85109f7ddeae577d39e167c404880a14b", func := "switchyard/switchyardlaw.PrioBest", spec := "prioBest", inPlace := ["internal/bytealg.abigen_runtime_cmpstring"], apart := false }
def PrioBestSaid : Prop := prioBestRow.holds Try.pinned (OpenSpec.ofChange prioBestSpec)

/-- ITS FALSE NEIGHBOUR: 'it returns false'. Refute it at one input. -/
def prioBestWrong : ChangeSpec := { name := "prioBest", fn := fun _ => fun
  | [d] => { results := [.lit (.bool false)], args := [d] }
  | _ => none }
def PrioBestWrongFalsely : Prop := prioBestRow.holds Try.pinned (OpenSpec.ofChange prioBestWrong)

/- THE SECOND FORM. 'bulk': how many values and letters a reading holds, each counted each time it is reached (what is shared counts as often as it is met; a slice's spare places count too). A statement '..UptoSaid' is the law's where the arguments, and the package variables that the reading takes, are together of bulk at most 1048576: NARROWER than '..Said'. Prove '..Said' where nothing that the law and all that it calls make is longer than what came in: it says more and counts as full. Else prove '..UptoSaid'. A law counts once. -/
mutual
def uptoBulk {H : Type} : DataW H → Nat
  | .lit (.string bytes) => bytes.length + 1
  | .lit _ => 1
  | .nil => 1
  | .ptr d => uptoBulk d + 1
  | .slice elems spare => uptoBulkAll elems + uptoBulkAll spare + 1
  | .agg parts => uptoBulkAll parts + 1
  | .iface _ d => uptoBulk d + 1
  | .map entries => uptoBulkEntries entries + 1
  | .held _ => 1
def uptoBulkAll {H : Type} : List (DataW H) → Nat
  | [] => 0
  | d :: r => uptoBulk d + uptoBulkAll r
def uptoBulkEntries {H : Type} : List (Lit × DataW H) → Nat
  | [] => 0
  | x :: r => uptoBulkEntry x + uptoBulkEntries r
def uptoBulkEntry {H : Type} : Lit × DataW H → Nat
  | (.string bytes, d) => bytes.length + uptoBulk d + 1
  | (_, d) => uptoBulk d + 1
 end
def uptoSmall : (H : Type) → List (DataW H) → Bool := fun _ ds => decide (uptoBulkAll ds ≤ 1048576)
def OpenSpec.upto (s : _root_.Go.ChangeSpec) : _root_.Go.OpenSpec := { _root_.Go.OpenSpec.ofChange s with cond := some uptoSmall }

/-- 'switchyardlaw.TagStacks', WHERE WHAT IT READS IS OF BULK AT MOST 1048576: true; the input reads as it did. -/
def tagStacksUptoRow : OpenClaim := { program := "ytflnpoahceebbaa", sum := "cb986ca420042ede99df88a9b4ad79f85109f7ddeae577d39e167c404880a14b", func := "switchyard/switchyardlaw.TagStacks", spec := "tagStacks", apart := false, narrowed := true }
def TagStacksUptoSaid : Prop := tagStacksUptoRow.holds Try.pinned (OpenSpec.upto tagStacksSpec)

/-- 'switchyardlaw.PauseLasts', WHERE WHAT IT READS IS OF BULK AT MOST 1048576: true; the input reads as it did. -/
def pauseLastsUptoRow : OpenClaim := { program := "ytflnpoahceebbaa", sum := "cb986ca420042ede99df88a9b4ad79f85109f7ddeae577d39e167c404880a14b", func := "switchyard/switchyardlaw.PauseLasts", spec := "pauseLasts", apart := false, narrowed := true }
def PauseLastsUptoSaid : Prop := pauseLastsUptoRow.holds Try.pinned (OpenSpec.upto pauseLastsSpec)

/-- 'switchyardlaw.BpduFlags', WHERE WHAT IT READS IS OF BULK AT MOST 1048576: true; the input reads as it did. -/
def bpduFlagsUptoRow : OpenClaim := { program := "ytflnpoahceebbaa", sum := "cb986ca420042ede99df88a9b4ad79f85109f7ddeae577d39e167c404880a14b", func := "switchyard/switchyardlaw.BpduFlags", spec := "bpduFlags", unfollowed := true, recurses := true, apart := false, narrowed := true }
def BpduFlagsUptoSaid : Prop := bpduFlagsUptoRow.holds Try.pinned (OpenSpec.upto bpduFlagsSpec)

/-- 'switchyardlaw.FrameSames', WHERE WHAT IT READS IS OF BULK AT MOST 1048576: true; the input reads as it did. -/
def frameSamesUptoRow : OpenClaim := { program := "ytflnpoahceebbaa", sum := "cb986ca420042ede99df88a9b4ad79f85109f7ddeae577d39e167c404880a14b", func := "switchyard/switchyardlaw.FrameSames", spec := "frameSames", apart := false, narrowed := true }
def FrameSamesUptoSaid : Prop := frameSamesUptoRow.holds Try.pinned (OpenSpec.upto frameSamesSpec)

/-- 'switchyardlaw.TreeTells', WHERE WHAT IT READS IS OF BULK AT MOST 1048576: true; the input reads as it did. -/
def treeTellsUptoRow : OpenClaim := { program := "ytflnpoahceebbaa", sum := "cb986ca420042ede99df88a9b4ad79f85109f7ddeae577d39e167c404880a14b", func := "switchyard/switchyardlaw.TreeTells", spec := "treeTells", apart := false, narrowed := true }
def TreeTellsUptoSaid : Prop := treeTellsUptoRow.holds Try.pinned (OpenSpec.upto treeTellsSpec)

/-- 'switchyardlaw.VerdictSames', WHERE WHAT IT READS IS OF BULK AT MOST 1048576: true; the input reads as it did. -/
def verdictSamesUptoRow : OpenClaim := { program := "ytflnpoahceebbaa", sum := "cb986ca420042ede99df88a9b4ad79f85109f7ddeae577d39e167c404880a14b", func := "switchyard/switchyardlaw.VerdictSames", spec := "verdictSames", unfollowed := true, recurses := true, apart := false, narrowed := true }
def VerdictSamesUptoSaid : Prop := verdictSamesUptoRow.holds Try.pinned (OpenSpec.upto verdictSamesSpec)

/-- 'switchyardlaw.FrameRights', WHERE WHAT IT READS IS OF BULK AT MOST 1048576: true; the input reads as it did. -/
def frameRightsUptoRow : OpenClaim := { program := "ytflnpoahceebbaa", sum := "cb986ca420042ede99df88a9b4ad79f85109f7ddeae577d39e167c404880a14b", func := "switchyard/switchyardlaw.FrameRights", spec := "frameRights", unfollowed := true, recurses := true, apart := false, narrowed := true }
def FrameRightsUptoSaid : Prop := frameRightsUptoRow.holds Try.pinned (OpenSpec.upto frameRightsSpec)

/-- 'switchyardlaw.PrioOrders', WHERE WHAT IT READS IS OF BULK AT MOST 1048576: true; the input reads as it did. -/
def prioOrdersUptoRow : OpenClaim := { program := "ytflnpoahceebbaa", sum := "cb986ca420042ede99df88a9b4ad79f85109f7ddeae577d39e167c404880a14b", func := "switchyard/switchyardlaw.PrioOrders", spec := "prioOrders", inPlace := ["internal/bytealg.abigen_runtime_cmpstring"], apart := false, narrowed := true }
def PrioOrdersUptoSaid : Prop := prioOrdersUptoRow.holds Try.pinned (OpenSpec.upto prioOrdersSpec)

/-- 'switchyardlaw.PrioBest', WHERE WHAT IT READS IS OF BULK AT MOST 1048576: true; the input reads as it did. -/
def prioBestUptoRow : OpenClaim := { program := "ytflnpoahceebbaa", sum := "cb986ca420042ede99df88a9b4ad79f85109f7ddeae577d39e167c404880a14b", func := "switchyard/switchyardlaw.PrioBest", spec := "prioBest", inPlace := ["internal/bytealg.abigen_runtime_cmpstring"], apart := false, narrowed := true }
def PrioBestUptoSaid : Prop := prioBestUptoRow.holds Try.pinned (OpenSpec.upto prioBestSpec)

end Rows
end Go.Proofs.Ytflnpoahceebbaa
