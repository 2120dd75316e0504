/- prio.Right, prio.Port and their references: what each returns. Conditions: none. -/
import Derived.Test.YtmbbhodikiikeaaGreatDoorXprt
import Derived.Test.YtmbbhodikiikeaaGreatDoorTagRC
namespace Go.Proofs.YtmbbhodikiikeaaGreatDoor
open Go.Sx
set_option maxRecDepth 100000
set_option maxHeartbeats 8000000
attribute [local irreducible] Meets
attribute [local instance] Classical.propDecidable

def bridgeP (b : BridgeV) : Prop := 0 ≤ b.prio ∧ b.prio ≤ 61440 ∧ b.prio.tmod 4096 = 0 ∧ 0 ≤ b.ext ∧ b.ext ≤ 4095

theorem prioRight_c (b : BridgeV) (g : G) : Tells Tryz.prog 12 [.agg (b.cells.map .v)] g (.v (.bool (decide (bridgeP b)))) := by
  refine meets_of mixedS Tryz.func12 (by kernel_rfl) x12_ok (some []) ?_
  refine bsplit_of (fun h1 => ?_) (fun h1 => ⟨rbd (by simp at h1; simp [bridgeP]; omega), rfl, rfl⟩)
  refine bsplit_of (fun h2 => ?_) (fun h2 => ⟨rbd (by simp at h2; simp [bridgeP]; omega), rfl, rfl⟩)
  refine ⟨by decide, ?_⟩
  refine bsplit_of (fun h3 => ?_) (fun h3 => ⟨rbd (by simp at h3; simp [bridgeP, h3]), rfl, rfl⟩)
  refine bsplit_of (fun h4 => ?_) (fun h4 => ⟨rbd (by simp at h4; simp [bridgeP]; omega), rfl, rfl⟩)
  exact ⟨rbd (by simp at h1 h2 h3 h4; simp [bridgeP, h1, h2, h3, h4]), rfl, rfl⟩
theorem bridgeRight_c (b : BridgeV) (g : G) : Tells Tryz.prog 9 [.agg (b.cells.map .v)] g (.v (.bool (decide (bridgeP b)))) := by
  refine meets_of mixedS Tryz.func9 (by kernel_rfl) x9_ok (some []) ?_
  refine (within_c b.prio 0 61440 g).call rfl rfl rfl ?_
  refine bsplit_of (fun h1 => ?_) (fun h1 => ⟨rbd (by simp at h1; simp [bridgeP]; omega), rfl, rfl⟩)
  refine ⟨by decide, ?_⟩
  refine bsplit_of (fun h3 => ?_) (fun h3 => ⟨rbd (by simp at h3; simp [bridgeP, h3]), rfl, rfl⟩)
  refine (within_c b.ext 0 4095 g).call rfl rfl rfl ?_
  exact ⟨rbd (by simp at h1 h3; simp [bridgeP, h1, h3]), rfl, rfl⟩
end Go.Proofs.YtmbbhodikiikeaaGreatDoor
