/- prio.Right, prio.Port and their references: what each returns. Conditions: none. -/
import Derived.Test.YtedfohdgigbhiaaDoorXprt
import Derived.Test.YtedfohdgigbhiaaDoorTagRC
namespace Go.Proofs.YtedfohdgigbhiaaDoor
open Go.Sx
set_option maxRecDepth 100000
set_option maxHeartbeats 8000000
attribute [local irreducible] Meets
attribute [local instance] Classical.propDecidable

def bridgeP (b : BridgeV) : Prop := 0 ≤ b.prio ∧ b.prio ≤ 61440 ∧ b.prio.tmod 4096 = 0 ∧ 0 ≤ b.ext ∧ b.ext ≤ 4095
def portP (p : PortV) : Prop := 0 ≤ p.prio ∧ p.prio ≤ 240 ∧ p.prio.tmod 16 = 0 ∧ 1 ≤ p.no ∧ p.no ≤ 4095

theorem prioRight_c (b : BridgeV) (g : G) : Tells Tryd.prog 104 [.agg (b.cells.map .v)] g (.v (.bool (decide (bridgeP b)))) := by
  refine meets_of mixedS Tryd.func104 (by kernel_rfl) x104_ok (some []) ?_
  refine bsplit_of (fun h1 => ?_) (fun h1 => ⟨rbd (by simp at h1; simp [bridgeP]; omega), rfl, rfl⟩)
  refine bsplit_of (fun h2 => ?_) (fun h2 => ⟨rbd (by simp at h2; simp [bridgeP]; omega), rfl, rfl⟩)
  refine ⟨by decide, ?_⟩
  refine bsplit_of (fun h3 => ?_) (fun h3 => ⟨rbd (by simp at h3; simp [bridgeP, h3]), rfl, rfl⟩)
  refine bsplit_of (fun h4 => ?_) (fun h4 => ⟨rbd (by simp at h4; simp [bridgeP]; omega), rfl, rfl⟩)
  exact ⟨rbd (by simp at h1 h2 h3 h4; simp [bridgeP, h1, h2, h3, h4]), rfl, rfl⟩
theorem bridgeRight_c (b : BridgeV) (g : G) : Tells Tryd.prog 58 [.agg (b.cells.map .v)] g (.v (.bool (decide (bridgeP b)))) := by
  refine meets_of mixedS Tryd.func58 (by kernel_rfl) x58_ok (some []) ?_
  refine (within_c b.prio 0 61440 g).call rfl rfl rfl ?_
  refine bsplit_of (fun h1 => ?_) (fun h1 => ⟨rbd (by simp at h1; simp [bridgeP]; omega), rfl, rfl⟩)
  refine ⟨by decide, ?_⟩
  refine bsplit_of (fun h3 => ?_) (fun h3 => ⟨rbd (by simp at h3; simp [bridgeP, h3]), rfl, rfl⟩)
  refine (within_c b.ext 0 4095 g).call rfl rfl rfl ?_
  exact ⟨rbd (by simp at h1 h3; simp [bridgeP, h1, h3]), rfl, rfl⟩
theorem prioPort_c (p : PortV) (g : G) : Tells Tryd.prog 107 [.agg (p.cells.map .v)] g (.v (.bool (decide (portP p)))) := by
  refine meets_of mixedS Tryd.func107 (by kernel_rfl) x107_ok (some []) ?_
  refine bsplit_of (fun h1 => ?_) (fun h1 => ⟨rbd (by simp at h1; simp [portP]; omega), rfl, rfl⟩)
  refine bsplit_of (fun h2 => ?_) (fun h2 => ⟨rbd (by simp at h2; simp [portP]; omega), rfl, rfl⟩)
  refine ⟨by decide, ?_⟩
  refine bsplit_of (fun h3 => ?_) (fun h3 => ⟨rbd (by simp at h3; simp [portP, h3]), rfl, rfl⟩)
  refine bsplit_of (fun h4 => ?_) (fun h4 => ⟨rbd (by simp at h4; simp [portP]; omega), rfl, rfl⟩)
  exact ⟨rbd (by simp at h1 h2 h3 h4; simp [portP, h1, h2, h3, h4]), rfl, rfl⟩
theorem portRight_c (p : PortV) (g : G) : Tells Tryd.prog 59 [.agg (p.cells.map .v)] g (.v (.bool (decide (portP p)))) := by
  refine meets_of mixedS Tryd.func59 (by kernel_rfl) x59_ok (some []) ?_
  refine (within_c p.prio 0 240 g).call rfl rfl rfl ?_
  refine bsplit_of (fun h1 => ?_) (fun h1 => ⟨rbd (by simp at h1; simp [portP]; omega), rfl, rfl⟩)
  refine ⟨by decide, ?_⟩
  refine bsplit_of (fun h3 => ?_) (fun h3 => ⟨rbd (by simp at h3; simp [portP, h3]), rfl, rfl⟩)
  refine (within_c p.no 1 4095 g).call rfl rfl rfl ?_
  exact ⟨rbd (by simp at h1 h3; simp [portP, h1, h3]), rfl, rfl⟩

end Go.Proofs.YtedfohdgigbhiaaDoor
