/- The law PrioPacks. Conditions: the variable errors.errorType holds its handle. -/
import Derived.Test.YtfagdcpfebghoaaDoorPrioRC
import Derived.Test.YtfagdcpfebghoaaDoorErrB
namespace Go.Proofs.YtfagdcpfebghoaaDoor
open Go.Sx
set_option maxRecDepth 100000
set_option maxHeartbeats 8000000
attribute [local irreducible] Meets
attribute [local instance] Classical.propDecidable

/-- The law PrioPacks. -/
theorem prioPacks_c (b : BridgeV) (p : PortV) (g : G) (_ : b.ok g) (_ : p.ok g) (hE : ErrVar g) : Meets Tryd.prog 6 [.agg (b.cells.map .v), .agg (p.cells.map .v)] [] g (fun o _ _ => o = .ret (.v (.bool true))) := by
  refine meets_of mixedW Tryd.func6 (by kernel_rfl) x6_ok (some []) ?_
  refine (bridgePack_c b g).call rfl rfl rfl ?_
  refine (prioPack_c b g).call rfl rfl rfl ?_
  refine (portPack_c p g).call rfl rfl rfl ?_
  refine (prioPackPort_c p g).call rfl rfl rfl ?_
  refine (bare_c _ _ _ (bridgeE b) g hE (errP_nilOr (bridgeE b))).call rfl rfl rfl ?_
  refine bsplit_of (fun h1 => ?_) (fun h1 => absurd h1 (by simp))
  refine bsplit_of (fun h1 => ?_) (fun h1 => absurd h1 (by simp))
  refine (bare_c _ _ _ (portE p) g hE (errP_nilOr (portE p))).call rfl rfl rfl ?_
  refine bsplit_of (fun h1 => ?_) (fun h1 => absurd h1 (by simp))
  refine bsplit_of (fun h1 => ?_) (fun h1 => absurd h1 (by simp))
  refine (prioRight_c b g).call rfl rfl rfl ?_
  refine (bridgeRight_c b g).call rfl rfl rfl ?_
  refine bsplit_of (fun h1 => ?_) (fun h1 => absurd h1 (by simp))
  refine (prioPort_c p g).call rfl rfl rfl ?_
  refine (portRight_c p g).call rfl rfl rfl ?_
  exact rb (by simp)
end Go.Proofs.YtfagdcpfebghoaaDoor
