/- prio.Right, Port, Pack, PackPort and their references: what each returns. Conditions: none. -/
import Derived.Test.YtmeoalpmicndbaaDoorXpriow
import Derived.Test.YtmeoalpmicndbaaDoorWireC
import Derived.Test.YtmeoalpmicndbaaDoorPrtC
import Derived.Test.YtmeoalpmicndbaaDoorTagRC
namespace Go.Proofs.YtmeoalpmicndbaaDoor
open Go.Sx
set_option maxRecDepth 100000
set_option maxHeartbeats 8000000
attribute [local irreducible] Meets
attribute [local instance] Classical.propDecidable

def bridgeS (b : BridgeV) : ByteArray := beS 2 (b.prio + b.ext).toNat ++ bytesOfInts [b.addr.e0, b.addr.e1, b.addr.e2, b.addr.e3, b.addr.e4, b.addr.e5]
def portS (p : PortV) : ByteArray := beS 2 (p.prio * 256 + p.no).toNat
theorem rs2 {a a' : ByteArray} {e e' : SV} (h : a = a') (h2 : e = e') : Out.ret (.tup [.v (.string a), e]) = .ret (.tup [.v (.string a'), e']) := by rw [h, h2]

theorem bridgeP_or {b : BridgeV} (h : bridgeP b) : IntKind.i64.wrap ((BitVec.ofInt IntKind.i64.bits b.prio ||| BitVec.ofInt IntKind.i64.bits b.ext).toNat : Int) = b.prio + b.ext := by
  obtain ⟨h1, h2, h3, h4, h5⟩ := h
  rw [Int.tmod_eq_emod_of_nonneg h1] at h3
  exact orI 12 (b.prio / 4096) (by omega) (by omega) h4 (by omega) (by omega) (by decide)
theorem portP_or {p : PortV} (h : portP p) : IntKind.i64.wrap ((BitVec.ofInt IntKind.i64.bits (IntKind.i64.wrap (p.prio * 2 ^ (min 8 IntKind.i64.bits))) ||| BitVec.ofInt IntKind.i64.bits p.no).toNat : Int) = p.prio * 256 + p.no := by
  obtain ⟨h1, h2, h3, h4, h5⟩ := h
  rw [Int.tmod_eq_emod_of_nonneg h1] at h3
  rw [shl64 (by decide), show IntKind.i64.wrap (p.prio * 2 ^ 8) = p.prio * 256 from wrap_id (by omega) (by omega)]
  exact orI 12 (p.prio / 16) (by omega) (by omega) (by omega) (by omega) (by omega) (by decide)

theorem bridgePack_bad (b : BridgeV) (g : G) (h : ¬ bridgeP b) : Tells Tryd.prog 97 [.agg (b.cells.map .v)] g (.tup [.v (.string emp), .v (.int .i64 1)]) := by
  refine meets_of mixedW Tryd.func97 (by kernel_rfl) x97_ok (some []) ?_
  refine (bridgeRight_c b g).call rfl rfl rfl ?_
  refine bsplit_of (fun h1 => ⟨rfl, rfl, rfl⟩) (fun h1 => absurd h1 (by simp [h]))
theorem bridgePack_good (b : BridgeV) (g : G) (h : bridgeP b) : Tells Tryd.prog 97 [.agg (b.cells.map .v)] g (.tup [.v (.string (bridgeS b)), .v (.int .i64 0)]) := by
  refine meets_of mixedW Tryd.func97 (by kernel_rfl) x97_ok (some []) ?_
  refine (bridgeRight_c b g).call rfl rfl rfl ?_
  refine bsplit_of (fun h1 => absurd h1 (by simp [h])) (fun h1 => ?_)
  obtain ⟨k1, k2, k3, k4, k5⟩ := h
  have e : IntKind.i64.wrap (b.prio + b.ext) = b.prio + b.ext := wrap_id (by omega) (by omega)
  refine (be_c (IntKind.i64.wrap (b.prio + b.ext)) 2 g (by decide)).call rfl rfl rfl ?_
  refine ⟨by simp [ByteArray.size, bytesOfInts, beS, beI_length], ?_⟩
  refine ⟨rs2 ?_ rfl, rfl, rfl⟩
  rw [e, u64_pos (by omega) (by omega)]
  rfl
theorem prioPack_bad (b : BridgeV) (g : G) (h : ¬ bridgeP b) : Tells Tryd.prog 100 [.agg (b.cells.map .v)] g (.tup [.v (.string emp), .v (errW 1)]) := by
  refine meets_of mixedW Tryd.func100 (by kernel_rfl) x100_ok (some []) ?_
  refine (prioRight_c b g).call rfl rfl rfl ?_
  refine bsplit_of (fun h1 => ⟨rfl, rfl, rfl⟩) (fun h1 => absurd h1 (by simp [h]))
theorem prioPack_good (b : BridgeV) (g : G) (h : bridgeP b) : Tells Tryd.prog 100 [.agg (b.cells.map .v)] g (.tup [.v (.string (bridgeS b)), .v .nilIface]) := by
  refine meets_of mixedW Tryd.func100 (by kernel_rfl) x100_ok (some []) ?_
  refine (prioRight_c b g).call rfl rfl rfl ?_
  refine bsplit_of (fun h1 => absurd h1 (by simp [h])) (fun h1 => ?_)
  have e := bridgeP_or h
  obtain ⟨k1, k2, k3, k4, k5⟩ := h
  refine (must_c (IntKind.i64.wrap ((BitVec.ofInt IntKind.i64.bits b.prio ||| BitVec.ofInt IntKind.i64.bits b.ext).toNat : Int)) 2 g).call rfl rfl rfl ?_
  have e2 : putS (IntKind.u64.wrap (IntKind.i64.wrap ((BitVec.ofInt IntKind.i64.bits b.prio ||| BitVec.ofInt IntKind.i64.bits b.ext).toNat : Int))).toNat 2 = beS 2 (b.prio + b.ext).toNat := by
    rw [e, u64_pos (by omega) (by omega)]
    exact putS_good (n := 2) (by decide) (by decide) (by omega)
  refine ⟨by rw [e2]; simp [ByteArray.size, bytesOfInts, beS, beI_length], ?_⟩
  refine ⟨rs2 ?_ rfl, rfl, rfl⟩
  rw [e2]
  rfl
theorem portPack_bad (p : PortV) (g : G) (h : ¬ portP p) : Tells Tryd.prog 148 [.agg (p.cells.map .v)] g (.tup [.v (.string emp), .v (.int .i64 1)]) := by
  refine meets_of mixedW Tryd.func148 (by kernel_rfl) x148_ok (some []) ?_
  refine (portRight_c p g).call rfl rfl rfl ?_
  refine bsplit_of (fun h1 => ⟨rfl, rfl, rfl⟩) (fun h1 => absurd h1 (by simp [h]))
theorem portPack_good (p : PortV) (g : G) (h : portP p) : Tells Tryd.prog 148 [.agg (p.cells.map .v)] g (.tup [.v (.string (portS p)), .v (.int .i64 0)]) := by
  refine meets_of mixedW Tryd.func148 (by kernel_rfl) x148_ok (some []) ?_
  refine (portRight_c p g).call rfl rfl rfl ?_
  refine bsplit_of (fun h1 => absurd h1 (by simp [h])) (fun h1 => ?_)
  obtain ⟨k1, k2, k3, k4, k5⟩ := h
  have e : IntKind.i64.wrap (IntKind.i64.wrap (p.prio * 256) + p.no) = p.prio * 256 + p.no := by
    rw [wrap_id (a := p.prio * 256) (by omega) (by omega)]; exact wrap_id (by omega) (by omega)
  refine (be_c (IntKind.i64.wrap (IntKind.i64.wrap (p.prio * 256) + p.no)) 2 g (by decide)).call rfl rfl rfl ?_
  refine ⟨rs2 ?_ rfl, rfl, rfl⟩
  rw [e, u64_pos (by omega) (by omega)]
  rfl
theorem prioPackPort_bad (p : PortV) (g : G) (h : ¬ portP p) : Tells Tryd.prog 149 [.agg (p.cells.map .v)] g (.tup [.v (.string emp), .v (errW 1)]) := by
  refine meets_of mixedW Tryd.func149 (by kernel_rfl) x149_ok (some []) ?_
  refine (prioPort_c p g).call rfl rfl rfl ?_
  refine bsplit_of (fun h1 => ⟨rfl, rfl, rfl⟩) (fun h1 => absurd h1 (by simp [h]))
theorem prioPackPort_good (p : PortV) (g : G) (h : portP p) : Tells Tryd.prog 149 [.agg (p.cells.map .v)] g (.tup [.v (.string (portS p)), .v .nilIface]) := by
  refine meets_of mixedW Tryd.func149 (by kernel_rfl) x149_ok (some []) ?_
  refine (prioPort_c p g).call rfl rfl rfl ?_
  refine bsplit_of (fun h1 => absurd h1 (by simp [h])) (fun h1 => ?_)
  have e := portP_or h
  obtain ⟨k1, k2, k3, k4, k5⟩ := h
  refine ⟨by decide, ?_⟩
  refine (must_c (IntKind.i64.wrap ((BitVec.ofInt IntKind.i64.bits (IntKind.i64.wrap (p.prio * 2 ^ (min 8 IntKind.i64.bits))) ||| BitVec.ofInt IntKind.i64.bits p.no).toNat : Int)) 2 g).call rfl rfl rfl ?_
  refine ⟨rs2 ?_ rfl, rfl, rfl⟩
  rw [e, u64_pos (by omega) (by omega)]
  exact putS_good (n := 2) (by decide) (by decide) (by omega)

noncomputable def bridgeW (b : BridgeV) : ByteArray := if bridgeP b then bridgeS b else emp
noncomputable def bridgeE (b : BridgeV) : Int := if bridgeP b then 0 else 1
noncomputable def portW (p : PortV) : ByteArray := if portP p then portS p else emp
noncomputable def portE (p : PortV) : Int := if portP p then 0 else 1
theorem bridgePack_c (b : BridgeV) (g : G) : Tells Tryd.prog 97 [.agg (b.cells.map .v)] g (.tup [.v (.string (bridgeW b)), .v (.int .i64 (bridgeE b))]) := by
  by_cases h : bridgeP b
  · rw [bridgeW, bridgeE, if_pos h, if_pos h]; exact bridgePack_good b g h
  · rw [bridgeW, bridgeE, if_neg h, if_neg h]; exact bridgePack_bad b g h
theorem prioPack_c (b : BridgeV) (g : G) : Tells Tryd.prog 100 [.agg (b.cells.map .v)] g (.tup [.v (.string (bridgeW b)), .v (nilOr (bridgeE b))]) := by
  by_cases h : bridgeP b
  · rw [bridgeW, bridgeE, if_pos h, if_pos h]; exact prioPack_good b g h
  · rw [bridgeW, bridgeE, if_neg h, if_neg h]; exact prioPack_bad b g h
theorem portPack_c (p : PortV) (g : G) : Tells Tryd.prog 148 [.agg (p.cells.map .v)] g (.tup [.v (.string (portW p)), .v (.int .i64 (portE p))]) := by
  by_cases h : portP p
  · rw [portW, portE, if_pos h, if_pos h]; exact portPack_good p g h
  · rw [portW, portE, if_neg h, if_neg h]; exact portPack_bad p g h
theorem prioPackPort_c (p : PortV) (g : G) : Tells Tryd.prog 149 [.agg (p.cells.map .v)] g (.tup [.v (.string (portW p)), .v (nilOr (portE p))]) := by
  by_cases h : portP p
  · rw [portW, portE, if_pos h, if_pos h]; exact prioPackPort_good p g h
  · rw [portW, portE, if_neg h, if_neg h]; exact prioPackPort_bad p g h
end Go.Proofs.YtmeoalpmicndbaaDoor
