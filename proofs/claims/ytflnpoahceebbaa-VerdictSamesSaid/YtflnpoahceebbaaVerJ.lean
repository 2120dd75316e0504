/- verdict.Same: what it returns. Conditions: the slices lie where the verdicts say. -/
import Derived.Test.YtflnpoahceebbaaVerI
namespace Go.Proofs.Ytflnpoahceebbaa
open Go.Sx
set_option maxRecDepth 100000
set_option maxHeartbeats 80000000
attribute [local irreducible] Meets

theorem verdict32_c (x y : VerdictV) (g : G) (hx : x.ok g) (hy : y.ok g) : Tells Try.prog 32 [.agg (x.cells.map .v), .agg (y.cells.map .v)] g (.v (.bool (verdictEq x y))) := by
  obtain ⟨r, hR⟩ : ∃ r, verdictEq x y = r := ⟨_, rfl⟩
  rw [hR]
  unfold verdictEq at hR
  refine meets_of mixed Try.func32 (by kernel_rfl) x32_ok (some []) ?_
  refine bsplit_of (fun (h : (x.kind == y.kind) = true) => ?_) (fun (h : (x.kind == y.kind) = false) => ?_) <;> rw [h] at hR
  case refine_2 => exact Eq.mp (α := (Out.ret (SV.v (.bool false)) = .ret (.v (.bool r)) ∧ ([] : List Chunk) = [] ∧ g = g)) (by kernel_rfl) ⟨rb hR.symm, rfl, rfl⟩
  rw [Bool.true_and] at hR
  refine bsplit_of (fun (h : (x.err == y.err) = true) => ?_) (fun (h : (x.err == y.err) = false) => ?_) <;> rw [h] at hR
  case refine_2 => exact Eq.mp (α := (Out.ret (SV.v (.bool false)) = .ret (.v (.bool r)) ∧ ([] : List Chunk) = [] ∧ g = g)) (by kernel_rfl) ⟨rb hR.symm, rfl, rfl⟩
  rw [Bool.true_and] at hR
  refine bsplit_of (fun (h : (x.place == y.place) = true) => ?_) (fun (h : (x.place == y.place) = false) => ?_) <;> rw [h] at hR
  case refine_2 => exact Eq.mp (α := (Out.ret (SV.v (.bool false)) = .ret (.v (.bool r)) ∧ ([] : List Chunk) = [] ∧ g = g)) (by kernel_rfl) ⟨rb hR.symm, rfl, rfl⟩
  rw [Bool.true_and] at hR
  refine (frame_c x.frame y.frame g hx.2.2.2.1 hy.2.2.2.1).call rfl rfl rfl ?_
  refine bsplit_of (fun (h : (frameEq x.frame y.frame) = true) => ?_) (fun (h : (frameEq x.frame y.frame) = false) => ?_) <;> rw [h] at hR
  case refine_2 => exact Eq.mp (α := (Out.ret (SV.v (.bool false)) = .ret (.v (.bool r)) ∧ ([] : List Chunk) = [] ∧ g = g)) (by kernel_rfl) ⟨rb hR.symm, rfl, rfl⟩
  rw [Bool.true_and] at hR
  refine bsplit_of (fun (h : (false ^^ x.arp.eq y.arp) = true) => ?_) (fun (h : (false ^^ x.arp.eq y.arp) = false) => ?_) <;> rw [Bool.false_xor] at h <;> rw [h] at hR
  case refine_2 => exact Eq.mp (α := (Out.ret (SV.v (.bool false)) = .ret (.v (.bool r)) ∧ ([] : List Chunk) = [] ∧ g = g)) (by kernel_rfl) ⟨rb hR.symm, rfl, rfl⟩
  rw [Bool.true_and] at hR
  refine bsplit_of (fun (h : (false ^^ x.pause.eq y.pause) = true) => ?_) (fun (h : (false ^^ x.pause.eq y.pause) = false) => ?_) <;> rw [Bool.false_xor] at h <;> rw [h] at hR
  case refine_2 => exact Eq.mp (α := (Out.ret (SV.v (.bool false)) = .ret (.v (.bool r)) ∧ ([] : List Chunk) = [] ∧ g = g)) (by kernel_rfl) ⟨rb hR.symm, rfl, rfl⟩
  rw [Bool.true_and] at hR
  refine bsplit_of (fun (h : (false ^^ x.bpdu.eq y.bpdu) = true) => ?_) (fun (h : (false ^^ x.bpdu.eq y.bpdu) = false) => ?_) <;> rw [Bool.false_xor] at h <;> rw [h] at hR
  case refine_2 => exact Eq.mp (α := (Out.ret (SV.v (.bool false)) = .ret (.v (.bool r)) ∧ ([] : List Chunk) = [] ∧ g = g)) (by kernel_rfl) ⟨rb hR.symm, rfl, rfl⟩
  rw [Bool.true_and] at hR
  refine bsplit_of (fun (h : (false ^^ x.lacp.eq y.lacp) = true) => ?_) (fun (h : (false ^^ x.lacp.eq y.lacp) = false) => ?_) <;> rw [Bool.false_xor] at h <;> rw [h] at hR
  case refine_2 => exact Eq.mp (α := (Out.ret (SV.v (.bool false)) = .ret (.v (.bool r)) ∧ ([] : List Chunk) = [] ∧ g = g)) (by kernel_rfl) ⟨rb hR.symm, rfl, rfl⟩
  rw [Bool.true_and] at hR
  refine bsplit_of (fun (h : (false ^^ x.marker.eq y.marker) = true) => ?_) (fun (h : (false ^^ x.marker.eq y.marker) = false) => ?_) <;> rw [Bool.false_xor] at h <;> rw [h] at hR
  case refine_2 => exact Eq.mp (α := (Out.ret (SV.v (.bool false)) = .ret (.v (.bool r)) ∧ ([] : List Chunk) = [] ∧ g = g)) (by kernel_rfl) ⟨rb hR.symm, rfl, rfl⟩
  rw [Bool.true_and] at hR
  refine bsplit_of (fun (h : (false ^^ x.mst.base.eq y.mst.base) = true) => ?_) (fun (h : (false ^^ x.mst.base.eq y.mst.base) = false) => ?_) <;> rw [Bool.false_xor] at h <;> rw [h] at hR
  case refine_2 => exact Eq.mp (α := (Out.ret (SV.v (.bool false)) = .ret (.v (.bool r)) ∧ ([] : List Chunk) = [] ∧ g = g)) (by kernel_rfl) ⟨rb hR.symm, rfl, rfl⟩
  rw [Bool.true_and] at hR
  refine bsplit_of (fun (h : (eqS x.mst.name y.mst.name) = true) => ?_) (fun (h : (eqS x.mst.name y.mst.name) = false) => ?_) <;> rw [h] at hR
  case refine_2 => exact Eq.mp (α := (Out.ret (SV.v (.bool false)) = .ret (.v (.bool r)) ∧ ([] : List Chunk) = [] ∧ g = g)) (by kernel_rfl) ⟨rb hR.symm, rfl, rfl⟩
  rw [Bool.true_and] at hR
  refine bsplit_of (fun (h : (x.mst.rev == y.mst.rev) = true) => ?_) (fun (h : (x.mst.rev == y.mst.rev) = false) => ?_) <;> rw [h] at hR
  case refine_2 => exact Eq.mp (α := (Out.ret (SV.v (.bool false)) = .ret (.v (.bool r)) ∧ ([] : List Chunk) = [] ∧ g = g)) (by kernel_rfl) ⟨rb hR.symm, rfl, rfl⟩
  rw [Bool.true_and] at hR
  refine bsplit_of (fun (h : (eqS x.mst.digest y.mst.digest) = true) => ?_) (fun (h : (eqS x.mst.digest y.mst.digest) = false) => ?_) <;> rw [h] at hR
  case refine_2 => exact Eq.mp (α := (Out.ret (SV.v (.bool false)) = .ret (.v (.bool r)) ∧ ([] : List Chunk) = [] ∧ g = g)) (by kernel_rfl) ⟨rb hR.symm, rfl, rfl⟩
  rw [Bool.true_and] at hR
  refine bsplit_of (fun (h : (x.mst.cost == y.mst.cost) = true) => ?_) (fun (h : (x.mst.cost == y.mst.cost) = false) => ?_) <;> rw [h] at hR
  case refine_2 => exact Eq.mp (α := (Out.ret (SV.v (.bool false)) = .ret (.v (.bool r)) ∧ ([] : List Chunk) = [] ∧ g = g)) (by kernel_rfl) ⟨rb hR.symm, rfl, rfl⟩
  rw [Bool.true_and] at hR
  refine bsplit_of (fun (h : (false ^^ x.mst.bridge.eq y.mst.bridge) = true) => ?_) (fun (h : (false ^^ x.mst.bridge.eq y.mst.bridge) = false) => ?_) <;> rw [Bool.false_xor] at h <;> rw [h] at hR
  case refine_2 => exact Eq.mp (α := (Out.ret (SV.v (.bool false)) = .ret (.v (.bool r)) ∧ ([] : List Chunk) = [] ∧ g = g)) (by kernel_rfl) ⟨rb hR.symm, rfl, rfl⟩
  rw [Bool.true_and] at hR
  refine bsplit_of (fun (h : (x.mst.hops == y.mst.hops) = true) => ?_) (fun (h : (x.mst.hops == y.mst.hops) = false) => ?_) <;> rw [h] at hR
  case refine_2 => exact Eq.mp (α := (Out.ret (SV.v (.bool false)) = .ret (.v (.bool r)) ∧ ([] : List Chunk) = [] ∧ g = g)) (by kernel_rfl) ⟨rb hR.symm, rfl, rfl⟩
  rw [Bool.true_and] at hR
  refine (eqInsts_c x.mst.insts y.mst.insts g hx.2.2.2.2.2.2.2.1.2.2.2.2.2.2.2 hy.2.2.2.2.2.2.2.1.2.2.2.2.2.2.2).call rfl rfl rfl ?_
  refine bsplit_of (fun (h : (eqL InstV.eq x.mst.insts.l y.mst.insts.l) = true) => ?_) (fun (h : (eqL InstV.eq x.mst.insts.l y.mst.insts.l) = false) => ?_) <;> rw [h] at hR
  case refine_2 => exact Eq.mp (α := (Out.ret (SV.v (.bool false)) = .ret (.v (.bool r)) ∧ ([] : List Chunk) = [] ∧ g = g)) (by kernel_rfl) ⟨rb hR.symm, rfl, rfl⟩
  rw [Bool.true_and] at hR
  refine bsplit_of (fun (h : (false ^^ x.lldp.chassis.eq y.lldp.chassis) = true) => ?_) (fun (h : (false ^^ x.lldp.chassis.eq y.lldp.chassis) = false) => ?_) <;> rw [Bool.false_xor] at h <;> rw [h] at hR
  case refine_2 => exact Eq.mp (α := (Out.ret (SV.v (.bool false)) = .ret (.v (.bool r)) ∧ ([] : List Chunk) = [] ∧ g = g)) (by kernel_rfl) ⟨rb hR.symm, rfl, rfl⟩
  rw [Bool.true_and] at hR
  refine bsplit_of (fun (h : (false ^^ x.lldp.port.eq y.lldp.port) = true) => ?_) (fun (h : (false ^^ x.lldp.port.eq y.lldp.port) = false) => ?_) <;> rw [Bool.false_xor] at h <;> rw [h] at hR
  case refine_2 => exact Eq.mp (α := (Out.ret (SV.v (.bool false)) = .ret (.v (.bool r)) ∧ ([] : List Chunk) = [] ∧ g = g)) (by kernel_rfl) ⟨rb hR.symm, rfl, rfl⟩
  rw [Bool.true_and] at hR
  refine bsplit_of (fun (h : (x.lldp.ttl == y.lldp.ttl) = true) => ?_) (fun (h : (x.lldp.ttl == y.lldp.ttl) = false) => ?_) <;> rw [h] at hR
  case refine_2 => exact Eq.mp (α := (Out.ret (SV.v (.bool false)) = .ret (.v (.bool r)) ∧ ([] : List Chunk) = [] ∧ g = g)) (by kernel_rfl) ⟨rb hR.symm, rfl, rfl⟩
  rw [Bool.true_and] at hR
  refine (eqStrs_c x.lldp.desc y.lldp.desc g hx.2.2.2.2.2.2.2.2.1.2.2.2.1 hy.2.2.2.2.2.2.2.2.1.2.2.2.1).call rfl rfl rfl ?_
  refine bsplit_of (fun (h : (eqL eqS x.lldp.desc.l y.lldp.desc.l) = true) => ?_) (fun (h : (eqL eqS x.lldp.desc.l y.lldp.desc.l) = false) => ?_) <;> rw [h] at hR
  case refine_2 => exact Eq.mp (α := (Out.ret (SV.v (.bool false)) = .ret (.v (.bool r)) ∧ ([] : List Chunk) = [] ∧ g = g)) (by kernel_rfl) ⟨rb hR.symm, rfl, rfl⟩
  rw [Bool.true_and] at hR
  refine (eqStrs_c x.lldp.host y.lldp.host g hx.2.2.2.2.2.2.2.2.1.2.2.2.2.1 hy.2.2.2.2.2.2.2.2.1.2.2.2.2.1).call rfl rfl rfl ?_
  refine bsplit_of (fun (h : (eqL eqS x.lldp.host.l y.lldp.host.l) = true) => ?_) (fun (h : (eqL eqS x.lldp.host.l y.lldp.host.l) = false) => ?_) <;> rw [h] at hR
  case refine_2 => exact Eq.mp (α := (Out.ret (SV.v (.bool false)) = .ret (.v (.bool r)) ∧ ([] : List Chunk) = [] ∧ g = g)) (by kernel_rfl) ⟨rb hR.symm, rfl, rfl⟩
  rw [Bool.true_and] at hR
  refine (eqStrs_c x.lldp.system y.lldp.system g hx.2.2.2.2.2.2.2.2.1.2.2.2.2.2.1 hy.2.2.2.2.2.2.2.2.1.2.2.2.2.2.1).call rfl rfl rfl ?_
  refine bsplit_of (fun (h : (eqL eqS x.lldp.system.l y.lldp.system.l) = true) => ?_) (fun (h : (eqL eqS x.lldp.system.l y.lldp.system.l) = false) => ?_) <;> rw [h] at hR
  case refine_2 => exact Eq.mp (α := (Out.ret (SV.v (.bool false)) = .ret (.v (.bool r)) ∧ ([] : List Chunk) = [] ∧ g = g)) (by kernel_rfl) ⟨rb hR.symm, rfl, rfl⟩
  rw [Bool.true_and] at hR
  refine (eqCaps_c x.lldp.caps y.lldp.caps g hx.2.2.2.2.2.2.2.2.1.2.2.2.2.2.2.1 hy.2.2.2.2.2.2.2.2.1.2.2.2.2.2.2.1).call rfl rfl rfl ?_
  refine bsplit_of (fun (h : (eqL CapsV.eq x.lldp.caps.l y.lldp.caps.l) = true) => ?_) (fun (h : (eqL CapsV.eq x.lldp.caps.l y.lldp.caps.l) = false) => ?_) <;> rw [h] at hR
  case refine_2 => exact Eq.mp (α := (Out.ret (SV.v (.bool false)) = .ret (.v (.bool r)) ∧ ([] : List Chunk) = [] ∧ g = g)) (by kernel_rfl) ⟨rb hR.symm, rfl, rfl⟩
  rw [Bool.true_and] at hR
  refine (eqManages_c x.lldp.manage y.lldp.manage g hx.2.2.2.2.2.2.2.2.1.2.2.2.2.2.2.2.1 hy.2.2.2.2.2.2.2.2.1.2.2.2.2.2.2.2.1).call rfl rfl rfl ?_
  refine bsplit_of (fun (h : (eqL ManageV.eq x.lldp.manage.l y.lldp.manage.l) = true) => ?_) (fun (h : (eqL ManageV.eq x.lldp.manage.l y.lldp.manage.l) = false) => ?_) <;> rw [h] at hR
  case refine_2 => exact Eq.mp (α := (Out.ret (SV.v (.bool false)) = .ret (.v (.bool r)) ∧ ([] : List Chunk) = [] ∧ g = g)) (by kernel_rfl) ⟨rb hR.symm, rfl, rfl⟩
  rw [Bool.true_and] at hR
  refine (eqOrgs_c x.lldp.orgs y.lldp.orgs g hx.2.2.2.2.2.2.2.2.1.2.2.2.2.2.2.2.2 hy.2.2.2.2.2.2.2.2.1.2.2.2.2.2.2.2.2).call rfl rfl rfl ?_
  refine bsplit_of (fun (h : (eqL OrgV.eq x.lldp.orgs.l y.lldp.orgs.l) = true) => ?_) (fun (h : (eqL OrgV.eq x.lldp.orgs.l y.lldp.orgs.l) = false) => ?_) <;> rw [h] at hR
  case refine_2 => exact Eq.mp (α := (Out.ret (SV.v (.bool false)) = .ret (.v (.bool r)) ∧ ([] : List Chunk) = [] ∧ g = g)) (by kernel_rfl) ⟨rb hR.symm, rfl, rfl⟩
  rw [Bool.true_and] at hR
  refine (eqFunc_c 53 x.mvrp y.mvrp g hx.2.2.2.2.2.2.2.2.2.2.2 hy.2.2.2.2.2.2.2.2.2.2.2 fun a b ha hb => attr53_c a b g ha hb).call rfl rfl rfl ?_
  exact ⟨rb hR.symm, rfl, rfl⟩
end Go.Proofs.Ytflnpoahceebbaa
