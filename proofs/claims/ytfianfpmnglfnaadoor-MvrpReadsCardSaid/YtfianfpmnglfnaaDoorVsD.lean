/- switchyardref.SameVerdict: what it returns. Conditions: the slices lie where the verdicts say. -/
import Derived.Test.YtfianfpmnglfnaaDoorVsB
import Derived.Test.YtfianfpmnglfnaaDoorVsC
namespace Go.Proofs.YtfianfpmnglfnaaDoor
open Go.Sx
set_option maxRecDepth 100000
set_option maxHeartbeats 80000000
attribute [local irreducible] Meets

def verdictEq (x y : VerdictV) : Bool := (x.kind == y.kind) && ((x.err == y.err) && ((x.place == y.place) && ((frameEq x.frame y.frame) && ((x.arp.eq y.arp) && ((x.pause.eq y.pause) && ((x.bpdu.eq y.bpdu) && ((x.lacp.eq y.lacp) && ((x.marker.eq y.marker) && ((x.mst.base.eq y.mst.base) && ((eqS x.mst.name y.mst.name) && ((x.mst.rev == y.mst.rev) && ((eqS x.mst.digest y.mst.digest) && ((x.mst.cost == y.mst.cost) && ((x.mst.bridge.eq y.mst.bridge) && ((x.mst.hops == y.mst.hops) && ((eqL InstV.eq x.mst.insts.l y.mst.insts.l) && ((x.lldp.chassis.eq y.lldp.chassis) && ((x.lldp.port.eq y.lldp.port) && ((x.lldp.ttl == y.lldp.ttl) && ((eqL eqS x.lldp.desc.l y.lldp.desc.l) && ((eqL eqS x.lldp.host.l y.lldp.host.l) && ((eqL eqS x.lldp.system.l y.lldp.system.l) && ((eqL CapsV.eq x.lldp.caps.l y.lldp.caps.l) && ((eqL ManageV.eq x.lldp.manage.l y.lldp.manage.l) && ((eqL OrgV.eq x.lldp.orgs.l y.lldp.orgs.l) && (eqL attrEq x.mvrp.l y.mvrp.l))))))))))))))))))))))))))

/-- The slices of a verdict lie where it says. -/
structure VerSl (g : G) (x : VerdictV) : Prop where
  tags : x.frame.tags.ok 4 TagV.cells (fun _ => True) g
  insts : x.mst.insts.ok 19 InstV.cells (fun _ => True) g
  desc : x.lldp.desc.ok 1 strC (fun _ => True) g
  host : x.lldp.host.ok 1 strC (fun _ => True) g
  system : x.lldp.system.ok 1 strC (fun _ => True) g
  caps : x.lldp.caps.ok 2 CapsV.cells (fun _ => True) g
  manage : x.lldp.manage.ok 5 ManageV.cells (fun _ => True) g
  orgs : x.lldp.orgs.ok 3 OrgV.cells (fun _ => True) g
  mvrp : AttrsOk g x.mvrp
theorem nil_ok {α : Type} (sz : Nat) (f : α → List Value) (Q : α → Prop) (g : G) : SliceV.ok sz f Q g (⟨none, [], 0⟩ : SliceV α) :=
  ⟨⟨by simp, fun h => absurd h (Nat.lt_irrefl 0)⟩, Nat.zero_le _, Nat.le_refl _, Nat.zero_le _, fun x hx => absurd hx (by simp)⟩
theorem VerSl.zero (g : G) : VerSl g VerdictV.zero := ⟨nil_ok _ _ _ _, nil_ok _ _ _ _, nil_ok _ _ _ _, nil_ok _ _ _ _, nil_ok _ _ _ _, nil_ok _ _ _ _, nil_ok _ _ _ _, nil_ok _ _ _ _, nil_ok _ _ _ _⟩
theorem eqL_refl {α : Type} {f : α → α → Bool} (h : ∀ x, f x x = true) (l : List α) : eqL f l l = true :=
  eqL_good rfl fun k x y hx hy => by rw [hx] at hy; cases hy; exact h x
theorem eqS_refl (x : ByteArray) : eqS x x = true := by simp [eqS]

theorem sameVerdict_c (x y : VerdictV) (g : G) (hx : VerSl g x) (hy : VerSl g y) : Tells Tryd.prog 16 [.agg (x.cells.map .v), .agg (y.cells.map .v)] g (.v (.bool (verdictEq x y))) := by
  obtain ⟨r, hR⟩ : ∃ r, verdictEq x y = r := ⟨_, rfl⟩
  rw [hR]
  unfold verdictEq at hR
  refine meets_of mixedW Tryd.func16 (by kernel_rfl) x16_ok (some []) ?_
  refine bsplit_of (fun (h : (x.kind == y.kind) = true) => ?_) (fun (h : (x.kind == y.kind) = false) => ?_) <;> rw [h] at hR
  case refine_2 => exact Eq.mp (α := (Out.ret (SV.v (.bool false)) = .ret (.v (.bool r)) ∧ ([] : List Chunk) = [] ∧ g = g)) (by kernel_rfl) ⟨rb hR.symm, rfl, rfl⟩
  rw [Bool.true_and] at hR
  refine bsplit_of (fun (h : (x.err == y.err) = true) => ?_) (fun (h : (x.err == y.err) = false) => ?_) <;> rw [h] at hR
  case refine_2 => exact Eq.mp (α := (Out.ret (SV.v (.bool false)) = .ret (.v (.bool r)) ∧ ([] : List Chunk) = [] ∧ g = g)) (by kernel_rfl) ⟨rb hR.symm, rfl, rfl⟩
  rw [Bool.true_and] at hR
  refine bsplit_of (fun (h : (x.place == y.place) = true) => ?_) (fun (h : (x.place == y.place) = false) => ?_) <;> rw [h] at hR
  case refine_2 => exact Eq.mp (α := (Out.ret (SV.v (.bool false)) = .ret (.v (.bool r)) ∧ ([] : List Chunk) = [] ∧ g = g)) (by kernel_rfl) ⟨rb hR.symm, rfl, rfl⟩
  rw [Bool.true_and] at hR
  refine (frameR_c x.frame y.frame g hx.tags hy.tags).call rfl rfl rfl ?_
  refine bsplit_of (fun (h : (frameEq x.frame y.frame) = true) => ?_) (fun (h : (frameEq x.frame y.frame) = false) => ?_) <;> rw [h] at hR
  case refine_2 => exact Eq.mp (α := (Out.ret (SV.v (.bool false)) = .ret (.v (.bool r)) ∧ ([] : List Chunk) = [] ∧ g = g)) (by kernel_rfl) ⟨rb hR.symm, rfl, rfl⟩
  rw [Bool.true_and] at hR
  refine bsplit_of (fun (h : (false ^^ x.arp.eq y.arp) = true) => ?_) (fun (h : (false ^^ x.arp.eq y.arp) = false) => ?_) <;> rw [Bool.false_xor] at h <;> rw [h] at hR
  case refine_2 => exact Eq.mp (α := (Out.ret (SV.v (.bool false)) = .ret (.v (.bool r)) ∧ ([] : List Chunk) = [] ∧ g = g)) (by kernel_rfl) ⟨rb hR.symm, rfl, rfl⟩
  rw [Bool.true_and] at hR
  refine bsplit_of (fun (h : (false ^^ x.pause.eq y.pause) = true) => ?_) (fun (h : (false ^^ x.pause.eq y.pause) = false) => ?_) <;> rw [Bool.false_xor] at h <;> rw [h] at hR
  case refine_2 => exact Eq.mp (α := (Out.ret (SV.v (.bool false)) = .ret (.v (.bool r)) ∧ ([] : List Chunk) = [] ∧ g = g)) (by kernel_rfl) ⟨rb hR.symm, rfl, rfl⟩
  rw [Bool.true_and] at hR
  refine bsplit_of (fun (h : (false ^^ x.bpdu.eq y.bpdu) = true) => ?_) (fun (h : (false ^^ x.bpdu.eq y.bpdu) = false) => ?_) <;> rw [Bool.false_xor] at h <;> rw [h] at hR
  case refine_2 => exact Eq.mp (α := (Out.ret (SV.v (.bool false)) = .ret (.v (.bool r)) ∧ ([] : List Chunk) = [] ∧ g = g)) (by kernel_rfl) ⟨rb hR.symm, rfl, rfl⟩
  rw [Bool.true_and] at hR
  refine bsplit_of (fun (h : (false ^^ x.lacp.eq y.lacp) = true) => ?_) (fun (h : (false ^^ x.lacp.eq y.lacp) = false) => ?_) <;> rw [Bool.false_xor] at h <;> rw [h] at hR
  case refine_2 => exact Eq.mp (α := (Out.ret (SV.v (.bool false)) = .ret (.v (.bool r)) ∧ ([] : List Chunk) = [] ∧ g = g)) (by kernel_rfl) ⟨rb hR.symm, rfl, rfl⟩
  rw [Bool.true_and] at hR
  refine bsplit_of (fun (h : (false ^^ x.marker.eq y.marker) = true) => ?_) (fun (h : (false ^^ x.marker.eq y.marker) = false) => ?_) <;> rw [Bool.false_xor] at h <;> rw [h] at hR
  case refine_2 => exact Eq.mp (α := (Out.ret (SV.v (.bool false)) = .ret (.v (.bool r)) ∧ ([] : List Chunk) = [] ∧ g = g)) (by kernel_rfl) ⟨rb hR.symm, rfl, rfl⟩
  rw [Bool.true_and] at hR
  refine bsplit_of (fun (h : (false ^^ x.mst.base.eq y.mst.base) = true) => ?_) (fun (h : (false ^^ x.mst.base.eq y.mst.base) = false) => ?_) <;> rw [Bool.false_xor] at h <;> rw [h] at hR
  case refine_2 => exact Eq.mp (α := (Out.ret (SV.v (.bool false)) = .ret (.v (.bool r)) ∧ ([] : List Chunk) = [] ∧ g = g)) (by kernel_rfl) ⟨rb hR.symm, rfl, rfl⟩
  rw [Bool.true_and] at hR
  refine bsplit_of (fun (h : (eqS x.mst.name y.mst.name) = true) => ?_) (fun (h : (eqS x.mst.name y.mst.name) = false) => ?_) <;> rw [h] at hR
  case refine_2 => exact Eq.mp (α := (Out.ret (SV.v (.bool false)) = .ret (.v (.bool r)) ∧ ([] : List Chunk) = [] ∧ g = g)) (by kernel_rfl) ⟨rb hR.symm, rfl, rfl⟩
  rw [Bool.true_and] at hR
  refine bsplit_of (fun (h : (x.mst.rev == y.mst.rev) = true) => ?_) (fun (h : (x.mst.rev == y.mst.rev) = false) => ?_) <;> rw [h] at hR
  case refine_2 => exact Eq.mp (α := (Out.ret (SV.v (.bool false)) = .ret (.v (.bool r)) ∧ ([] : List Chunk) = [] ∧ g = g)) (by kernel_rfl) ⟨rb hR.symm, rfl, rfl⟩
  rw [Bool.true_and] at hR
  refine bsplit_of (fun (h : (eqS x.mst.digest y.mst.digest) = true) => ?_) (fun (h : (eqS x.mst.digest y.mst.digest) = false) => ?_) <;> rw [h] at hR
  case refine_2 => exact Eq.mp (α := (Out.ret (SV.v (.bool false)) = .ret (.v (.bool r)) ∧ ([] : List Chunk) = [] ∧ g = g)) (by kernel_rfl) ⟨rb hR.symm, rfl, rfl⟩
  rw [Bool.true_and] at hR
  refine bsplit_of (fun (h : (x.mst.cost == y.mst.cost) = true) => ?_) (fun (h : (x.mst.cost == y.mst.cost) = false) => ?_) <;> rw [h] at hR
  case refine_2 => exact Eq.mp (α := (Out.ret (SV.v (.bool false)) = .ret (.v (.bool r)) ∧ ([] : List Chunk) = [] ∧ g = g)) (by kernel_rfl) ⟨rb hR.symm, rfl, rfl⟩
  rw [Bool.true_and] at hR
  refine bsplit_of (fun (h : (false ^^ x.mst.bridge.eq y.mst.bridge) = true) => ?_) (fun (h : (false ^^ x.mst.bridge.eq y.mst.bridge) = false) => ?_) <;> rw [Bool.false_xor] at h <;> rw [h] at hR
  case refine_2 => exact Eq.mp (α := (Out.ret (SV.v (.bool false)) = .ret (.v (.bool r)) ∧ ([] : List Chunk) = [] ∧ g = g)) (by kernel_rfl) ⟨rb hR.symm, rfl, rfl⟩
  rw [Bool.true_and] at hR
  refine bsplit_of (fun (h : (x.mst.hops == y.mst.hops) = true) => ?_) (fun (h : (x.mst.hops == y.mst.hops) = false) => ?_) <;> rw [h] at hR
  case refine_2 => exact Eq.mp (α := (Out.ret (SV.v (.bool false)) = .ret (.v (.bool r)) ∧ ([] : List Chunk) = [] ∧ g = g)) (by kernel_rfl) ⟨rb hR.symm, rfl, rfl⟩
  rw [Bool.true_and] at hR
  refine (eqInsts_c x.mst.insts y.mst.insts g hx.insts hy.insts).call rfl rfl rfl ?_
  refine bsplit_of (fun (h : (eqL InstV.eq x.mst.insts.l y.mst.insts.l) = true) => ?_) (fun (h : (eqL InstV.eq x.mst.insts.l y.mst.insts.l) = false) => ?_) <;> rw [h] at hR
  case refine_2 => exact Eq.mp (α := (Out.ret (SV.v (.bool false)) = .ret (.v (.bool r)) ∧ ([] : List Chunk) = [] ∧ g = g)) (by kernel_rfl) ⟨rb hR.symm, rfl, rfl⟩
  rw [Bool.true_and] at hR
  refine bsplit_of (fun (h : (false ^^ x.lldp.chassis.eq y.lldp.chassis) = true) => ?_) (fun (h : (false ^^ x.lldp.chassis.eq y.lldp.chassis) = false) => ?_) <;> rw [Bool.false_xor] at h <;> rw [h] at hR
  case refine_2 => exact Eq.mp (α := (Out.ret (SV.v (.bool false)) = .ret (.v (.bool r)) ∧ ([] : List Chunk) = [] ∧ g = g)) (by kernel_rfl) ⟨rb hR.symm, rfl, rfl⟩
  rw [Bool.true_and] at hR
  refine bsplit_of (fun (h : (false ^^ x.lldp.port.eq y.lldp.port) = true) => ?_) (fun (h : (false ^^ x.lldp.port.eq y.lldp.port) = false) => ?_) <;> rw [Bool.false_xor] at h <;> rw [h] at hR
  case refine_2 => exact Eq.mp (α := (Out.ret (SV.v (.bool false)) = .ret (.v (.bool r)) ∧ ([] : List Chunk) = [] ∧ g = g)) (by kernel_rfl) ⟨rb hR.symm, rfl, rfl⟩
  rw [Bool.true_and] at hR
  refine bsplit_of (fun (h : (x.lldp.ttl == y.lldp.ttl) = true) => ?_) (fun (h : (x.lldp.ttl == y.lldp.ttl) = false) => ?_) <;> rw [h] at hR
  case refine_2 => exact Eq.mp (α := (Out.ret (SV.v (.bool false)) = .ret (.v (.bool r)) ∧ ([] : List Chunk) = [] ∧ g = g)) (by kernel_rfl) ⟨rb hR.symm, rfl, rfl⟩
  rw [Bool.true_and] at hR
  refine (eqStrs_c x.lldp.desc y.lldp.desc g hx.desc hy.desc).call rfl rfl rfl ?_
  refine bsplit_of (fun (h : (eqL eqS x.lldp.desc.l y.lldp.desc.l) = true) => ?_) (fun (h : (eqL eqS x.lldp.desc.l y.lldp.desc.l) = false) => ?_) <;> rw [h] at hR
  case refine_2 => exact Eq.mp (α := (Out.ret (SV.v (.bool false)) = .ret (.v (.bool r)) ∧ ([] : List Chunk) = [] ∧ g = g)) (by kernel_rfl) ⟨rb hR.symm, rfl, rfl⟩
  rw [Bool.true_and] at hR
  refine (eqStrs_c x.lldp.host y.lldp.host g hx.host hy.host).call rfl rfl rfl ?_
  refine bsplit_of (fun (h : (eqL eqS x.lldp.host.l y.lldp.host.l) = true) => ?_) (fun (h : (eqL eqS x.lldp.host.l y.lldp.host.l) = false) => ?_) <;> rw [h] at hR
  case refine_2 => exact Eq.mp (α := (Out.ret (SV.v (.bool false)) = .ret (.v (.bool r)) ∧ ([] : List Chunk) = [] ∧ g = g)) (by kernel_rfl) ⟨rb hR.symm, rfl, rfl⟩
  rw [Bool.true_and] at hR
  refine (eqStrs_c x.lldp.system y.lldp.system g hx.system hy.system).call rfl rfl rfl ?_
  refine bsplit_of (fun (h : (eqL eqS x.lldp.system.l y.lldp.system.l) = true) => ?_) (fun (h : (eqL eqS x.lldp.system.l y.lldp.system.l) = false) => ?_) <;> rw [h] at hR
  case refine_2 => exact Eq.mp (α := (Out.ret (SV.v (.bool false)) = .ret (.v (.bool r)) ∧ ([] : List Chunk) = [] ∧ g = g)) (by kernel_rfl) ⟨rb hR.symm, rfl, rfl⟩
  rw [Bool.true_and] at hR
  refine (eqCaps_c x.lldp.caps y.lldp.caps g hx.caps hy.caps).call rfl rfl rfl ?_
  refine bsplit_of (fun (h : (eqL CapsV.eq x.lldp.caps.l y.lldp.caps.l) = true) => ?_) (fun (h : (eqL CapsV.eq x.lldp.caps.l y.lldp.caps.l) = false) => ?_) <;> rw [h] at hR
  case refine_2 => exact Eq.mp (α := (Out.ret (SV.v (.bool false)) = .ret (.v (.bool r)) ∧ ([] : List Chunk) = [] ∧ g = g)) (by kernel_rfl) ⟨rb hR.symm, rfl, rfl⟩
  rw [Bool.true_and] at hR
  refine (eqManages_c x.lldp.manage y.lldp.manage g hx.manage hy.manage).call rfl rfl rfl ?_
  refine bsplit_of (fun (h : (eqL ManageV.eq x.lldp.manage.l y.lldp.manage.l) = true) => ?_) (fun (h : (eqL ManageV.eq x.lldp.manage.l y.lldp.manage.l) = false) => ?_) <;> rw [h] at hR
  case refine_2 => exact Eq.mp (α := (Out.ret (SV.v (.bool false)) = .ret (.v (.bool r)) ∧ ([] : List Chunk) = [] ∧ g = g)) (by kernel_rfl) ⟨rb hR.symm, rfl, rfl⟩
  rw [Bool.true_and] at hR
  refine (eqOrgs_c x.lldp.orgs y.lldp.orgs g hx.orgs hy.orgs).call rfl rfl rfl ?_
  refine bsplit_of (fun (h : (eqL OrgV.eq x.lldp.orgs.l y.lldp.orgs.l) = true) => ?_) (fun (h : (eqL OrgV.eq x.lldp.orgs.l y.lldp.orgs.l) = false) => ?_) <;> rw [h] at hR
  case refine_2 => exact Eq.mp (α := (Out.ret (SV.v (.bool false)) = .ret (.v (.bool r)) ∧ ([] : List Chunk) = [] ∧ g = g)) (by kernel_rfl) ⟨rb hR.symm, rfl, rfl⟩
  rw [Bool.true_and] at hR
  refine (sameAttrs_c x.mvrp y.mvrp g hx.mvrp hy.mvrp).call rfl rfl rfl ?_
  exact ⟨rb hR.symm, rfl, rfl⟩
end Go.Proofs.YtfianfpmnglfnaaDoor
