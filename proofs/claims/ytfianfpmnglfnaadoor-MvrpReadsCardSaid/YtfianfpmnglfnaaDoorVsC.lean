/- The reference of frame.Same: what each returns. Conditions: the tags lie where the frames say. -/
import Derived.Test.YtfianfpmnglfnaaDoorVsA
namespace Go.Proofs.YtfianfpmnglfnaaDoor
open Go.Sx
set_option maxRecDepth 100000
set_option maxHeartbeats 8000000
attribute [local irreducible] Meets

def frameEq (x y : FrameV) : Bool := x.dst.eq y.dst && (x.src.eq y.src && (eqL TagV.eq x.tags.l y.tags.l && (x.kind == y.kind && (x.type_ == y.type_ && (x.dsap == y.dsap && (x.ssap == y.ssap && (x.ctl == y.ctl && (x.oui == y.oui && (x.pid == y.pid && eqS x.body y.body)))))))))

theorem frameR_c (x y : FrameV) (g : G) (hx : x.tags.ok 4 TagV.cells (fun _ => True) g) (hy : y.tags.ok 4 TagV.cells (fun _ => True) g) : Tells Tryd.prog 51 [.agg (x.cells.map .v), .agg (y.cells.map .v)] g (.v (.bool (frameEq x y))) := by
  obtain ⟨r, hR⟩ : ∃ r, frameEq x y = r := ⟨_, rfl⟩
  rw [hR]
  unfold frameEq at hR
  refine meets_of mixedW Tryd.func51 (by kernel_rfl) x51_ok (some []) ?_
  refine bsplit_of (fun (h : (false ^^ x.dst.eq y.dst) = true) => ?_) (fun (h : (false ^^ x.dst.eq y.dst) = false) => ?_) <;> rw [Bool.false_xor] at h <;> rw [h] at hR
  case refine_2 => exact Eq.mp (α := (Out.ret (SV.v (.bool false)) = .ret (.v (.bool r)) ∧ ([] : List Chunk) = [] ∧ g = g)) (by kernel_rfl) ⟨rb hR.symm, rfl, rfl⟩
  rw [Bool.true_and] at hR
  refine bsplit_of (fun (h : (false ^^ x.src.eq y.src) = true) => ?_) (fun (h : (false ^^ x.src.eq y.src) = false) => ?_) <;> rw [Bool.false_xor] at h <;> rw [h] at hR
  case refine_2 => exact Eq.mp (α := (Out.ret (SV.v (.bool false)) = .ret (.v (.bool r)) ∧ ([] : List Chunk) = [] ∧ g = g)) (by kernel_rfl) ⟨rb hR.symm, rfl, rfl⟩
  rw [Bool.true_and] at hR
  refine (eqTags_c x.tags y.tags g hx hy).call rfl rfl rfl ?_
  refine bsplit_of (fun (h : eqL TagV.eq x.tags.l y.tags.l = true) => ?_) (fun (h : eqL TagV.eq x.tags.l y.tags.l = false) => ?_) <;> rw [h] at hR
  case refine_2 => exact Eq.mp (α := (Out.ret (SV.v (.bool false)) = .ret (.v (.bool r)) ∧ ([] : List Chunk) = [] ∧ g = g)) (by kernel_rfl) ⟨rb hR.symm, rfl, rfl⟩
  rw [Bool.true_and] at hR
  refine bsplit_of (fun (h : (x.kind == y.kind) = true) => ?_) (fun (h : (x.kind == y.kind) = false) => ?_) <;> rw [h] at hR
  case refine_2 => exact Eq.mp (α := (Out.ret (SV.v (.bool false)) = .ret (.v (.bool r)) ∧ ([] : List Chunk) = [] ∧ g = g)) (by kernel_rfl) ⟨rb hR.symm, rfl, rfl⟩
  rw [Bool.true_and] at hR
  refine bsplit_of (fun (h : (x.type_ == y.type_) = true) => ?_) (fun (h : (x.type_ == y.type_) = false) => ?_) <;> rw [h] at hR
  case refine_2 => exact Eq.mp (α := (Out.ret (SV.v (.bool false)) = .ret (.v (.bool r)) ∧ ([] : List Chunk) = [] ∧ g = g)) (by kernel_rfl) ⟨rb hR.symm, rfl, rfl⟩
  rw [Bool.true_and] at hR
  refine bsplit_of (fun (h : (x.dsap == y.dsap) = true) => ?_) (fun (h : (x.dsap == y.dsap) = false) => ?_) <;> rw [h] at hR
  case refine_2 => exact Eq.mp (α := (Out.ret (SV.v (.bool false)) = .ret (.v (.bool r)) ∧ ([] : List Chunk) = [] ∧ g = g)) (by kernel_rfl) ⟨rb hR.symm, rfl, rfl⟩
  rw [Bool.true_and] at hR
  refine bsplit_of (fun (h : (x.ssap == y.ssap) = true) => ?_) (fun (h : (x.ssap == y.ssap) = false) => ?_) <;> rw [h] at hR
  case refine_2 => exact Eq.mp (α := (Out.ret (SV.v (.bool false)) = .ret (.v (.bool r)) ∧ ([] : List Chunk) = [] ∧ g = g)) (by kernel_rfl) ⟨rb hR.symm, rfl, rfl⟩
  rw [Bool.true_and] at hR
  refine bsplit_of (fun (h : (x.ctl == y.ctl) = true) => ?_) (fun (h : (x.ctl == y.ctl) = false) => ?_) <;> rw [h] at hR
  case refine_2 => exact Eq.mp (α := (Out.ret (SV.v (.bool false)) = .ret (.v (.bool r)) ∧ ([] : List Chunk) = [] ∧ g = g)) (by kernel_rfl) ⟨rb hR.symm, rfl, rfl⟩
  rw [Bool.true_and] at hR
  refine bsplit_of (fun (h : (x.oui == y.oui) = true) => ?_) (fun (h : (x.oui == y.oui) = false) => ?_) <;> rw [h] at hR
  case refine_2 => exact Eq.mp (α := (Out.ret (SV.v (.bool false)) = .ret (.v (.bool r)) ∧ ([] : List Chunk) = [] ∧ g = g)) (by kernel_rfl) ⟨rb hR.symm, rfl, rfl⟩
  rw [Bool.true_and] at hR
  refine bsplit_of (fun (h : (x.pid == y.pid) = true) => ?_) (fun (h : (x.pid == y.pid) = false) => ?_) <;> rw [h] at hR
  case refine_2 => exact Eq.mp (α := (Out.ret (SV.v (.bool false)) = .ret (.v (.bool r)) ∧ ([] : List Chunk) = [] ∧ g = g)) (by kernel_rfl) ⟨rb hR.symm, rfl, rfl⟩
  rw [Bool.true_and] at hR
  exact ⟨rb hR.symm, rfl, rfl⟩
end Go.Proofs.YtfianfpmnglfnaaDoor
