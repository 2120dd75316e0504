/- The reference's FrameSame: what it returns. Conditions: the tags lie where the frames say. -/
import Derived.Test.YtdfpbmchkfmfdaaDoorXfrs
import Derived.Test.YtdfpbmchkfmfdaaDoorStackC
namespace Go.Proofs.YtdfpbmchkfmfdaaDoor
open Go.Sx
set_option maxRecDepth 100000
set_option maxHeartbeats 8000000
attribute [local irreducible] Meets

def eqS (a b : ByteArray) : Bool := a.toList == b.toList

/-- slices.Equal over TagV -/
theorem eqTags_c (s t : SliceV TagV) (g : G) (hs : s.ok 4 TagV.cells (TagV.ok g) g) (ht : t.ok 4 TagV.cells (TagV.ok g) g) : Tells Tryd.prog 206 [.v (.slice s.a s.l.length s.c), .v (.slice t.a t.l.length t.c)] g (.v (.bool (eqL TagV.eq s.l t.l))) := by
  refine meets_of mixedS Tryd.func206 (by kernel_rfl) x206_ok (some []) ?_
  have hlen := hs.len
  refine bsplit_of (fun hne => ?_) (fun hne => ?_)
  · exact ⟨rb (eqL_len (by simp at hne; omega)), rfl, rfl⟩
  · have heq : s.l.length = t.l.length := by simp at hne; omega
    change LoopW _ _ _ _ _ _ _
    apply loop_rule [] (α := Nat) (fun k => [(13, .v (.int .i64 k))]) (fun _ => []) (fun _ => g) (fun k => k ≤ s.l.length ∧ ∀ (i : Nat) u v, i < k → s.l[i]? = some u → t.l[i]? = some v → TagV.eq u v = true) (fun k => s.l.length - k) 0
    · intro x; kernel_rfl
    · exact ⟨Nat.zero_le _, fun i u v hi => by omega⟩
    · exact ⟨rfl, trivial⟩
    · rfl
    · rfl
    intro k hk
    refine bsplit_of (fun hlt => ?_) (fun hlt => ?_)
    · have hlt' : k < s.l.length := by simpa using hlt
      obtain ⟨ad, x, ha, hx, hatx, hxok⟩ := hs.elem (fun _ => rfl) hlt'
      obtain ⟨bd, y, hb, hy, haty, hyok⟩ := ht.elem (fun _ => rfl) (show k < t.l.length by omega)
      refine ⟨⟨by omega, by omega⟩, ad, ha, ?_⟩
      refine ⟨TagV.cells x, rfl, hatx, ?_⟩
      refine ⟨⟨by omega, by omega⟩, bd, hb, ?_⟩
      refine ⟨TagV.cells y, rfl, haty, ?_⟩
      refine bsplit_of (fun (hd : (true ^^ TagV.eq x y) = true) => ?_) (fun (hd : (true ^^ TagV.eq x y) = false) => ?_)
      · exact ⟨rb (eqL_bad hx hy (by simpa using hd)), rfl, rfl⟩
      · refine ⟨k + 1, ⟨by omega, eq_next hk.2 hx hy (by simpa using hd)⟩, by omega, [], rfl, ⟨vi (wrap_id (by omega) (by omega)), trivial⟩, rfl, rfl, rfl, rfl⟩
    · exact ⟨rb (eqL_good heq fun i u v hu hv => hk.2 i u v (by have := (List.getElem?_eq_some_iff.1 hu).1; simp at hlt; omega) hu hv), rfl, rfl⟩

def frameEq (x y : FrameV) : Bool := x.dst.eq y.dst && (x.src.eq y.src && (eqL TagV.eq x.tags.l y.tags.l && (x.kind == y.kind && (x.type_ == y.type_ && (x.dsap == y.dsap && (x.ssap == y.ssap && (x.ctl == y.ctl && (x.oui == y.oui && (x.pid == y.pid && eqS x.body y.body)))))))))

theorem frameR_c (x y : FrameV) (g : G) (hx : x.ok g) (hy : y.ok g) : Tells Tryd.prog 146 [.agg (x.cells.map .v), .agg (y.cells.map .v)] g (.v (.bool (frameEq x y))) := by
  obtain ⟨r, hR⟩ : ∃ r, frameEq x y = r := ⟨_, rfl⟩
  rw [hR]
  unfold frameEq at hR
  refine meets_of mixedS Tryd.func146 (by kernel_rfl) x146_ok (some []) ?_
  refine bsplit_of (fun (h : (false ^^ x.dst.eq y.dst) = true) => ?_) (fun (h : (false ^^ x.dst.eq y.dst) = false) => ?_) <;> rw [Bool.false_xor] at h <;> rw [h] at hR
  case refine_2 => exact Eq.mp (α := (Out.ret (SV.v (.bool false)) = .ret (.v (.bool r)) ∧ ([] : List Chunk) = [] ∧ g = g)) (by kernel_rfl) ⟨rb hR.symm, rfl, rfl⟩
  rw [Bool.true_and] at hR
  refine bsplit_of (fun (h : (false ^^ x.src.eq y.src) = true) => ?_) (fun (h : (false ^^ x.src.eq y.src) = false) => ?_) <;> rw [Bool.false_xor] at h <;> rw [h] at hR
  case refine_2 => exact Eq.mp (α := (Out.ret (SV.v (.bool false)) = .ret (.v (.bool r)) ∧ ([] : List Chunk) = [] ∧ g = g)) (by kernel_rfl) ⟨rb hR.symm, rfl, rfl⟩
  rw [Bool.true_and] at hR
  refine (eqTags_c x.tags y.tags g hx.2.2.1 hy.2.2.1).call rfl rfl rfl ?_
  refine bsplit_of (fun (h : eqL TagV.eq x.tags.l y.tags.l = true) => ?_) (fun (h : eqL TagV.eq x.tags.l y.tags.l = false) => ?_) <;> rw [h] at hR
  case refine_2 => exact Eq.mp (α := (Out.ret (SV.v (.bool false)) = .ret (.v (.bool r)) ∧ ([] : List Chunk) = [] ∧ g = g)) (by kernel_rfl) ⟨rb hR.symm, rfl, rfl⟩
  rw [Bool.true_and] at hR
  refine bsplit_of (fun (h : (x.kind == y.kind) = true) => ?_) (fun (h : (x.kind == y.kind) = false) => ?_) <;> rw [h] at hR
  case refine_2 => exact Eq.mp (α := (Out.ret (SV.v (.bool false)) = .ret (.v (.bool r)) ∧ ([] : List Chunk) = [] ∧ g = g)) (by kernel_rfl) ⟨rb hR.symm, rfl, rfl⟩
  rw [Bool.true_and] at hR
  refine bsplit_of (fun (h : (x.type_ == y.type_) = true) => ?_) (fun (h : (x.type_ == y.type_) = false) => ?_) <;> rw [h] at hR
  case refine_2 => exact Eq.mp (α := (Out.ret (SV.v (.bool false)) = .ret (.v (.bool r)) ∧ ([] : List Chunk) = [] ∧ g = g)) (by kernel_rfl) ⟨rb hR.symm, rfl, rfl⟩
  rw [Bool.true_and] at hR
  refine bsplit_of (fun (h : (x.dsap == y.dsap) = true) => ?_) (fun (h : (x.dsap == y.dsap) = false) => ?_) <;> rw [h] at hR
  case refine_2 => exact Eq.mp (α := (Out.ret (SV.v (.bool false)) = .ret (.v (.bool r)) ∧ ([] : List Chunk) = [] ∧ g = g)) (by kernel_rfl) ⟨rb hR.symm, rfl, rfl⟩
  rw [Bool.true_and] at hR
  refine bsplit_of (fun (h : (x.ssap == y.ssap) = true) => ?_) (fun (h : (x.ssap == y.ssap) = false) => ?_) <;> rw [h] at hR
  case refine_2 => exact Eq.mp (α := (Out.ret (SV.v (.bool false)) = .ret (.v (.bool r)) ∧ ([] : List Chunk) = [] ∧ g = g)) (by kernel_rfl) ⟨rb hR.symm, rfl, rfl⟩
  rw [Bool.true_and] at hR
  refine bsplit_of (fun (h : (x.ctl == y.ctl) = true) => ?_) (fun (h : (x.ctl == y.ctl) = false) => ?_) <;> rw [h] at hR
  case refine_2 => exact Eq.mp (α := (Out.ret (SV.v (.bool false)) = .ret (.v (.bool r)) ∧ ([] : List Chunk) = [] ∧ g = g)) (by kernel_rfl) ⟨rb hR.symm, rfl, rfl⟩
  rw [Bool.true_and] at hR
  refine bsplit_of (fun (h : (x.oui == y.oui) = true) => ?_) (fun (h : (x.oui == y.oui) = false) => ?_) <;> rw [h] at hR
  case refine_2 => exact Eq.mp (α := (Out.ret (SV.v (.bool false)) = .ret (.v (.bool r)) ∧ ([] : List Chunk) = [] ∧ g = g)) (by kernel_rfl) ⟨rb hR.symm, rfl, rfl⟩
  rw [Bool.true_and] at hR
  refine bsplit_of (fun (h : (x.pid == y.pid) = true) => ?_) (fun (h : (x.pid == y.pid) = false) => ?_) <;> rw [h] at hR
  case refine_2 => exact Eq.mp (α := (Out.ret (SV.v (.bool false)) = .ret (.v (.bool r)) ∧ ([] : List Chunk) = [] ∧ g = g)) (by kernel_rfl) ⟨rb hR.symm, rfl, rfl⟩
  rw [Bool.true_and] at hR
  exact ⟨rb hR.symm, rfl, rfl⟩
end Go.Proofs.YtdfpbmchkfmfdaaDoor
