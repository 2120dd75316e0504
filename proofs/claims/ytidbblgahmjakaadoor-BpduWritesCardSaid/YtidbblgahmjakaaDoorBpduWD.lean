/- bpdu.Write, its reference, the law BpduWrites: what each returns. Conditions: of the law: the variable errors.errorType is as laid. -/
import Derived.Test.YtidbblgahmjakaaDoorBpduWC
import Derived.Test.YtidbblgahmjakaaDoorErrB
namespace Go.Proofs.YtidbblgahmjakaaDoor
open Go.Sx
set_option maxRecDepth 100000
set_option maxHeartbeats 8000000
attribute [local irreducible] Meets bodyS byteR
attribute [local instance] Classical.propDecidable

def bpduS (b : BpduV) : ByteArray := if b.kind = 2 then headS 2 else if b.kind = 1 then headS 1 ++ bodyS b else headS 3 ++ bodyS b ++ ⟨#[0]⟩
theorem bpduB_two {b : BpduV} (h : bpduB b = true) : b.kind = 2 ∨ (b.kind = 1 ∨ b.kind = 3) ∧ (0 ≤ b.flags.role ∧ b.flags.role ≤ 3) ∧ bpduR b := by
  by_cases k2 : b.kind = 2
  · exact .inl k2
  by_cases k1 : b.kind = 1
  · simp [bpduB, k1, confB, FlagsV.eq, FlagsV.zero] at h
    exact .inr ⟨.inl k1, by omega, h.2⟩
  by_cases k3 : b.kind = 3
  · simp [bpduB, k3, flagsOk] at h
    exact .inr ⟨.inr k3, by omega, h.2⟩
  · simp [bpduB, k1, k2, k3] at h

theorem bpduWrite_bad (b : BpduV) (g : G) (h : bpduB b = false) : Tells Tryd.prog 47 [.agg (b.cells.map .v)] g (.tup [.v (.string emp), .v (errW 1)]) := by
  refine meets_of mixedW Tryd.func47 (by kernel_rfl) x47_ok (some []) ?_
  refine (bpduRight_c b g).call rfl rfl rfl ?_
  refine bsplit_of (fun _ => ⟨rfl, rfl, rfl⟩) (fun h1 => absurd h1 (by simp [h]))
theorem bpduWriteR_bad (b : BpduV) (g : G) (h : bpduB b = false) : Tells Tryd.prog 46 [.agg (b.cells.map .v)] g (.tup [.v (.string emp), .v (.int .i64 1)]) := by
  refine meets_of mixedW Tryd.func46 (by kernel_rfl) x46_ok (some []) ?_
  refine (bpduRightR_c b g).call rfl rfl rfl ?_
  refine bsplit_of (fun _ => ⟨rfl, rfl, rfl⟩) (fun h1 => absurd h1 (by simp [h]))
theorem bpduWrite_good (b : BpduV) (g : G) (hok : b.ok g) (h : bpduB b = true) : Tells Tryd.prog 47 [.agg (b.cells.map .v)] g (.tup [.v (.string (bpduS b)), .v .nilIface]) := by
  refine meets_of mixedW Tryd.func47 (by kernel_rfl) x47_ok (some []) ?_
  refine (bpduRight_c b g).call rfl rfl rfl ?_
  refine bsplit_of (fun h1 => absurd h1 (by simp [h])) (fun _ => ?_)
  have hf := hok.2.1
  have h2 := bpduB_two h
  clear h
  obtain ⟨kind, flags, root, cost, sender, port, age, max, hello, wait⟩ := b
  dsimp only at hf
  rcases h2 with rfl | ⟨rfl | rfl, ⟨h0, h3⟩, hr⟩
  · refine (head_c 2 g (by simp)).call rfl rfl rfl ?_
    exact ⟨rfl, rfl, rfl⟩
  · refine (head_c 1 g (by simp)).call rfl rfl rfl ?_
    refine (body_c ⟨1, flags, root, cost, sender, port, age, max, hello, wait⟩ g hf h0 h3 hr).call rfl rfl rfl ?_
    refine ⟨by simp only [ByteArray.size_append, bodyS_size]; decide, ?_⟩
    exact ⟨rfl, rfl, rfl⟩
  · refine (head_c 3 g (by simp)).call rfl rfl rfl ?_
    refine (body_c ⟨3, flags, root, cost, sender, port, age, max, hello, wait⟩ g hf h0 h3 hr).call rfl rfl rfl ?_
    refine ⟨by simp only [ByteArray.size_append, bodyS_size]; decide, ?_⟩
    refine ⟨by simp only [ByteArray.size_append, bodyS_size]; decide, ?_⟩
    exact ⟨rfl, rfl, rfl⟩
theorem bpduWriteR_good (b : BpduV) (g : G) (h : bpduB b = true) : Meets Tryd.prog 46 [.agg (b.cells.map .v)] [] g (fun o L' g' => o = .ret (.tup [.v (.string (bpduS b)), .v (.int .i64 0)]) ∧ L' = [] ∧ G.le g g') := by
  refine meets_of mixedW Tryd.func46 (by kernel_rfl) x46_ok (some []) ?_
  refine (bpduRightR_c b g).call rfl rfl rfl ?_
  refine bsplit_of (fun h1 => absurd h1 (by simp [h])) (fun _ => ?_)
  have h2 := bpduB_two h
  clear h
  obtain ⟨kind, flags, root, cost, sender, port, age, max, hello, wait⟩ := b
  rcases h2 with rfl | ⟨rfl | rfl, ⟨h0, h3⟩, hr⟩
  · exact ⟨rfl, rfl, fun _ _ h => h⟩
  · refine (bodyR_c ⟨1, flags, root, cost, sender, port, age, max, hello, wait⟩ g h0 h3 hr).call0 rfl rfl 1 rfl ?_
    rintro o L1 g' ⟨rfl, rfl, hle⟩
    refine ⟨by simp only [ByteArray.size_append, bodyS_size]; decide, ?_⟩
    exact ⟨rfl, rfl, hle⟩
  · refine (bodyR_c ⟨3, flags, root, cost, sender, port, age, max, hello, wait⟩ g h0 h3 hr).call0 rfl rfl 1 rfl ?_
    rintro o L1 g' ⟨rfl, rfl, hle⟩
    refine ⟨by simp only [ByteArray.size_append, bodyS_size]; decide, ?_⟩
    refine ⟨by simp only [ByteArray.size_append, bodyS_size]; decide, ?_⟩
    exact ⟨rfl, rfl, hle⟩

attribute [local irreducible] bpduS bpduB emp
/-- The law BpduWrites. -/
theorem bpduWrites_c (b : BpduV) (g : G) (hok : b.ok g) (hE : ErrVar g) : Meets Tryd.prog 9 [.agg (b.cells.map .v)] [] g (fun o _ _ => o = .ret (.v (.bool true))) := by
  refine meets_of mixedW Tryd.func9 (by kernel_rfl) x9_ok (some []) ?_
  rcases h : bpduB b with _ | _
  · obtain ⟨s0, hs0⟩ : ∃ s0, emp = s0 := ⟨_, rfl⟩
    have w1 := bpduWriteR_bad b g h
    have w2 := bpduWrite_bad b g h
    rw [hs0] at w1 w2
    refine w1.call rfl rfl rfl ?_
    refine w2.call rfl rfl rfl ?_
    refine (bare_c _ 1 (-1) 1 g hE (.bare 1)).call rfl rfl rfl ?_
    refine bsplit_of (fun _ => ?_) (fun k => absurd k (by simp))
    refine (bpduRight_c b g).call rfl rfl rfl ?_
    refine (bpduRightR_c b g).call rfl rfl rfl ?_
    exact rb (by simp)
  · refine (bpduWriteR_good b g h).call0 rfl rfl 1 rfl ?_
    rintro o L1 g' ⟨rfl, rfl, hle⟩
    have hok' : b.ok g' := hok
    refine (bpduWrite_good b g' hok' h).call rfl rfl rfl ?_
    refine (bare_c _ 0 (-1) 0 g' (G.at.mono hle hE) .nil).call rfl rfl rfl ?_
    refine bsplit_of (fun _ => ?_) (fun k => absurd k (by simp))
    refine (bpduRight_c b g').call rfl rfl rfl ?_
    refine (bpduRightR_c b g').call rfl rfl rfl ?_
    exact rb (by simp)
end Go.Proofs.YtidbblgahmjakaaDoor
