/- The law RegionMarks. Conditions: of the law: the variable errors.errorType is as laid. -/
import Derived.Test.YtdbkceojpeboeaaDoorRgB
import Derived.Test.YtdbkceojpeboeaaDoorErrB
namespace Go.Proofs.YtdbkceojpeboeaaDoor
open Go.Sx Go.Lib
set_option maxRecDepth 100000
set_option maxHeartbeats 8000000
attribute [local irreducible] Meets tabS vF
attribute [local instance] Classical.propDecidable
theorem regionMarks_c (s : SliceV SpanV) (g : G) (hs : SpansOk g s) (hE : ErrVar g) : Meets Tryd.prog 4 [.v (.slice s.a s.l.length s.c)] [] g (fun o _ _ => o = .ret (.v (.bool true))) := by
  refine meets_of mixedS Tryd.func4 (by kernel_rfl) x4_ok (some []) ?_
  refine bsplit_of (fun _ => rfl) (fun (h : decide ((s.l.length : Int) > 60) = false) => ?_)
  have hmax : s.l.length ≤ 60 := by have := of_decide_eq_false h; omega
  by_cases hr : spansP s.l
  · obtain ⟨T, hT⟩ : ∃ T, tabS s.l 4096 = T := ⟨_, rfl⟩
    have h1 := table_c s g hs hr hmax
    have h2 := fun g => spanTable_c s g
    rw [hT] at h1
    simp only [hT] at h2
    refine h1.call0 rfl rfl 0 rfl ?_
    rintro o L1 g1 ⟨rfl, rfl, rfl⟩
    refine (digest_c s _ hs hr hmax T hT).call0 rfl rfl 0 rfl ?_
    rintro o L1 g2 ⟨rfl, rfl, hle⟩
    have hs2 : SpansOk g2 s := hs.mono hle
    refine (spanRightR_c s g2 hs2).call rfl rfl rfl ?_
    refine bsplit_of (fun h0 => absurd h0 (by simp [hr])) (fun _ => ?_)
    refine (h2 g2 hs2 hr).call0 rfl rfl 0 rfl ?_
    rintro o L1 g3 ⟨rfl, rfl, rfl⟩
    refine bsplit_of (fun _ => ?_) (fun h => absurd h (by simp))
    refine (digestR_c s _ hs2 hr T hT).call0 rfl rfl 0 rfl ?_
    rintro o L1 g4 ⟨rfl, rfl, hle4⟩
    exact rb (by simp)
  · obtain ⟨E, hE0⟩ : ∃ E : ByteArray, emp = E := ⟨_, rfl⟩
    have h1 := table_bad s g hs hr
    have h2 := digest_bad s g hs hr
    have hb : Tells Tryd.prog 12 [.v (errW 1), .v (.int .i64 1)] g (.v (.bool true)) := bare_c (errW 1) 1 (-1) 1 g hE (.bare 1)
    rw [hE0] at h1 h2
    refine h1.call rfl rfl rfl ?_
    refine h2.call rfl rfl rfl ?_
    refine (spanRightR_c s g hs).call rfl rfl rfl ?_
    refine bsplit_of (fun _ => ?_) (fun h0 => absurd h0 (by simp [hr]))
    refine hb.call rfl rfl rfl ?_
    refine hb.call rfl rfl rfl ?_
    refine bsplit_of (fun h => ?_) (fun h => absurd h (by subst hE0; simp [emp]))
    exact rb (by subst hE0; simp [emp])
end Go.Proofs.YtdbkceojpeboeaaDoor
