/- within, tag.Right and its reference: what each returns. Conditions: none. -/
import Derived.Test.YtmbbhodikiikeaaDoorXtagr
import Derived.Test.YtmbbhodikiikeaaDoorTypes
namespace Go.Proofs.YtmbbhodikiikeaaDoor
open Go.Sx
set_option maxRecDepth 100000
set_option maxHeartbeats 8000000
attribute [local irreducible] Meets
attribute [local instance] Classical.propDecidable

theorem mixedS : Tryd.prog.follows .mixedOrders = true := by kernel_rfl

def tagP (t : TagV) : Prop := 0 ≤ t.pcp ∧ t.pcp ≤ 7 ∧ 0 ≤ t.vid ∧ t.vid ≤ 4094

theorem within_c (x a b : Int) (g : G) : Tells Tryd.prog 22 [.v (.int .i64 x), .v (.int .i64 a), .v (.int .i64 b)] g (.v (.bool (decide (a ≤ x ∧ x ≤ b)))) := by
  refine meets_of mixedS Tryd.func22 (by kernel_rfl) x22_ok (some []) ?_
  refine bsplit_of (fun h1 => ?_) (fun h1 => ?_)
  · exact ⟨rbd (by simp at h1; simp [h1]), rfl, rfl⟩
  · exact ⟨rbd (by simp at h1; simp; omega), rfl, rfl⟩

theorem tagRight_c (t : TagV) (g : G) : Tells Tryd.prog 21 [.agg (t.cells.map .v)] g (.v (.bool (decide (tagP t)))) := by
  refine meets_of mixedS Tryd.func21 (by kernel_rfl) x21_ok (some []) ?_
  refine bsplit_of (fun h1 => ?_) (fun h1 => ⟨rbd (by simp at h1; simp [tagP]; omega), rfl, rfl⟩)
  refine bsplit_of (fun h2 => ?_) (fun h2 => ⟨rbd (by simp at h2; simp [tagP]; omega), rfl, rfl⟩)
  refine bsplit_of (fun h3 => ?_) (fun h3 => ⟨rbd (by simp at h3; simp [tagP]; omega), rfl, rfl⟩)
  exact ⟨rbd (by simp at h1 h2 h3; simp [tagP, h1, h2, h3]), rfl, rfl⟩

theorem tagRightR_c (t : TagV) (g : G) : Tells Tryd.prog 19 [.agg (t.cells.map .v)] g (.v (.bool (decide (tagP t)))) := by
  refine meets_of mixedS Tryd.func19 (by kernel_rfl) x19_ok (some []) ?_
  refine (within_c t.pcp 0 7 g).call rfl rfl rfl ?_
  refine bsplit_of (fun h1 => ?_) (fun h1 => ⟨rbd (by simp at h1; simp [tagP]; omega), rfl, rfl⟩)
  refine (within_c t.vid 0 4094 g).call rfl rfl rfl ?_
  exact ⟨rbd (by simp at h1; simp [tagP, h1]), rfl, rfl⟩
end Go.Proofs.YtmbbhodikiikeaaDoor
