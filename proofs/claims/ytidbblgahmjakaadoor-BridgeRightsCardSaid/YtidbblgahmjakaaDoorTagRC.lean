/- within, tag.Right and its reference: what each returns. Conditions: none. -/
import Derived.Test.YtidbblgahmjakaaDoorXtagr
import Derived.Test.YtidbblgahmjakaaDoorTypes
namespace Go.Proofs.YtidbblgahmjakaaDoor
open Go.Sx
set_option maxRecDepth 100000
set_option maxHeartbeats 8000000
attribute [local irreducible] Meets
attribute [local instance] Classical.propDecidable

theorem mixedS : Tryd.prog.follows .mixedOrders = true := by kernel_rfl

def tagP (t : TagV) : Prop := 0 ≤ t.pcp ∧ t.pcp ≤ 7 ∧ 0 ≤ t.vid ∧ t.vid ≤ 4094

theorem within_c (x a b : Int) (g : G) : Tells Tryd.prog 71 [.v (.int .i64 x), .v (.int .i64 a), .v (.int .i64 b)] g (.v (.bool (decide (a ≤ x ∧ x ≤ b)))) := by
  refine meets_of mixedS Tryd.func71 (by kernel_rfl) x71_ok (some []) ?_
  refine bsplit_of (fun h1 => ?_) (fun h1 => ?_)
  · exact ⟨rbd (by simp at h1; simp [h1]), rfl, rfl⟩
  · exact ⟨rbd (by simp at h1; simp; omega), rfl, rfl⟩

end Go.Proofs.YtidbblgahmjakaaDoor
