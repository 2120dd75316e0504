/- within, tag.Right and its reference: what each returns. Conditions: none. -/
import Derived.Test.YtedfohdgigbhiaaDoorXtagr
import Derived.Test.YtedfohdgigbhiaaDoorTypes
namespace Go.Proofs.YtedfohdgigbhiaaDoor
open Go.Sx
set_option maxRecDepth 100000
set_option maxHeartbeats 8000000
attribute [local irreducible] Meets
attribute [local instance] Classical.propDecidable

theorem mixedS : Tryd.prog.follows .mixedOrders = true := by kernel_rfl


theorem within_c (x a b : Int) (g : G) : Tells Tryd.prog 60 [.v (.int .i64 x), .v (.int .i64 a), .v (.int .i64 b)] g (.v (.bool (decide (a ≤ x ∧ x ≤ b)))) := by
  refine meets_of mixedS Tryd.func60 (by kernel_rfl) x60_ok (some []) ?_
  refine bsplit_of (fun h1 => ?_) (fun h1 => ?_)
  · exact ⟨rbd (by simp at h1; simp [h1]), rfl, rfl⟩
  · exact ⟨rbd (by simp at h1; simp; omega), rfl, rfl⟩

end Go.Proofs.YtedfohdgigbhiaaDoor
