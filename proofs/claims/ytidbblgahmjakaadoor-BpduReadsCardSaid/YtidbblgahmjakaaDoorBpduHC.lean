/- bpdu.head: what it returns. Conditions: none. -/
import Derived.Test.YtidbblgahmjakaaDoorXbpduh
import Derived.Test.YtidbblgahmjakaaDoorWireC
namespace Go.Proofs.YtidbblgahmjakaaDoor
open Go.Sx
set_option maxRecDepth 100000
set_option maxHeartbeats 8000000
attribute [local irreducible] Meets

def headS (k : Int) : ByteArray := if k = 2 then ⟨#[0, 0, 0, 128]⟩ else if k = 1 then ⟨#[0, 0, 0, 0]⟩ else ⟨#[0, 0, 2, 2]⟩
theorem head_c (k : Int) (g : G) (h : k = 1 ∨ k = 2 ∨ k = 3) : Tells Tryd.prog 102 [.v (.int .i64 k)] g (.v (.string (headS k))) := by
  refine meets_of mixedW Tryd.func102 (by kernel_rfl) x102_ok (some []) ?_
  rcases h with rfl | rfl | rfl
  all_goals
    refine ⟨by decide, ?_⟩
    exact ⟨rfl, rfl, rfl⟩
end Go.Proofs.YtidbblgahmjakaaDoor
