/- The law Md5Sums: it returns true. Conditions: none. -/
import Derived.Test.YtdbkceojpeboeaaDoorMdF
namespace Go.Proofs.YtdbkceojpeboeaaDoor
open Go.Sx
set_option maxRecDepth 100000
set_option maxHeartbeats 8000000
attribute [local irreducible] Meets

theorem md5Sums_c (s key : ByteArray) (g : G) (h1 : s.size ≤ 140737488351232) (h2 : key.size ≤ 140737488351232) : Meets Tryd.prog 3 [.v (.string s), .v (.string key)] [] g (fun o _ _ => o = .ret (.v (.bool true))) := by
  have hw : IntKind.i64.wrap ((s.size : Int) + (key.size : Int)) = (s.size : Int) + (key.size : Int) := wrap_id (by omega) (by omega)
  refine meets_of mixedM Tryd.func3 (by kernel_rfl) x3_ok (some []) ?_
  refine bsplit_of (fun _ => rfl) (fun (h : decide (IntKind.i64.wrap ((s.size : Int) + (key.size : Int)) > 600) = false) => ?_)
  have h := of_decide_eq_false h
  rw [hw] at h
  refine (mdSum_c s (by omega) g).call0 rfl rfl 0 rfl ?_
  rintro o L1 g1 ⟨rfl, rfl, _⟩
  refine (mdRef_c s (by omega) g1).call0 rfl rfl 0 rfl ?_
  rintro o L1 g2 ⟨rfl, rfl, _⟩
  refine bsplit_of (fun _ => ?_) (fun h => absurd h (by simp))
  refine (mdHmac_c key s (by omega) (by omega) g2).call0 rfl rfl 0 rfl ?_
  rintro o L1 g3 ⟨rfl, rfl, _⟩
  refine (hmRef_c key s (by omega) (by omega) g3).call0 rfl rfl 0 rfl ?_
  rintro o L1 g4 ⟨rfl, rfl, _⟩
  exact rb (by simp)
end Go.Proofs.YtdbkceojpeboeaaDoor
