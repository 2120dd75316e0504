/- switchyardref.line and Better; both Bests: what each returns. Conditions: none. -/
import Derived.Test.YtflnpoahceebbaaPrioC
namespace Go.Proofs.Ytflnpoahceebbaa
open Go.Sx
set_option maxRecDepth 100000
set_option maxHeartbeats 8000000
attribute [local irreducible] Meets

theorem ints_app (xs ys : List Int) : ints (xs ++ ys) = ints xs ++ ints ys := List.map_append

/-- switchyardref.line -/
theorem line_c (v : VectorV) (g : G) (hv : v.ok g) : Meets Try.prog 70 [.agg (v.cells.map .v)] [] g (fun o L' g' => ∃ cap sp, o = .ret (.slc 0 0 21 cap) ∧ L' = [.vals 3 (ints v.row ++ sp)] ∧ (21 + sp.length = cap ∧ cap ≤ 9223372036854775807) ∧ g' = g) := by
  refine meets_of mixed Try.func70 (by kernel_rfl) x70_ok (some [7]) ?_
  refine (numbers_c v.root g hv.1).call0 rfl rfl 2 rfl ?_
  rintro o L1 g' ⟨c1, s1, rfl, rfl, ⟨k1, k1'⟩, rfl⟩
  refine ⟨by simp, ?_⟩
  refine ⟨ints_one [v.cost], ?_⟩
  refine ⟨ints v.root.row, s1, rfl, rfl, ⟨?_, ?_, ?_⟩, by simp, fun c2 s2 k2 k2' k2'' => ?_⟩
  · simp [ints, BridgeV.row, AddrV.row]; omega
  · omega
  · omega
  refine (numbers_c v.sender g' hv.2.2.1).call0 rfl rfl 4 rfl ?_
  rintro o L1 g'' ⟨c3, s3, rfl, rfl, ⟨k3, k3'⟩, rfl⟩
  refine ⟨by simp [ints, BridgeV.row, AddrV.row], ?_⟩
  refine ⟨ints_one v.sender.row, ?_⟩
  refine ⟨ints (v.root.row ++ [v.cost]), s2, rfl, rfl, ⟨?_, ?_, ?_⟩, by simp, fun c4 s4 k4 k4' k4'' => ?_⟩
  · simp [ints, BridgeV.row, AddrV.row] at k2 k2'' ⊢; omega
  · exact k2
  · exact k2'
  refine ⟨by simp, ?_⟩
  refine ⟨ints_one [v.port.prio, v.port.no, v.at_.prio, v.at_.no], ?_⟩
  refine ⟨ints (v.root.row ++ [v.cost] ++ v.sender.row), s4, rfl, rfl, ⟨?_, ?_, ?_⟩, by simp, fun c5 s5 k5 k5' k5'' => ?_⟩
  · simp [ints, BridgeV.row, AddrV.row] at k4 k4'' ⊢; omega
  · exact k4
  · exact k4'
  refine ⟨c5, s5, rfl, rfl, ⟨?_, k5'⟩, rfl⟩
  simp at k5 k5'' ⊢; omega

/-- switchyardref.Better -/
theorem betterR_c (a b : VectorV) (g : G) (ha : a.ok g) (hb : b.ok g) : Tells Try.prog 41 [.agg (a.cells.map .v), .agg (b.cells.map .v)] g (.v (.bool (vless a b))) := by
  refine meets_of mixed Try.func41 (by kernel_rfl) x41_ok (some []) ?_
  refine (line_c a g ha).call0 rfl rfl 2 rfl ?_
  rintro o L1 g' ⟨c1, s1, rfl, rfl, k1, rfl⟩
  refine (line_c b g' hb).call0 rfl rfl 3 rfl ?_
  rintro o L1 g'' ⟨c2, s2, rfl, rfl, k2, rfl⟩
  refine (first_c a.row b.row s1 s2 c1 c2 rfl (by simp [VectorV.row_len]) g'').callS [2, 3] 4 rfl rfl rfl rfl ?_
  rintro o L1 g3 ⟨rfl, rfl, rfl⟩ _
  exact ⟨rfl, rfl, rfl⟩
end Go.Proofs.Ytflnpoahceebbaa
