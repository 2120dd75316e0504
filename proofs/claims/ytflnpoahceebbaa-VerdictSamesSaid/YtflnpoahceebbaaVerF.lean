/- The heavy test of a verdict: some Bool. Conditions: the slices lie where they say. -/
import Derived.Test.YtflnpoahceebbaaVerE
namespace Go.Proofs.Ytflnpoahceebbaa
open Go.Sx
set_option maxRecDepth 100000
set_option maxHeartbeats 8000000
attribute [local irreducible] Meets

theorem heavy_c (v : VerdictV) (g : G) (hv : v.ok g) : SomeBool 31 [.agg (v.cells.map .v)] g := by
  refine meets_of mixed Try.func31 (by kernel_rfl) x31_ok (some []) ?_
  refine (big_c v.lldp g hv.2.2.2.2.2.2.2.2.1).call0 rfl rfl 1 rfl ?_
  rintro o L1 g' ⟨b, rfl, rfl, rfl⟩
  cases b with
  | true => exact ⟨true, rfl, rfl, rfl⟩
  | false =>
    refine (much_c v.mvrp g' hv.2.2.2.2.2.2.2.2.2.2.2).call0 rfl rfl 1 rfl ?_
    rintro o L1 g'' ⟨b, rfl, rfl, rfl⟩
    cases b with
    | true => exact ⟨true, rfl, rfl, rfl⟩
    | false =>
      refine bsplit_of (fun h1 => ?_) (fun h1 => ?_)
      · exact ⟨true, rfl, rfl, rfl⟩
      · refine bsplit_of (fun h2 => ?_) (fun h2 => ?_)
        · exact ⟨true, rfl, rfl, rfl⟩
        · exact ⟨_, rfl, rfl, rfl⟩
end Go.Proofs.Ytflnpoahceebbaa
