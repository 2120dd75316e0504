/- Facts on the whole program that every row of this seat asks. Conditions: none. -/
import Derived.Test.YtedfohdgigbhiaaDoorProg
import Derived.Test.YtedfohdgigbhiaaDoorRows
import Derived.JoinedOf
namespace Go.Proofs.YtedfohdgigbhiaaDoor
open Go
set_option maxRecDepth 100000
theorem fact_laid : laidOutB Tryd.prog = true := by kernel_rfl
theorem fact_rowed : mapsRowed Tryd.prog = true := by kernel_rfl
theorem fact_heard : Tryd.prog.stopsHeard = true := by kernel_rfl
theorem fact_enter : Tryd.prog.mayEnter = true := by kernel_rfl
theorem fact_lifted : Tryd.prog.liftsFinal = Rows.treeSolvesRow.lifted := by kernel_rfl
theorem fact_make : Tryd.prog.make = some Rows.treeSolvesRow.make := by kernel_rfl
theorem fact_plain : Tryd.prog.plainKeys = Rows.treeSolvesRow.plainKeys := by kernel_rfl
end Go.Proofs.YtedfohdgigbhiaaDoor
