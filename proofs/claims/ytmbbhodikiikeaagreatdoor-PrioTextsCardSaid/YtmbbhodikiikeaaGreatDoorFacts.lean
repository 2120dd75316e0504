/- Facts on the whole program that every row of this seat asks. Conditions: none. -/
import Derived.Test.YtmbbhodikiikeaaGreatDoorProg
import Derived.Test.YtmbbhodikiikeaaGreatDoorRows
import Derived.JoinedOf
namespace Go.Proofs.YtmbbhodikiikeaaGreatDoor
open Go
set_option maxRecDepth 100000
theorem fact_laid : laidOutB Tryz.prog = true := by kernel_rfl
theorem fact_rowed : mapsRowed Tryz.prog = true := by kernel_rfl
theorem fact_heard : Tryz.prog.stopsHeard = true := by kernel_rfl
theorem fact_enter : Tryz.prog.mayEnter = true := by kernel_rfl
theorem fact_lifted : Tryz.prog.liftsFinal = Rows.prioTextsRow.lifted := by kernel_rfl
theorem fact_make : Tryz.prog.make = some Rows.prioTextsRow.make := by kernel_rfl
theorem fact_plain : Tryz.prog.plainKeys = Rows.prioTextsRow.plainKeys := by kernel_rfl
end Go.Proofs.YtmbbhodikiikeaaGreatDoor
