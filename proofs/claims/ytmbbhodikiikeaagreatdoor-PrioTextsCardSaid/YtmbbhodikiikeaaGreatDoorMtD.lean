/- The law MacTexts. Conditions: one entry of a table of math/bits and the variable errors.errorType are as laid; internal/bytealg.MaxLen holds a number. -/
import Derived.Test.YtmbbhodikiikeaaGreatDoorMtB
namespace Go.Proofs.YtmbbhodikiikeaaGreatDoor
open Go.Sx Go.Lib Go.RowKit
set_option maxRecDepth 100000
set_option maxHeartbeats 8000000
attribute [local irreducible] Meets
attribute [local instance] Classical.propDecidable
attribute [local irreducible] addrT

theorem errP_nilM {g : G} (e : Int) : ErrP g (nilM e) e (-1) := by
  unfold nilM
  split
  · rename_i h; subst h; exact .nil
  · exact .bare _
end Go.Proofs.YtmbbhodikiikeaaGreatDoor
