/- Functions of this seat with the type tables looked up; each checked by the kernel. Conditions: none. -/
import Derived.Test.YtedfohdgigbhiaaDoorProg
import Derived.Test.YtedfohdgigbhiaaDoorBaseC
namespace Go.Proofs.YtedfohdgigbhiaaDoor
open Go.Sx
set_option maxRecDepth 100000
/-- switchyard/switchyardref.within -/
def x60 : YF := ⟨15, [.tmp 6],
 (.seq (.ops [⟨(some 6), none, .eff .set [.const (.bool false)]⟩])
 (.seq (.ops [⟨(some 7), none, .mov (.tmp 1)⟩, ⟨(some 8), none, .mov (.tmp 0)⟩, ⟨(some 9), none, .bin .leq (.tmp 7) (.tmp 8)⟩, ⟨(some 10), none, .mov (.tmp 9)⟩, ⟨(some 11), (some (10, true)), .mov (.tmp 0)⟩, ⟨(some 12), (some (10, true)), .mov (.tmp 2)⟩, ⟨(some 13), (some (10, true)), .bin .leq (.tmp 11) (.tmp 12)⟩, ⟨(some 14), none, .pick (.tmp 10) (.tmp 13) (.const (.bool false))⟩, ⟨(some 6), none, .eff .set [.tmp 14]⟩])
 .ret))⟩
theorem x60_ok : yfunc Tryd.prog Tryd.f60 = some x60 := by kernel_rfl
end Go.Proofs.YtedfohdgigbhiaaDoor
