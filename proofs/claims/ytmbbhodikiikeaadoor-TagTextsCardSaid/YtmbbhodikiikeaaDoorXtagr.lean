/- Functions of this seat with the type tables looked up; each checked by the kernel. Conditions: none. -/
import Derived.Test.YtmbbhodikiikeaaDoorProg
import Derived.Test.YtmbbhodikiikeaaDoorBaseC
namespace Go.Proofs.YtmbbhodikiikeaaDoor
open Go.Sx
set_option maxRecDepth 100000
/-- switchyard/switchyardref.TagRight -/
def x19 : YF := ⟨11, [.tmp 2],
 (.seq (.ops [⟨(some 1), none, .box 35 (.tmp 0)⟩, ⟨(some 2), none, .eff .set [.const (.bool false)]⟩])
 (.seq (.ops [⟨(some 3), none, .fieldA 1 (.tmp 1)⟩, ⟨(some 4), none, .load false 1 (.tmp 3)⟩, ⟨(some 5), none, .call 22 [.tmp 4, .const (.int .i64 0), .const (.int .i64 7)]⟩, ⟨(some 6), none, .mov (.tmp 5)⟩, ⟨(some 7), (some (6, true)), .fieldA 3 (.tmp 1)⟩, ⟨(some 8), (some (6, true)), .load false 1 (.tmp 7)⟩, ⟨(some 9), (some (6, true)), .call 22 [.tmp 8, .const (.int .i64 0), .const (.int .i64 4094)]⟩, ⟨(some 10), none, .pick (.tmp 6) (.tmp 9) (.const (.bool false))⟩, ⟨(some 2), none, .eff .set [.tmp 10]⟩])
 .ret))⟩
theorem x19_ok : yfunc Tryd.prog Tryd.f19 = some x19 := by kernel_rfl

/-- switchyard/tag.Right -/
def x21 : YF := ⟨21, [.tmp 2],
 (.seq (.ops [⟨(some 1), none, .box 35 (.tmp 0)⟩, ⟨(some 2), none, .eff .set [.const (.bool false)]⟩])
 (.seq (.ops [⟨(some 3), none, .fieldA 1 (.tmp 1)⟩, ⟨(some 4), none, .load false 1 (.tmp 3)⟩, ⟨(some 5), none, .bin .geq (.tmp 4) (.const (.int .i64 0))⟩, ⟨(some 6), none, .mov (.tmp 5)⟩, ⟨(some 7), (some (6, true)), .fieldA 1 (.tmp 1)⟩, ⟨(some 8), (some (6, true)), .load false 1 (.tmp 7)⟩, ⟨(some 9), (some (6, true)), .bin .leq (.tmp 8) (.const (.int .i64 7))⟩, ⟨(some 10), none, .pick (.tmp 6) (.tmp 9) (.const (.bool false))⟩, ⟨(some 11), none, .mov (.tmp 10)⟩, ⟨(some 12), (some (11, true)), .fieldA 3 (.tmp 1)⟩, ⟨(some 13), (some (11, true)), .load false 1 (.tmp 12)⟩, ⟨(some 14), (some (11, true)), .bin .geq (.tmp 13) (.const (.int .i64 0))⟩, ⟨(some 15), none, .pick (.tmp 11) (.tmp 14) (.const (.bool false))⟩, ⟨(some 16), none, .mov (.tmp 15)⟩, ⟨(some 17), (some (16, true)), .fieldA 3 (.tmp 1)⟩, ⟨(some 18), (some (16, true)), .load false 1 (.tmp 17)⟩, ⟨(some 19), (some (16, true)), .bin .leq (.tmp 18) (.const (.int .i64 4094))⟩, ⟨(some 20), none, .pick (.tmp 16) (.tmp 19) (.const (.bool false))⟩, ⟨(some 2), none, .eff .set [.tmp 20]⟩])
 .ret))⟩
theorem x21_ok : yfunc Tryd.prog Tryd.f21 = some x21 := by kernel_rfl

/-- switchyard/switchyardref.within -/
def x22 : YF := ⟨15, [.tmp 6],
 (.seq (.ops [⟨(some 6), none, .eff .set [.const (.bool false)]⟩])
 (.seq (.ops [⟨(some 7), none, .mov (.tmp 1)⟩, ⟨(some 8), none, .mov (.tmp 0)⟩, ⟨(some 9), none, .bin .leq (.tmp 7) (.tmp 8)⟩, ⟨(some 10), none, .mov (.tmp 9)⟩, ⟨(some 11), (some (10, true)), .mov (.tmp 0)⟩, ⟨(some 12), (some (10, true)), .mov (.tmp 2)⟩, ⟨(some 13), (some (10, true)), .bin .leq (.tmp 11) (.tmp 12)⟩, ⟨(some 14), none, .pick (.tmp 10) (.tmp 13) (.const (.bool false))⟩, ⟨(some 6), none, .eff .set [.tmp 14]⟩])
 .ret))⟩
theorem x22_ok : yfunc Tryd.prog Tryd.f22 = some x22 := by kernel_rfl
end Go.Proofs.YtmbbhodikiikeaaDoor
