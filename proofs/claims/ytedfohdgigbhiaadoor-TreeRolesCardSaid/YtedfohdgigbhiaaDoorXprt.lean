/- Functions of this seat with the type tables looked up; each checked by the kernel. Conditions: none. -/
import Derived.Test.YtedfohdgigbhiaaDoorProg
import Derived.Test.YtedfohdgigbhiaaDoorBaseC
namespace Go.Proofs.YtedfohdgigbhiaaDoor
open Go.Sx
set_option maxRecDepth 100000
/-- switchyard/switchyardref.BridgeRight -/
def x58 : YF := ⟨17, [.tmp 2],
 (.seq (.ops [⟨(some 1), none, .box 39 (.tmp 0)⟩, ⟨(some 2), none, .eff .set [.const (.bool false)]⟩])
 (.seq (.ops [⟨(some 3), none, .fieldA 0 (.tmp 1)⟩, ⟨(some 4), none, .load false 1 (.tmp 3)⟩, ⟨(some 5), none, .call 60 [.tmp 4, .const (.int .i64 0), .const (.int .i64 61440)]⟩, ⟨(some 6), none, .mov (.tmp 5)⟩, ⟨(some 7), (some (6, true)), .fieldA 0 (.tmp 1)⟩, ⟨(some 8), (some (6, true)), .load false 1 (.tmp 7)⟩, ⟨(some 9), (some (6, true)), .bin .rem (.tmp 8) (.const (.int .i64 4096))⟩, ⟨(some 10), (some (6, true)), .bin .eql (.tmp 9) (.const (.int .i64 0))⟩, ⟨(some 11), none, .pick (.tmp 6) (.tmp 10) (.const (.bool false))⟩, ⟨(some 12), none, .mov (.tmp 11)⟩, ⟨(some 13), (some (12, true)), .fieldA 1 (.tmp 1)⟩, ⟨(some 14), (some (12, true)), .load false 1 (.tmp 13)⟩, ⟨(some 15), (some (12, true)), .call 60 [.tmp 14, .const (.int .i64 0), .const (.int .i64 4095)]⟩, ⟨(some 16), none, .pick (.tmp 12) (.tmp 15) (.const (.bool false))⟩, ⟨(some 2), none, .eff .set [.tmp 16]⟩])
 .ret))⟩
theorem x58_ok : yfunc Tryd.prog Tryd.f58 = some x58 := by kernel_rfl

/-- switchyard/switchyardref.PortRight -/
def x59 : YF := ⟨17, [.tmp 2],
 (.seq (.ops [⟨(some 1), none, .box 41 (.tmp 0)⟩, ⟨(some 2), none, .eff .set [.const (.bool false)]⟩])
 (.seq (.ops [⟨(some 3), none, .fieldA 0 (.tmp 1)⟩, ⟨(some 4), none, .load false 1 (.tmp 3)⟩, ⟨(some 5), none, .call 60 [.tmp 4, .const (.int .i64 0), .const (.int .i64 240)]⟩, ⟨(some 6), none, .mov (.tmp 5)⟩, ⟨(some 7), (some (6, true)), .fieldA 0 (.tmp 1)⟩, ⟨(some 8), (some (6, true)), .load false 1 (.tmp 7)⟩, ⟨(some 9), (some (6, true)), .bin .rem (.tmp 8) (.const (.int .i64 16))⟩, ⟨(some 10), (some (6, true)), .bin .eql (.tmp 9) (.const (.int .i64 0))⟩, ⟨(some 11), none, .pick (.tmp 6) (.tmp 10) (.const (.bool false))⟩, ⟨(some 12), none, .mov (.tmp 11)⟩, ⟨(some 13), (some (12, true)), .fieldA 1 (.tmp 1)⟩, ⟨(some 14), (some (12, true)), .load false 1 (.tmp 13)⟩, ⟨(some 15), (some (12, true)), .call 60 [.tmp 14, .const (.int .i64 1), .const (.int .i64 4095)]⟩, ⟨(some 16), none, .pick (.tmp 12) (.tmp 15) (.const (.bool false))⟩, ⟨(some 2), none, .eff .set [.tmp 16]⟩])
 .ret))⟩
theorem x59_ok : yfunc Tryd.prog Tryd.f59 = some x59 := by kernel_rfl

/-- switchyard/prio.Right -/
def x104 : YF := ⟨27, [.tmp 2],
 (.seq (.ops [⟨(some 1), none, .box 39 (.tmp 0)⟩, ⟨(some 2), none, .eff .set [.const (.bool false)]⟩])
 (.seq (.ops [⟨(some 3), none, .fieldA 0 (.tmp 1)⟩, ⟨(some 4), none, .load false 1 (.tmp 3)⟩, ⟨(some 5), none, .bin .geq (.tmp 4) (.const (.int .i64 0))⟩, ⟨(some 6), none, .mov (.tmp 5)⟩, ⟨(some 7), (some (6, true)), .fieldA 0 (.tmp 1)⟩, ⟨(some 8), (some (6, true)), .load false 1 (.tmp 7)⟩, ⟨(some 9), (some (6, true)), .bin .leq (.tmp 8) (.const (.int .i64 61440))⟩, ⟨(some 10), none, .pick (.tmp 6) (.tmp 9) (.const (.bool false))⟩, ⟨(some 11), none, .mov (.tmp 10)⟩, ⟨(some 12), (some (11, true)), .fieldA 0 (.tmp 1)⟩, ⟨(some 13), (some (11, true)), .load false 1 (.tmp 12)⟩, ⟨(some 14), (some (11, true)), .bin .rem (.tmp 13) (.const (.int .i64 4096))⟩, ⟨(some 15), (some (11, true)), .bin .eql (.tmp 14) (.const (.int .i64 0))⟩, ⟨(some 16), none, .pick (.tmp 11) (.tmp 15) (.const (.bool false))⟩, ⟨(some 17), none, .mov (.tmp 16)⟩, ⟨(some 18), (some (17, true)), .fieldA 1 (.tmp 1)⟩, ⟨(some 19), (some (17, true)), .load false 1 (.tmp 18)⟩, ⟨(some 20), (some (17, true)), .bin .geq (.tmp 19) (.const (.int .i64 0))⟩, ⟨(some 21), none, .pick (.tmp 17) (.tmp 20) (.const (.bool false))⟩, ⟨(some 22), none, .mov (.tmp 21)⟩, ⟨(some 23), (some (22, true)), .fieldA 1 (.tmp 1)⟩, ⟨(some 24), (some (22, true)), .load false 1 (.tmp 23)⟩, ⟨(some 25), (some (22, true)), .bin .leq (.tmp 24) (.const (.int .i64 4095))⟩, ⟨(some 26), none, .pick (.tmp 22) (.tmp 25) (.const (.bool false))⟩, ⟨(some 2), none, .eff .set [.tmp 26]⟩])
 .ret))⟩
theorem x104_ok : yfunc Tryd.prog Tryd.f104 = some x104 := by kernel_rfl

/-- switchyard/prio.Port -/
def x107 : YF := ⟨27, [.tmp 2],
 (.seq (.ops [⟨(some 1), none, .box 41 (.tmp 0)⟩, ⟨(some 2), none, .eff .set [.const (.bool false)]⟩])
 (.seq (.ops [⟨(some 3), none, .fieldA 0 (.tmp 1)⟩, ⟨(some 4), none, .load false 1 (.tmp 3)⟩, ⟨(some 5), none, .bin .geq (.tmp 4) (.const (.int .i64 0))⟩, ⟨(some 6), none, .mov (.tmp 5)⟩, ⟨(some 7), (some (6, true)), .fieldA 0 (.tmp 1)⟩, ⟨(some 8), (some (6, true)), .load false 1 (.tmp 7)⟩, ⟨(some 9), (some (6, true)), .bin .leq (.tmp 8) (.const (.int .i64 240))⟩, ⟨(some 10), none, .pick (.tmp 6) (.tmp 9) (.const (.bool false))⟩, ⟨(some 11), none, .mov (.tmp 10)⟩, ⟨(some 12), (some (11, true)), .fieldA 0 (.tmp 1)⟩, ⟨(some 13), (some (11, true)), .load false 1 (.tmp 12)⟩, ⟨(some 14), (some (11, true)), .bin .rem (.tmp 13) (.const (.int .i64 16))⟩, ⟨(some 15), (some (11, true)), .bin .eql (.tmp 14) (.const (.int .i64 0))⟩, ⟨(some 16), none, .pick (.tmp 11) (.tmp 15) (.const (.bool false))⟩, ⟨(some 17), none, .mov (.tmp 16)⟩, ⟨(some 18), (some (17, true)), .fieldA 1 (.tmp 1)⟩, ⟨(some 19), (some (17, true)), .load false 1 (.tmp 18)⟩, ⟨(some 20), (some (17, true)), .bin .geq (.tmp 19) (.const (.int .i64 1))⟩, ⟨(some 21), none, .pick (.tmp 17) (.tmp 20) (.const (.bool false))⟩, ⟨(some 22), none, .mov (.tmp 21)⟩, ⟨(some 23), (some (22, true)), .fieldA 1 (.tmp 1)⟩, ⟨(some 24), (some (22, true)), .load false 1 (.tmp 23)⟩, ⟨(some 25), (some (22, true)), .bin .leq (.tmp 24) (.const (.int .i64 4095))⟩, ⟨(some 26), none, .pick (.tmp 22) (.tmp 25) (.const (.bool false))⟩, ⟨(some 2), none, .eff .set [.tmp 26]⟩])
 .ret))⟩
theorem x107_ok : yfunc Tryd.prog Tryd.f107 = some x107 := by kernel_rfl
end Go.Proofs.YtedfohdgigbhiaaDoor
