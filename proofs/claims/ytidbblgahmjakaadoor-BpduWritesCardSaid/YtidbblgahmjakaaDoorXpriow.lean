/- Functions of this seat with the type tables looked up; each checked by the kernel. Conditions: none. -/
import Derived.Test.YtidbblgahmjakaaDoorProg
import Derived.Test.YtidbblgahmjakaaDoorBaseC
namespace Go.Proofs.YtidbblgahmjakaaDoor
open Go.Sx
set_option maxRecDepth 100000
/-- switchyard/prio.Right -/
def x63 : YF := ⟨27, [.tmp 2],
 (.seq (.ops [⟨(some 1), none, .box 36 (.tmp 0)⟩, ⟨(some 2), none, .eff .set [.const (.bool false)]⟩])
 (.seq (.ops [⟨(some 3), none, .fieldA 0 (.tmp 1)⟩, ⟨(some 4), none, .load false 1 (.tmp 3)⟩, ⟨(some 5), none, .bin .geq (.tmp 4) (.const (.int .i64 0))⟩, ⟨(some 6), none, .mov (.tmp 5)⟩, ⟨(some 7), (some (6, true)), .fieldA 0 (.tmp 1)⟩, ⟨(some 8), (some (6, true)), .load false 1 (.tmp 7)⟩, ⟨(some 9), (some (6, true)), .bin .leq (.tmp 8) (.const (.int .i64 61440))⟩, ⟨(some 10), none, .pick (.tmp 6) (.tmp 9) (.const (.bool false))⟩, ⟨(some 11), none, .mov (.tmp 10)⟩, ⟨(some 12), (some (11, true)), .fieldA 0 (.tmp 1)⟩, ⟨(some 13), (some (11, true)), .load false 1 (.tmp 12)⟩, ⟨(some 14), (some (11, true)), .bin .rem (.tmp 13) (.const (.int .i64 4096))⟩, ⟨(some 15), (some (11, true)), .bin .eql (.tmp 14) (.const (.int .i64 0))⟩, ⟨(some 16), none, .pick (.tmp 11) (.tmp 15) (.const (.bool false))⟩, ⟨(some 17), none, .mov (.tmp 16)⟩, ⟨(some 18), (some (17, true)), .fieldA 1 (.tmp 1)⟩, ⟨(some 19), (some (17, true)), .load false 1 (.tmp 18)⟩, ⟨(some 20), (some (17, true)), .bin .geq (.tmp 19) (.const (.int .i64 0))⟩, ⟨(some 21), none, .pick (.tmp 17) (.tmp 20) (.const (.bool false))⟩, ⟨(some 22), none, .mov (.tmp 21)⟩, ⟨(some 23), (some (22, true)), .fieldA 1 (.tmp 1)⟩, ⟨(some 24), (some (22, true)), .load false 1 (.tmp 23)⟩, ⟨(some 25), (some (22, true)), .bin .leq (.tmp 24) (.const (.int .i64 4095))⟩, ⟨(some 26), none, .pick (.tmp 22) (.tmp 25) (.const (.bool false))⟩, ⟨(some 2), none, .eff .set [.tmp 26]⟩])
 .ret))⟩
theorem x63_ok : yfunc Tryd.prog Tryd.f63 = some x63 := by kernel_rfl

/-- switchyard/prio.Port -/
def x66 : YF := ⟨27, [.tmp 2],
 (.seq (.ops [⟨(some 1), none, .box 84 (.tmp 0)⟩, ⟨(some 2), none, .eff .set [.const (.bool false)]⟩])
 (.seq (.ops [⟨(some 3), none, .fieldA 0 (.tmp 1)⟩, ⟨(some 4), none, .load false 1 (.tmp 3)⟩, ⟨(some 5), none, .bin .geq (.tmp 4) (.const (.int .i64 0))⟩, ⟨(some 6), none, .mov (.tmp 5)⟩, ⟨(some 7), (some (6, true)), .fieldA 0 (.tmp 1)⟩, ⟨(some 8), (some (6, true)), .load false 1 (.tmp 7)⟩, ⟨(some 9), (some (6, true)), .bin .leq (.tmp 8) (.const (.int .i64 240))⟩, ⟨(some 10), none, .pick (.tmp 6) (.tmp 9) (.const (.bool false))⟩, ⟨(some 11), none, .mov (.tmp 10)⟩, ⟨(some 12), (some (11, true)), .fieldA 0 (.tmp 1)⟩, ⟨(some 13), (some (11, true)), .load false 1 (.tmp 12)⟩, ⟨(some 14), (some (11, true)), .bin .rem (.tmp 13) (.const (.int .i64 16))⟩, ⟨(some 15), (some (11, true)), .bin .eql (.tmp 14) (.const (.int .i64 0))⟩, ⟨(some 16), none, .pick (.tmp 11) (.tmp 15) (.const (.bool false))⟩, ⟨(some 17), none, .mov (.tmp 16)⟩, ⟨(some 18), (some (17, true)), .fieldA 1 (.tmp 1)⟩, ⟨(some 19), (some (17, true)), .load false 1 (.tmp 18)⟩, ⟨(some 20), (some (17, true)), .bin .geq (.tmp 19) (.const (.int .i64 1))⟩, ⟨(some 21), none, .pick (.tmp 17) (.tmp 20) (.const (.bool false))⟩, ⟨(some 22), none, .mov (.tmp 21)⟩, ⟨(some 23), (some (22, true)), .fieldA 1 (.tmp 1)⟩, ⟨(some 24), (some (22, true)), .load false 1 (.tmp 23)⟩, ⟨(some 25), (some (22, true)), .bin .leq (.tmp 24) (.const (.int .i64 4095))⟩, ⟨(some 26), none, .pick (.tmp 22) (.tmp 25) (.const (.bool false))⟩, ⟨(some 2), none, .eff .set [.tmp 26]⟩])
 .ret))⟩
theorem x66_ok : yfunc Tryd.prog Tryd.f66 = some x66 := by kernel_rfl

/-- switchyard/switchyardref.BridgeRight -/
def x69 : YF := ⟨17, [.tmp 2],
 (.seq (.ops [⟨(some 1), none, .box 36 (.tmp 0)⟩, ⟨(some 2), none, .eff .set [.const (.bool false)]⟩])
 (.seq (.ops [⟨(some 3), none, .fieldA 0 (.tmp 1)⟩, ⟨(some 4), none, .load false 1 (.tmp 3)⟩, ⟨(some 5), none, .call 71 [.tmp 4, .const (.int .i64 0), .const (.int .i64 61440)]⟩, ⟨(some 6), none, .mov (.tmp 5)⟩, ⟨(some 7), (some (6, true)), .fieldA 0 (.tmp 1)⟩, ⟨(some 8), (some (6, true)), .load false 1 (.tmp 7)⟩, ⟨(some 9), (some (6, true)), .bin .rem (.tmp 8) (.const (.int .i64 4096))⟩, ⟨(some 10), (some (6, true)), .bin .eql (.tmp 9) (.const (.int .i64 0))⟩, ⟨(some 11), none, .pick (.tmp 6) (.tmp 10) (.const (.bool false))⟩, ⟨(some 12), none, .mov (.tmp 11)⟩, ⟨(some 13), (some (12, true)), .fieldA 1 (.tmp 1)⟩, ⟨(some 14), (some (12, true)), .load false 1 (.tmp 13)⟩, ⟨(some 15), (some (12, true)), .call 71 [.tmp 14, .const (.int .i64 0), .const (.int .i64 4095)]⟩, ⟨(some 16), none, .pick (.tmp 12) (.tmp 15) (.const (.bool false))⟩, ⟨(some 2), none, .eff .set [.tmp 16]⟩])
 .ret))⟩
theorem x69_ok : yfunc Tryd.prog Tryd.f69 = some x69 := by kernel_rfl

/-- switchyard/switchyardref.PortRight -/
def x70 : YF := ⟨17, [.tmp 2],
 (.seq (.ops [⟨(some 1), none, .box 84 (.tmp 0)⟩, ⟨(some 2), none, .eff .set [.const (.bool false)]⟩])
 (.seq (.ops [⟨(some 3), none, .fieldA 0 (.tmp 1)⟩, ⟨(some 4), none, .load false 1 (.tmp 3)⟩, ⟨(some 5), none, .call 71 [.tmp 4, .const (.int .i64 0), .const (.int .i64 240)]⟩, ⟨(some 6), none, .mov (.tmp 5)⟩, ⟨(some 7), (some (6, true)), .fieldA 0 (.tmp 1)⟩, ⟨(some 8), (some (6, true)), .load false 1 (.tmp 7)⟩, ⟨(some 9), (some (6, true)), .bin .rem (.tmp 8) (.const (.int .i64 16))⟩, ⟨(some 10), (some (6, true)), .bin .eql (.tmp 9) (.const (.int .i64 0))⟩, ⟨(some 11), none, .pick (.tmp 6) (.tmp 10) (.const (.bool false))⟩, ⟨(some 12), none, .mov (.tmp 11)⟩, ⟨(some 13), (some (12, true)), .fieldA 1 (.tmp 1)⟩, ⟨(some 14), (some (12, true)), .load false 1 (.tmp 13)⟩, ⟨(some 15), (some (12, true)), .call 71 [.tmp 14, .const (.int .i64 1), .const (.int .i64 4095)]⟩, ⟨(some 16), none, .pick (.tmp 12) (.tmp 15) (.const (.bool false))⟩, ⟨(some 2), none, .eff .set [.tmp 16]⟩])
 .ret))⟩
theorem x70_ok : yfunc Tryd.prog Tryd.f70 = some x70 := by kernel_rfl

/-- switchyard/switchyardref.BridgePack -/
def x153 : YF := ⟨17, [.tmp 2, .tmp 3],
 (.seq (.ops [⟨(some 1), none, .box 36 (.tmp 0)⟩, ⟨(some 2), none, .eff .set [.const (.string ⟨#[]⟩)]⟩, ⟨(some 3), none, .eff .set [.const (.int .i64 0)]⟩])
 (.seq (.seq (.ops [⟨(some 4), none, .load true 8 (.tmp 1)⟩, ⟨(some 5), none, .call 69 [.tmp 4]⟩, ⟨(some 6), none, .un .not (.tmp 5)⟩])
 (.cond (.tmp 6) (.seq (.ops [⟨(some 2), none, .eff .set [.const (.string ⟨#[]⟩)]⟩, ⟨(some 3), none, .eff .set [.const (.int .i64 1)]⟩])
 .ret) .skip))
 (.seq (.draw [7, 8, 9, 10, 11, 13, 14, 15, 12, 16, 2, 3] [⟨0, [], ⟨(some 7), none, .fieldA 0 (.tmp 1)⟩⟩, ⟨1, [0], ⟨(some 8), none, .load false 1 (.tmp 7)⟩⟩, ⟨2, [], ⟨(some 9), none, .fieldA 1 (.tmp 1)⟩⟩, ⟨3, [2], ⟨(some 10), none, .load false 1 (.tmp 9)⟩⟩, ⟨4, [1, 0, 3, 2], ⟨(some 11), none, .bin .add (.tmp 8) (.tmp 10)⟩⟩, ⟨6, [], ⟨(some 13), none, .fieldA 2 (.tmp 1)⟩⟩, ⟨7, [6], ⟨(some 14), none, .more (.slcA 6 1 false false) [.tmp 13]⟩⟩, ⟨8, [7, 6], ⟨(some 15), none, .more .b2s [.tmp 14]⟩⟩, ⟨5, [4, 1, 0, 3, 2], ⟨(some 12), none, .call 111 [.tmp 11, .const (.int .i64 2)]⟩⟩, ⟨9, [5, 4, 1, 0, 3, 2, 8, 7, 6], ⟨(some 16), none, .bin .add (.tmp 12) (.tmp 15)⟩⟩, ⟨10, [9, 5, 4, 1, 0, 3, 2, 8, 7, 6], ⟨(some 2), none, .eff .set [.tmp 16]⟩⟩, ⟨11, [10, 9, 5, 4, 1, 0, 3, 2, 8, 7, 6], ⟨(some 3), none, .eff .set [.const (.int .i64 0)]⟩⟩])
 .ret)))⟩
theorem x153_ok : yfunc Tryd.prog Tryd.f153 = some x153 := by kernel_rfl

/-- switchyard/switchyardref.PortPack -/
def x154 : YF := ⟨14, [.tmp 2, .tmp 3],
 (.seq (.ops [⟨(some 1), none, .box 84 (.tmp 0)⟩, ⟨(some 2), none, .eff .set [.const (.string ⟨#[]⟩)]⟩, ⟨(some 3), none, .eff .set [.const (.int .i64 0)]⟩])
 (.seq (.seq (.ops [⟨(some 4), none, .load true 2 (.tmp 1)⟩, ⟨(some 5), none, .call 70 [.tmp 4]⟩, ⟨(some 6), none, .un .not (.tmp 5)⟩])
 (.cond (.tmp 6) (.seq (.ops [⟨(some 2), none, .eff .set [.const (.string ⟨#[]⟩)]⟩, ⟨(some 3), none, .eff .set [.const (.int .i64 1)]⟩])
 .ret) .skip))
 (.seq (.ops [⟨(some 7), none, .fieldA 0 (.tmp 1)⟩, ⟨(some 8), none, .load false 1 (.tmp 7)⟩, ⟨(some 9), none, .bin .mul (.tmp 8) (.const (.int .i64 256))⟩, ⟨(some 10), none, .fieldA 1 (.tmp 1)⟩, ⟨(some 11), none, .load false 1 (.tmp 10)⟩, ⟨(some 12), none, .bin .add (.tmp 9) (.tmp 11)⟩, ⟨(some 13), none, .call 111 [.tmp 12, .const (.int .i64 2)]⟩, ⟨(some 2), none, .eff .set [.tmp 13]⟩, ⟨(some 3), none, .eff .set [.const (.int .i64 0)]⟩])
 .ret)))⟩
theorem x154_ok : yfunc Tryd.prog Tryd.f154 = some x154 := by kernel_rfl

/-- switchyard/prio.Pack -/
def x156 : YF := ⟨18, [.tmp 2, .tmp 3],
 (.seq (.ops [⟨(some 1), none, .box 36 (.tmp 0)⟩, ⟨(some 2), none, .eff .set [.const (.string ⟨#[]⟩)]⟩, ⟨(some 3), none, .eff .set [.const (.nilIface)]⟩])
 (.seq (.seq (.ops [⟨(some 4), none, .load true 8 (.tmp 1)⟩, ⟨(some 5), none, .call 63 [.tmp 4]⟩, ⟨(some 6), none, .un .not (.tmp 5)⟩])
 (.cond (.tmp 6) (.seq (.ops [⟨(some 7), none, .mkI 40 (.const (.int .i64 1))⟩, ⟨(some 2), none, .eff .set [.const (.string ⟨#[]⟩)]⟩, ⟨(some 3), none, .eff .set [.tmp 7]⟩])
 .ret) .skip))
 (.seq (.draw [8, 9, 10, 11, 12, 14, 15, 16, 13, 17, 2, 3] [⟨0, [], ⟨(some 8), none, .fieldA 0 (.tmp 1)⟩⟩, ⟨1, [0], ⟨(some 9), none, .load false 1 (.tmp 8)⟩⟩, ⟨2, [], ⟨(some 10), none, .fieldA 1 (.tmp 1)⟩⟩, ⟨3, [2], ⟨(some 11), none, .load false 1 (.tmp 10)⟩⟩, ⟨4, [1, 0, 3, 2], ⟨(some 12), none, .bin .or (.tmp 9) (.tmp 11)⟩⟩, ⟨6, [], ⟨(some 14), none, .fieldA 2 (.tmp 1)⟩⟩, ⟨7, [6], ⟨(some 15), none, .more (.slcA 6 1 false false) [.tmp 14]⟩⟩, ⟨8, [7, 6], ⟨(some 16), none, .more .b2s [.tmp 15]⟩⟩, ⟨5, [4, 1, 0, 3, 2], ⟨(some 13), none, .call 113 [.tmp 12, .const (.int .i64 2)]⟩⟩, ⟨9, [5, 4, 1, 0, 3, 2, 8, 7, 6], ⟨(some 17), none, .bin .add (.tmp 13) (.tmp 16)⟩⟩, ⟨10, [9, 5, 4, 1, 0, 3, 2, 8, 7, 6], ⟨(some 2), none, .eff .set [.tmp 17]⟩⟩, ⟨11, [10, 9, 5, 4, 1, 0, 3, 2, 8, 7, 6], ⟨(some 3), none, .eff .set [.const (.nilIface)]⟩⟩])
 .ret)))⟩
theorem x156_ok : yfunc Tryd.prog Tryd.f156 = some x156 := by kernel_rfl

/-- switchyard/prio.PackPort -/
def x157 : YF := ⟨15, [.tmp 2, .tmp 3],
 (.seq (.ops [⟨(some 1), none, .box 84 (.tmp 0)⟩, ⟨(some 2), none, .eff .set [.const (.string ⟨#[]⟩)]⟩, ⟨(some 3), none, .eff .set [.const (.nilIface)]⟩])
 (.seq (.seq (.ops [⟨(some 4), none, .load true 2 (.tmp 1)⟩, ⟨(some 5), none, .call 66 [.tmp 4]⟩, ⟨(some 6), none, .un .not (.tmp 5)⟩])
 (.cond (.tmp 6) (.seq (.ops [⟨(some 7), none, .mkI 40 (.const (.int .i64 1))⟩, ⟨(some 2), none, .eff .set [.const (.string ⟨#[]⟩)]⟩, ⟨(some 3), none, .eff .set [.tmp 7]⟩])
 .ret) .skip))
 (.seq (.ops [⟨(some 8), none, .fieldA 0 (.tmp 1)⟩, ⟨(some 9), none, .load false 1 (.tmp 8)⟩, ⟨(some 10), none, .bin .shl (.tmp 9) (.const (.int .u64 8))⟩, ⟨(some 11), none, .fieldA 1 (.tmp 1)⟩, ⟨(some 12), none, .load false 1 (.tmp 11)⟩, ⟨(some 13), none, .bin .or (.tmp 10) (.tmp 12)⟩, ⟨(some 14), none, .call 113 [.tmp 13, .const (.int .i64 2)]⟩, ⟨(some 2), none, .eff .set [.tmp 14]⟩, ⟨(some 3), none, .eff .set [.const (.nilIface)]⟩])
 .ret)))⟩
theorem x157_ok : yfunc Tryd.prog Tryd.f157 = some x157 := by kernel_rfl
end Go.Proofs.YtidbblgahmjakaaDoor
