/- Functions of this seat with the type tables looked up; each checked by the kernel. Conditions: none. -/
import Derived.Test.YtfagdcpfebghoaaDoorProg
import Derived.Test.YtfagdcpfebghoaaDoorTy21
namespace Go.Proofs.YtfagdcpfebghoaaDoor
open Go.Sx
set_option maxRecDepth 100000
/-- switchyard/switchyardlaw.PrioPacks -/
def x6 : YF := ⟨65, [.tmp 4],
 (.seq (.ops [⟨(some 2), none, .box 58 (.tmp 0)⟩, ⟨(some 3), none, .box 60 (.tmp 1)⟩, ⟨(some 4), none, .eff .set [.const (.bool false)]⟩])
 (.seq (.ops [⟨(some 14), none, .load true 8 (.tmp 2)⟩, ⟨(some 15), none, .call 31 [.tmp 14]⟩, ⟨(some 13), none, .mov (.tmp 15)⟩, ⟨(some 16), none, .ext (.tmp 13) 0⟩, ⟨(some 17), none, .ext (.tmp 13) 1⟩, ⟨(some 5), none, .eff .set [.tmp 16]⟩, ⟨(some 6), none, .eff .set [.tmp 17]⟩])
 (.seq (.ops [⟨(some 19), none, .load true 8 (.tmp 2)⟩, ⟨(some 20), none, .call 32 [.tmp 19]⟩, ⟨(some 18), none, .mov (.tmp 20)⟩, ⟨(some 21), none, .ext (.tmp 18) 0⟩, ⟨(some 22), none, .ext (.tmp 18) 1⟩, ⟨(some 7), none, .eff .set [.tmp 21]⟩, ⟨(some 8), none, .eff .set [.tmp 22]⟩])
 (.seq (.ops [⟨(some 24), none, .load true 2 (.tmp 3)⟩, ⟨(some 25), none, .call 33 [.tmp 24]⟩, ⟨(some 23), none, .mov (.tmp 25)⟩, ⟨(some 26), none, .ext (.tmp 23) 0⟩, ⟨(some 27), none, .ext (.tmp 23) 1⟩, ⟨(some 9), none, .eff .set [.tmp 26]⟩, ⟨(some 10), none, .eff .set [.tmp 27]⟩])
 (.seq (.ops [⟨(some 29), none, .load true 2 (.tmp 3)⟩, ⟨(some 30), none, .call 34 [.tmp 29]⟩, ⟨(some 28), none, .mov (.tmp 30)⟩, ⟨(some 31), none, .ext (.tmp 28) 0⟩, ⟨(some 32), none, .ext (.tmp 28) 1⟩, ⟨(some 11), none, .eff .set [.tmp 31]⟩, ⟨(some 12), none, .eff .set [.tmp 32]⟩])
 (.seq (.draw [33, 34, 35, 36, 37, 38, 39, 40, 41, 42, 43, 44, 45, 46, 47, 48, 49, 50, 51, 52, 54, 53, 55, 56, 57, 58, 59, 61, 60, 62, 63, 64, 4] [⟨0, [], ⟨(some 33), none, .mov (.tmp 8)⟩⟩, ⟨1, [], ⟨(some 34), none, .mov (.tmp 6)⟩⟩, ⟨2, [0, 1], ⟨(some 35), none, .call 18 [.tmp 33, .tmp 34]⟩⟩, ⟨3, [2, 0, 1], ⟨(some 36), none, .mov (.tmp 35)⟩⟩, ⟨4, [3, 2, 0, 1], ⟨(some 37), (some (36, true)), .mov (.tmp 5)⟩⟩, ⟨5, [3, 2, 0, 1], ⟨(some 38), (some (36, true)), .mov (.tmp 7)⟩⟩, ⟨6, [4, 5, 3, 2, 0, 1], ⟨(some 39), (some (36, true)), .bin .eql (.tmp 37) (.tmp 38)⟩⟩, ⟨7, [6, 4, 5, 3, 2, 0, 1], ⟨(some 40), none, .pick (.tmp 36) (.tmp 39) (.const (.bool false))⟩⟩, ⟨8, [7, 6, 4, 5, 3, 2, 0, 1], ⟨(some 41), none, .mov (.tmp 40)⟩⟩, ⟨9, [8, 7, 6, 4, 5, 3, 2, 0, 1], ⟨(some 42), (some (41, true)), .mov (.tmp 12)⟩⟩, ⟨10, [8, 7, 6, 4, 5, 3, 2, 0, 1], ⟨(some 43), (some (41, true)), .mov (.tmp 10)⟩⟩, ⟨11, [9, 10, 8, 7, 6, 4, 5, 3, 2, 0, 1], ⟨(some 44), (some (41, true)), .call 18 [.tmp 42, .tmp 43]⟩⟩, ⟨12, [11, 9, 10, 8, 7, 6, 4, 5, 3, 2, 0, 1], ⟨(some 45), none, .pick (.tmp 41) (.tmp 44) (.const (.bool false))⟩⟩, ⟨13, [12, 11, 9, 10, 8, 7, 6, 4, 5, 3, 2, 0, 1], ⟨(some 46), none, .mov (.tmp 45)⟩⟩, ⟨14, [13, 12, 11, 9, 10, 8, 7, 6, 4, 5, 3, 2, 0, 1], ⟨(some 47), (some (46, true)), .mov (.tmp 9)⟩⟩, ⟨15, [13, 12, 11, 9, 10, 8, 7, 6, 4, 5, 3, 2, 0, 1], ⟨(some 48), (some (46, true)), .mov (.tmp 11)⟩⟩, ⟨16, [14, 15, 13, 12, 11, 9, 10, 8, 7, 6, 4, 5, 3, 2, 0, 1], ⟨(some 49), (some (46, true)), .bin .eql (.tmp 47) (.tmp 48)⟩⟩, ⟨17, [16, 14, 15, 13, 12, 11, 9, 10, 8, 7, 6, 4, 5, 3, 2, 0, 1], ⟨(some 50), none, .pick (.tmp 46) (.tmp 49) (.const (.bool false))⟩⟩, ⟨18, [17, 16, 14, 15, 13, 12, 11, 9, 10, 8, 7, 6, 4, 5, 3, 2, 0, 1], ⟨(some 51), none, .mov (.tmp 50)⟩⟩, ⟨19, [18, 17, 16, 14, 15, 13, 12, 11, 9, 10, 8, 7, 6, 4, 5, 3, 2, 0, 1], ⟨(some 52), (some (51, true)), .load true 8 (.tmp 2)⟩⟩, ⟨21, [18, 17, 16, 14, 15, 13, 12, 11, 9, 10, 8, 7, 6, 4, 5, 3, 2, 0, 1], ⟨(some 54), (some (51, true)), .load true 8 (.tmp 2)⟩⟩, ⟨20, [19, 18, 17, 16, 14, 15, 13, 12, 11, 9, 10, 8, 7, 6, 4, 5, 3, 2, 0, 1], ⟨(some 53), (some (51, true)), .call 35 [.tmp 52]⟩⟩, ⟨22, [21, 20, 19, 18, 17, 16, 14, 15, 13, 12, 11, 9, 10, 8, 7, 6, 4, 5, 3, 2, 0, 1], ⟨(some 55), (some (51, true)), .call 36 [.tmp 54]⟩⟩, ⟨23, [22, 21, 20, 19, 18, 17, 16, 14, 15, 13, 12, 11, 9, 10, 8, 7, 6, 4, 5, 3, 2, 0, 1], ⟨(some 56), (some (51, true)), .eqB false (.tmp 53) (.tmp 55)⟩⟩, ⟨24, [23, 22, 21, 20, 19, 18, 17, 16, 14, 15, 13, 12, 11, 9, 10, 8, 7, 6, 4, 5, 3, 2, 0, 1], ⟨(some 57), none, .pick (.tmp 51) (.tmp 56) (.const (.bool false))⟩⟩, ⟨25, [24, 23, 22, 21, 20, 19, 18, 17, 16, 14, 15, 13, 12, 11, 9, 10, 8, 7, 6, 4, 5, 3, 2, 0, 1], ⟨(some 58), none, .mov (.tmp 57)⟩⟩, ⟨26, [25, 24, 23, 22, 21, 20, 19, 18, 17, 16, 14, 15, 13, 12, 11, 9, 10, 8, 7, 6, 4, 5, 3, 2, 0, 1], ⟨(some 59), (some (58, true)), .load true 2 (.tmp 3)⟩⟩, ⟨28, [25, 24, 23, 22, 21, 20, 19, 18, 17, 16, 14, 15, 13, 12, 11, 9, 10, 8, 7, 6, 4, 5, 3, 2, 0, 1], ⟨(some 61), (some (58, true)), .load true 2 (.tmp 3)⟩⟩, ⟨27, [26, 25, 24, 23, 22, 21, 20, 19, 18, 17, 16, 14, 15, 13, 12, 11, 9, 10, 8, 7, 6, 4, 5, 3, 2, 0, 1], ⟨(some 60), (some (58, true)), .call 37 [.tmp 59]⟩⟩, ⟨29, [28, 27, 26, 25, 24, 23, 22, 21, 20, 19, 18, 17, 16, 14, 15, 13, 12, 11, 9, 10, 8, 7, 6, 4, 5, 3, 2, 0, 1], ⟨(some 62), (some (58, true)), .call 38 [.tmp 61]⟩⟩, ⟨30, [29, 28, 27, 26, 25, 24, 23, 22, 21, 20, 19, 18, 17, 16, 14, 15, 13, 12, 11, 9, 10, 8, 7, 6, 4, 5, 3, 2, 0, 1], ⟨(some 63), (some (58, true)), .eqB false (.tmp 60) (.tmp 62)⟩⟩, ⟨31, [30, 29, 28, 27, 26, 25, 24, 23, 22, 21, 20, 19, 18, 17, 16, 14, 15, 13, 12, 11, 9, 10, 8, 7, 6, 4, 5, 3, 2, 0, 1], ⟨(some 64), none, .pick (.tmp 58) (.tmp 63) (.const (.bool false))⟩⟩, ⟨32, [31, 30, 29, 28, 27, 26, 25, 24, 23, 22, 21, 20, 19, 18, 17, 16, 14, 15, 13, 12, 11, 9, 10, 8, 7, 6, 4, 5, 3, 2, 0, 1], ⟨(some 4), none, .eff .set [.tmp 64]⟩⟩])
 .ret))))))⟩
theorem x6_ok : yfunc Tryd.prog Tryd.f6 = some x6 := by kernel_rfl

/-- switchyard/switchyardref.BridgePack -/
def x31 : YF := ⟨17, [.tmp 2, .tmp 3],
 (.seq (.ops [⟨(some 1), none, .box 58 (.tmp 0)⟩, ⟨(some 2), none, .eff .set [.const (.string ⟨#[]⟩)]⟩, ⟨(some 3), none, .eff .set [.const (.int .i64 0)]⟩])
 (.seq (.seq (.ops [⟨(some 4), none, .load true 8 (.tmp 1)⟩, ⟨(some 5), none, .call 36 [.tmp 4]⟩, ⟨(some 6), none, .un .not (.tmp 5)⟩])
 (.cond (.tmp 6) (.seq (.ops [⟨(some 2), none, .eff .set [.const (.string ⟨#[]⟩)]⟩, ⟨(some 3), none, .eff .set [.const (.int .i64 1)]⟩])
 .ret) .skip))
 (.seq (.draw [7, 8, 9, 10, 11, 13, 14, 15, 12, 16, 2, 3] [⟨0, [], ⟨(some 7), none, .fieldA 0 (.tmp 1)⟩⟩, ⟨1, [0], ⟨(some 8), none, .load false 1 (.tmp 7)⟩⟩, ⟨2, [], ⟨(some 9), none, .fieldA 1 (.tmp 1)⟩⟩, ⟨3, [2], ⟨(some 10), none, .load false 1 (.tmp 9)⟩⟩, ⟨4, [1, 0, 3, 2], ⟨(some 11), none, .bin .add (.tmp 8) (.tmp 10)⟩⟩, ⟨6, [], ⟨(some 13), none, .fieldA 2 (.tmp 1)⟩⟩, ⟨7, [6], ⟨(some 14), none, .more (.slcA 6 1 false false) [.tmp 13]⟩⟩, ⟨8, [7, 6], ⟨(some 15), none, .more .b2s [.tmp 14]⟩⟩, ⟨5, [4, 1, 0, 3, 2], ⟨(some 12), none, .call 68 [.tmp 11, .const (.int .i64 2)]⟩⟩, ⟨9, [5, 4, 1, 0, 3, 2, 8, 7, 6], ⟨(some 16), none, .bin .add (.tmp 12) (.tmp 15)⟩⟩, ⟨10, [9, 5, 4, 1, 0, 3, 2, 8, 7, 6], ⟨(some 2), none, .eff .set [.tmp 16]⟩⟩, ⟨11, [10, 9, 5, 4, 1, 0, 3, 2, 8, 7, 6], ⟨(some 3), none, .eff .set [.const (.int .i64 0)]⟩⟩])
 .ret)))⟩
theorem x31_ok : yfunc Tryd.prog Tryd.f31 = some x31 := by kernel_rfl

/-- switchyard/prio.Pack -/
def x32 : YF := ⟨18, [.tmp 2, .tmp 3],
 (.seq (.ops [⟨(some 1), none, .box 58 (.tmp 0)⟩, ⟨(some 2), none, .eff .set [.const (.string ⟨#[]⟩)]⟩, ⟨(some 3), none, .eff .set [.const (.nilIface)]⟩])
 (.seq (.seq (.ops [⟨(some 4), none, .load true 8 (.tmp 1)⟩, ⟨(some 5), none, .call 35 [.tmp 4]⟩, ⟨(some 6), none, .un .not (.tmp 5)⟩])
 (.cond (.tmp 6) (.seq (.ops [⟨(some 7), none, .mkI 24 (.const (.int .i64 1))⟩, ⟨(some 2), none, .eff .set [.const (.string ⟨#[]⟩)]⟩, ⟨(some 3), none, .eff .set [.tmp 7]⟩])
 .ret) .skip))
 (.seq (.draw [8, 9, 10, 11, 12, 14, 15, 16, 13, 17, 2, 3] [⟨0, [], ⟨(some 8), none, .fieldA 0 (.tmp 1)⟩⟩, ⟨1, [0], ⟨(some 9), none, .load false 1 (.tmp 8)⟩⟩, ⟨2, [], ⟨(some 10), none, .fieldA 1 (.tmp 1)⟩⟩, ⟨3, [2], ⟨(some 11), none, .load false 1 (.tmp 10)⟩⟩, ⟨4, [1, 0, 3, 2], ⟨(some 12), none, .bin .or (.tmp 9) (.tmp 11)⟩⟩, ⟨6, [], ⟨(some 14), none, .fieldA 2 (.tmp 1)⟩⟩, ⟨7, [6], ⟨(some 15), none, .more (.slcA 6 1 false false) [.tmp 14]⟩⟩, ⟨8, [7, 6], ⟨(some 16), none, .more .b2s [.tmp 15]⟩⟩, ⟨5, [4, 1, 0, 3, 2], ⟨(some 13), none, .call 67 [.tmp 12, .const (.int .i64 2)]⟩⟩, ⟨9, [5, 4, 1, 0, 3, 2, 8, 7, 6], ⟨(some 17), none, .bin .add (.tmp 13) (.tmp 16)⟩⟩, ⟨10, [9, 5, 4, 1, 0, 3, 2, 8, 7, 6], ⟨(some 2), none, .eff .set [.tmp 17]⟩⟩, ⟨11, [10, 9, 5, 4, 1, 0, 3, 2, 8, 7, 6], ⟨(some 3), none, .eff .set [.const (.nilIface)]⟩⟩])
 .ret)))⟩
theorem x32_ok : yfunc Tryd.prog Tryd.f32 = some x32 := by kernel_rfl

/-- switchyard/switchyardref.PortPack -/
def x33 : YF := ⟨14, [.tmp 2, .tmp 3],
 (.seq (.ops [⟨(some 1), none, .box 60 (.tmp 0)⟩, ⟨(some 2), none, .eff .set [.const (.string ⟨#[]⟩)]⟩, ⟨(some 3), none, .eff .set [.const (.int .i64 0)]⟩])
 (.seq (.seq (.ops [⟨(some 4), none, .load true 2 (.tmp 1)⟩, ⟨(some 5), none, .call 38 [.tmp 4]⟩, ⟨(some 6), none, .un .not (.tmp 5)⟩])
 (.cond (.tmp 6) (.seq (.ops [⟨(some 2), none, .eff .set [.const (.string ⟨#[]⟩)]⟩, ⟨(some 3), none, .eff .set [.const (.int .i64 1)]⟩])
 .ret) .skip))
 (.seq (.ops [⟨(some 7), none, .fieldA 0 (.tmp 1)⟩, ⟨(some 8), none, .load false 1 (.tmp 7)⟩, ⟨(some 9), none, .bin .mul (.tmp 8) (.const (.int .i64 256))⟩, ⟨(some 10), none, .fieldA 1 (.tmp 1)⟩, ⟨(some 11), none, .load false 1 (.tmp 10)⟩, ⟨(some 12), none, .bin .add (.tmp 9) (.tmp 11)⟩, ⟨(some 13), none, .call 68 [.tmp 12, .const (.int .i64 2)]⟩, ⟨(some 2), none, .eff .set [.tmp 13]⟩, ⟨(some 3), none, .eff .set [.const (.int .i64 0)]⟩])
 .ret)))⟩
theorem x33_ok : yfunc Tryd.prog Tryd.f33 = some x33 := by kernel_rfl

/-- switchyard/prio.PackPort -/
def x34 : YF := ⟨15, [.tmp 2, .tmp 3],
 (.seq (.ops [⟨(some 1), none, .box 60 (.tmp 0)⟩, ⟨(some 2), none, .eff .set [.const (.string ⟨#[]⟩)]⟩, ⟨(some 3), none, .eff .set [.const (.nilIface)]⟩])
 (.seq (.seq (.ops [⟨(some 4), none, .load true 2 (.tmp 1)⟩, ⟨(some 5), none, .call 37 [.tmp 4]⟩, ⟨(some 6), none, .un .not (.tmp 5)⟩])
 (.cond (.tmp 6) (.seq (.ops [⟨(some 7), none, .mkI 24 (.const (.int .i64 1))⟩, ⟨(some 2), none, .eff .set [.const (.string ⟨#[]⟩)]⟩, ⟨(some 3), none, .eff .set [.tmp 7]⟩])
 .ret) .skip))
 (.seq (.ops [⟨(some 8), none, .fieldA 0 (.tmp 1)⟩, ⟨(some 9), none, .load false 1 (.tmp 8)⟩, ⟨(some 10), none, .bin .shl (.tmp 9) (.const (.int .u64 8))⟩, ⟨(some 11), none, .fieldA 1 (.tmp 1)⟩, ⟨(some 12), none, .load false 1 (.tmp 11)⟩, ⟨(some 13), none, .bin .or (.tmp 10) (.tmp 12)⟩, ⟨(some 14), none, .call 67 [.tmp 13, .const (.int .i64 2)]⟩, ⟨(some 2), none, .eff .set [.tmp 14]⟩, ⟨(some 3), none, .eff .set [.const (.nilIface)]⟩])
 .ret)))⟩
theorem x34_ok : yfunc Tryd.prog Tryd.f34 = some x34 := by kernel_rfl

/-- switchyard/prio.Right -/
def x35 : YF := ⟨27, [.tmp 2],
 (.seq (.ops [⟨(some 1), none, .box 58 (.tmp 0)⟩, ⟨(some 2), none, .eff .set [.const (.bool false)]⟩])
 (.seq (.ops [⟨(some 3), none, .fieldA 0 (.tmp 1)⟩, ⟨(some 4), none, .load false 1 (.tmp 3)⟩, ⟨(some 5), none, .bin .geq (.tmp 4) (.const (.int .i64 0))⟩, ⟨(some 6), none, .mov (.tmp 5)⟩, ⟨(some 7), (some (6, true)), .fieldA 0 (.tmp 1)⟩, ⟨(some 8), (some (6, true)), .load false 1 (.tmp 7)⟩, ⟨(some 9), (some (6, true)), .bin .leq (.tmp 8) (.const (.int .i64 61440))⟩, ⟨(some 10), none, .pick (.tmp 6) (.tmp 9) (.const (.bool false))⟩, ⟨(some 11), none, .mov (.tmp 10)⟩, ⟨(some 12), (some (11, true)), .fieldA 0 (.tmp 1)⟩, ⟨(some 13), (some (11, true)), .load false 1 (.tmp 12)⟩, ⟨(some 14), (some (11, true)), .bin .rem (.tmp 13) (.const (.int .i64 4096))⟩, ⟨(some 15), (some (11, true)), .bin .eql (.tmp 14) (.const (.int .i64 0))⟩, ⟨(some 16), none, .pick (.tmp 11) (.tmp 15) (.const (.bool false))⟩, ⟨(some 17), none, .mov (.tmp 16)⟩, ⟨(some 18), (some (17, true)), .fieldA 1 (.tmp 1)⟩, ⟨(some 19), (some (17, true)), .load false 1 (.tmp 18)⟩, ⟨(some 20), (some (17, true)), .bin .geq (.tmp 19) (.const (.int .i64 0))⟩, ⟨(some 21), none, .pick (.tmp 17) (.tmp 20) (.const (.bool false))⟩, ⟨(some 22), none, .mov (.tmp 21)⟩, ⟨(some 23), (some (22, true)), .fieldA 1 (.tmp 1)⟩, ⟨(some 24), (some (22, true)), .load false 1 (.tmp 23)⟩, ⟨(some 25), (some (22, true)), .bin .leq (.tmp 24) (.const (.int .i64 4095))⟩, ⟨(some 26), none, .pick (.tmp 22) (.tmp 25) (.const (.bool false))⟩, ⟨(some 2), none, .eff .set [.tmp 26]⟩])
 .ret))⟩
theorem x35_ok : yfunc Tryd.prog Tryd.f35 = some x35 := by kernel_rfl

/-- switchyard/switchyardref.BridgeRight -/
def x36 : YF := ⟨17, [.tmp 2],
 (.seq (.ops [⟨(some 1), none, .box 58 (.tmp 0)⟩, ⟨(some 2), none, .eff .set [.const (.bool false)]⟩])
 (.seq (.ops [⟨(some 3), none, .fieldA 0 (.tmp 1)⟩, ⟨(some 4), none, .load false 1 (.tmp 3)⟩, ⟨(some 5), none, .call 65 [.tmp 4, .const (.int .i64 0), .const (.int .i64 61440)]⟩, ⟨(some 6), none, .mov (.tmp 5)⟩, ⟨(some 7), (some (6, true)), .fieldA 0 (.tmp 1)⟩, ⟨(some 8), (some (6, true)), .load false 1 (.tmp 7)⟩, ⟨(some 9), (some (6, true)), .bin .rem (.tmp 8) (.const (.int .i64 4096))⟩, ⟨(some 10), (some (6, true)), .bin .eql (.tmp 9) (.const (.int .i64 0))⟩, ⟨(some 11), none, .pick (.tmp 6) (.tmp 10) (.const (.bool false))⟩, ⟨(some 12), none, .mov (.tmp 11)⟩, ⟨(some 13), (some (12, true)), .fieldA 1 (.tmp 1)⟩, ⟨(some 14), (some (12, true)), .load false 1 (.tmp 13)⟩, ⟨(some 15), (some (12, true)), .call 65 [.tmp 14, .const (.int .i64 0), .const (.int .i64 4095)]⟩, ⟨(some 16), none, .pick (.tmp 12) (.tmp 15) (.const (.bool false))⟩, ⟨(some 2), none, .eff .set [.tmp 16]⟩])
 .ret))⟩
theorem x36_ok : yfunc Tryd.prog Tryd.f36 = some x36 := by kernel_rfl

/-- switchyard/prio.Port -/
def x37 : YF := ⟨27, [.tmp 2],
 (.seq (.ops [⟨(some 1), none, .box 60 (.tmp 0)⟩, ⟨(some 2), none, .eff .set [.const (.bool false)]⟩])
 (.seq (.ops [⟨(some 3), none, .fieldA 0 (.tmp 1)⟩, ⟨(some 4), none, .load false 1 (.tmp 3)⟩, ⟨(some 5), none, .bin .geq (.tmp 4) (.const (.int .i64 0))⟩, ⟨(some 6), none, .mov (.tmp 5)⟩, ⟨(some 7), (some (6, true)), .fieldA 0 (.tmp 1)⟩, ⟨(some 8), (some (6, true)), .load false 1 (.tmp 7)⟩, ⟨(some 9), (some (6, true)), .bin .leq (.tmp 8) (.const (.int .i64 240))⟩, ⟨(some 10), none, .pick (.tmp 6) (.tmp 9) (.const (.bool false))⟩, ⟨(some 11), none, .mov (.tmp 10)⟩, ⟨(some 12), (some (11, true)), .fieldA 0 (.tmp 1)⟩, ⟨(some 13), (some (11, true)), .load false 1 (.tmp 12)⟩, ⟨(some 14), (some (11, true)), .bin .rem (.tmp 13) (.const (.int .i64 16))⟩, ⟨(some 15), (some (11, true)), .bin .eql (.tmp 14) (.const (.int .i64 0))⟩, ⟨(some 16), none, .pick (.tmp 11) (.tmp 15) (.const (.bool false))⟩, ⟨(some 17), none, .mov (.tmp 16)⟩, ⟨(some 18), (some (17, true)), .fieldA 1 (.tmp 1)⟩, ⟨(some 19), (some (17, true)), .load false 1 (.tmp 18)⟩, ⟨(some 20), (some (17, true)), .bin .geq (.tmp 19) (.const (.int .i64 1))⟩, ⟨(some 21), none, .pick (.tmp 17) (.tmp 20) (.const (.bool false))⟩, ⟨(some 22), none, .mov (.tmp 21)⟩, ⟨(some 23), (some (22, true)), .fieldA 1 (.tmp 1)⟩, ⟨(some 24), (some (22, true)), .load false 1 (.tmp 23)⟩, ⟨(some 25), (some (22, true)), .bin .leq (.tmp 24) (.const (.int .i64 4095))⟩, ⟨(some 26), none, .pick (.tmp 22) (.tmp 25) (.const (.bool false))⟩, ⟨(some 2), none, .eff .set [.tmp 26]⟩])
 .ret))⟩
theorem x37_ok : yfunc Tryd.prog Tryd.f37 = some x37 := by kernel_rfl

/-- switchyard/switchyardref.PortRight -/
def x38 : YF := ⟨17, [.tmp 2],
 (.seq (.ops [⟨(some 1), none, .box 60 (.tmp 0)⟩, ⟨(some 2), none, .eff .set [.const (.bool false)]⟩])
 (.seq (.ops [⟨(some 3), none, .fieldA 0 (.tmp 1)⟩, ⟨(some 4), none, .load false 1 (.tmp 3)⟩, ⟨(some 5), none, .call 65 [.tmp 4, .const (.int .i64 0), .const (.int .i64 240)]⟩, ⟨(some 6), none, .mov (.tmp 5)⟩, ⟨(some 7), (some (6, true)), .fieldA 0 (.tmp 1)⟩, ⟨(some 8), (some (6, true)), .load false 1 (.tmp 7)⟩, ⟨(some 9), (some (6, true)), .bin .rem (.tmp 8) (.const (.int .i64 16))⟩, ⟨(some 10), (some (6, true)), .bin .eql (.tmp 9) (.const (.int .i64 0))⟩, ⟨(some 11), none, .pick (.tmp 6) (.tmp 10) (.const (.bool false))⟩, ⟨(some 12), none, .mov (.tmp 11)⟩, ⟨(some 13), (some (12, true)), .fieldA 1 (.tmp 1)⟩, ⟨(some 14), (some (12, true)), .load false 1 (.tmp 13)⟩, ⟨(some 15), (some (12, true)), .call 65 [.tmp 14, .const (.int .i64 1), .const (.int .i64 4095)]⟩, ⟨(some 16), none, .pick (.tmp 12) (.tmp 15) (.const (.bool false))⟩, ⟨(some 2), none, .eff .set [.tmp 16]⟩])
 .ret))⟩
theorem x38_ok : yfunc Tryd.prog Tryd.f38 = some x38 := by kernel_rfl
end Go.Proofs.YtfagdcpfebghoaaDoor
