/- Functions of this seat with the type tables looked up; each checked by the kernel. Conditions: none. -/
import Derived.Test.YtfagdcpfebghoaaDoorProg
import Derived.Test.YtfagdcpfebghoaaDoorTy21
namespace Go.Proofs.YtfagdcpfebghoaaDoor
open Go.Sx
set_option maxRecDepth 100000
/-- switchyard/switchyardlaw.TagPacks -/
def x3 : YF := ⟨62, [.tmp 6],
 (.seq (.ops [⟨(some 3), none, .box 23 (.tmp 0)⟩, ⟨(some 6), none, .eff .set [.const (.bool false)]⟩])
 (.seq (.ops [⟨(some 16), none, .load true 4 (.tmp 3)⟩, ⟨(some 17), none, .call 14 [.tmp 16]⟩, ⟨(some 15), none, .mov (.tmp 17)⟩, ⟨(some 18), none, .ext (.tmp 15) 0⟩, ⟨(some 19), none, .ext (.tmp 15) 1⟩, ⟨(some 7), none, .eff .set [.tmp 18]⟩, ⟨(some 8), none, .eff .set [.tmp 19]⟩])
 (.seq (.ops [⟨(some 21), none, .load true 4 (.tmp 3)⟩, ⟨(some 22), none, .call 15 [.tmp 21]⟩, ⟨(some 20), none, .mov (.tmp 22)⟩, ⟨(some 23), none, .ext (.tmp 20) 0⟩, ⟨(some 24), none, .ext (.tmp 20) 1⟩, ⟨(some 9), none, .eff .set [.tmp 23]⟩, ⟨(some 10), none, .eff .set [.tmp 24]⟩])
 (.seq (.ops [⟨(some 26), none, .mov (.tmp 1)⟩, ⟨(some 27), none, .mov (.tmp 2)⟩, ⟨(some 28), none, .call 16 [.tmp 26, .tmp 27]⟩, ⟨(some 25), none, .mov (.tmp 28)⟩, ⟨(some 29), none, .ext (.tmp 25) 0⟩, ⟨(some 30), none, .ext (.tmp 25) 1⟩, ⟨(some 11), none, .alloc 23 [.bool false, .int .i64 0, .bool false, .int .i64 0]⟩, ⟨none, none, .store 4 (.tmp 11) (.tmp 29)⟩, ⟨(some 12), none, .eff .set [.tmp 30]⟩])
 (.seq (.ops [⟨(some 32), none, .mov (.tmp 1)⟩, ⟨(some 33), none, .mov (.tmp 2)⟩, ⟨(some 34), none, .call 17 [.tmp 32, .tmp 33]⟩, ⟨(some 31), none, .mov (.tmp 34)⟩, ⟨(some 35), none, .ext (.tmp 31) 0⟩, ⟨(some 36), none, .ext (.tmp 31) 1⟩, ⟨(some 13), none, .alloc 23 [.bool false, .int .i64 0, .bool false, .int .i64 0]⟩, ⟨none, none, .store 4 (.tmp 13) (.tmp 35)⟩, ⟨(some 14), none, .eff .set [.tmp 36]⟩])
 (.seq (.draw [37, 38, 39, 40, 41, 42, 43, 44, 45, 46, 47, 48, 49, 50, 51, 52, 53, 54, 55, 56, 58, 57, 59, 60, 61, 6] [⟨0, [], ⟨(some 37), none, .mov (.tmp 10)⟩⟩, ⟨1, [], ⟨(some 38), none, .mov (.tmp 8)⟩⟩, ⟨2, [0, 1], ⟨(some 39), none, .call 18 [.tmp 37, .tmp 38]⟩⟩, ⟨3, [2, 0, 1], ⟨(some 40), none, .mov (.tmp 39)⟩⟩, ⟨4, [3, 2, 0, 1], ⟨(some 41), (some (40, true)), .mov (.tmp 9)⟩⟩, ⟨5, [3, 2, 0, 1], ⟨(some 42), (some (40, true)), .mov (.tmp 7)⟩⟩, ⟨6, [4, 5, 3, 2, 0, 1], ⟨(some 43), (some (40, true)), .bin .eql (.tmp 41) (.tmp 42)⟩⟩, ⟨7, [6, 4, 5, 3, 2, 0, 1], ⟨(some 44), none, .pick (.tmp 40) (.tmp 43) (.const (.bool false))⟩⟩, ⟨8, [7, 6, 4, 5, 3, 2, 0, 1], ⟨(some 45), none, .mov (.tmp 44)⟩⟩, ⟨9, [8, 7, 6, 4, 5, 3, 2, 0, 1], ⟨(some 46), (some (45, true)), .mov (.tmp 14)⟩⟩, ⟨10, [8, 7, 6, 4, 5, 3, 2, 0, 1], ⟨(some 47), (some (45, true)), .mov (.tmp 12)⟩⟩, ⟨11, [9, 10, 8, 7, 6, 4, 5, 3, 2, 0, 1], ⟨(some 48), (some (45, true)), .call 18 [.tmp 46, .tmp 47]⟩⟩, ⟨12, [11, 9, 10, 8, 7, 6, 4, 5, 3, 2, 0, 1], ⟨(some 49), none, .pick (.tmp 45) (.tmp 48) (.const (.bool false))⟩⟩, ⟨13, [12, 11, 9, 10, 8, 7, 6, 4, 5, 3, 2, 0, 1], ⟨(some 50), none, .mov (.tmp 49)⟩⟩, ⟨14, [13, 12, 11, 9, 10, 8, 7, 6, 4, 5, 3, 2, 0, 1], ⟨(some 51), (some (50, true)), .load true 4 (.tmp 13)⟩⟩, ⟨15, [13, 12, 11, 9, 10, 8, 7, 6, 4, 5, 3, 2, 0, 1], ⟨(some 52), (some (50, true)), .load true 4 (.tmp 11)⟩⟩, ⟨16, [14, 15, 13, 12, 11, 9, 10, 8, 7, 6, 4, 5, 3, 2, 0, 1], ⟨(some 53), (some (50, true)), .eqAgg false [1, 0, 1, 0] (.tmp 51) (.tmp 52)⟩⟩, ⟨17, [16, 14, 15, 13, 12, 11, 9, 10, 8, 7, 6, 4, 5, 3, 2, 0, 1], ⟨(some 54), none, .pick (.tmp 50) (.tmp 53) (.const (.bool false))⟩⟩, ⟨18, [17, 16, 14, 15, 13, 12, 11, 9, 10, 8, 7, 6, 4, 5, 3, 2, 0, 1], ⟨(some 55), none, .mov (.tmp 54)⟩⟩, ⟨19, [18, 17, 16, 14, 15, 13, 12, 11, 9, 10, 8, 7, 6, 4, 5, 3, 2, 0, 1], ⟨(some 56), (some (55, true)), .load true 4 (.tmp 3)⟩⟩, ⟨21, [18, 17, 16, 14, 15, 13, 12, 11, 9, 10, 8, 7, 6, 4, 5, 3, 2, 0, 1], ⟨(some 58), (some (55, true)), .load true 4 (.tmp 3)⟩⟩, ⟨20, [19, 18, 17, 16, 14, 15, 13, 12, 11, 9, 10, 8, 7, 6, 4, 5, 3, 2, 0, 1], ⟨(some 57), (some (55, true)), .call 19 [.tmp 56]⟩⟩, ⟨22, [21, 20, 19, 18, 17, 16, 14, 15, 13, 12, 11, 9, 10, 8, 7, 6, 4, 5, 3, 2, 0, 1], ⟨(some 59), (some (55, true)), .call 20 [.tmp 58]⟩⟩, ⟨23, [22, 21, 20, 19, 18, 17, 16, 14, 15, 13, 12, 11, 9, 10, 8, 7, 6, 4, 5, 3, 2, 0, 1], ⟨(some 60), (some (55, true)), .eqB false (.tmp 57) (.tmp 59)⟩⟩, ⟨24, [23, 22, 21, 20, 19, 18, 17, 16, 14, 15, 13, 12, 11, 9, 10, 8, 7, 6, 4, 5, 3, 2, 0, 1], ⟨(some 61), none, .pick (.tmp 55) (.tmp 60) (.const (.bool false))⟩⟩, ⟨25, [24, 23, 22, 21, 20, 19, 18, 17, 16, 14, 15, 13, 12, 11, 9, 10, 8, 7, 6, 4, 5, 3, 2, 0, 1], ⟨(some 6), none, .eff .set [.tmp 61]⟩⟩])
 .ret))))))⟩
theorem x3_ok : yfunc Tryd.prog Tryd.f3 = some x3 := by kernel_rfl

/-- switchyard/switchyardref.TagPack -/
def x14 : YF := ⟨19, [.tmp 2, .tmp 3],
 (.seq (.ops [⟨(some 1), none, .box 23 (.tmp 0)⟩, ⟨(some 2), none, .eff .set [.const (.int .i64 0)]⟩, ⟨(some 3), none, .eff .set [.const (.int .i64 0)]⟩])
 (.seq (.seq (.ops [⟨(some 5), none, .load true 4 (.tmp 1)⟩, ⟨(some 6), none, .call 20 [.tmp 5]⟩, ⟨(some 7), none, .un .not (.tmp 6)⟩])
 (.cond (.tmp 7) (.seq (.ops [⟨(some 2), none, .eff .set [.const (.int .i64 0)]⟩, ⟨(some 3), none, .eff .set [.const (.int .i64 1)]⟩])
 .ret) .skip))
 (.seq (.ops [⟨(some 8), none, .fieldA 1 (.tmp 1)⟩, ⟨(some 9), none, .load false 1 (.tmp 8)⟩, ⟨(some 10), none, .bin .mul (.tmp 9) (.const (.int .i64 8192))⟩, ⟨(some 11), none, .fieldA 3 (.tmp 1)⟩, ⟨(some 12), none, .load false 1 (.tmp 11)⟩, ⟨(some 13), none, .bin .add (.tmp 10) (.tmp 12)⟩, ⟨(some 4), none, .eff .set [.tmp 13]⟩])
 (.seq (.seq (.ops [⟨(some 14), none, .fieldA 2 (.tmp 1)⟩, ⟨(some 15), none, .load false 1 (.tmp 14)⟩])
 (.cond (.tmp 15) (.ops [⟨(some 16), none, .mov (.tmp 4)⟩, ⟨(some 17), none, .bin .add (.tmp 16) (.const (.int .i64 4096))⟩, ⟨(some 4), none, .eff .set [.tmp 17]⟩]) .skip))
 (.seq (.ops [⟨(some 18), none, .mov (.tmp 4)⟩, ⟨(some 2), none, .eff .set [.tmp 18]⟩, ⟨(some 3), none, .eff .set [.const (.int .i64 0)]⟩])
 .ret)))))⟩
theorem x14_ok : yfunc Tryd.prog Tryd.f14 = some x14 := by kernel_rfl

/-- switchyard/tag.Pack -/
def x15 : YF := ⟨20, [.tmp 2, .tmp 3],
 (.seq (.ops [⟨(some 1), none, .box 23 (.tmp 0)⟩, ⟨(some 2), none, .eff .set [.const (.int .i64 0)]⟩, ⟨(some 3), none, .eff .set [.const (.nilIface)]⟩])
 (.seq (.seq (.ops [⟨(some 5), none, .load true 4 (.tmp 1)⟩, ⟨(some 6), none, .call 19 [.tmp 5]⟩, ⟨(some 7), none, .un .not (.tmp 6)⟩])
 (.cond (.tmp 7) (.seq (.ops [⟨(some 8), none, .mkI 24 (.const (.int .i64 1))⟩, ⟨(some 2), none, .eff .set [.const (.int .i64 0)]⟩, ⟨(some 3), none, .eff .set [.tmp 8]⟩])
 .ret) .skip))
 (.seq (.ops [⟨(some 9), none, .fieldA 1 (.tmp 1)⟩, ⟨(some 10), none, .load false 1 (.tmp 9)⟩, ⟨(some 11), none, .bin .shl (.tmp 10) (.const (.int .u64 13))⟩, ⟨(some 12), none, .fieldA 3 (.tmp 1)⟩, ⟨(some 13), none, .load false 1 (.tmp 12)⟩, ⟨(some 14), none, .bin .or (.tmp 11) (.tmp 13)⟩, ⟨(some 4), none, .eff .set [.tmp 14]⟩])
 (.seq (.seq (.ops [⟨(some 15), none, .fieldA 2 (.tmp 1)⟩, ⟨(some 16), none, .load false 1 (.tmp 15)⟩])
 (.cond (.tmp 16) (.ops [⟨(some 17), none, .mov (.tmp 4)⟩, ⟨(some 18), none, .bin .or (.tmp 17) (.const (.int .i64 4096))⟩, ⟨(some 4), none, .eff .set [.tmp 18]⟩]) .skip))
 (.seq (.ops [⟨(some 19), none, .mov (.tmp 4)⟩, ⟨(some 2), none, .eff .set [.tmp 19]⟩, ⟨(some 3), none, .eff .set [.const (.nilIface)]⟩])
 .ret)))))⟩
theorem x15_ok : yfunc Tryd.prog Tryd.f15 = some x15 := by kernel_rfl

/-- switchyard/switchyardref.TagUnpack -/
def x16 : YF := ⟨24, [.cell 4 true 4, .tmp 5],
 (.seq (.ops [⟨(some 4), none, .alloc 23 [.bool false, .int .i64 0, .bool false, .int .i64 0]⟩, ⟨(some 5), none, .eff .set [.const (.int .i64 0)]⟩])
 (.seq (.seq (.ops [⟨(some 6), none, .mov (.tmp 1)⟩, ⟨(some 7), none, .call 65 [.tmp 6, .const (.int .i64 0), .const (.int .i64 65535)]⟩, ⟨(some 8), none, .un .not (.tmp 7)⟩])
 (.cond (.tmp 8) (.seq (.ops [⟨(some 9), none, .build [.bool false, .int .i64 0, .bool false, .int .i64 0] []⟩, ⟨none, none, .store 4 (.tmp 4) (.tmp 9)⟩, ⟨(some 5), none, .eff .set [.const (.int .i64 2)]⟩])
 .ret) .skip))
 (.seq (.seq (.ops [⟨(some 10), none, .mov (.tmp 1)⟩, ⟨(some 11), none, .bin .rem (.tmp 10) (.const (.int .i64 4096))⟩, ⟨(some 12), none, .bin .eql (.tmp 11) (.const (.int .i64 4095))⟩])
 (.cond (.tmp 12) (.seq (.ops [⟨(some 13), none, .build [.bool false, .int .i64 0, .bool false, .int .i64 0] []⟩, ⟨none, none, .store 4 (.tmp 4) (.tmp 13)⟩, ⟨(some 5), none, .eff .set [.const (.int .i64 3)]⟩])
 .ret) .skip))
 (.seq (.ops [⟨(some 14), none, .mov (.tmp 0)⟩, ⟨(some 15), none, .mov (.tmp 1)⟩, ⟨(some 16), none, .bin .quo (.tmp 15) (.const (.int .i64 8192))⟩, ⟨(some 17), none, .mov (.tmp 1)⟩, ⟨(some 18), none, .bin .quo (.tmp 17) (.const (.int .i64 4096))⟩, ⟨(some 19), none, .bin .rem (.tmp 18) (.const (.int .i64 2))⟩, ⟨(some 20), none, .bin .eql (.tmp 19) (.const (.int .i64 1))⟩, ⟨(some 21), none, .mov (.tmp 1)⟩, ⟨(some 22), none, .bin .rem (.tmp 21) (.const (.int .i64 4096))⟩, ⟨(some 23), none, .build [.bool false, .int .i64 0, .bool false, .int .i64 0] [(0, 1, .tmp 14), (1, 1, .tmp 16), (2, 1, .tmp 20), (3, 1, .tmp 22)]⟩, ⟨none, none, .store 4 (.tmp 4) (.tmp 23)⟩, ⟨(some 5), none, .eff .set [.const (.int .i64 0)]⟩])
 .ret))))⟩
theorem x16_ok : yfunc Tryd.prog Tryd.f16 = some x16 := by kernel_rfl

/-- switchyard/tag.Unpack -/
def x17 : YF := ⟨31, [.cell 4 true 4, .tmp 5],
 (.seq (.ops [⟨(some 4), none, .alloc 23 [.bool false, .int .i64 0, .bool false, .int .i64 0]⟩, ⟨(some 5), none, .eff .set [.const (.nilIface)]⟩])
 (.seq (.seq (.ops [⟨(some 7), none, .mov (.tmp 1)⟩, ⟨(some 8), none, .bin .lss (.tmp 7) (.const (.int .i64 0))⟩, ⟨(some 9), none, .mov (.tmp 8)⟩, ⟨(some 10), (some (9, false)), .mov (.tmp 1)⟩, ⟨(some 11), (some (9, false)), .bin .gtr (.tmp 10) (.const (.int .i64 65535))⟩, ⟨(some 12), none, .pick (.tmp 9) (.const (.bool true)) (.tmp 11)⟩])
 (.cond (.tmp 12) (.seq (.ops [⟨(some 13), none, .build [.bool false, .int .i64 0, .bool false, .int .i64 0] []⟩, ⟨(some 14), none, .mkI 24 (.const (.int .i64 2))⟩, ⟨none, none, .store 4 (.tmp 4) (.tmp 13)⟩, ⟨(some 5), none, .eff .set [.tmp 14]⟩])
 .ret) .skip))
 (.seq (.ops [⟨(some 15), none, .mov (.tmp 0)⟩, ⟨(some 16), none, .mov (.tmp 1)⟩, ⟨(some 17), none, .bin .shr (.tmp 16) (.const (.int .u64 13))⟩, ⟨(some 18), none, .mov (.tmp 1)⟩, ⟨(some 19), none, .bin .shr (.tmp 18) (.const (.int .u64 12))⟩, ⟨(some 20), none, .bin .and (.tmp 19) (.const (.int .i64 1))⟩, ⟨(some 21), none, .bin .eql (.tmp 20) (.const (.int .i64 1))⟩, ⟨(some 22), none, .mov (.tmp 1)⟩, ⟨(some 23), none, .bin .and (.tmp 22) (.const (.int .i64 4095))⟩, ⟨(some 24), none, .build [.bool false, .int .i64 0, .bool false, .int .i64 0] [(0, 1, .tmp 15), (1, 1, .tmp 17), (2, 1, .tmp 21), (3, 1, .tmp 23)]⟩, ⟨(some 6), none, .alloc 23 [.bool false, .int .i64 0, .bool false, .int .i64 0]⟩, ⟨none, none, .store 4 (.tmp 6) (.tmp 24)⟩])
 (.seq (.seq (.ops [⟨(some 25), none, .load true 4 (.tmp 6)⟩, ⟨(some 26), none, .call 19 [.tmp 25]⟩, ⟨(some 27), none, .un .not (.tmp 26)⟩])
 (.cond (.tmp 27) (.seq (.ops [⟨(some 28), none, .build [.bool false, .int .i64 0, .bool false, .int .i64 0] []⟩, ⟨(some 29), none, .mkI 24 (.const (.int .i64 3))⟩, ⟨none, none, .store 4 (.tmp 4) (.tmp 28)⟩, ⟨(some 5), none, .eff .set [.tmp 29]⟩])
 .ret) .skip))
 (.seq (.ops [⟨(some 30), none, .load true 4 (.tmp 6)⟩, ⟨none, none, .store 4 (.tmp 4) (.tmp 30)⟩, ⟨(some 5), none, .eff .set [.const (.nilIface)]⟩])
 .ret)))))⟩
theorem x17_ok : yfunc Tryd.prog Tryd.f17 = some x17 := by kernel_rfl
end Go.Proofs.YtfagdcpfebghoaaDoor
