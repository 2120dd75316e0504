/- Functions of this seat with the type tables looked up; each checked by the kernel. Conditions: none. -/
import Derived.Test.YtpdngikdpepekaaDoorProg
import Derived.Test.YtpdngikdpepekaaDoorBaseC
namespace Go.Proofs.YtpdngikdpepekaaDoor
open Go.Sx
set_option maxRecDepth 100000
/-- switchyard/switchyardlaw.MarkerWrites -/
def x4 : YF := ⟨62, [.tmp 2],
 (.seq (.ops [⟨(some 1), none, .box 38 (.tmp 0)⟩, ⟨(some 2), none, .eff .set [.const (.bool false)]⟩])
 (.seq (.ops [⟨(some 12), none, .load true 9 (.tmp 1)⟩, ⟨(some 13), none, .call 13 [.tmp 12]⟩, ⟨(some 11), none, .mov (.tmp 13)⟩, ⟨(some 14), none, .ext (.tmp 11) 0⟩, ⟨(some 15), none, .ext (.tmp 11) 1⟩, ⟨(some 3), none, .eff .set [.tmp 14]⟩, ⟨(some 4), none, .eff .set [.tmp 15]⟩])
 (.seq (.ops [⟨(some 17), none, .load true 9 (.tmp 1)⟩, ⟨(some 18), none, .call 14 [.tmp 17]⟩, ⟨(some 16), none, .mov (.tmp 18)⟩, ⟨(some 19), none, .ext (.tmp 16) 0⟩, ⟨(some 20), none, .ext (.tmp 16) 1⟩, ⟨(some 5), none, .eff .set [.tmp 19]⟩, ⟨(some 6), none, .eff .set [.tmp 20]⟩])
 (.seq (.ops [⟨(some 22), none, .load true 9 (.tmp 1)⟩, ⟨(some 23), none, .call 15 [.tmp 22]⟩, ⟨(some 21), none, .mov (.tmp 23)⟩, ⟨(some 24), none, .ext (.tmp 21) 0⟩, ⟨(some 25), none, .ext (.tmp 21) 1⟩, ⟨(some 7), none, .alloc 38 [.bool false, .int .i64 0, .int .u8 0, .int .u8 0, .int .u8 0, .int .u8 0, .int .u8 0, .int .u8 0, .int .i64 0]⟩, ⟨none, none, .store 9 (.tmp 7) (.tmp 24)⟩, ⟨(some 8), none, .eff .set [.tmp 25]⟩])
 (.seq (.ops [⟨(some 26), none, .build [.bool false, .int .i64 0, .int .u8 0, .int .u8 0, .int .u8 0, .int .u8 0, .int .u8 0, .int .u8 0, .int .i64 0] []⟩, ⟨(some 9), none, .alloc 38 [.bool false, .int .i64 0, .int .u8 0, .int .u8 0, .int .u8 0, .int .u8 0, .int .u8 0, .int .u8 0, .int .i64 0]⟩, ⟨none, none, .store 9 (.tmp 9) (.tmp 26)⟩, ⟨(some 10), none, .eff .set [.const (.int .i64 6)]⟩])
 (.seq (.seq (.ops [⟨(some 27), none, .fieldA 0 (.tmp 1)⟩, ⟨(some 28), none, .load false 1 (.tmp 27)⟩, ⟨(some 29), none, .un .not (.tmp 28)⟩])
 (.cond (.tmp 29) (.ops [⟨(some 30), none, .fieldA 1 (.tmp 1)⟩, ⟨(some 31), none, .load false 1 (.tmp 30)⟩, ⟨(some 32), none, .fieldA 2 (.tmp 1)⟩, ⟨(some 33), none, .load true 6 (.tmp 32)⟩, ⟨(some 34), none, .fieldA 8 (.tmp 1)⟩, ⟨(some 35), none, .load false 1 (.tmp 34)⟩, ⟨(some 36), none, .build [.bool false, .int .i64 0, .int .u8 0, .int .u8 0, .int .u8 0, .int .u8 0, .int .u8 0, .int .u8 0, .int .i64 0] [(0, 1, .const (.bool true)), (1, 1, .tmp 31), (2, 6, .tmp 33), (8, 1, .tmp 35)]⟩, ⟨none, none, .store 9 (.tmp 9) (.tmp 36)⟩, ⟨(some 10), none, .eff .set [.const (.int .i64 0)]⟩]) .skip))
 (.seq (.draw [37, 38, 39, 40, 41, 42, 43, 44, 45, 46, 48, 47, 49, 50, 51, 52, 53, 54, 55, 56, 57, 58, 59, 60, 61, 2] [⟨0, [], ⟨(some 37), none, .mov (.tmp 6)⟩⟩, ⟨1, [], ⟨(some 38), none, .mov (.tmp 4)⟩⟩, ⟨2, [0, 1], ⟨(some 39), none, .call 10 [.tmp 37, .tmp 38]⟩⟩, ⟨3, [2, 0, 1], ⟨(some 40), none, .mov (.tmp 39)⟩⟩, ⟨4, [3, 2, 0, 1], ⟨(some 41), (some (40, true)), .mov (.tmp 3)⟩⟩, ⟨5, [3, 2, 0, 1], ⟨(some 42), (some (40, true)), .mov (.tmp 5)⟩⟩, ⟨6, [4, 5, 3, 2, 0, 1], ⟨(some 43), (some (40, true)), .bin .eql (.tmp 41) (.tmp 42)⟩⟩, ⟨7, [6, 4, 5, 3, 2, 0, 1], ⟨(some 44), none, .pick (.tmp 40) (.tmp 43) (.const (.bool false))⟩⟩, ⟨8, [7, 6, 4, 5, 3, 2, 0, 1], ⟨(some 45), none, .mov (.tmp 44)⟩⟩, ⟨9, [8, 7, 6, 4, 5, 3, 2, 0, 1], ⟨(some 46), (some (45, true)), .load true 9 (.tmp 1)⟩⟩, ⟨11, [8, 7, 6, 4, 5, 3, 2, 0, 1], ⟨(some 48), (some (45, true)), .load true 9 (.tmp 1)⟩⟩, ⟨10, [9, 8, 7, 6, 4, 5, 3, 2, 0, 1], ⟨(some 47), (some (45, true)), .call 16 [.tmp 46]⟩⟩, ⟨12, [11, 10, 9, 8, 7, 6, 4, 5, 3, 2, 0, 1], ⟨(some 49), (some (45, true)), .call 17 [.tmp 48]⟩⟩, ⟨13, [12, 11, 10, 9, 8, 7, 6, 4, 5, 3, 2, 0, 1], ⟨(some 50), (some (45, true)), .eqB false (.tmp 47) (.tmp 49)⟩⟩, ⟨14, [13, 12, 11, 10, 9, 8, 7, 6, 4, 5, 3, 2, 0, 1], ⟨(some 51), none, .pick (.tmp 45) (.tmp 50) (.const (.bool false))⟩⟩, ⟨15, [14, 13, 12, 11, 10, 9, 8, 7, 6, 4, 5, 3, 2, 0, 1], ⟨(some 52), none, .mov (.tmp 51)⟩⟩, ⟨16, [15, 14, 13, 12, 11, 10, 9, 8, 7, 6, 4, 5, 3, 2, 0, 1], ⟨(some 53), (some (52, true)), .mov (.tmp 8)⟩⟩, ⟨17, [15, 14, 13, 12, 11, 10, 9, 8, 7, 6, 4, 5, 3, 2, 0, 1], ⟨(some 54), (some (52, true)), .mov (.tmp 10)⟩⟩, ⟨18, [16, 17, 15, 14, 13, 12, 11, 10, 9, 8, 7, 6, 4, 5, 3, 2, 0, 1], ⟨(some 55), (some (52, true)), .call 10 [.tmp 53, .tmp 54]⟩⟩, ⟨19, [18, 16, 17, 15, 14, 13, 12, 11, 10, 9, 8, 7, 6, 4, 5, 3, 2, 0, 1], ⟨(some 56), none, .pick (.tmp 52) (.tmp 55) (.const (.bool false))⟩⟩, ⟨20, [19, 18, 16, 17, 15, 14, 13, 12, 11, 10, 9, 8, 7, 6, 4, 5, 3, 2, 0, 1], ⟨(some 57), none, .mov (.tmp 56)⟩⟩, ⟨21, [20, 19, 18, 16, 17, 15, 14, 13, 12, 11, 10, 9, 8, 7, 6, 4, 5, 3, 2, 0, 1], ⟨(some 58), (some (57, true)), .load true 9 (.tmp 7)⟩⟩, ⟨22, [20, 19, 18, 16, 17, 15, 14, 13, 12, 11, 10, 9, 8, 7, 6, 4, 5, 3, 2, 0, 1], ⟨(some 59), (some (57, true)), .load true 9 (.tmp 9)⟩⟩, ⟨23, [21, 22, 20, 19, 18, 16, 17, 15, 14, 13, 12, 11, 10, 9, 8, 7, 6, 4, 5, 3, 2, 0, 1], ⟨(some 60), (some (57, true)), .eqAgg false [1, 0, 0, 0, 0, 0, 0, 0, 0] (.tmp 58) (.tmp 59)⟩⟩, ⟨24, [23, 21, 22, 20, 19, 18, 16, 17, 15, 14, 13, 12, 11, 10, 9, 8, 7, 6, 4, 5, 3, 2, 0, 1], ⟨(some 61), none, .pick (.tmp 57) (.tmp 60) (.const (.bool false))⟩⟩, ⟨25, [24, 23, 21, 22, 20, 19, 18, 16, 17, 15, 14, 13, 12, 11, 10, 9, 8, 7, 6, 4, 5, 3, 2, 0, 1], ⟨(some 2), none, .eff .set [.tmp 61]⟩⟩])
 .ret)))))))⟩
theorem x4_ok : yfunc Tryd.prog Tryd.f4 = some x4 := by kernel_rfl

/-- switchyard/lacp.WriteMark -/
def x14 : YF := ⟨29, [.tmp 2, .tmp 3],
 (.seq (.ops [⟨(some 1), none, .box 38 (.tmp 0)⟩, ⟨(some 2), none, .eff .set [.const (.string ⟨#[]⟩)]⟩, ⟨(some 3), none, .eff .set [.const (.nilIface)]⟩])
 (.seq (.seq (.ops [⟨(some 5), none, .load true 9 (.tmp 1)⟩, ⟨(some 6), none, .call 16 [.tmp 5]⟩, ⟨(some 7), none, .un .not (.tmp 6)⟩])
 (.cond (.tmp 7) (.seq (.ops [⟨(some 8), none, .mkI 28 (.const (.int .i64 1))⟩, ⟨(some 2), none, .eff .set [.const (.string ⟨#[]⟩)]⟩, ⟨(some 3), none, .eff .set [.tmp 8]⟩])
 .ret) .skip))
 (.seq (.ops [⟨(some 4), none, .eff .set [.const (.int .i64 1)]⟩])
 (.seq (.seq (.ops [⟨(some 9), none, .fieldA 0 (.tmp 1)⟩, ⟨(some 10), none, .load false 1 (.tmp 9)⟩])
 (.cond (.tmp 10) (.ops [⟨(some 4), none, .eff .set [.const (.int .i64 2)]⟩]) .skip))
 (.seq (.draw [11, 15, 16, 19, 20, 21, 23, 24, 12, 13, 14, 17, 18, 22, 25, 26, 27, 28, 2, 3] [⟨0, [], ⟨(some 11), none, .mov (.tmp 4)⟩⟩, ⟨4, [], ⟨(some 15), none, .fieldA 1 (.tmp 1)⟩⟩, ⟨5, [4], ⟨(some 16), none, .load false 1 (.tmp 15)⟩⟩, ⟨8, [], ⟨(some 19), none, .fieldA 2 (.tmp 1)⟩⟩, ⟨9, [8], ⟨(some 20), none, .more (.slcA 6 1 false false) [.tmp 19]⟩⟩, ⟨10, [9, 8], ⟨(some 21), none, .more .b2s [.tmp 20]⟩⟩, ⟨12, [], ⟨(some 23), none, .fieldA 8 (.tmp 1)⟩⟩, ⟨13, [12], ⟨(some 24), none, .load false 1 (.tmp 23)⟩⟩, ⟨1, [0], ⟨(some 12), none, .call 28 [.tmp 11, .const (.int .i64 1)]⟩⟩, ⟨2, [1, 0], ⟨(some 13), none, .bin .add (.const (.string ⟨#[2, 1]⟩)) (.tmp 12)⟩⟩, ⟨3, [2, 1, 0], ⟨(some 14), none, .bin .add (.tmp 13) (.const (.string ⟨#[16]⟩))⟩⟩, ⟨6, [5, 4, 1, 0], ⟨(some 17), none, .call 28 [.tmp 16, .const (.int .i64 2)]⟩⟩, ⟨7, [3, 2, 6, 5, 4, 1, 0], ⟨(some 18), none, .bin .add (.tmp 14) (.tmp 17)⟩⟩, ⟨11, [7, 3, 2, 6, 5, 4, 1, 0, 10, 9, 8], ⟨(some 22), none, .bin .add (.tmp 18) (.tmp 21)⟩⟩, ⟨14, [13, 12, 6, 5, 4, 1, 0], ⟨(some 25), none, .call 28 [.tmp 24, .const (.int .i64 4)]⟩⟩, ⟨15, [11, 7, 3, 2, 10, 9, 8, 14, 13, 12, 6, 5, 4, 1, 0], ⟨(some 26), none, .bin .add (.tmp 22) (.tmp 25)⟩⟩, ⟨16, [14, 13, 12, 6, 5, 4, 1, 0], ⟨(some 27), none, .call 31 [.const (.string ⟨#[0]⟩), .const (.int .i64 94)]⟩⟩, ⟨17, [15, 11, 7, 3, 2, 10, 9, 8, 16, 14, 13, 12, 6, 5, 4, 1, 0], ⟨(some 28), none, .bin .add (.tmp 26) (.tmp 27)⟩⟩, ⟨18, [17, 15, 11, 7, 3, 2, 10, 9, 8, 16, 14, 13, 12, 6, 5, 4, 1, 0], ⟨(some 2), none, .eff .set [.tmp 28]⟩⟩, ⟨19, [18, 17, 15, 11, 7, 3, 2, 10, 9, 8, 16, 14, 13, 12, 6, 5, 4, 1, 0], ⟨(some 3), none, .eff .set [.const (.nilIface)]⟩⟩])
 .ret)))))⟩
theorem x14_ok : yfunc Tryd.prog Tryd.f14 = some x14 := by kernel_rfl

/-- switchyard/lacp.Answer -/
def x15 : YF := ⟨10, [.cell 2 true 9, .tmp 3],
 (.seq (.ops [⟨(some 1), none, .box 38 (.tmp 0)⟩, ⟨(some 2), none, .alloc 38 [.bool false, .int .i64 0, .int .u8 0, .int .u8 0, .int .u8 0, .int .u8 0, .int .u8 0, .int .u8 0, .int .i64 0]⟩, ⟨(some 3), none, .eff .set [.const (.nilIface)]⟩])
 (.seq (.seq (.ops [⟨(some 4), none, .fieldA 0 (.tmp 1)⟩, ⟨(some 5), none, .load false 1 (.tmp 4)⟩])
 (.cond (.tmp 5) (.seq (.ops [⟨(some 6), none, .build [.bool false, .int .i64 0, .int .u8 0, .int .u8 0, .int .u8 0, .int .u8 0, .int .u8 0, .int .u8 0, .int .i64 0] []⟩, ⟨(some 7), none, .mkI 28 (.const (.int .i64 6))⟩, ⟨none, none, .store 9 (.tmp 2) (.tmp 6)⟩, ⟨(some 3), none, .eff .set [.tmp 7]⟩])
 .ret) .skip))
 (.seq (.ops [⟨(some 8), none, .fieldA 0 (.tmp 1)⟩, ⟨none, none, .store 1 (.tmp 8) (.const (.bool true))⟩])
 (.seq (.ops [⟨(some 9), none, .load true 9 (.tmp 1)⟩, ⟨none, none, .store 9 (.tmp 2) (.tmp 9)⟩, ⟨(some 3), none, .eff .set [.const (.nilIface)]⟩])
 .ret))))⟩
theorem x15_ok : yfunc Tryd.prog Tryd.f15 = some x15 := by kernel_rfl

/-- switchyard/lacp.Mark -/
def x16 : YF := ⟨17, [.tmp 2],
 (.seq (.ops [⟨(some 1), none, .box 38 (.tmp 0)⟩, ⟨(some 2), none, .eff .set [.const (.bool false)]⟩])
 (.seq (.ops [⟨(some 3), none, .fieldA 1 (.tmp 1)⟩, ⟨(some 4), none, .load false 1 (.tmp 3)⟩, ⟨(some 5), none, .bslice 3 1 [.int .i64 0] [(0, 1, .tmp 4)]⟩, ⟨(some 6), none, .call 34 [.tmp 5]⟩, ⟨(some 7), none, .mov (.tmp 6)⟩, ⟨(some 8), (some (7, true)), .fieldA 8 (.tmp 1)⟩, ⟨(some 9), (some (7, true)), .load false 1 (.tmp 8)⟩, ⟨(some 10), (some (7, true)), .bin .geq (.tmp 9) (.const (.int .i64 0))⟩, ⟨(some 11), none, .pick (.tmp 7) (.tmp 10) (.const (.bool false))⟩, ⟨(some 12), none, .mov (.tmp 11)⟩, ⟨(some 13), (some (12, true)), .fieldA 8 (.tmp 1)⟩, ⟨(some 14), (some (12, true)), .load false 1 (.tmp 13)⟩, ⟨(some 15), (some (12, true)), .bin .lss (.tmp 14) (.const (.int .i64 4294967296))⟩, ⟨(some 16), none, .pick (.tmp 12) (.tmp 15) (.const (.bool false))⟩, ⟨(some 2), none, .eff .set [.tmp 16]⟩])
 .ret))⟩
theorem x16_ok : yfunc Tryd.prog Tryd.f16 = some x16 := by kernel_rfl

/-- switchyard/switchyardref.MarkRight -/
def x17 : YF := ⟨12, [.tmp 2],
 (.seq (.ops [⟨(some 1), none, .box 38 (.tmp 0)⟩, ⟨(some 2), none, .eff .set [.const (.bool false)]⟩])
 (.seq (.ops [⟨(some 3), none, .fieldA 1 (.tmp 1)⟩, ⟨(some 4), none, .load false 1 (.tmp 3)⟩, ⟨(some 5), none, .bslice 3 1 [.int .i64 0] [(0, 1, .tmp 4)]⟩, ⟨(some 6), none, .call 35 [.tmp 5]⟩, ⟨(some 7), none, .mov (.tmp 6)⟩, ⟨(some 8), (some (7, true)), .fieldA 8 (.tmp 1)⟩, ⟨(some 9), (some (7, true)), .load false 1 (.tmp 8)⟩, ⟨(some 10), (some (7, true)), .call 36 [.tmp 9, .const (.int .i64 0), .const (.int .i64 4294967295)]⟩, ⟨(some 11), none, .pick (.tmp 7) (.tmp 10) (.const (.bool false))⟩, ⟨(some 2), none, .eff .set [.tmp 11]⟩])
 .ret))⟩
theorem x17_ok : yfunc Tryd.prog Tryd.f17 = some x17 := by kernel_rfl

/-- switchyard/lacp.short -/
def x34 : YF := ⟨18, [.tmp 2],
 (.seq (.ops [⟨(some 2), none, .eff .set [.const (.bool false)]⟩])
 (.seq (.seq (.ops [⟨(some 5), none, .mov (.tmp 0)⟩, ⟨(some 6), none, .len false (.tmp 5)⟩, ⟨(some 7), none, .mov (.const (.int .i64 0))⟩])
 (.block 0 (.loop [false, false, true, false, true, false, false, true, true, true, true, true, true, true, true, true, true, true] (.seq (.ops [⟨(some 8), none, .bin .lss (.tmp 7) (.tmp 6)⟩])
 (.seq (.cond (.tmp 8) .skip (.exit 0))
 (.seq (.block 1 (.seq (.ops [⟨(some 9), none, .indexS 1 (.tmp 5) (.tmp 7)⟩, ⟨(some 10), none, .load false 1 (.tmp 9)⟩, ⟨(some 4), none, .eff .set [.tmp 10]⟩])
 (.seq (.ops [⟨(some 11), none, .mov (.tmp 4)⟩, ⟨(some 12), none, .bin .lss (.tmp 11) (.const (.int .i64 0))⟩, ⟨(some 13), none, .mov (.tmp 12)⟩, ⟨(some 14), (some (13, false)), .mov (.tmp 4)⟩, ⟨(some 15), (some (13, false)), .bin .gtr (.tmp 14) (.const (.int .i64 65535))⟩, ⟨(some 16), none, .pick (.tmp 13) (.const (.bool true)) (.tmp 15)⟩])
 (.cond (.tmp 16) (.seq (.ops [⟨(some 2), none, .eff .set [.const (.bool false)]⟩])
 .ret) .skip))))
 (.ops [⟨(some 17), none, .bin .add (.tmp 7) (.const (.int .i64 1))⟩, ⟨(some 7), none, .mov (.tmp 17)⟩])))))))
 (.seq (.ops [⟨(some 2), none, .eff .set [.const (.bool true)]⟩])
 .ret)))⟩
theorem x34_ok : yfunc Tryd.prog Tryd.f34 = some x34 := by kernel_rfl

/-- switchyard/switchyardref.shorts -/
def x35 : YF := ⟨15, [.tmp 2],
 (.seq (.ops [⟨(some 2), none, .eff .set [.const (.bool false)]⟩])
 (.seq (.seq (.ops [⟨(some 5), none, .mov (.tmp 0)⟩, ⟨(some 6), none, .len false (.tmp 5)⟩, ⟨(some 7), none, .mov (.const (.int .i64 0))⟩])
 (.block 0 (.loop [false, false, true, false, true, false, false, true, true, true, true, true, true, true, true] (.seq (.ops [⟨(some 8), none, .bin .lss (.tmp 7) (.tmp 6)⟩])
 (.seq (.cond (.tmp 8) .skip (.exit 0))
 (.seq (.block 1 (.seq (.ops [⟨(some 9), none, .indexS 1 (.tmp 5) (.tmp 7)⟩, ⟨(some 10), none, .load false 1 (.tmp 9)⟩, ⟨(some 4), none, .eff .set [.tmp 10]⟩])
 (.seq (.ops [⟨(some 11), none, .mov (.tmp 4)⟩, ⟨(some 12), none, .call 36 [.tmp 11, .const (.int .i64 0), .const (.int .i64 65535)]⟩, ⟨(some 13), none, .un .not (.tmp 12)⟩])
 (.cond (.tmp 13) (.seq (.ops [⟨(some 2), none, .eff .set [.const (.bool false)]⟩])
 .ret) .skip))))
 (.ops [⟨(some 14), none, .bin .add (.tmp 7) (.const (.int .i64 1))⟩, ⟨(some 7), none, .mov (.tmp 14)⟩])))))))
 (.seq (.ops [⟨(some 2), none, .eff .set [.const (.bool true)]⟩])
 .ret)))⟩
theorem x35_ok : yfunc Tryd.prog Tryd.f35 = some x35 := by kernel_rfl
end Go.Proofs.YtpdngikdpepekaaDoor
