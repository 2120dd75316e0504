/- Functions of this seat with the type tables looked up; each checked by the kernel. Conditions: none. -/
import Derived.Test.YtmbbhodikiikeaaGreatDoorProg
import Derived.Test.YtmbbhodikiikeaaGreatDoorBaseC
namespace Go.Proofs.YtmbbhodikiikeaaGreatDoor
open Go.Sx
set_option maxRecDepth 100000
/-- switchyard/switchyardref.AddrText -/
def x11 : YF := ⟨37, [.tmp 2],
 (.seq (.ops [⟨(some 1), none, .box 23 (.tmp 0)⟩, ⟨(some 2), none, .eff .set [.const (.string ⟨#[]⟩)]⟩])
 (.seq (.draw [3, 4, 5, 8, 9, 10, 14, 15, 16, 20, 21, 22, 26, 27, 28, 32, 33, 34, 6, 7, 11, 12, 13, 17, 18, 19, 23, 24, 25, 29, 30, 31, 35, 36, 2] [⟨0, [], ⟨(some 3), none, .indexP 6 1 (.tmp 1) (.const (.int .i64 0))⟩⟩, ⟨1, [0], ⟨(some 4), none, .load false 1 (.tmp 3)⟩⟩, ⟨2, [1, 0], ⟨(some 5), none, .conv .i64 (.tmp 4)⟩⟩, ⟨5, [], ⟨(some 8), none, .indexP 6 1 (.tmp 1) (.const (.int .i64 1))⟩⟩, ⟨6, [5], ⟨(some 9), none, .load false 1 (.tmp 8)⟩⟩, ⟨7, [6, 5], ⟨(some 10), none, .conv .i64 (.tmp 9)⟩⟩, ⟨11, [], ⟨(some 14), none, .indexP 6 1 (.tmp 1) (.const (.int .i64 2))⟩⟩, ⟨12, [11], ⟨(some 15), none, .load false 1 (.tmp 14)⟩⟩, ⟨13, [12, 11], ⟨(some 16), none, .conv .i64 (.tmp 15)⟩⟩, ⟨17, [], ⟨(some 20), none, .indexP 6 1 (.tmp 1) (.const (.int .i64 3))⟩⟩, ⟨18, [17], ⟨(some 21), none, .load false 1 (.tmp 20)⟩⟩, ⟨19, [18, 17], ⟨(some 22), none, .conv .i64 (.tmp 21)⟩⟩, ⟨23, [], ⟨(some 26), none, .indexP 6 1 (.tmp 1) (.const (.int .i64 4))⟩⟩, ⟨24, [23], ⟨(some 27), none, .load false 1 (.tmp 26)⟩⟩, ⟨25, [24, 23], ⟨(some 28), none, .conv .i64 (.tmp 27)⟩⟩, ⟨29, [], ⟨(some 32), none, .indexP 6 1 (.tmp 1) (.const (.int .i64 5))⟩⟩, ⟨30, [29], ⟨(some 33), none, .load false 1 (.tmp 32)⟩⟩, ⟨31, [30, 29], ⟨(some 34), none, .conv .i64 (.tmp 33)⟩⟩, ⟨3, [2, 1, 0], ⟨(some 6), none, .call 22 [.tmp 5, .const (.int .i64 16), .const (.int .i64 2)]⟩⟩, ⟨4, [3, 2, 1, 0], ⟨(some 7), none, .bin .add (.tmp 6) (.const (.string ⟨#[58]⟩))⟩⟩, ⟨8, [7, 6, 5, 3, 2, 1, 0], ⟨(some 11), none, .call 22 [.tmp 10, .const (.int .i64 16), .const (.int .i64 2)]⟩⟩, ⟨9, [4, 8, 7, 6, 5, 3, 2, 1, 0], ⟨(some 12), none, .bin .add (.tmp 7) (.tmp 11)⟩⟩, ⟨10, [9, 4, 8, 7, 6, 5, 3, 2, 1, 0], ⟨(some 13), none, .bin .add (.tmp 12) (.const (.string ⟨#[58]⟩))⟩⟩, ⟨14, [13, 12, 11, 8, 7, 6, 5, 3, 2, 1, 0], ⟨(some 17), none, .call 22 [.tmp 16, .const (.int .i64 16), .const (.int .i64 2)]⟩⟩, ⟨15, [10, 9, 4, 14, 13, 12, 11, 8, 7, 6, 5, 3, 2, 1, 0], ⟨(some 18), none, .bin .add (.tmp 13) (.tmp 17)⟩⟩, ⟨16, [15, 10, 9, 4, 14, 13, 12, 11, 8, 7, 6, 5, 3, 2, 1, 0], ⟨(some 19), none, .bin .add (.tmp 18) (.const (.string ⟨#[58]⟩))⟩⟩, ⟨20, [19, 18, 17, 14, 13, 12, 11, 8, 7, 6, 5, 3, 2, 1, 0], ⟨(some 23), none, .call 22 [.tmp 22, .const (.int .i64 16), .const (.int .i64 2)]⟩⟩, ⟨21, [16, 15, 10, 9, 4, 20, 19, 18, 17, 14, 13, 12, 11, 8, 7, 6, 5, 3, 2, 1, 0], ⟨(some 24), none, .bin .add (.tmp 19) (.tmp 23)⟩⟩, ⟨22, [21, 16, 15, 10, 9, 4, 20, 19, 18, 17, 14, 13, 12, 11, 8, 7, 6, 5, 3, 2, 1, 0], ⟨(some 25), none, .bin .add (.tmp 24) (.const (.string ⟨#[58]⟩))⟩⟩, ⟨26, [25, 24, 23, 20, 19, 18, 17, 14, 13, 12, 11, 8, 7, 6, 5, 3, 2, 1, 0], ⟨(some 29), none, .call 22 [.tmp 28, .const (.int .i64 16), .const (.int .i64 2)]⟩⟩, ⟨27, [22, 21, 16, 15, 10, 9, 4, 26, 25, 24, 23, 20, 19, 18, 17, 14, 13, 12, 11, 8, 7, 6, 5, 3, 2, 1, 0], ⟨(some 30), none, .bin .add (.tmp 25) (.tmp 29)⟩⟩, ⟨28, [27, 22, 21, 16, 15, 10, 9, 4, 26, 25, 24, 23, 20, 19, 18, 17, 14, 13, 12, 11, 8, 7, 6, 5, 3, 2, 1, 0], ⟨(some 31), none, .bin .add (.tmp 30) (.const (.string ⟨#[58]⟩))⟩⟩, ⟨32, [31, 30, 29, 26, 25, 24, 23, 20, 19, 18, 17, 14, 13, 12, 11, 8, 7, 6, 5, 3, 2, 1, 0], ⟨(some 35), none, .call 22 [.tmp 34, .const (.int .i64 16), .const (.int .i64 2)]⟩⟩, ⟨33, [28, 27, 22, 21, 16, 15, 10, 9, 4, 32, 31, 30, 29, 26, 25, 24, 23, 20, 19, 18, 17, 14, 13, 12, 11, 8, 7, 6, 5, 3, 2, 1, 0], ⟨(some 36), none, .bin .add (.tmp 31) (.tmp 35)⟩⟩, ⟨34, [33, 28, 27, 22, 21, 16, 15, 10, 9, 4, 32, 31, 30, 29, 26, 25, 24, 23, 20, 19, 18, 17, 14, 13, 12, 11, 8, 7, 6, 5, 3, 2, 1, 0], ⟨(some 2), none, .eff .set [.tmp 36]⟩⟩])
 .ret))⟩
theorem x11_ok : yfunc Tryz.prog Tryz.f11 = some x11 := by kernel_rfl

/-- switchyard/switchyardref.digits -/
def x22 : YF := ⟨18, [.tmp 6],
 (.seq (.ops [⟨(some 6), none, .eff .set [.const (.string ⟨#[]⟩)]⟩])
 (.seq (.ops [⟨(some 8), none, .mov (.tmp 0)⟩, ⟨(some 9), none, .mov (.tmp 1)⟩, ⟨(some 10), none, .call 32 [.tmp 8, .tmp 9]⟩, ⟨(some 7), none, .eff .set [.tmp 10]⟩])
 (.seq (.block 0 (.loop [false, false, false, false, false, false, false, true, false, false, false, true, true, true, true, true, true] (.seq (.seq (.ops [⟨(some 11), none, .mov (.tmp 7)⟩, ⟨(some 12), none, .len true (.tmp 11)⟩, ⟨(some 13), none, .mov (.tmp 2)⟩, ⟨(some 14), none, .bin .lss (.tmp 12) (.tmp 13)⟩])
 (.cond (.tmp 14) .skip (.exit 0)))
 (.block 1 (.ops [⟨(some 15), none, .mov (.tmp 7)⟩, ⟨(some 16), none, .bin .add (.const (.string ⟨#[48]⟩)) (.tmp 15)⟩, ⟨(some 7), none, .eff .set [.tmp 16]⟩])))))
 (.seq (.ops [⟨(some 17), none, .mov (.tmp 7)⟩, ⟨(some 6), none, .eff .set [.tmp 17]⟩])
 .ret))))⟩
theorem x22_ok : yfunc Tryz.prog Tryz.f22 = some x22 := by kernel_rfl

/-- internal/strconv.FormatInt -/
def x31 : YF := ⟨54, [.tmp 4],
 (.seq (.ops [⟨(some 4), none, .eff .set [.const (.string ⟨#[]⟩)]⟩])
 (.seq (.seq (.ops [⟨(some 10), none, .mov (.tmp 1)⟩, ⟨(some 11), none, .bin .eql (.tmp 10) (.const (.int .i64 10))⟩])
 (.cond (.tmp 11) (.seq (.seq (.ops [⟨(some 12), none, .mov (.tmp 0)⟩, ⟨(some 13), none, .bin .leq (.const (.int .i64 0)) (.tmp 12)⟩, ⟨(some 14), none, .mov (.tmp 13)⟩, ⟨(some 15), (some (14, true)), .mov (.tmp 0)⟩, ⟨(some 16), (some (14, true)), .bin .lss (.tmp 15) (.const (.int .i64 100))⟩, ⟨(some 17), none, .pick (.tmp 14) (.tmp 16) (.const (.bool false))⟩])
 (.cond (.tmp 17) (.seq (.ops [⟨(some 18), none, .mov (.tmp 0)⟩, ⟨(some 19), none, .call 45 [.tmp 18]⟩, ⟨(some 4), none, .eff .set [.tmp 19]⟩])
 .ret) .skip))
 (.seq (.ops [⟨(some 5), none, .alloc 86 [.int .u8 0, .int .u8 0, .int .u8 0, .int .u8 0, .int .u8 0, .int .u8 0, .int .u8 0, .int .u8 0, .int .u8 0, .int .u8 0, .int .u8 0, .int .u8 0, .int .u8 0, .int .u8 0, .int .u8 0, .int .u8 0, .int .u8 0, .int .u8 0, .int .u8 0, .int .u8 0, .int .u8 0, .int .u8 0, .int .u8 0, .int .u8 0]⟩])
 (.seq (.ops [⟨(some 20), none, .mov (.tmp 0)⟩, ⟨(some 21), none, .conv .u64 (.tmp 20)⟩, ⟨(some 6), none, .eff .set [.tmp 21]⟩])
 (.seq (.seq (.ops [⟨(some 22), none, .mov (.tmp 0)⟩, ⟨(some 23), none, .bin .lss (.tmp 22) (.const (.int .i64 0))⟩])
 (.cond (.tmp 23) (.ops [⟨(some 24), none, .mov (.tmp 6)⟩, ⟨(some 25), none, .un .neg (.tmp 24)⟩, ⟨(some 6), none, .eff .set [.tmp 25]⟩]) .skip))
 (.seq (.ops [⟨(some 26), none, .mov (.tmp 6)⟩, ⟨(some 27), none, .call 46 [.tmp 26]⟩, ⟨(some 7), none, .eff .set [.tmp 27]⟩])
 (.seq (.ops [⟨(some 28), none, .mov (.tmp 7)⟩, ⟨(some 29), none, .bin .add (.const (.int .i64 1)) (.tmp 28)⟩, ⟨(some 30), none, .more (.slcA 24 1 true true) [.tmp 5, .const (.int .i64 1), .tmp 29]⟩, ⟨(some 31), none, .mov (.tmp 6)⟩, ⟨(some 32), none, .call 47 [.tmp 30, .tmp 31]⟩])
 (.seq (.seq (.ops [⟨(some 33), none, .mov (.tmp 0)⟩, ⟨(some 34), none, .bin .lss (.tmp 33) (.const (.int .i64 0))⟩])
 (.cond (.tmp 34) (.seq (.ops [⟨(some 35), none, .indexP 24 1 (.tmp 5) (.const (.int .i64 0))⟩, ⟨none, none, .store 1 (.tmp 35) (.const (.int .u8 45))⟩])
 (.seq (.ops [⟨(some 36), none, .mov (.tmp 7)⟩, ⟨(some 37), none, .bin .add (.const (.int .i64 1)) (.tmp 36)⟩, ⟨(some 38), none, .more (.slcA 24 1 false true) [.tmp 5, .tmp 37]⟩, ⟨(some 39), none, .more .b2s [.tmp 38]⟩, ⟨(some 4), none, .eff .set [.tmp 39]⟩])
 .ret)) .skip))
 (.seq (.ops [⟨(some 40), none, .mov (.tmp 7)⟩, ⟨(some 41), none, .bin .add (.const (.int .i64 1)) (.tmp 40)⟩, ⟨(some 42), none, .more (.slcA 24 1 true true) [.tmp 5, .const (.int .i64 1), .tmp 41]⟩, ⟨(some 43), none, .more .b2s [.tmp 42]⟩, ⟨(some 4), none, .eff .set [.tmp 43]⟩])
 .ret)))))))) .skip))
 (.seq (.ops [⟨(some 45), none, .mov (.tmp 0)⟩, ⟨(some 46), none, .conv .u64 (.tmp 45)⟩, ⟨(some 47), none, .mov (.tmp 1)⟩, ⟨(some 48), none, .mov (.tmp 0)⟩, ⟨(some 49), none, .bin .lss (.tmp 48) (.const (.int .i64 0))⟩, ⟨(some 50), none, .call 48 [.const (.slice none 0 0), .tmp 46, .tmp 47, .tmp 49, .const (.bool false)]⟩, ⟨(some 44), none, .mov (.tmp 50)⟩, ⟨(some 51), none, .ext (.tmp 44) 0⟩, ⟨(some 52), none, .ext (.tmp 44) 1⟩, ⟨(some 8), none, .eff .set [.tmp 51]⟩, ⟨(some 9), none, .eff .set [.tmp 52]⟩])
 (.seq (.ops [⟨(some 53), none, .mov (.tmp 9)⟩, ⟨(some 4), none, .eff .set [.tmp 53]⟩])
 .ret))))⟩
theorem x31_ok : yfunc Tryz.prog Tryz.f31 = some x31 := by kernel_rfl

/-- strconv.FormatInt -/
def x32 : YF := ⟨8, [.tmp 4],
 (.seq (.ops [⟨(some 4), none, .eff .set [.const (.string ⟨#[]⟩)]⟩])
 (.seq (.ops [⟨(some 5), none, .mov (.tmp 0)⟩, ⟨(some 6), none, .mov (.tmp 1)⟩, ⟨(some 7), none, .call 31 [.tmp 5, .tmp 6]⟩, ⟨(some 4), none, .eff .set [.tmp 7]⟩])
 .ret))⟩
theorem x32_ok : yfunc Tryz.prog Tryz.f32 = some x32 := by kernel_rfl

/-- internal/strconv.formatBits -/
def x48 : YF := ⟨102, [.tmp 10, .tmp 11],
 (.seq (.ops [⟨(some 10), none, .eff .set [.const (.slice none 0 0)]⟩, ⟨(some 11), none, .eff .set [.const (.string ⟨#[]⟩)]⟩])
 (.seq (.seq (.ops [⟨(some 19), none, .mov (.tmp 2)⟩, ⟨(some 20), none, .bin .lss (.tmp 19) (.const (.int .i64 2))⟩, ⟨(some 21), none, .mov (.tmp 20)⟩, ⟨(some 22), (some (21, false)), .mov (.tmp 2)⟩, ⟨(some 23), (some (21, false)), .bin .eql (.tmp 22) (.const (.int .i64 10))⟩, ⟨(some 24), none, .pick (.tmp 21) (.const (.bool true)) (.tmp 23)⟩, ⟨(some 25), none, .mov (.tmp 24)⟩, ⟨(some 26), (some (25, false)), .mov (.tmp 2)⟩, ⟨(some 27), (some (25, false)), .bin .gtr (.tmp 26) (.const (.int .i64 36))⟩, ⟨(some 28), none, .pick (.tmp 25) (.const (.bool true)) (.tmp 27)⟩])
 (.cond (.tmp 28) (.ops [⟨(some 29), none, .mkI 9 (.const (.string ⟨#[115, 116, 114, 99, 111, 110, 118, 58, 32, 105, 108, 108, 101, 103, 97, 108, 32, 65, 112, 112, 101, 110, 100, 73, 110, 116, 47, 70, 111, 114, 109, 97, 116, 73, 110, 116, 32, 98, 97, 115, 101]⟩))⟩, ⟨none, none, .prim (.panic (.tmp 29)) [.tmp 29]⟩]) .skip))
 (.seq (.ops [⟨(some 12), none, .alloc 117 [.int .u8 0, .int .u8 0, .int .u8 0, .int .u8 0, .int .u8 0, .int .u8 0, .int .u8 0, .int .u8 0, .int .u8 0, .int .u8 0, .int .u8 0, .int .u8 0, .int .u8 0, .int .u8 0, .int .u8 0, .int .u8 0, .int .u8 0, .int .u8 0, .int .u8 0, .int .u8 0, .int .u8 0, .int .u8 0, .int .u8 0, .int .u8 0, .int .u8 0, .int .u8 0, .int .u8 0, .int .u8 0, .int .u8 0, .int .u8 0, .int .u8 0, .int .u8 0, .int .u8 0, .int .u8 0, .int .u8 0, .int .u8 0, .int .u8 0, .int .u8 0, .int .u8 0, .int .u8 0, .int .u8 0, .int .u8 0, .int .u8 0, .int .u8 0, .int .u8 0, .int .u8 0, .int .u8 0, .int .u8 0, .int .u8 0, .int .u8 0, .int .u8 0, .int .u8 0, .int .u8 0, .int .u8 0, .int .u8 0, .int .u8 0, .int .u8 0, .int .u8 0, .int .u8 0, .int .u8 0, .int .u8 0, .int .u8 0, .int .u8 0, .int .u8 0, .int .u8 0]⟩])
 (.seq (.ops [⟨(some 13), none, .eff .set [.const (.int .i64 65)]⟩])
 (.seq (.seq (.ops [⟨(some 30), none, .mov (.tmp 3)⟩])
 (.cond (.tmp 30) (.ops [⟨(some 31), none, .mov (.tmp 1)⟩, ⟨(some 32), none, .un .neg (.tmp 31)⟩, ⟨(some 1), none, .eff .set [.tmp 32]⟩]) .skip))
 (.seq (.seq (.ops [⟨(some 33), none, .mov (.tmp 2)⟩, ⟨(some 34), none, .call 68 [.tmp 33]⟩])
 (.cond (.tmp 34) (.seq (.ops [⟨(some 35), none, .mov (.tmp 2)⟩, ⟨(some 36), none, .conv .u64 (.tmp 35)⟩, ⟨(some 37), none, .call 69 [.tmp 36]⟩, ⟨(some 38), none, .conv .u64 (.tmp 37)⟩, ⟨(some 14), none, .eff .set [.tmp 38]⟩])
 (.seq (.ops [⟨(some 39), none, .mov (.tmp 2)⟩, ⟨(some 40), none, .conv .u64 (.tmp 39)⟩, ⟨(some 15), none, .eff .set [.tmp 40]⟩])
 (.seq (.ops [⟨(some 41), none, .mov (.tmp 2)⟩, ⟨(some 42), none, .conv .u64 (.tmp 41)⟩, ⟨(some 43), none, .bin .sub (.tmp 42) (.const (.int .u64 1))⟩, ⟨(some 16), none, .eff .set [.tmp 43]⟩])
 (.seq (.block 0 (.loop [false, true, false, false, false, false, false, false, false, false, false, false, false, true, false, false, false, false, false, false, false, false, false, false, false, false, false, false, false, false, false, false, false, false, false, false, false, false, false, false, false, false, false, false, true, true, true, true, true, true, true, true, true, true, true, true, true, true] (.seq (.seq (.ops [⟨(some 44), none, .mov (.tmp 1)⟩, ⟨(some 45), none, .mov (.tmp 15)⟩, ⟨(some 46), none, .bin .geq (.tmp 44) (.tmp 45)⟩])
 (.cond (.tmp 46) .skip (.exit 0)))
 (.block 1 (.seq (.ops [⟨(some 47), none, .mov (.tmp 13)⟩, ⟨(some 48), none, .bin .sub (.tmp 47) (.const (.int .i64 1))⟩, ⟨(some 13), none, .eff .set [.tmp 48]⟩])
 (.seq (.ops [⟨(some 49), none, .mov (.tmp 13)⟩, ⟨(some 50), none, .mov (.tmp 1)⟩, ⟨(some 51), none, .mov (.tmp 16)⟩, ⟨(some 52), none, .bin .and (.tmp 50) (.tmp 51)⟩, ⟨(some 53), none, .indexStr (.const (.string ⟨#[48, 49, 50, 51, 52, 53, 54, 55, 56, 57, 97, 98, 99, 100, 101, 102, 103, 104, 105, 106, 107, 108, 109, 110, 111, 112, 113, 114, 115, 116, 117, 118, 119, 120, 121, 122]⟩)) (.tmp 52)⟩, ⟨(some 54), none, .indexP 65 1 (.tmp 12) (.tmp 49)⟩, ⟨none, none, .store 1 (.tmp 54) (.tmp 53)⟩])
 (.ops [⟨(some 55), none, .mov (.tmp 1)⟩, ⟨(some 56), none, .mov (.tmp 14)⟩, ⟨(some 57), none, .bin .shr (.tmp 55) (.tmp 56)⟩, ⟨(some 1), none, .eff .set [.tmp 57]⟩])))))))
 (.seq (.ops [⟨(some 58), none, .mov (.tmp 13)⟩, ⟨(some 59), none, .bin .sub (.tmp 58) (.const (.int .i64 1))⟩, ⟨(some 13), none, .eff .set [.tmp 59]⟩])
 (.ops [⟨(some 60), none, .mov (.tmp 13)⟩, ⟨(some 61), none, .mov (.tmp 1)⟩, ⟨(some 62), none, .indexStr (.const (.string ⟨#[48, 49, 50, 51, 52, 53, 54, 55, 56, 57, 97, 98, 99, 100, 101, 102, 103, 104, 105, 106, 107, 108, 109, 110, 111, 112, 113, 114, 115, 116, 117, 118, 119, 120, 121, 122]⟩)) (.tmp 61)⟩, ⟨(some 63), none, .indexP 65 1 (.tmp 12) (.tmp 60)⟩, ⟨none, none, .store 1 (.tmp 63) (.tmp 62)⟩])))))) (.seq (.ops [⟨(some 64), none, .mov (.tmp 2)⟩, ⟨(some 65), none, .conv .u64 (.tmp 64)⟩, ⟨(some 17), none, .eff .set [.tmp 65]⟩])
 (.seq (.block 2 (.loop [false, true, false, false, false, false, false, false, false, false, false, false, false, true, false, false, false, false, true, false, false, false, false, false, false, false, false, false, false, false, false, false, false, false, false, false, false, false, false, false, false, false, false, false, false, false, false, false, false, false, false, false, false, false, false, false, false, false, false, false, false, false, false, false, false, false, true, true, true, true, true, true, true, true, true, true, true, true, true, true, true, true, true] (.seq (.seq (.ops [⟨(some 66), none, .mov (.tmp 1)⟩, ⟨(some 67), none, .mov (.tmp 17)⟩, ⟨(some 68), none, .bin .geq (.tmp 66) (.tmp 67)⟩])
 (.cond (.tmp 68) .skip (.exit 2)))
 (.block 3 (.seq (.ops [⟨(some 69), none, .mov (.tmp 13)⟩, ⟨(some 70), none, .bin .sub (.tmp 69) (.const (.int .i64 1))⟩, ⟨(some 13), none, .eff .set [.tmp 70]⟩])
 (.seq (.ops [⟨(some 71), none, .mov (.tmp 1)⟩, ⟨(some 72), none, .mov (.tmp 17)⟩, ⟨(some 73), none, .bin .quo (.tmp 71) (.tmp 72)⟩, ⟨(some 18), none, .eff .set [.tmp 73]⟩])
 (.seq (.ops [⟨(some 74), none, .mov (.tmp 13)⟩, ⟨(some 75), none, .mov (.tmp 1)⟩, ⟨(some 76), none, .mov (.tmp 18)⟩, ⟨(some 77), none, .mov (.tmp 17)⟩, ⟨(some 78), none, .bin .mul (.tmp 76) (.tmp 77)⟩, ⟨(some 79), none, .bin .sub (.tmp 75) (.tmp 78)⟩, ⟨(some 80), none, .indexStr (.const (.string ⟨#[48, 49, 50, 51, 52, 53, 54, 55, 56, 57, 97, 98, 99, 100, 101, 102, 103, 104, 105, 106, 107, 108, 109, 110, 111, 112, 113, 114, 115, 116, 117, 118, 119, 120, 121, 122]⟩)) (.tmp 79)⟩, ⟨(some 81), none, .indexP 65 1 (.tmp 12) (.tmp 74)⟩, ⟨none, none, .store 1 (.tmp 81) (.tmp 80)⟩])
 (.ops [⟨(some 82), none, .mov (.tmp 18)⟩, ⟨(some 1), none, .eff .set [.tmp 82]⟩]))))))))
 (.seq (.ops [⟨(some 83), none, .mov (.tmp 13)⟩, ⟨(some 84), none, .bin .sub (.tmp 83) (.const (.int .i64 1))⟩, ⟨(some 13), none, .eff .set [.tmp 84]⟩])
 (.ops [⟨(some 85), none, .mov (.tmp 13)⟩, ⟨(some 86), none, .mov (.tmp 1)⟩, ⟨(some 87), none, .indexStr (.const (.string ⟨#[48, 49, 50, 51, 52, 53, 54, 55, 56, 57, 97, 98, 99, 100, 101, 102, 103, 104, 105, 106, 107, 108, 109, 110, 111, 112, 113, 114, 115, 116, 117, 118, 119, 120, 121, 122]⟩)) (.tmp 86)⟩, ⟨(some 88), none, .indexP 65 1 (.tmp 12) (.tmp 85)⟩, ⟨none, none, .store 1 (.tmp 88) (.tmp 87)⟩]))))))
 (.seq (.seq (.ops [⟨(some 89), none, .mov (.tmp 3)⟩])
 (.cond (.tmp 89) (.seq (.ops [⟨(some 90), none, .mov (.tmp 13)⟩, ⟨(some 91), none, .bin .sub (.tmp 90) (.const (.int .i64 1))⟩, ⟨(some 13), none, .eff .set [.tmp 91]⟩])
 (.ops [⟨(some 92), none, .mov (.tmp 13)⟩, ⟨(some 93), none, .indexP 65 1 (.tmp 12) (.tmp 92)⟩, ⟨none, none, .store 1 (.tmp 93) (.const (.int .u8 45))⟩])) .skip))
 (.seq (.seq (.ops [⟨(some 94), none, .mov (.tmp 4)⟩])
 (.cond (.tmp 94) (.seq (.ops [⟨(some 95), none, .mov (.tmp 0)⟩, ⟨(some 96), none, .mov (.tmp 13)⟩, ⟨(some 97), none, .more (.slcA 65 1 true false) [.tmp 12, .tmp 96]⟩, ⟨(some 98), none, .eff (.app 5 1 1 [.int .u8 0]) [.tmp 95, .tmp 97]⟩, ⟨(some 10), none, .eff .set [.tmp 98]⟩])
 .ret) .skip))
 (.seq (.ops [⟨(some 99), none, .mov (.tmp 13)⟩, ⟨(some 100), none, .more (.slcA 65 1 true false) [.tmp 12, .tmp 99]⟩, ⟨(some 101), none, .more .b2s [.tmp 100]⟩, ⟨(some 11), none, .eff .set [.tmp 101]⟩])
 .ret)))))))))⟩
theorem x48_ok : yfunc Tryz.prog Tryz.f48 = some x48 := by kernel_rfl

/-- internal/strconv.isPowerOfTwo -/
def x68 : YF := ⟨8, [.tmp 2],
 (.seq (.ops [⟨(some 2), none, .eff .set [.const (.bool false)]⟩])
 (.seq (.ops [⟨(some 3), none, .mov (.tmp 0)⟩, ⟨(some 4), none, .mov (.tmp 0)⟩, ⟨(some 5), none, .bin .sub (.tmp 4) (.const (.int .i64 1))⟩, ⟨(some 6), none, .bin .and (.tmp 3) (.tmp 5)⟩, ⟨(some 7), none, .bin .eql (.tmp 6) (.const (.int .i64 0))⟩, ⟨(some 2), none, .eff .set [.tmp 7]⟩])
 .ret))⟩
theorem x68_ok : yfunc Tryz.prog Tryz.f68 = some x68 := by kernel_rfl

/-- math/bits.TrailingZeros -/
def x69 : YF := ⟨8, [.tmp 2],
 (.seq (.ops [⟨(some 2), none, .eff .set [.const (.int .i64 0)]⟩])
 (.seq (.cond (.const (.bool false)) (.seq (.ops [⟨(some 3), none, .mov (.tmp 0)⟩, ⟨(some 4), none, .conv .u32 (.tmp 3)⟩, ⟨(some 5), none, .call 81 [.tmp 4]⟩, ⟨(some 2), none, .eff .set [.tmp 5]⟩])
 .ret) .skip)
 (.seq (.ops [⟨(some 6), none, .mov (.tmp 0)⟩, ⟨(some 7), none, .call 82 [.tmp 6]⟩, ⟨(some 2), none, .eff .set [.tmp 7]⟩])
 .ret)))⟩
theorem x69_ok : yfunc Tryz.prog Tryz.f69 = some x69 := by kernel_rfl

/-- math/bits.TrailingZeros64 -/
def x82 : YF := ⟨14, [.tmp 2],
 (.seq (.ops [⟨(some 2), none, .eff .set [.const (.int .i64 0)]⟩])
 (.seq (.seq (.ops [⟨(some 3), none, .mov (.tmp 0)⟩, ⟨(some 4), none, .bin .eql (.tmp 3) (.const (.int .u64 0))⟩])
 (.cond (.tmp 4) (.seq (.ops [⟨(some 2), none, .eff .set [.const (.int .i64 64)]⟩])
 .ret) .skip))
 (.seq (.ops [⟨(some 5), none, .mov (.tmp 0)⟩, ⟨(some 6), none, .mov (.tmp 0)⟩, ⟨(some 7), none, .un .neg (.tmp 6)⟩, ⟨(some 8), none, .bin .and (.tmp 5) (.tmp 7)⟩, ⟨(some 9), none, .bin .mul (.tmp 8) (.const (.int .u64 285870213051353865))⟩, ⟨(some 10), none, .bin .shr (.tmp 9) (.const (.int .u64 58))⟩, ⟨(some 11), none, .indexP 64 1 (.global 6) (.tmp 10)⟩, ⟨(some 12), none, .load false 1 (.tmp 11)⟩, ⟨(some 13), none, .conv .i64 (.tmp 12)⟩, ⟨(some 2), none, .eff .set [.tmp 13]⟩])
 .ret)))⟩
theorem x82_ok : yfunc Tryz.prog Tryz.f82 = some x82 := by kernel_rfl
end Go.Proofs.YtmbbhodikiikeaaGreatDoor
