/- Functions of this seat with the type tables looked up; each checked by the kernel. Conditions: none. -/
import Derived.Test.YtmbbhodikiikeaaGreatDoorProg
import Derived.Test.YtmbbhodikiikeaaGreatDoorBaseC
namespace Go.Proofs.YtmbbhodikiikeaaGreatDoor
open Go.Sx
set_option maxRecDepth 100000
/-- switchyard/mac.Text -/
def x13 : YF := ⟨24, [.tmp 2],
 (.seq (.ops [⟨(some 1), none, .box 23 (.tmp 0)⟩, ⟨(some 2), none, .eff .set [.const (.string ⟨#[]⟩)]⟩])
 (.seq (.ops [⟨(some 3), none, .eff .set [.const (.slice none 0 0)]⟩])
 (.seq (.seq (.ops [⟨(some 6), none, .load true 6 (.tmp 1)⟩, ⟨(some 7), none, .mov (.const (.int .i64 0))⟩])
 (.block 0 (.loop [false, false, false, true, false, true, false, true, true, true, true, true, true, true, true, true, true, true, true, true, true, true] (.seq (.ops [⟨(some 8), none, .bin .lss (.tmp 7) (.const (.int .i64 6))⟩])
 (.seq (.cond (.tmp 8) .skip (.exit 0))
 (.seq (.block 1 (.seq (.ops [⟨(some 9), none, .indexV 6 false 1 (.tmp 6) (.tmp 7)⟩, ⟨(some 5), none, .eff .set [.tmp 9]⟩])
 (.draw [10, 11, 12, 13, 14, 15, 16, 17, 18, 19, 20, 3] [⟨0, [], ⟨(some 10), none, .mov (.tmp 3)⟩⟩, ⟨1, [], ⟨(some 11), none, .mov (.tmp 5)⟩⟩, ⟨2, [1], ⟨(some 12), none, .bin .shr (.tmp 11) (.const (.int .u64 4))⟩⟩, ⟨3, [2, 1], ⟨(some 13), none, .indexStr (.const (.string ⟨#[48, 49, 50, 51, 52, 53, 54, 55, 56, 57, 97, 98, 99, 100, 101, 102]⟩)) (.tmp 12)⟩⟩, ⟨4, [], ⟨(some 14), none, .mov (.tmp 5)⟩⟩, ⟨5, [4], ⟨(some 15), none, .bin .and (.tmp 14) (.const (.int .u8 15))⟩⟩, ⟨6, [5, 4], ⟨(some 16), none, .indexStr (.const (.string ⟨#[48, 49, 50, 51, 52, 53, 54, 55, 56, 57, 97, 98, 99, 100, 101, 102]⟩)) (.tmp 15)⟩⟩, ⟨7, [3, 2, 1, 6, 5, 4], ⟨(some 17), none, .bslice 5 2 [.int .u8 0, .int .u8 0] [(0, 1, .tmp 13), (1, 1, .tmp 16)]⟩⟩, ⟨8, [7, 3, 2, 1, 6, 5, 4], ⟨(some 18), none, .more .b2s [.tmp 17]⟩⟩, ⟨9, [8, 7, 3, 2, 1, 6, 5, 4], ⟨(some 19), none, .bslice 9 1 [.string ⟨#[]⟩] [(0, 1, .tmp 18)]⟩⟩, ⟨10, [0, 9, 8, 7, 3, 2, 1, 6, 5, 4], ⟨(some 20), none, .eff (.app 9 1 16 [.string ⟨#[]⟩]) [.tmp 10, .tmp 19]⟩⟩, ⟨11, [10, 0, 9, 8, 7, 3, 2, 1, 6, 5, 4], ⟨(some 3), none, .eff .set [.tmp 20]⟩⟩])))
 (.ops [⟨(some 21), none, .bin .add (.tmp 7) (.const (.int .i64 1))⟩, ⟨(some 7), none, .mov (.tmp 21)⟩])))))))
 (.seq (.ops [⟨(some 22), none, .mov (.tmp 3)⟩, ⟨(some 23), none, .call 23 [.tmp 22, .const (.string ⟨#[58]⟩)]⟩, ⟨(some 2), none, .eff .set [.tmp 23]⟩])
 .ret))))⟩
theorem x13_ok : yfunc Tryz.prog Tryz.f13 = some x13 := by kernel_rfl

/-- switchyard/switchyardref.AddrParse -/
def x14 : YF := ⟨36, [.cell 2 true 6, .tmp 3],
 (.seq (.ops [⟨(some 2), none, .alloc 23 [.int .u8 0, .int .u8 0, .int .u8 0, .int .u8 0, .int .u8 0, .int .u8 0]⟩, ⟨(some 3), none, .eff .set [.const (.int .i64 0)]⟩])
 (.seq (.ops [⟨(some 4), none, .alloc 23 [.int .u8 0, .int .u8 0, .int .u8 0, .int .u8 0, .int .u8 0, .int .u8 0]⟩])
 (.seq (.seq (.ops [⟨(some 6), none, .mov (.tmp 0)⟩, ⟨(some 7), none, .len true (.tmp 6)⟩, ⟨(some 8), none, .bin .neq (.tmp 7) (.const (.int .i64 17))⟩])
 (.cond (.tmp 8) (.seq (.ops [⟨(some 9), none, .build [.int .u8 0, .int .u8 0, .int .u8 0, .int .u8 0, .int .u8 0, .int .u8 0] []⟩, ⟨none, none, .store 6 (.tmp 2) (.tmp 9)⟩, ⟨(some 3), none, .eff .set [.const (.int .i64 3)]⟩])
 .ret) .skip))
 (.seq (.seq (.ops [⟨(some 10), none, .mov (.const (.int .i64 0))⟩])
 (.block 0 (.loop [false, false, false, false, false, true, false, false, false, false, true, true, true, true, true, true, true, true, true, true, true, true, true, true, true, true, true, true, true, true] (.seq (.ops [⟨(some 11), none, .bin .lss (.tmp 10) (.const (.int .i64 6))⟩])
 (.seq (.cond (.tmp 11) .skip (.exit 0))
 (.seq (.block 1 (.seq (.ops [⟨(some 12), none, .mov (.tmp 10)⟩, ⟨(some 5), none, .eff .set [.tmp 12]⟩])
 (.draw [13, 14, 15, 16, 17, 20, 21, 22, 23, 24, 18, 19, 25, 26, 27, 28] [⟨0, [], ⟨(some 13), none, .mov (.tmp 5)⟩⟩, ⟨1, [], ⟨(some 14), none, .mov (.tmp 0)⟩⟩, ⟨2, [], ⟨(some 15), none, .mov (.tmp 5)⟩⟩, ⟨3, [2], ⟨(some 16), none, .bin .mul (.const (.int .i64 3)) (.tmp 15)⟩⟩, ⟨4, [1, 3, 2], ⟨(some 17), none, .indexStr (.tmp 14) (.tmp 16)⟩⟩, ⟨7, [], ⟨(some 20), none, .mov (.tmp 0)⟩⟩, ⟨8, [], ⟨(some 21), none, .mov (.tmp 5)⟩⟩, ⟨9, [8], ⟨(some 22), none, .bin .mul (.const (.int .i64 3)) (.tmp 21)⟩⟩, ⟨10, [9, 8], ⟨(some 23), none, .bin .add (.tmp 22) (.const (.int .i64 1))⟩⟩, ⟨11, [7, 10, 9, 8], ⟨(some 24), none, .indexStr (.tmp 20) (.tmp 23)⟩⟩, ⟨5, [4, 1, 3, 2], ⟨(some 18), none, .call 24 [.const (.string ⟨#[48, 49, 50, 51, 52, 53, 54, 55, 56, 57, 97, 98, 99, 100, 101, 102]⟩), .tmp 17]⟩⟩, ⟨6, [5, 4, 1, 3, 2], ⟨(some 19), none, .bin .mul (.tmp 18) (.const (.int .i64 16))⟩⟩, ⟨12, [11, 7, 10, 9, 8, 5, 4, 1, 3, 2], ⟨(some 25), none, .call 24 [.const (.string ⟨#[48, 49, 50, 51, 52, 53, 54, 55, 56, 57, 97, 98, 99, 100, 101, 102]⟩), .tmp 24]⟩⟩, ⟨13, [6, 12, 11, 7, 10, 9, 8, 5, 4, 1, 3, 2], ⟨(some 26), none, .bin .add (.tmp 19) (.tmp 25)⟩⟩, ⟨14, [13, 6, 12, 11, 7, 10, 9, 8, 5, 4, 1, 3, 2], ⟨(some 27), none, .conv .u8 (.tmp 26)⟩⟩, ⟨15, [0, 14, 13, 6, 12, 11, 7, 10, 9, 8, 5, 4, 1, 3, 2], ⟨(some 28), none, .indexP 6 1 (.tmp 4) (.tmp 13)⟩⟩, ⟨16, [15, 0, 14, 13, 6, 12, 11, 7, 10, 9, 8, 5, 4, 1, 3, 2], ⟨none, none, .store 1 (.tmp 28) (.tmp 27)⟩⟩])))
 (.ops [⟨(some 29), none, .bin .add (.tmp 10) (.const (.int .i64 1))⟩, ⟨(some 10), none, .mov (.tmp 29)⟩])))))))
 (.seq (.seq (.ops [⟨(some 30), none, .load true 6 (.tmp 4)⟩, ⟨(some 31), none, .call 11 [.tmp 30]⟩, ⟨(some 32), none, .mov (.tmp 0)⟩, ⟨(some 33), none, .bin .neq (.tmp 31) (.tmp 32)⟩])
 (.cond (.tmp 33) (.seq (.ops [⟨(some 34), none, .build [.int .u8 0, .int .u8 0, .int .u8 0, .int .u8 0, .int .u8 0, .int .u8 0] []⟩, ⟨none, none, .store 6 (.tmp 2) (.tmp 34)⟩, ⟨(some 3), none, .eff .set [.const (.int .i64 3)]⟩])
 .ret) .skip))
 (.seq (.ops [⟨(some 35), none, .load true 6 (.tmp 4)⟩, ⟨none, none, .store 6 (.tmp 2) (.tmp 35)⟩, ⟨(some 3), none, .eff .set [.const (.int .i64 0)]⟩])
 .ret))))))⟩
theorem x14_ok : yfunc Tryz.prog Tryz.f14 = some x14 := by kernel_rfl

/-- switchyard/mac.Parse -/
def x18 : YF := ⟨52, [.cell 2 true 6, .tmp 3],
 (.seq (.ops [⟨(some 2), none, .alloc 23 [.int .u8 0, .int .u8 0, .int .u8 0, .int .u8 0, .int .u8 0, .int .u8 0]⟩, ⟨(some 3), none, .eff .set [.const (.nilIface)]⟩])
 (.seq (.ops [⟨(some 4), none, .alloc 23 [.int .u8 0, .int .u8 0, .int .u8 0, .int .u8 0, .int .u8 0, .int .u8 0]⟩])
 (.seq (.ops [⟨(some 10), none, .mov (.tmp 0)⟩, ⟨(some 11), none, .call 27 [.tmp 10, .const (.string ⟨#[58]⟩)]⟩, ⟨(some 5), none, .eff .set [.tmp 11]⟩])
 (.seq (.seq (.ops [⟨(some 12), none, .mov (.tmp 5)⟩, ⟨(some 13), none, .len false (.tmp 12)⟩, ⟨(some 14), none, .bin .neq (.tmp 13) (.const (.int .i64 6))⟩])
 (.cond (.tmp 14) (.seq (.ops [⟨(some 15), none, .build [.int .u8 0, .int .u8 0, .int .u8 0, .int .u8 0, .int .u8 0, .int .u8 0] []⟩, ⟨(some 16), none, .mkI 26 (.const (.int .i64 3))⟩, ⟨none, none, .store 6 (.tmp 2) (.tmp 15)⟩, ⟨(some 3), none, .eff .set [.tmp 16]⟩])
 .ret) .skip))
 (.seq (.seq (.ops [⟨(some 17), none, .mov (.tmp 5)⟩, ⟨(some 18), none, .len false (.tmp 17)⟩, ⟨(some 19), none, .mov (.const (.int .i64 0))⟩])
 (.block 0 (.loop [false, false, false, true, false, false, true, true, true, true, false, false, false, false, false, false, false, false, false, true, true, true, true, true, true, true, true, true, true, true, true, true, true, true, true, true, true, true, true, true, true, true, true, true, true, true, true, true, true, true, true] (.seq (.ops [⟨(some 20), none, .bin .lss (.tmp 19) (.tmp 18)⟩])
 (.seq (.cond (.tmp 20) .skip (.exit 0))
 (.seq (.block 1 (.seq (.ops [⟨(some 21), none, .mov (.tmp 19)⟩, ⟨(some 22), none, .indexS 1 (.tmp 17) (.tmp 19)⟩, ⟨(some 23), none, .load false 1 (.tmp 22)⟩, ⟨(some 6), none, .eff .set [.tmp 21]⟩, ⟨(some 7), none, .eff .set [.tmp 23]⟩])
 (.seq (.seq (.ops [⟨(some 24), none, .mov (.tmp 7)⟩, ⟨(some 25), none, .len true (.tmp 24)⟩, ⟨(some 26), none, .bin .neq (.tmp 25) (.const (.int .i64 2))⟩])
 (.cond (.tmp 26) (.seq (.ops [⟨(some 27), none, .build [.int .u8 0, .int .u8 0, .int .u8 0, .int .u8 0, .int .u8 0, .int .u8 0] []⟩, ⟨(some 28), none, .mkI 26 (.const (.int .i64 3))⟩, ⟨none, none, .store 6 (.tmp 2) (.tmp 27)⟩, ⟨(some 3), none, .eff .set [.tmp 28]⟩])
 .ret) .skip))
 (.seq (.draw [29, 30, 32, 33, 31, 34, 8, 9] [⟨0, [], ⟨(some 29), none, .mov (.tmp 7)⟩⟩, ⟨1, [0], ⟨(some 30), none, .indexStr (.tmp 29) (.const (.int .i64 0))⟩⟩, ⟨3, [], ⟨(some 32), none, .mov (.tmp 7)⟩⟩, ⟨4, [3], ⟨(some 33), none, .indexStr (.tmp 32) (.const (.int .i64 1))⟩⟩, ⟨2, [1, 0], ⟨(some 31), none, .call 24 [.const (.string ⟨#[48, 49, 50, 51, 52, 53, 54, 55, 56, 57, 97, 98, 99, 100, 101, 102]⟩), .tmp 30]⟩⟩, ⟨5, [4, 3, 2, 1, 0], ⟨(some 34), none, .call 24 [.const (.string ⟨#[48, 49, 50, 51, 52, 53, 54, 55, 56, 57, 97, 98, 99, 100, 101, 102]⟩), .tmp 33]⟩⟩, ⟨6, [5, 4, 3, 2, 1, 0], ⟨(some 8), none, .eff .set [.tmp 31]⟩⟩, ⟨7, [6, 5, 4, 3, 2, 1, 0], ⟨(some 9), none, .eff .set [.tmp 34]⟩⟩])
 (.seq (.seq (.ops [⟨(some 35), none, .mov (.tmp 8)⟩, ⟨(some 36), none, .bin .lss (.tmp 35) (.const (.int .i64 0))⟩, ⟨(some 37), none, .mov (.tmp 36)⟩, ⟨(some 38), (some (37, false)), .mov (.tmp 9)⟩, ⟨(some 39), (some (37, false)), .bin .lss (.tmp 38) (.const (.int .i64 0))⟩, ⟨(some 40), none, .pick (.tmp 37) (.const (.bool true)) (.tmp 39)⟩])
 (.cond (.tmp 40) (.seq (.ops [⟨(some 41), none, .build [.int .u8 0, .int .u8 0, .int .u8 0, .int .u8 0, .int .u8 0, .int .u8 0] []⟩, ⟨(some 42), none, .mkI 26 (.const (.int .i64 3))⟩, ⟨none, none, .store 6 (.tmp 2) (.tmp 41)⟩, ⟨(some 3), none, .eff .set [.tmp 42]⟩])
 .ret) .skip))
 (.ops [⟨(some 43), none, .mov (.tmp 6)⟩, ⟨(some 44), none, .mov (.tmp 8)⟩, ⟨(some 45), none, .bin .shl (.tmp 44) (.const (.int .u64 4))⟩, ⟨(some 46), none, .mov (.tmp 9)⟩, ⟨(some 47), none, .bin .or (.tmp 45) (.tmp 46)⟩, ⟨(some 48), none, .conv .u8 (.tmp 47)⟩, ⟨(some 49), none, .indexP 6 1 (.tmp 4) (.tmp 43)⟩, ⟨none, none, .store 1 (.tmp 49) (.tmp 48)⟩]))))))
 (.ops [⟨(some 50), none, .bin .add (.tmp 19) (.const (.int .i64 1))⟩, ⟨(some 19), none, .mov (.tmp 50)⟩])))))))
 (.seq (.ops [⟨(some 51), none, .load true 6 (.tmp 4)⟩, ⟨none, none, .store 6 (.tmp 2) (.tmp 51)⟩, ⟨(some 3), none, .eff .set [.const (.nilIface)]⟩])
 .ret))))))⟩
theorem x18_ok : yfunc Tryz.prog Tryz.f18 = some x18 := by kernel_rfl
end Go.Proofs.YtmbbhodikiikeaaGreatDoor
