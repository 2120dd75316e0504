/- Functions of this seat with the type tables looked up; each checked by the kernel. Conditions: none. -/
import Derived.Test.YtmbbhodikiikeaaGreatDoorProg
import Derived.Test.YtmbbhodikiikeaaGreatDoorBaseC
namespace Go.Proofs.YtmbbhodikiikeaaGreatDoor
open Go.Sx
set_option maxRecDepth 100000
/-- switchyard/switchyardlaw.PrioTexts -/
def x3 : YF := ⟨54, [.tmp 4],
 (.seq (.ops [⟨(some 2), none, .box 25 (.tmp 0)⟩, ⟨(some 4), none, .eff .set [.const (.bool false)]⟩])
 (.seq (.seq (.ops [⟨(some 13), none, .mov (.tmp 1)⟩, ⟨(some 14), none, .len true (.tmp 13)⟩, ⟨(some 15), none, .bin .gtr (.tmp 14) (.const (.int .i64 100))⟩])
 (.cond (.tmp 15) (.seq (.ops [⟨(some 4), none, .eff .set [.const (.bool true)]⟩])
 .ret) .skip))
 (.seq (.ops [⟨(some 17), none, .load true 8 (.tmp 2)⟩, ⟨(some 18), none, .call 4 [.tmp 17]⟩, ⟨(some 16), none, .mov (.tmp 18)⟩, ⟨(some 19), none, .ext (.tmp 16) 0⟩, ⟨(some 20), none, .ext (.tmp 16) 1⟩, ⟨(some 5), none, .eff .set [.tmp 19]⟩, ⟨(some 6), none, .eff .set [.tmp 20]⟩])
 (.seq (.ops [⟨(some 22), none, .load true 8 (.tmp 2)⟩, ⟨(some 23), none, .call 5 [.tmp 22]⟩, ⟨(some 21), none, .mov (.tmp 23)⟩, ⟨(some 24), none, .ext (.tmp 21) 0⟩, ⟨(some 25), none, .ext (.tmp 21) 1⟩, ⟨(some 7), none, .eff .set [.tmp 24]⟩, ⟨(some 8), none, .eff .set [.tmp 25]⟩])
 (.seq (.ops [⟨(some 27), none, .mov (.tmp 1)⟩, ⟨(some 28), none, .call 6 [.tmp 27]⟩, ⟨(some 26), none, .mov (.tmp 28)⟩, ⟨(some 29), none, .ext (.tmp 26) 0⟩, ⟨(some 30), none, .ext (.tmp 26) 1⟩, ⟨(some 9), none, .alloc 25 [.int .i64 0, .int .i64 0, .int .u8 0, .int .u8 0, .int .u8 0, .int .u8 0, .int .u8 0, .int .u8 0]⟩, ⟨none, none, .store 8 (.tmp 9) (.tmp 29)⟩, ⟨(some 10), none, .eff .set [.tmp 30]⟩])
 (.seq (.ops [⟨(some 32), none, .mov (.tmp 1)⟩, ⟨(some 33), none, .call 7 [.tmp 32]⟩, ⟨(some 31), none, .mov (.tmp 33)⟩, ⟨(some 34), none, .ext (.tmp 31) 0⟩, ⟨(some 35), none, .ext (.tmp 31) 1⟩, ⟨(some 11), none, .alloc 25 [.int .i64 0, .int .i64 0, .int .u8 0, .int .u8 0, .int .u8 0, .int .u8 0, .int .u8 0, .int .u8 0]⟩, ⟨none, none, .store 8 (.tmp 11) (.tmp 34)⟩, ⟨(some 12), none, .eff .set [.tmp 35]⟩])
 (.seq (.ops [⟨(some 36), none, .mov (.tmp 8)⟩, ⟨(some 37), none, .mov (.tmp 6)⟩, ⟨(some 38), none, .call 8 [.tmp 36, .tmp 37]⟩, ⟨(some 39), none, .mov (.tmp 38)⟩, ⟨(some 40), (some (39, true)), .mov (.tmp 5)⟩, ⟨(some 41), (some (39, true)), .mov (.tmp 7)⟩, ⟨(some 42), (some (39, true)), .bin .eql (.tmp 40) (.tmp 41)⟩, ⟨(some 43), none, .pick (.tmp 39) (.tmp 42) (.const (.bool false))⟩, ⟨(some 44), none, .mov (.tmp 43)⟩, ⟨(some 45), (some (44, true)), .mov (.tmp 12)⟩, ⟨(some 46), (some (44, true)), .mov (.tmp 10)⟩, ⟨(some 47), (some (44, true)), .call 8 [.tmp 45, .tmp 46]⟩, ⟨(some 48), none, .pick (.tmp 44) (.tmp 47) (.const (.bool false))⟩, ⟨(some 49), none, .mov (.tmp 48)⟩, ⟨(some 50), (some (49, true)), .load true 8 (.tmp 9)⟩, ⟨(some 51), (some (49, true)), .load true 8 (.tmp 11)⟩, ⟨(some 52), (some (49, true)), .eqAgg false [0, 0, 0, 0, 0, 0, 0, 0] (.tmp 50) (.tmp 51)⟩, ⟨(some 53), none, .pick (.tmp 49) (.tmp 52) (.const (.bool false))⟩, ⟨(some 4), none, .eff .set [.tmp 53]⟩])
 .ret)))))))⟩
theorem x3_ok : yfunc Tryz.prog Tryz.f3 = some x3 := by kernel_rfl

/-- switchyard/switchyardref.BridgeText -/
def x4 : YF := ⟨20, [.tmp 2, .tmp 3],
 (.seq (.ops [⟨(some 1), none, .box 25 (.tmp 0)⟩, ⟨(some 2), none, .eff .set [.const (.string ⟨#[]⟩)]⟩, ⟨(some 3), none, .eff .set [.const (.int .i64 0)]⟩])
 (.seq (.seq (.ops [⟨(some 4), none, .load true 8 (.tmp 1)⟩, ⟨(some 5), none, .call 9 [.tmp 4]⟩, ⟨(some 6), none, .un .not (.tmp 5)⟩])
 (.cond (.tmp 6) (.seq (.ops [⟨(some 2), none, .eff .set [.const (.string ⟨#[]⟩)]⟩, ⟨(some 3), none, .eff .set [.const (.int .i64 1)]⟩])
 .ret) .skip))
 (.seq (.draw [7, 8, 11, 12, 16, 17, 9, 10, 13, 14, 15, 18, 19, 2, 3] [⟨0, [], ⟨(some 7), none, .fieldA 0 (.tmp 1)⟩⟩, ⟨1, [0], ⟨(some 8), none, .load false 1 (.tmp 7)⟩⟩, ⟨4, [], ⟨(some 11), none, .fieldA 1 (.tmp 1)⟩⟩, ⟨5, [4], ⟨(some 12), none, .load false 1 (.tmp 11)⟩⟩, ⟨9, [], ⟨(some 16), none, .fieldA 2 (.tmp 1)⟩⟩, ⟨10, [9], ⟨(some 17), none, .load true 6 (.tmp 16)⟩⟩, ⟨2, [1, 0], ⟨(some 9), none, .call 10 [.tmp 8]⟩⟩, ⟨3, [2, 1, 0], ⟨(some 10), none, .bin .add (.tmp 9) (.const (.string ⟨#[46]⟩))⟩⟩, ⟨6, [5, 4, 2, 1, 0], ⟨(some 13), none, .call 10 [.tmp 12]⟩⟩, ⟨7, [3, 6, 5, 4, 2, 1, 0], ⟨(some 14), none, .bin .add (.tmp 10) (.tmp 13)⟩⟩, ⟨8, [7, 3, 6, 5, 4, 2, 1, 0], ⟨(some 15), none, .bin .add (.tmp 14) (.const (.string ⟨#[47]⟩))⟩⟩, ⟨11, [10, 9, 6, 5, 4, 2, 1, 0], ⟨(some 18), none, .call 11 [.tmp 17]⟩⟩, ⟨12, [8, 7, 3, 11, 10, 9, 6, 5, 4, 2, 1, 0], ⟨(some 19), none, .bin .add (.tmp 15) (.tmp 18)⟩⟩, ⟨13, [12, 8, 7, 3, 11, 10, 9, 6, 5, 4, 2, 1, 0], ⟨(some 2), none, .eff .set [.tmp 19]⟩⟩, ⟨14, [13, 12, 8, 7, 3, 11, 10, 9, 6, 5, 4, 2, 1, 0], ⟨(some 3), none, .eff .set [.const (.int .i64 0)]⟩⟩])
 .ret)))⟩
theorem x4_ok : yfunc Tryz.prog Tryz.f4 = some x4 := by kernel_rfl

/-- switchyard/prio.Text -/
def x5 : YF := ⟨21, [.tmp 2, .tmp 3],
 (.seq (.ops [⟨(some 1), none, .box 25 (.tmp 0)⟩, ⟨(some 2), none, .eff .set [.const (.string ⟨#[]⟩)]⟩, ⟨(some 3), none, .eff .set [.const (.nilIface)]⟩])
 (.seq (.seq (.ops [⟨(some 4), none, .load true 8 (.tmp 1)⟩, ⟨(some 5), none, .call 12 [.tmp 4]⟩, ⟨(some 6), none, .un .not (.tmp 5)⟩])
 (.cond (.tmp 6) (.seq (.ops [⟨(some 7), none, .mkI 26 (.const (.int .i64 1))⟩, ⟨(some 2), none, .eff .set [.const (.string ⟨#[]⟩)]⟩, ⟨(some 3), none, .eff .set [.tmp 7]⟩])
 .ret) .skip))
 (.seq (.draw [8, 9, 12, 13, 17, 18, 10, 11, 14, 15, 16, 19, 20, 2, 3] [⟨0, [], ⟨(some 8), none, .fieldA 0 (.tmp 1)⟩⟩, ⟨1, [0], ⟨(some 9), none, .load false 1 (.tmp 8)⟩⟩, ⟨4, [], ⟨(some 12), none, .fieldA 1 (.tmp 1)⟩⟩, ⟨5, [4], ⟨(some 13), none, .load false 1 (.tmp 12)⟩⟩, ⟨9, [], ⟨(some 17), none, .fieldA 2 (.tmp 1)⟩⟩, ⟨10, [9], ⟨(some 18), none, .load true 6 (.tmp 17)⟩⟩, ⟨2, [1, 0], ⟨(some 10), none, .call 10 [.tmp 9]⟩⟩, ⟨3, [2, 1, 0], ⟨(some 11), none, .bin .add (.tmp 10) (.const (.string ⟨#[46]⟩))⟩⟩, ⟨6, [5, 4, 2, 1, 0], ⟨(some 14), none, .call 10 [.tmp 13]⟩⟩, ⟨7, [3, 6, 5, 4, 2, 1, 0], ⟨(some 15), none, .bin .add (.tmp 11) (.tmp 14)⟩⟩, ⟨8, [7, 3, 6, 5, 4, 2, 1, 0], ⟨(some 16), none, .bin .add (.tmp 15) (.const (.string ⟨#[47]⟩))⟩⟩, ⟨11, [10, 9, 6, 5, 4, 2, 1, 0], ⟨(some 19), none, .call 13 [.tmp 18]⟩⟩, ⟨12, [8, 7, 3, 11, 10, 9, 6, 5, 4, 2, 1, 0], ⟨(some 20), none, .bin .add (.tmp 16) (.tmp 19)⟩⟩, ⟨13, [12, 8, 7, 3, 11, 10, 9, 6, 5, 4, 2, 1, 0], ⟨(some 2), none, .eff .set [.tmp 20]⟩⟩, ⟨14, [13, 12, 8, 7, 3, 11, 10, 9, 6, 5, 4, 2, 1, 0], ⟨(some 3), none, .eff .set [.const (.nilIface)]⟩⟩])
 .ret)))⟩
theorem x5_ok : yfunc Tryz.prog Tryz.f5 = some x5 := by kernel_rfl

/-- switchyard/switchyardref.BridgeParse -/
def x6 : YF := ⟨86, [.cell 2 true 8, .tmp 3],
 (.seq (.ops [⟨(some 2), none, .alloc 25 [.int .i64 0, .int .i64 0, .int .u8 0, .int .u8 0, .int .u8 0, .int .u8 0, .int .u8 0, .int .u8 0]⟩, ⟨(some 3), none, .eff .set [.const (.int .i64 0)]⟩])
 (.seq (.ops [⟨(some 15), none, .mov (.tmp 0)⟩, ⟨(some 16), none, .len true (.tmp 15)⟩, ⟨(some 17), none, .bin .sub (.tmp 16) (.const (.int .i64 17))⟩, ⟨(some 4), none, .eff .set [.tmp 17]⟩])
 (.seq (.seq (.ops [⟨(some 18), none, .mov (.tmp 4)⟩, ⟨(some 19), none, .bin .lss (.tmp 18) (.const (.int .i64 4))⟩, ⟨(some 20), none, .mov (.tmp 19)⟩, ⟨(some 21), (some (20, false)), .mov (.tmp 4)⟩, ⟨(some 22), (some (20, false)), .bin .gtr (.tmp 21) (.const (.int .i64 11))⟩, ⟨(some 23), none, .pick (.tmp 20) (.const (.bool true)) (.tmp 22)⟩])
 (.cond (.tmp 23) (.seq (.ops [⟨(some 24), none, .build [.int .i64 0, .int .i64 0, .int .u8 0, .int .u8 0, .int .u8 0, .int .u8 0, .int .u8 0, .int .u8 0] []⟩, ⟨none, none, .store 8 (.tmp 2) (.tmp 24)⟩, ⟨(some 3), none, .eff .set [.const (.int .i64 3)]⟩])
 .ret) .skip))
 (.seq (.ops [⟨(some 26), none, .mov (.tmp 0)⟩, ⟨(some 27), none, .mov (.tmp 4)⟩, ⟨(some 28), none, .more (.slcT true false) [.tmp 26, .tmp 27]⟩, ⟨(some 29), none, .call 14 [.tmp 28]⟩, ⟨(some 25), none, .mov (.tmp 29)⟩, ⟨(some 30), none, .ext (.tmp 25) 0⟩, ⟨(some 31), none, .ext (.tmp 25) 1⟩, ⟨(some 5), none, .alloc 23 [.int .u8 0, .int .u8 0, .int .u8 0, .int .u8 0, .int .u8 0, .int .u8 0]⟩, ⟨none, none, .store 6 (.tmp 5) (.tmp 30)⟩, ⟨(some 6), none, .eff .set [.tmp 31]⟩])
 (.seq (.seq (.ops [⟨(some 32), none, .mov (.tmp 6)⟩, ⟨(some 33), none, .bin .neq (.tmp 32) (.const (.int .i64 0))⟩])
 (.cond (.tmp 33) (.seq (.ops [⟨(some 34), none, .build [.int .i64 0, .int .i64 0, .int .u8 0, .int .u8 0, .int .u8 0, .int .u8 0, .int .u8 0, .int .u8 0] []⟩, ⟨(some 35), none, .mov (.tmp 6)⟩, ⟨none, none, .store 8 (.tmp 2) (.tmp 34)⟩, ⟨(some 3), none, .eff .set [.tmp 35]⟩])
 .ret) .skip))
 (.seq (.seq (.ops [⟨(some 7), none, .eff .set [.const (.int .i64 0)]⟩])
 (.block 0 (.loop [false, false, false, true, false, false, false, true, true, true, false, true, true, true, true, false, false, false, false, false, false, false, false, false, false, false, false, false, false, false, false, false, false, false, false, false, true, true, true, true, true, true, true, true, true, true, true, true, true, true, true, true, true, true, true, true, true, true, true, true, true, true, true, true, true, true, true, true, true, true, true, true, true, true, true, true, true, true, true, true, true, true, true, true, true] (.seq (.seq (.ops [⟨(some 36), none, .mov (.tmp 7)⟩, ⟨(some 37), none, .bin .leq (.tmp 36) (.const (.int .i64 61440))⟩])
 (.cond (.tmp 37) .skip (.exit 0)))
 (.seq (.block 1 (.seq (.ops [⟨(some 40), none, .mov (.tmp 7)⟩, ⟨(some 41), none, .call 10 [.tmp 40]⟩, ⟨(some 42), none, .bin .add (.tmp 41) (.const (.string ⟨#[46]⟩))⟩, ⟨(some 8), none, .eff .set [.tmp 42]⟩])
 (.seq (.seq (.ops [⟨(some 43), none, .mov (.tmp 0)⟩, ⟨(some 44), none, .mov (.tmp 8)⟩, ⟨(some 45), none, .call 15 [.tmp 43, .tmp 44]⟩, ⟨(some 46), none, .un .not (.tmp 45)⟩])
 (.cond (.tmp 46) (.exit 1) .skip))
 (.seq (.ops [⟨(some 9), none, .eff .set [.const (.int .i64 0)]⟩])
 (.seq (.seq (.ops [⟨(some 47), none, .mov (.tmp 0)⟩, ⟨(some 48), none, .mov (.tmp 8)⟩, ⟨(some 49), none, .len true (.tmp 48)⟩, ⟨(some 50), none, .mov (.tmp 4)⟩, ⟨(some 51), none, .more (.slcT true true) [.tmp 47, .tmp 49, .tmp 50]⟩, ⟨(some 52), none, .prim (.convert 9 45 (.tmp 51)) [.tmp 51]⟩, ⟨(some 53), none, .len false (.tmp 52)⟩, ⟨(some 54), none, .mov (.const (.int .i64 0))⟩])
 (.block 2 (.loop [false, false, false, false, false, false, false, false, false, true, false, true, false, false, false, false, false, false, false, false, false, false, false, false, false, false, false, false, false, false, false, false, false, false, false, false, false, false, false, false, false, false, false, false, false, false, false, false, false, false, false, false, false, false, true, true, true, true, true, true, true, true, true, true, true, true, true, true] (.seq (.ops [⟨(some 55), none, .bin .lss (.tmp 54) (.tmp 53)⟩])
 (.seq (.cond (.tmp 55) .skip (.exit 2))
 (.seq (.block 3 (.seq (.ops [⟨(some 56), none, .indexS 1 (.tmp 52) (.tmp 54)⟩, ⟨(some 57), none, .load false 1 (.tmp 56)⟩, ⟨(some 11), none, .eff .set [.tmp 57]⟩])
 (.seq (.ops [⟨(some 58), none, .mov (.tmp 11)⟩, ⟨(some 59), none, .conv .i64 (.tmp 58)⟩, ⟨(some 60), none, .call 16 [.tmp 59, .const (.int .i64 48), .const (.int .i64 57)]⟩])
 (.cond (.tmp 60) (.ops [⟨(some 61), none, .mov (.tmp 9)⟩, ⟨(some 62), none, .bin .mul (.tmp 61) (.const (.int .i64 10))⟩, ⟨(some 63), none, .mov (.tmp 11)⟩, ⟨(some 64), none, .conv .i64 (.tmp 63)⟩, ⟨(some 65), none, .bin .add (.tmp 62) (.tmp 64)⟩, ⟨(some 66), none, .bin .sub (.tmp 65) (.const (.int .i64 48))⟩, ⟨(some 9), none, .eff .set [.tmp 66]⟩]) .skip))))
 (.ops [⟨(some 67), none, .bin .add (.tmp 54) (.const (.int .i64 1))⟩, ⟨(some 54), none, .mov (.tmp 67)⟩])))))))
 (.seq (.ops [⟨(some 68), none, .mov (.tmp 7)⟩, ⟨(some 69), none, .mov (.tmp 9)⟩, ⟨(some 70), none, .load true 6 (.tmp 5)⟩, ⟨(some 71), none, .build [.int .i64 0, .int .i64 0, .int .u8 0, .int .u8 0, .int .u8 0, .int .u8 0, .int .u8 0, .int .u8 0] [(0, 1, .tmp 68), (1, 1, .tmp 69), (2, 6, .tmp 70)]⟩, ⟨(some 12), none, .alloc 25 [.int .i64 0, .int .i64 0, .int .u8 0, .int .u8 0, .int .u8 0, .int .u8 0, .int .u8 0, .int .u8 0]⟩, ⟨none, none, .store 8 (.tmp 12) (.tmp 71)⟩])
 (.seq (.ops [⟨(some 73), none, .load true 8 (.tmp 12)⟩, ⟨(some 74), none, .call 4 [.tmp 73]⟩, ⟨(some 72), none, .mov (.tmp 74)⟩, ⟨(some 75), none, .ext (.tmp 72) 0⟩, ⟨(some 76), none, .ext (.tmp 72) 1⟩, ⟨(some 13), none, .eff .set [.tmp 75]⟩, ⟨(some 14), none, .eff .set [.tmp 76]⟩])
 (.seq (.ops [⟨(some 77), none, .mov (.tmp 14)⟩, ⟨(some 78), none, .bin .eql (.tmp 77) (.const (.int .i64 0))⟩, ⟨(some 79), none, .mov (.tmp 78)⟩, ⟨(some 80), (some (79, true)), .mov (.tmp 13)⟩, ⟨(some 81), (some (79, true)), .mov (.tmp 0)⟩, ⟨(some 82), (some (79, true)), .bin .eql (.tmp 80) (.tmp 81)⟩, ⟨(some 83), none, .pick (.tmp 79) (.tmp 82) (.const (.bool false))⟩])
 (.cond (.tmp 83) (.seq (.ops [⟨(some 84), none, .load true 8 (.tmp 12)⟩, ⟨none, none, .store 8 (.tmp 2) (.tmp 84)⟩, ⟨(some 3), none, .eff .set [.const (.int .i64 0)]⟩])
 .ret) .skip)))))))))
 (.ops [⟨(some 38), none, .mov (.tmp 7)⟩, ⟨(some 39), none, .bin .add (.tmp 38) (.const (.int .i64 4096))⟩, ⟨(some 7), none, .eff .set [.tmp 39]⟩]))))))
 (.seq (.ops [⟨(some 85), none, .build [.int .i64 0, .int .i64 0, .int .u8 0, .int .u8 0, .int .u8 0, .int .u8 0, .int .u8 0, .int .u8 0] []⟩, ⟨none, none, .store 8 (.tmp 2) (.tmp 85)⟩, ⟨(some 3), none, .eff .set [.const (.int .i64 3)]⟩])
 .ret)))))))⟩
theorem x6_ok : yfunc Tryz.prog Tryz.f6 = some x6 := by kernel_rfl

/-- switchyard/prio.Parse -/
def x7 : YF := ⟨77, [.cell 2 true 8, .tmp 3],
 (.seq (.ops [⟨(some 2), none, .alloc 25 [.int .i64 0, .int .i64 0, .int .u8 0, .int .u8 0, .int .u8 0, .int .u8 0, .int .u8 0, .int .u8 0]⟩, ⟨(some 3), none, .eff .set [.const (.nilIface)]⟩])
 (.seq (.ops [⟨(some 20), none, .mov (.tmp 0)⟩, ⟨(some 21), none, .call 17 [.tmp 20, .const (.string ⟨#[47]⟩)]⟩, ⟨(some 19), none, .mov (.tmp 21)⟩, ⟨(some 22), none, .ext (.tmp 19) 0⟩, ⟨(some 23), none, .ext (.tmp 19) 1⟩, ⟨(some 24), none, .ext (.tmp 19) 2⟩, ⟨(some 4), none, .eff .set [.tmp 22]⟩, ⟨(some 5), none, .eff .set [.tmp 23]⟩, ⟨(some 6), none, .eff .set [.tmp 24]⟩])
 (.seq (.ops [⟨(some 26), none, .mov (.tmp 4)⟩, ⟨(some 27), none, .call 17 [.tmp 26, .const (.string ⟨#[46]⟩)]⟩, ⟨(some 25), none, .mov (.tmp 27)⟩, ⟨(some 28), none, .ext (.tmp 25) 0⟩, ⟨(some 29), none, .ext (.tmp 25) 1⟩, ⟨(some 30), none, .ext (.tmp 25) 2⟩, ⟨(some 7), none, .eff .set [.tmp 28]⟩, ⟨(some 8), none, .eff .set [.tmp 29]⟩, ⟨(some 9), none, .eff .set [.tmp 30]⟩])
 (.seq (.ops [⟨(some 32), none, .mov (.tmp 5)⟩, ⟨(some 33), none, .call 18 [.tmp 32]⟩, ⟨(some 31), none, .mov (.tmp 33)⟩, ⟨(some 34), none, .ext (.tmp 31) 0⟩, ⟨(some 35), none, .ext (.tmp 31) 1⟩, ⟨(some 10), none, .alloc 23 [.int .u8 0, .int .u8 0, .int .u8 0, .int .u8 0, .int .u8 0, .int .u8 0]⟩, ⟨none, none, .store 6 (.tmp 10) (.tmp 34)⟩, ⟨(some 11), none, .eff .set [.tmp 35]⟩])
 (.seq (.ops [⟨(some 37), none, .mov (.tmp 7)⟩, ⟨(some 38), none, .call 19 [.tmp 37]⟩, ⟨(some 36), none, .mov (.tmp 38)⟩, ⟨(some 39), none, .ext (.tmp 36) 0⟩, ⟨(some 40), none, .ext (.tmp 36) 1⟩, ⟨(some 12), none, .eff .set [.tmp 39]⟩, ⟨(some 13), none, .eff .set [.tmp 40]⟩])
 (.seq (.ops [⟨(some 42), none, .mov (.tmp 8)⟩, ⟨(some 43), none, .call 19 [.tmp 42]⟩, ⟨(some 41), none, .mov (.tmp 43)⟩, ⟨(some 44), none, .ext (.tmp 41) 0⟩, ⟨(some 45), none, .ext (.tmp 41) 1⟩, ⟨(some 14), none, .eff .set [.tmp 44]⟩, ⟨(some 15), none, .eff .set [.tmp 45]⟩])
 (.seq (.ops [⟨(some 46), none, .mov (.tmp 12)⟩, ⟨(some 47), none, .mov (.tmp 14)⟩, ⟨(some 48), none, .load true 6 (.tmp 10)⟩, ⟨(some 49), none, .build [.int .i64 0, .int .i64 0, .int .u8 0, .int .u8 0, .int .u8 0, .int .u8 0, .int .u8 0, .int .u8 0] [(0, 1, .tmp 46), (1, 1, .tmp 47), (2, 6, .tmp 48)]⟩, ⟨(some 16), none, .alloc 25 [.int .i64 0, .int .i64 0, .int .u8 0, .int .u8 0, .int .u8 0, .int .u8 0, .int .u8 0, .int .u8 0]⟩, ⟨none, none, .store 8 (.tmp 16) (.tmp 49)⟩])
 (.seq (.seq (.ops [⟨(some 51), none, .load true 8 (.tmp 16)⟩, ⟨(some 52), none, .call 5 [.tmp 51]⟩, ⟨(some 50), none, .mov (.tmp 52)⟩, ⟨(some 53), none, .ext (.tmp 50) 0⟩, ⟨(some 54), none, .ext (.tmp 50) 1⟩, ⟨(some 17), none, .eff .set [.tmp 53]⟩, ⟨(some 18), none, .eff .set [.tmp 54]⟩])
 (.seq (.ops [⟨(some 55), none, .mov (.tmp 11)⟩, ⟨(some 56), none, .more (.nilI true) [.tmp 55]⟩, ⟨(some 57), none, .mov (.tmp 56)⟩, ⟨(some 58), (some (57, false)), .mov (.tmp 13)⟩, ⟨(some 59), (some (57, false)), .more (.nilI true) [.tmp 58]⟩, ⟨(some 60), none, .pick (.tmp 57) (.const (.bool true)) (.tmp 59)⟩, ⟨(some 61), none, .mov (.tmp 60)⟩, ⟨(some 62), (some (61, false)), .mov (.tmp 15)⟩, ⟨(some 63), (some (61, false)), .more (.nilI true) [.tmp 62]⟩, ⟨(some 64), none, .pick (.tmp 61) (.const (.bool true)) (.tmp 63)⟩, ⟨(some 65), none, .mov (.tmp 64)⟩, ⟨(some 66), (some (65, false)), .mov (.tmp 18)⟩, ⟨(some 67), (some (65, false)), .more (.nilI true) [.tmp 66]⟩, ⟨(some 68), none, .pick (.tmp 65) (.const (.bool true)) (.tmp 67)⟩, ⟨(some 69), none, .mov (.tmp 68)⟩, ⟨(some 70), (some (69, false)), .mov (.tmp 17)⟩, ⟨(some 71), (some (69, false)), .mov (.tmp 0)⟩, ⟨(some 72), (some (69, false)), .bin .neq (.tmp 70) (.tmp 71)⟩, ⟨(some 73), none, .pick (.tmp 69) (.const (.bool true)) (.tmp 72)⟩])
 (.cond (.tmp 73) (.seq (.ops [⟨(some 74), none, .build [.int .i64 0, .int .i64 0, .int .u8 0, .int .u8 0, .int .u8 0, .int .u8 0, .int .u8 0, .int .u8 0] []⟩, ⟨(some 75), none, .mkI 26 (.const (.int .i64 3))⟩, ⟨none, none, .store 8 (.tmp 2) (.tmp 74)⟩, ⟨(some 3), none, .eff .set [.tmp 75]⟩])
 .ret) .skip)))
 (.seq (.ops [⟨(some 76), none, .load true 8 (.tmp 16)⟩, ⟨none, none, .store 8 (.tmp 2) (.tmp 76)⟩, ⟨(some 3), none, .eff .set [.const (.nilIface)]⟩])
 .ret)))))))))⟩
theorem x7_ok : yfunc Tryz.prog Tryz.f7 = some x7 := by kernel_rfl
end Go.Proofs.YtmbbhodikiikeaaGreatDoor
