/- Functions of this seat with the type tables looked up; each checked by the kernel. Conditions: none. -/
import Derived.Test.YtedfohdgigbhiaaDoorProg
import Derived.Test.YtedfohdgigbhiaaDoorBaseC
namespace Go.Proofs.YtedfohdgigbhiaaDoor
open Go.Sx
set_option maxRecDepth 100000
/-- switchyard/switchyardlaw.wide -/
def x10 : YF := ⟨19, [.tmp 2],
 (.seq (.ops [⟨(some 2), none, .eff .set [.const (.bool false)]⟩])
 (.seq (.seq (.ops [⟨(some 5), none, .mov (.tmp 0)⟩, ⟨(some 6), none, .len false (.tmp 5)⟩, ⟨(some 7), none, .bin .gtr (.tmp 6) (.const (.int .i64 20))⟩])
 (.cond (.tmp 7) (.seq (.ops [⟨(some 2), none, .eff .set [.const (.bool true)]⟩])
 .ret) .skip))
 (.seq (.seq (.ops [⟨(some 8), none, .mov (.tmp 0)⟩, ⟨(some 9), none, .len false (.tmp 8)⟩, ⟨(some 10), none, .mov (.const (.int .i64 0))⟩])
 (.block 0 (.loop [false, false, true, false, true, false, false, false, false, false, true, true, true, true, true, true, true, true, true] (.seq (.ops [⟨(some 11), none, .bin .lss (.tmp 10) (.tmp 9)⟩])
 (.seq (.cond (.tmp 11) .skip (.exit 0))
 (.seq (.block 1 (.seq (.ops [⟨(some 12), none, .indexS 9 (.tmp 8) (.tmp 10)⟩, ⟨(some 13), none, .load true 9 (.tmp 12)⟩, ⟨(some 4), none, .alloc 148 [.int .i64 0, .int .i64 0, .int .u8 0, .int .u8 0, .int .u8 0, .int .u8 0, .int .u8 0, .int .u8 0, .slice none 0 0]⟩, ⟨none, none, .store 9 (.tmp 4) (.tmp 13)⟩])
 (.seq (.ops [⟨(some 14), none, .fieldA 8 (.tmp 4)⟩, ⟨(some 15), none, .load false 1 (.tmp 14)⟩, ⟨(some 16), none, .len false (.tmp 15)⟩, ⟨(some 17), none, .bin .gtr (.tmp 16) (.const (.int .i64 20))⟩])
 (.cond (.tmp 17) (.seq (.ops [⟨(some 2), none, .eff .set [.const (.bool true)]⟩])
 .ret) .skip))))
 (.ops [⟨(some 18), none, .bin .add (.tmp 10) (.const (.int .i64 1))⟩, ⟨(some 10), none, .mov (.tmp 18)⟩])))))))
 (.seq (.ops [⟨(some 2), none, .eff .set [.const (.bool false)]⟩])
 .ret))))⟩
theorem x10_ok : yfunc Tryd.prog Tryd.f10 = some x10 := by kernel_rfl

/-- switchyard/switchyardref.NetCheck -/
def x12 : YF := ⟨93, [.cell 2 true 2],
 (.seq (.ops [⟨(some 2), none, .alloc 31 [.int .i64 0, .int .i64 0]⟩])
 (.seq (.seq (.ops [⟨(some 11), none, .mov (.tmp 0)⟩, ⟨(some 12), none, .len false (.tmp 11)⟩, ⟨(some 13), none, .bin .gtr (.tmp 12) (.const (.int .i64 12))⟩])
 (.cond (.tmp 13) (.seq (.ops [⟨(some 14), none, .call 57 [.const (.int .i64 4)]⟩, ⟨none, none, .store 2 (.tmp 2) (.tmp 14)⟩])
 .ret) .skip))
 (.seq (.seq (.ops [⟨(some 15), none, .mov (.tmp 0)⟩, ⟨(some 16), none, .len false (.tmp 15)⟩, ⟨(some 17), none, .mov (.const (.int .i64 0))⟩])
 (.block 0 (.loop [false, false, false, true, true, true, true, false, true, false, true, false, false, false, false, false, false, true, true, true, true, true, true, true, true, true, true, true, true, true, true, true, true, true, true, true, true, true, true, true, true, true, true, true, true, true, true, true, true, true, true, true, true, true, true, true, true, true, true, true, true, true, true, true, true, true, true, true, true, true, true, true, true, true, true, true, true, true, true, true, true, true, true, true, true, true, true, true, true, true, true, true] (.seq (.ops [⟨(some 18), none, .bin .lss (.tmp 17) (.tmp 16)⟩])
 (.seq (.cond (.tmp 18) .skip (.exit 0))
 (.seq (.block 1 (.seq (.ops [⟨(some 19), none, .mov (.tmp 17)⟩, ⟨(some 20), none, .indexS 9 (.tmp 15) (.tmp 17)⟩, ⟨(some 21), none, .load true 9 (.tmp 20)⟩, ⟨(some 4), none, .alloc 148 [.int .i64 0, .int .i64 0, .int .u8 0, .int .u8 0, .int .u8 0, .int .u8 0, .int .u8 0, .int .u8 0, .slice none 0 0]⟩, ⟨(some 3), none, .eff .set [.tmp 19]⟩, ⟨none, none, .store 9 (.tmp 4) (.tmp 21)⟩])
 (.seq (.seq (.ops [⟨(some 22), none, .fieldA 8 (.tmp 4)⟩, ⟨(some 23), none, .load false 1 (.tmp 22)⟩, ⟨(some 24), none, .len false (.tmp 23)⟩, ⟨(some 25), none, .bin .gtr (.tmp 24) (.const (.int .i64 8))⟩])
 (.cond (.tmp 25) (.seq (.ops [⟨(some 26), none, .mov (.tmp 3)⟩, ⟨(some 27), none, .build [.int .i64 0, .int .i64 0] [(0, 1, .const (.int .i64 4)), (1, 1, .tmp 26)]⟩, ⟨none, none, .store 2 (.tmp 2) (.tmp 27)⟩])
 .ret) .skip))
 (.seq (.ops [⟨(some 28), none, .fieldA 0 (.tmp 4)⟩, ⟨(some 29), none, .load true 8 (.tmp 28)⟩, ⟨(some 30), none, .call 58 [.tmp 29]⟩, ⟨(some 5), none, .eff .set [.tmp 30]⟩])
 (.seq (.ops [⟨(some 31), none, .prim (.makeMap 157 none) []⟩, ⟨(some 6), none, .eff .set [.tmp 31]⟩])
 (.seq (.seq (.ops [⟨(some 32), none, .fieldA 8 (.tmp 4)⟩, ⟨(some 33), none, .load false 1 (.tmp 32)⟩, ⟨(some 34), none, .len false (.tmp 33)⟩, ⟨(some 35), none, .mov (.const (.int .i64 0))⟩])
 (.block 2 (.loop [false, false, false, false, false, true, false, false, true, false, false, false, false, false, false, false, false, false, false, false, false, false, false, false, false, false, false, false, false, false, false, false, false, false, false, true, true, true, true, true, true, true, true, true, true, true, true, true, true, true, true, true, true, true, true, true, true, true, true, true, true, true, true] (.seq (.ops [⟨(some 36), none, .bin .lss (.tmp 35) (.tmp 34)⟩])
 (.seq (.cond (.tmp 36) .skip (.exit 2))
 (.seq (.block 3 (.seq (.ops [⟨(some 37), none, .indexS 4 (.tmp 33) (.tmp 35)⟩, ⟨(some 38), none, .load true 4 (.tmp 37)⟩, ⟨(some 8), none, .alloc 159 [.int .i64 0, .int .i64 0, .int .i64 0, .int .i64 0]⟩, ⟨none, none, .store 4 (.tmp 8) (.tmp 38)⟩])
 (.seq (.ops [⟨(some 39), none, .mov (.tmp 5)⟩, ⟨(some 40), none, .mov (.tmp 39)⟩, ⟨(some 41), (some (40, true)), .fieldA 0 (.tmp 8)⟩, ⟨(some 42), (some (40, true)), .load true 2 (.tmp 41)⟩, ⟨(some 43), (some (40, true)), .call 59 [.tmp 42]⟩, ⟨(some 44), none, .pick (.tmp 40) (.tmp 43) (.const (.bool false))⟩, ⟨(some 45), none, .mov (.tmp 44)⟩, ⟨(some 46), (some (45, true)), .fieldA 2 (.tmp 8)⟩, ⟨(some 47), (some (45, true)), .load false 1 (.tmp 46)⟩, ⟨(some 48), (some (45, true)), .call 60 [.tmp 47, .const (.int .i64 1), .const (.int .i64 200000000)]⟩, ⟨(some 49), none, .pick (.tmp 45) (.tmp 48) (.const (.bool false))⟩, ⟨(some 50), none, .mov (.tmp 49)⟩, ⟨(some 51), (some (50, true)), .fieldA 3 (.tmp 8)⟩, ⟨(some 52), (some (50, true)), .load false 1 (.tmp 51)⟩, ⟨(some 53), (some (50, true)), .call 60 [.tmp 52, .const (.int .i64 0), .const (.int .i64 63)]⟩, ⟨(some 54), none, .pick (.tmp 50) (.tmp 53) (.const (.bool false))⟩, ⟨(some 5), none, .eff .set [.tmp 54]⟩])
 (.alts [55, 56, 57, 58, 59, 60, 61] (.step ⟨0, [], ⟨(some 55), none, .mov (.tmp 6)⟩⟩ (.step ⟨1, [], ⟨(some 56), none, .fieldA 0 (.tmp 8)⟩⟩ (.step ⟨2, [1], ⟨(some 57), none, .load true 2 (.tmp 56)⟩⟩ (.alt (.step ⟨3, [0, 2, 1], ⟨(some 58), none, .prim (.lookup 157 (.tmp 55) (.tmp 57) false) [.tmp 55, .tmp 57]⟩⟩ (.step ⟨4, [3, 0, 2, 1], ⟨(some 59), none, .bin .add (.tmp 58) (.const (.int .i64 1))⟩⟩ (.step ⟨5, [3, 0, 2, 1], ⟨(some 60), none, .prim (.mapEntry 157 (.tmp 55) (.tmp 57)) [.tmp 55, .tmp 57]⟩⟩ (.step ⟨6, [5, 3, 0, 2, 1], ⟨(some 61), none, .ext (.tmp 60) 1⟩⟩ (.step ⟨7, [4, 6, 5, 3, 0, 2, 1], ⟨none, none, .prim (.entryStore 157 (.tmp 55) (.tmp 61) (.tmp 59)) [.tmp 55, .tmp 61, .tmp 59]⟩⟩ .nil)))))
 (.step ⟨5, [0, 2, 1], ⟨(some 60), none, .prim (.mapEntry 157 (.tmp 55) (.tmp 57)) [.tmp 55, .tmp 57]⟩⟩ (.step ⟨6, [5, 0, 2, 1], ⟨(some 61), none, .ext (.tmp 60) 1⟩⟩ (.step ⟨3, [5, 0, 2, 1], ⟨(some 58), none, .prim (.lookup 157 (.tmp 55) (.tmp 57) false) [.tmp 55, .tmp 57]⟩⟩ (.step ⟨4, [3, 5, 0, 2, 1], ⟨(some 59), none, .bin .add (.tmp 58) (.const (.int .i64 1))⟩⟩ (.step ⟨7, [4, 6, 3, 5, 0, 2, 1], ⟨none, none, .prim (.entryStore 157 (.tmp 55) (.tmp 61) (.tmp 59)) [.tmp 55, .tmp 61, .tmp 59]⟩⟩ .nil)))))))))))))
 (.ops [⟨(some 62), none, .bin .add (.tmp 35) (.const (.int .i64 1))⟩, ⟨(some 35), none, .mov (.tmp 62)⟩])))))))
 (.seq (.seq (.ops [⟨(some 63), none, .mov (.tmp 5)⟩, ⟨(some 64), none, .un .not (.tmp 63)⟩])
 (.cond (.tmp 64) (.seq (.ops [⟨(some 65), none, .mov (.tmp 3)⟩, ⟨(some 66), none, .build [.int .i64 0, .int .i64 0] [(0, 1, .const (.int .i64 1)), (1, 1, .tmp 65)]⟩, ⟨none, none, .store 2 (.tmp 2) (.tmp 66)⟩])
 .ret) .skip))
 (.seq (.seq (.ops [⟨(some 67), none, .mov (.tmp 0)⟩, ⟨(some 68), none, .mov (.tmp 3)⟩, ⟨(some 69), none, .more (.slcS 9 false true) [.tmp 67, .tmp 68]⟩, ⟨(some 70), none, .len false (.tmp 69)⟩, ⟨(some 71), none, .mov (.const (.int .i64 0))⟩])
 (.block 4 (.loop [false, false, false, false, false, false, false, false, false, false, true, false, false, false, false, false, false, false, false, false, false, false, false, false, false, false, false, false, false, false, false, false, false, false, false, false, false, false, false, false, false, false, false, false, false, false, false, false, false, false, false, false, false, false, false, false, false, false, false, false, false, false, false, false, false, false, false, false, false, false, false, true, true, true, true, true, true, true, true, true, true, true, true] (.seq (.ops [⟨(some 72), none, .bin .lss (.tmp 71) (.tmp 70)⟩])
 (.seq (.cond (.tmp 72) .skip (.exit 4))
 (.seq (.block 5 (.seq (.ops [⟨(some 73), none, .indexS 9 (.tmp 69) (.tmp 71)⟩, ⟨(some 74), none, .load true 9 (.tmp 73)⟩, ⟨(some 10), none, .alloc 148 [.int .i64 0, .int .i64 0, .int .u8 0, .int .u8 0, .int .u8 0, .int .u8 0, .int .u8 0, .int .u8 0, .slice none 0 0]⟩, ⟨none, none, .store 9 (.tmp 10) (.tmp 74)⟩])
 (.seq (.ops [⟨(some 75), none, .fieldA 0 (.tmp 10)⟩, ⟨(some 76), none, .load true 8 (.tmp 75)⟩, ⟨(some 77), none, .fieldA 0 (.tmp 4)⟩, ⟨(some 78), none, .load true 8 (.tmp 77)⟩, ⟨(some 79), none, .eqAgg false [0, 0, 0, 0, 0, 0, 0, 0] (.tmp 76) (.tmp 78)⟩])
 (.cond (.tmp 79) (.seq (.ops [⟨(some 80), none, .mov (.tmp 3)⟩, ⟨(some 81), none, .build [.int .i64 0, .int .i64 0] [(0, 1, .const (.int .i64 9)), (1, 1, .tmp 80)]⟩, ⟨none, none, .store 2 (.tmp 2) (.tmp 81)⟩])
 .ret) .skip))))
 (.ops [⟨(some 82), none, .bin .add (.tmp 71) (.const (.int .i64 1))⟩, ⟨(some 71), none, .mov (.tmp 82)⟩])))))))
 (.seq (.ops [⟨(some 83), none, .mov (.tmp 6)⟩, ⟨(some 84), none, .prim (.call ⟨.builtin .len, #[.tmp 83], #[157]⟩) [.tmp 83]⟩, ⟨(some 85), none, .fieldA 8 (.tmp 4)⟩, ⟨(some 86), none, .load false 1 (.tmp 85)⟩, ⟨(some 87), none, .len false (.tmp 86)⟩, ⟨(some 88), none, .bin .lss (.tmp 84) (.tmp 87)⟩])
 (.cond (.tmp 88) (.seq (.ops [⟨(some 89), none, .mov (.tmp 3)⟩, ⟨(some 90), none, .build [.int .i64 0, .int .i64 0] [(0, 1, .const (.int .i64 9)), (1, 1, .tmp 89)]⟩, ⟨none, none, .store 2 (.tmp 2) (.tmp 90)⟩])
 .ret) .skip))))))))))
 (.ops [⟨(some 91), none, .bin .add (.tmp 17) (.const (.int .i64 1))⟩, ⟨(some 17), none, .mov (.tmp 91)⟩])))))))
 (.seq (.ops [⟨(some 92), none, .call 61 []⟩, ⟨none, none, .store 2 (.tmp 2) (.tmp 92)⟩])
 .ret))))⟩
theorem x12_ok : yfunc Tryd.prog Tryd.f12 = some x12 := by kernel_rfl

/-- switchyard/tree.Check -/
def x51 : YF := ⟨46, [.tmp 2],
 (.seq (.ops [⟨(some 2), none, .eff .set [.const (.nilIface)]⟩])
 (.seq (.seq (.ops [⟨(some 6), none, .mov (.tmp 0)⟩, ⟨(some 7), none, .len false (.tmp 6)⟩, ⟨(some 8), none, .bin .gtr (.tmp 7) (.const (.int .i64 12))⟩])
 (.cond (.tmp 8) (.seq (.ops [⟨(some 9), none, .mkI 29 (.const (.int .i64 4))⟩, ⟨(some 2), none, .eff .set [.tmp 9]⟩])
 .ret) .skip))
 (.seq (.seq (.ops [⟨(some 10), none, .mov (.tmp 0)⟩, ⟨(some 11), none, .len false (.tmp 10)⟩, ⟨(some 12), none, .mov (.const (.int .i64 0))⟩])
 (.block 0 (.loop [false, false, true, true, true, true, false, false, false, false, false, false, true, true, true, true, true, true, true, true, true, true, true, true, true, true, true, true, true, true, true, true, true, true, true, true, true, true, true, true, true, true, true, true, true, true] (.seq (.ops [⟨(some 13), none, .bin .lss (.tmp 12) (.tmp 11)⟩])
 (.seq (.cond (.tmp 13) .skip (.exit 0))
 (.seq (.block 1 (.seq (.ops [⟨(some 14), none, .mov (.tmp 12)⟩, ⟨(some 15), none, .indexS 9 (.tmp 10) (.tmp 12)⟩, ⟨(some 16), none, .load true 9 (.tmp 15)⟩, ⟨(some 4), none, .alloc 148 [.int .i64 0, .int .i64 0, .int .u8 0, .int .u8 0, .int .u8 0, .int .u8 0, .int .u8 0, .int .u8 0, .slice none 0 0]⟩, ⟨(some 3), none, .eff .set [.tmp 14]⟩, ⟨none, none, .store 9 (.tmp 4) (.tmp 16)⟩])
 (.seq (.ops [⟨(some 5), none, .eff .set [.const (.int .i64 0)]⟩])
 (.seq (.block 2 (.seq (.ops [⟨(some 18), none, .fieldA 8 (.tmp 4)⟩, ⟨(some 19), none, .load false 1 (.tmp 18)⟩, ⟨(some 20), none, .len false (.tmp 19)⟩, ⟨(some 21), none, .bin .gtr (.tmp 20) (.const (.int .i64 8))⟩, ⟨(some 17), none, .eff .set [.tmp 21]⟩])
 (.cond (.tmp 17) (.ops [⟨(some 5), none, .eff .set [.const (.int .i64 4)]⟩]) (.seq (.ops [⟨(some 23), none, .fieldA 0 (.tmp 4)⟩, ⟨(some 24), none, .load true 8 (.tmp 23)⟩, ⟨(some 25), none, .call 104 [.tmp 24]⟩, ⟨(some 26), none, .un .not (.tmp 25)⟩, ⟨(some 27), none, .mov (.tmp 26)⟩, ⟨(some 28), (some (27, false)), .fieldA 8 (.tmp 4)⟩, ⟨(some 29), (some (27, false)), .load false 1 (.tmp 28)⟩, ⟨(some 30), (some (27, false)), .call 105 [.tmp 29, .func 106]⟩, ⟨(some 31), none, .pick (.tmp 27) (.const (.bool true)) (.tmp 30)⟩, ⟨(some 22), none, .eff .set [.tmp 31]⟩])
 (.cond (.tmp 22) (.ops [⟨(some 5), none, .eff .set [.const (.int .i64 1)]⟩]) (.seq (.draw [33, 34, 35, 36, 37, 32] [⟨0, [], ⟨(some 33), none, .mov (.tmp 0)⟩⟩, ⟨1, [], ⟨(some 34), none, .mov (.tmp 3)⟩⟩, ⟨2, [0, 1], ⟨(some 35), none, .more (.slcS 9 false true) [.tmp 33, .tmp 34]⟩⟩, ⟨3, [], ⟨(some 36), none, .load true 9 (.tmp 4)⟩⟩, ⟨4, [2, 0, 1, 3], ⟨(some 37), none, .call 108 [.tmp 35, .tmp 36]⟩⟩, ⟨5, [4, 2, 0, 1, 3], ⟨(some 32), none, .eff .set [.tmp 37]⟩⟩])
 (.cond (.tmp 32) (.ops [⟨(some 5), none, .eff .set [.const (.int .i64 9)]⟩]) .skip)))))))
 (.seq (.ops [⟨(some 38), none, .mov (.tmp 5)⟩, ⟨(some 39), none, .bin .neq (.tmp 38) (.const (.int .i64 0))⟩])
 (.cond (.tmp 39) (.seq (.ops [⟨(some 40), none, .mov (.tmp 5)⟩, ⟨(some 41), none, .mov (.tmp 3)⟩, ⟨(some 42), none, .build [.int .i64 0, .int .i64 0] [(0, 1, .tmp 40), (1, 1, .tmp 41)]⟩, ⟨(some 43), none, .box 193 (.tmp 42)⟩, ⟨(some 44), none, .mkI 191 (.tmp 43)⟩, ⟨(some 2), none, .eff .set [.tmp 44]⟩])
 .ret) .skip))))))
 (.ops [⟨(some 45), none, .bin .add (.tmp 12) (.const (.int .i64 1))⟩, ⟨(some 12), none, .mov (.tmp 45)⟩])))))))
 (.seq (.ops [⟨(some 2), none, .eff .set [.const (.nilIface)]⟩])
 .ret))))⟩
theorem x51_ok : yfunc Tryd.prog Tryd.f51 = some x51 := by kernel_rfl

/-- slices.ContainsFunc[[]switchyard/api.Member,switchyard/api.Member] -/
def x105 : YF := ⟨9, [.tmp 4],
 (.seq (.ops [⟨(some 4), none, .eff .set [.const (.bool false)]⟩])
 (.seq (.ops [⟨(some 5), none, .mov (.tmp 0)⟩, ⟨(some 6), none, .mov (.tmp 1)⟩, ⟨(some 7), none, .call 148 [.tmp 5, .tmp 6]⟩, ⟨(some 8), none, .bin .geq (.tmp 7) (.const (.int .i64 0))⟩, ⟨(some 4), none, .eff .set [.tmp 8]⟩])
 .ret))⟩
theorem x105_ok : yfunc Tryd.prog Tryd.f105 = some x105 := by kernel_rfl

/-- switchyard/tree.Check$1 -/
def x106 : YF := ⟨27, [.tmp 2],
 (.seq (.ops [⟨(some 1), none, .box 159 (.tmp 0)⟩, ⟨(some 2), none, .eff .set [.const (.bool false)]⟩])
 (.seq (.ops [⟨(some 3), none, .fieldA 0 (.tmp 1)⟩, ⟨(some 4), none, .load true 2 (.tmp 3)⟩, ⟨(some 5), none, .call 107 [.tmp 4]⟩, ⟨(some 6), none, .un .not (.tmp 5)⟩, ⟨(some 7), none, .mov (.tmp 6)⟩, ⟨(some 8), (some (7, false)), .fieldA 2 (.tmp 1)⟩, ⟨(some 9), (some (7, false)), .load false 1 (.tmp 8)⟩, ⟨(some 10), (some (7, false)), .bin .lss (.tmp 9) (.const (.int .i64 1))⟩, ⟨(some 11), none, .pick (.tmp 7) (.const (.bool true)) (.tmp 10)⟩, ⟨(some 12), none, .mov (.tmp 11)⟩, ⟨(some 13), (some (12, false)), .fieldA 2 (.tmp 1)⟩, ⟨(some 14), (some (12, false)), .load false 1 (.tmp 13)⟩, ⟨(some 15), (some (12, false)), .bin .gtr (.tmp 14) (.const (.int .i64 200000000))⟩, ⟨(some 16), none, .pick (.tmp 12) (.const (.bool true)) (.tmp 15)⟩, ⟨(some 17), none, .mov (.tmp 16)⟩, ⟨(some 18), (some (17, false)), .fieldA 3 (.tmp 1)⟩, ⟨(some 19), (some (17, false)), .load false 1 (.tmp 18)⟩, ⟨(some 20), (some (17, false)), .bin .lss (.tmp 19) (.const (.int .i64 0))⟩, ⟨(some 21), none, .pick (.tmp 17) (.const (.bool true)) (.tmp 20)⟩, ⟨(some 22), none, .mov (.tmp 21)⟩, ⟨(some 23), (some (22, false)), .fieldA 3 (.tmp 1)⟩, ⟨(some 24), (some (22, false)), .load false 1 (.tmp 23)⟩, ⟨(some 25), (some (22, false)), .bin .gtr (.tmp 24) (.const (.int .i64 63))⟩, ⟨(some 26), none, .pick (.tmp 22) (.const (.bool true)) (.tmp 25)⟩, ⟨(some 2), none, .eff .set [.tmp 26]⟩])
 .ret))⟩
theorem x106_ok : yfunc Tryd.prog Tryd.f106 = some x106 := by kernel_rfl

/-- switchyard/tree.twice -/
def x108 : YF := ⟨25, [.tmp 4],
 (.seq (.ops [⟨(some 3), none, .box 148 (.tmp 1)⟩, ⟨(some 4), none, .eff .set [.const (.bool false)]⟩])
 (.seq (.seq (.ops [⟨(some 7), none, .fieldA 8 (.tmp 3)⟩, ⟨(some 8), none, .load false 1 (.tmp 7)⟩, ⟨(some 9), none, .len false (.tmp 8)⟩, ⟨(some 10), none, .mov (.const (.int .i64 0))⟩])
 (.block 0 (.loop [false, false, false, false, true, true, true, false, false, false, true, true, true, true, true, true, true, true, true, true, true, true] (.seq (.ops [⟨(some 11), none, .bin .lss (.tmp 10) (.tmp 9)⟩])
 (.seq (.cond (.tmp 11) .skip (.exit 0))
 (.seq (.block 1 (.seq (.ops [⟨(some 12), none, .mov (.tmp 10)⟩, ⟨(some 13), none, .indexS 4 (.tmp 8) (.tmp 10)⟩, ⟨(some 14), none, .load true 4 (.tmp 13)⟩, ⟨(some 6), none, .alloc 159 [.int .i64 0, .int .i64 0, .int .i64 0, .int .i64 0]⟩, ⟨(some 5), none, .eff .set [.tmp 12]⟩, ⟨none, none, .store 4 (.tmp 6) (.tmp 14)⟩])
 (.seq (.ops [⟨(some 15), none, .fieldA 8 (.tmp 3)⟩, ⟨(some 16), none, .load false 1 (.tmp 15)⟩, ⟨(some 17), none, .mov (.tmp 5)⟩, ⟨(some 18), none, .more (.slcS 4 false true) [.tmp 16, .tmp 17]⟩, ⟨(some 19), none, .mkF 149 [] [.tmp 6]⟩, ⟨(some 20), none, .call 105 [.tmp 18, .tmp 19]⟩])
 (.cond (.tmp 20) (.seq (.ops [⟨(some 4), none, .eff .set [.const (.bool true)]⟩])
 .ret) .skip))))
 (.ops [⟨(some 21), none, .bin .add (.tmp 10) (.const (.int .i64 1))⟩, ⟨(some 10), none, .mov (.tmp 21)⟩])))))))
 (.seq (.ops [⟨(some 22), none, .mov (.tmp 0)⟩, ⟨(some 23), none, .mkF 151 [] [.tmp 3]⟩, ⟨(some 24), none, .call 150 [.tmp 22, .tmp 23]⟩, ⟨(some 4), none, .eff .set [.tmp 24]⟩])
 .ret)))⟩
theorem x108_ok : yfunc Tryd.prog Tryd.f108 = some x108 := by kernel_rfl

/-- slices.IndexFunc[[]switchyard/api.Member,switchyard/api.Member] -/
def x148 : YF := ⟨19, [.tmp 4],
 (.seq (.ops [⟨(some 4), none, .eff .set [.const (.int .i64 0)]⟩])
 (.seq (.seq (.ops [⟨(some 6), none, .mov (.tmp 0)⟩, ⟨(some 7), none, .len false (.tmp 6)⟩, ⟨(some 8), none, .mov (.const (.int .i64 0))⟩])
 (.block 0 (.loop [false, false, false, false, true, true, false, false, true, true, true, true, true, true, true, true, true, true, true] (.seq (.ops [⟨(some 9), none, .bin .lss (.tmp 8) (.tmp 7)⟩])
 (.seq (.cond (.tmp 9) .skip (.exit 0))
 (.seq (.block 1 (.seq (.ops [⟨(some 10), none, .mov (.tmp 8)⟩, ⟨(some 5), none, .eff .set [.tmp 10]⟩])
 (.seq (.ops [⟨(some 11), none, .mov (.tmp 1)⟩, ⟨(some 12), none, .mov (.tmp 0)⟩, ⟨(some 13), none, .mov (.tmp 5)⟩, ⟨(some 14), none, .indexS 4 (.tmp 12) (.tmp 13)⟩, ⟨(some 15), none, .load true 4 (.tmp 14)⟩, ⟨(some 16), none, .callv (.tmp 11) [.tmp 15]⟩])
 (.cond (.tmp 16) (.seq (.ops [⟨(some 17), none, .mov (.tmp 5)⟩, ⟨(some 4), none, .eff .set [.tmp 17]⟩])
 .ret) .skip))))
 (.ops [⟨(some 18), none, .bin .add (.tmp 8) (.const (.int .i64 1))⟩, ⟨(some 8), none, .mov (.tmp 18)⟩])))))))
 (.seq (.ops [⟨(some 4), none, .eff .set [.const (.int .i64 (-1))]⟩])
 .ret)))⟩
theorem x148_ok : yfunc Tryd.prog Tryd.f148 = some x148 := by kernel_rfl

/-- switchyard/tree.twice$1 -/
def x149 : YF := ⟨9, [.tmp 3],
 (.seq (.ops [⟨(some 2), none, .box 159 (.tmp 0)⟩, ⟨(some 3), none, .eff .set [.const (.bool false)]⟩])
 (.seq (.ops [⟨(some 4), none, .fieldA 0 (.tmp 2)⟩, ⟨(some 5), none, .load true 2 (.tmp 4)⟩, ⟨(some 6), none, .fieldA 0 (.tmp 1)⟩, ⟨(some 7), none, .load true 2 (.tmp 6)⟩, ⟨(some 8), none, .eqAgg false [0, 0] (.tmp 5) (.tmp 7)⟩, ⟨(some 3), none, .eff .set [.tmp 8]⟩])
 .ret))⟩
theorem x149_ok : yfunc Tryd.prog Tryd.f149 = some x149 := by kernel_rfl

/-- slices.ContainsFunc[[]switchyard/api.Node,switchyard/api.Node] -/
def x150 : YF := ⟨9, [.tmp 4],
 (.seq (.ops [⟨(some 4), none, .eff .set [.const (.bool false)]⟩])
 (.seq (.ops [⟨(some 5), none, .mov (.tmp 0)⟩, ⟨(some 6), none, .mov (.tmp 1)⟩, ⟨(some 7), none, .call 156 [.tmp 5, .tmp 6]⟩, ⟨(some 8), none, .bin .geq (.tmp 7) (.const (.int .i64 0))⟩, ⟨(some 4), none, .eff .set [.tmp 8]⟩])
 .ret))⟩
theorem x150_ok : yfunc Tryd.prog Tryd.f150 = some x150 := by kernel_rfl

/-- switchyard/tree.twice$2 -/
def x151 : YF := ⟨9, [.tmp 3],
 (.seq (.ops [⟨(some 2), none, .box 148 (.tmp 0)⟩, ⟨(some 3), none, .eff .set [.const (.bool false)]⟩])
 (.seq (.ops [⟨(some 4), none, .fieldA 0 (.tmp 2)⟩, ⟨(some 5), none, .load true 8 (.tmp 4)⟩, ⟨(some 6), none, .fieldA 0 (.tmp 1)⟩, ⟨(some 7), none, .load true 8 (.tmp 6)⟩, ⟨(some 8), none, .eqAgg false [0, 0, 0, 0, 0, 0, 0, 0] (.tmp 5) (.tmp 7)⟩, ⟨(some 3), none, .eff .set [.tmp 8]⟩])
 .ret))⟩
theorem x151_ok : yfunc Tryd.prog Tryd.f151 = some x151 := by kernel_rfl

/-- slices.IndexFunc[[]switchyard/api.Node,switchyard/api.Node] -/
def x156 : YF := ⟨19, [.tmp 4],
 (.seq (.ops [⟨(some 4), none, .eff .set [.const (.int .i64 0)]⟩])
 (.seq (.seq (.ops [⟨(some 6), none, .mov (.tmp 0)⟩, ⟨(some 7), none, .len false (.tmp 6)⟩, ⟨(some 8), none, .mov (.const (.int .i64 0))⟩])
 (.block 0 (.loop [false, false, false, false, true, true, false, false, true, true, true, true, true, true, true, true, true, true, true] (.seq (.ops [⟨(some 9), none, .bin .lss (.tmp 8) (.tmp 7)⟩])
 (.seq (.cond (.tmp 9) .skip (.exit 0))
 (.seq (.block 1 (.seq (.ops [⟨(some 10), none, .mov (.tmp 8)⟩, ⟨(some 5), none, .eff .set [.tmp 10]⟩])
 (.seq (.ops [⟨(some 11), none, .mov (.tmp 1)⟩, ⟨(some 12), none, .mov (.tmp 0)⟩, ⟨(some 13), none, .mov (.tmp 5)⟩, ⟨(some 14), none, .indexS 9 (.tmp 12) (.tmp 13)⟩, ⟨(some 15), none, .load true 9 (.tmp 14)⟩, ⟨(some 16), none, .callv (.tmp 11) [.tmp 15]⟩])
 (.cond (.tmp 16) (.seq (.ops [⟨(some 17), none, .mov (.tmp 5)⟩, ⟨(some 4), none, .eff .set [.tmp 17]⟩])
 .ret) .skip))))
 (.ops [⟨(some 18), none, .bin .add (.tmp 8) (.const (.int .i64 1))⟩, ⟨(some 8), none, .mov (.tmp 18)⟩])))))))
 (.seq (.ops [⟨(some 4), none, .eff .set [.const (.int .i64 (-1))]⟩])
 .ret)))⟩
theorem x156_ok : yfunc Tryd.prog Tryd.f156 = some x156 := by kernel_rfl
end Go.Proofs.YtedfohdgigbhiaaDoor
