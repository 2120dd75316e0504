/- Functions of this seat with the type tables looked up; each checked by the kernel. Conditions: none. -/
import Derived.Test.YtedfohdgigbhiaaDoorProg
import Derived.Test.YtedfohdgigbhiaaDoorBaseC
namespace Go.Proofs.YtedfohdgigbhiaaDoor
open Go.Sx
set_option maxRecDepth 100000
/-- switchyard/tree.Own -/
def x52 : YF := ⟨8, [.cell 2 true 21],
 (.seq (.ops [⟨(some 1), none, .box 148 (.tmp 0)⟩, ⟨(some 2), none, .alloc 43 [.int .i64 0, .int .i64 0, .int .u8 0, .int .u8 0, .int .u8 0, .int .u8 0, .int .u8 0, .int .u8 0, .int .i64 0, .int .i64 0, .int .i64 0, .int .u8 0, .int .u8 0, .int .u8 0, .int .u8 0, .int .u8 0, .int .u8 0, .int .i64 0, .int .i64 0, .int .i64 0, .int .i64 0]⟩])
 (.seq (.ops [⟨(some 3), none, .fieldA 0 (.tmp 1)⟩, ⟨(some 4), none, .load true 8 (.tmp 3)⟩, ⟨(some 5), none, .fieldA 0 (.tmp 1)⟩, ⟨(some 6), none, .load true 8 (.tmp 5)⟩, ⟨(some 7), none, .build [.int .i64 0, .int .i64 0, .int .u8 0, .int .u8 0, .int .u8 0, .int .u8 0, .int .u8 0, .int .u8 0, .int .i64 0, .int .i64 0, .int .i64 0, .int .u8 0, .int .u8 0, .int .u8 0, .int .u8 0, .int .u8 0, .int .u8 0, .int .i64 0, .int .i64 0, .int .i64 0, .int .i64 0] [(0, 8, .tmp 4), (9, 8, .tmp 6)]⟩, ⟨none, none, .store 21 (.tmp 2) (.tmp 7)⟩])
 .ret))⟩
theorem x52_ok : yfunc Tryd.prog Tryd.f52 = some x52 := by kernel_rfl

/-- switchyard/tree.Hears -/
def x55 : YF := ⟨30, [.cell 6 true 21],
 (.seq (.ops [⟨(some 3), none, .box 148 (.tmp 0)⟩, ⟨(some 4), none, .box 43 (.tmp 1)⟩, ⟨(some 6), none, .alloc 43 [.int .i64 0, .int .i64 0, .int .u8 0, .int .u8 0, .int .u8 0, .int .u8 0, .int .u8 0, .int .u8 0, .int .i64 0, .int .i64 0, .int .i64 0, .int .u8 0, .int .u8 0, .int .u8 0, .int .u8 0, .int .u8 0, .int .u8 0, .int .i64 0, .int .i64 0, .int .i64 0, .int .i64 0]⟩])
 (.seq (.seq (.ops [⟨(some 7), none, .load true 9 (.tmp 3)⟩, ⟨(some 8), none, .mov (.tmp 2)⟩, ⟨(some 9), none, .call 109 [.tmp 7, .tmp 8]⟩, ⟨(some 10), none, .un .not (.tmp 9)⟩])
 (.cond (.tmp 10) (.seq (.ops [⟨(some 11), none, .build [.int .i64 0, .int .i64 0, .int .u8 0, .int .u8 0, .int .u8 0, .int .u8 0, .int .u8 0, .int .u8 0, .int .i64 0, .int .i64 0, .int .i64 0, .int .u8 0, .int .u8 0, .int .u8 0, .int .u8 0, .int .u8 0, .int .u8 0, .int .i64 0, .int .i64 0, .int .i64 0, .int .i64 0] []⟩, ⟨none, none, .store 21 (.tmp 6) (.tmp 11)⟩])
 .ret) .skip))
 (.seq (.draw [12, 13, 14, 15, 16, 17, 18, 19, 20, 21] [⟨0, [], ⟨(some 12), none, .fieldA 8 (.tmp 4)⟩⟩, ⟨1, [0], ⟨(some 13), none, .load false 1 (.tmp 12)⟩⟩, ⟨2, [], ⟨(some 14), none, .fieldA 8 (.tmp 3)⟩⟩, ⟨3, [2], ⟨(some 15), none, .load false 1 (.tmp 14)⟩⟩, ⟨4, [], ⟨(some 16), none, .mov (.tmp 2)⟩⟩, ⟨5, [3, 2, 4], ⟨(some 17), none, .indexS 4 (.tmp 15) (.tmp 16)⟩⟩, ⟨6, [5, 3, 2, 4], ⟨(some 18), none, .fieldA 2 (.tmp 17)⟩⟩, ⟨7, [6, 5, 3, 2, 4], ⟨(some 19), none, .load false 1 (.tmp 18)⟩⟩, ⟨8, [1, 0, 7, 6, 5, 3, 2, 4], ⟨(some 20), none, .bin .add (.tmp 13) (.tmp 19)⟩⟩, ⟨9, [8, 1, 0, 7, 6, 5, 3, 2, 4], ⟨(some 21), none, .fieldA 8 (.tmp 4)⟩⟩, ⟨10, [9, 8, 1, 0, 7, 6, 5, 3, 2, 4], ⟨none, none, .store 1 (.tmp 21) (.tmp 20)⟩⟩])
 (.seq (.ops [⟨(some 22), none, .fieldA 8 (.tmp 3)⟩, ⟨(some 23), none, .load false 1 (.tmp 22)⟩, ⟨(some 24), none, .mov (.tmp 2)⟩, ⟨(some 25), none, .indexS 4 (.tmp 23) (.tmp 24)⟩, ⟨(some 26), none, .fieldA 0 (.tmp 25)⟩, ⟨(some 27), none, .load true 2 (.tmp 26)⟩, ⟨(some 28), none, .fieldA 19 (.tmp 4)⟩, ⟨none, none, .store 2 (.tmp 28) (.tmp 27)⟩])
 (.seq (.ops [⟨(some 29), none, .load true 21 (.tmp 4)⟩, ⟨none, none, .store 21 (.tmp 6) (.tmp 29)⟩])
 .ret)))))⟩
theorem x55_ok : yfunc Tryd.prog Tryd.f55 = some x55 := by kernel_rfl

/-- switchyard/tree.Tells -/
def x68 : YF := ⟨25, [.cell 6 true 21],
 (.seq (.ops [⟨(some 3), none, .box 148 (.tmp 0)⟩, ⟨(some 4), none, .box 43 (.tmp 1)⟩, ⟨(some 6), none, .alloc 43 [.int .i64 0, .int .i64 0, .int .u8 0, .int .u8 0, .int .u8 0, .int .u8 0, .int .u8 0, .int .u8 0, .int .i64 0, .int .i64 0, .int .i64 0, .int .u8 0, .int .u8 0, .int .u8 0, .int .u8 0, .int .u8 0, .int .u8 0, .int .i64 0, .int .i64 0, .int .i64 0, .int .i64 0]⟩])
 (.seq (.seq (.ops [⟨(some 7), none, .load true 9 (.tmp 3)⟩, ⟨(some 8), none, .mov (.tmp 2)⟩, ⟨(some 9), none, .call 109 [.tmp 7, .tmp 8]⟩, ⟨(some 10), none, .un .not (.tmp 9)⟩])
 (.cond (.tmp 10) (.seq (.ops [⟨(some 11), none, .build [.int .i64 0, .int .i64 0, .int .u8 0, .int .u8 0, .int .u8 0, .int .u8 0, .int .u8 0, .int .u8 0, .int .i64 0, .int .i64 0, .int .i64 0, .int .u8 0, .int .u8 0, .int .u8 0, .int .u8 0, .int .u8 0, .int .u8 0, .int .i64 0, .int .i64 0, .int .i64 0, .int .i64 0] []⟩, ⟨none, none, .store 21 (.tmp 6) (.tmp 11)⟩])
 .ret) .skip))
 (.seq (.draw [12, 13, 14, 15, 16, 17, 18, 19, 20, 21, 22, 23, 24] [⟨0, [], ⟨(some 12), none, .fieldA 0 (.tmp 4)⟩⟩, ⟨1, [0], ⟨(some 13), none, .load true 8 (.tmp 12)⟩⟩, ⟨2, [], ⟨(some 14), none, .fieldA 8 (.tmp 4)⟩⟩, ⟨3, [2], ⟨(some 15), none, .load false 1 (.tmp 14)⟩⟩, ⟨4, [], ⟨(some 16), none, .fieldA 0 (.tmp 3)⟩⟩, ⟨5, [4], ⟨(some 17), none, .load true 8 (.tmp 16)⟩⟩, ⟨6, [], ⟨(some 18), none, .fieldA 8 (.tmp 3)⟩⟩, ⟨7, [6], ⟨(some 19), none, .load false 1 (.tmp 18)⟩⟩, ⟨8, [], ⟨(some 20), none, .mov (.tmp 2)⟩⟩, ⟨9, [7, 6, 8], ⟨(some 21), none, .indexS 4 (.tmp 19) (.tmp 20)⟩⟩, ⟨10, [9, 7, 6, 8], ⟨(some 22), none, .fieldA 0 (.tmp 21)⟩⟩, ⟨11, [10, 9, 7, 6, 8], ⟨(some 23), none, .load true 2 (.tmp 22)⟩⟩, ⟨12, [1, 0, 3, 2, 5, 4, 11, 10, 9, 7, 6, 8], ⟨(some 24), none, .build [.int .i64 0, .int .i64 0, .int .u8 0, .int .u8 0, .int .u8 0, .int .u8 0, .int .u8 0, .int .u8 0, .int .i64 0, .int .i64 0, .int .i64 0, .int .u8 0, .int .u8 0, .int .u8 0, .int .u8 0, .int .u8 0, .int .u8 0, .int .i64 0, .int .i64 0, .int .i64 0, .int .i64 0] [(0, 8, .tmp 13), (8, 1, .tmp 15), (9, 8, .tmp 17), (17, 2, .tmp 23)]⟩⟩, ⟨13, [12, 1, 0, 3, 2, 5, 4, 11, 10, 9, 7, 6, 8], ⟨none, none, .store 21 (.tmp 6) (.tmp 24)⟩⟩])
 .ret)))⟩
theorem x68_ok : yfunc Tryd.prog Tryd.f68 = some x68 := by kernel_rfl

/-- switchyard/tree.Role -/
def x69 : YF := ⟨33, [.tmp 8],
 (.seq (.ops [⟨(some 4), none, .box 148 (.tmp 0)⟩, ⟨(some 5), none, .box 43 (.tmp 1)⟩, ⟨(some 8), none, .eff .set [.const (.int .i64 0)]⟩])
 (.seq (.block 0 (.seq (.ops [⟨(some 10), none, .load true 9 (.tmp 4)⟩, ⟨(some 11), none, .mov (.tmp 2)⟩, ⟨(some 12), none, .call 109 [.tmp 10, .tmp 11]⟩, ⟨(some 13), none, .un .not (.tmp 12)⟩, ⟨(some 9), none, .eff .set [.tmp 13]⟩])
 (.cond (.tmp 9) (.seq (.ops [⟨(some 8), none, .eff .set [.const (.int .i64 0)]⟩])
 .ret) (.seq (.ops [⟨(some 15), none, .mov (.tmp 3)⟩, ⟨(some 14), none, .eff .set [.tmp 15]⟩])
 (.cond (.tmp 14) (.seq (.ops [⟨(some 8), none, .eff .set [.const (.int .i64 1)]⟩])
 .ret) (.seq (.draw [17, 18, 19, 20, 21, 22, 23, 24, 25, 26, 27, 28, 29, 30, 31, 32, 16] [⟨0, [], ⟨(some 17), none, .fieldA 0 (.tmp 5)⟩⟩, ⟨1, [0], ⟨(some 18), none, .load true 8 (.tmp 17)⟩⟩, ⟨2, [], ⟨(some 19), none, .fieldA 0 (.tmp 4)⟩⟩, ⟨3, [2], ⟨(some 20), none, .load true 8 (.tmp 19)⟩⟩, ⟨4, [1, 0, 3, 2], ⟨(some 21), none, .eqAgg true [0, 0, 0, 0, 0, 0, 0, 0] (.tmp 18) (.tmp 20)⟩⟩, ⟨5, [4, 1, 0, 3, 2], ⟨(some 22), none, .mov (.tmp 21)⟩⟩, ⟨6, [5, 4, 1, 0, 3, 2], ⟨(some 23), (some (22, true)), .fieldA 19 (.tmp 5)⟩⟩, ⟨7, [6, 5, 4, 1, 0, 3, 2], ⟨(some 24), (some (22, true)), .load true 2 (.tmp 23)⟩⟩, ⟨8, [5, 4, 1, 0, 3, 2], ⟨(some 25), (some (22, true)), .fieldA 8 (.tmp 4)⟩⟩, ⟨9, [8, 5, 4, 1, 0, 3, 2], ⟨(some 26), (some (22, true)), .load false 1 (.tmp 25)⟩⟩, ⟨10, [5, 4, 1, 0, 3, 2], ⟨(some 27), (some (22, true)), .mov (.tmp 2)⟩⟩, ⟨11, [9, 8, 10, 5, 4, 1, 0, 3, 2], ⟨(some 28), (some (22, true)), .indexS 4 (.tmp 26) (.tmp 27)⟩⟩, ⟨12, [11, 9, 8, 10, 5, 4, 1, 0, 3, 2], ⟨(some 29), (some (22, true)), .fieldA 0 (.tmp 28)⟩⟩, ⟨13, [12, 11, 9, 8, 10, 5, 4, 1, 0, 3, 2], ⟨(some 30), (some (22, true)), .load true 2 (.tmp 29)⟩⟩, ⟨14, [7, 6, 13, 12, 11, 9, 8, 10, 5, 4, 1, 0, 3, 2], ⟨(some 31), (some (22, true)), .eqAgg false [0, 0] (.tmp 24) (.tmp 30)⟩⟩, ⟨15, [14, 7, 6, 13, 12, 11, 9, 8, 10, 5, 4, 1, 0, 3, 2], ⟨(some 32), none, .pick (.tmp 22) (.tmp 31) (.const (.bool false))⟩⟩, ⟨16, [15, 14, 7, 6, 13, 12, 11, 9, 8, 10, 5, 4, 1, 0, 3, 2], ⟨(some 16), none, .eff .set [.tmp 32]⟩⟩])
 (.cond (.tmp 16) (.seq (.ops [⟨(some 8), none, .eff .set [.const (.int .i64 2)]⟩])
 .ret) .skip)))))))
 (.seq (.ops [⟨(some 8), none, .eff .set [.const (.int .i64 3)]⟩])
 .ret)))⟩
theorem x69_ok : yfunc Tryd.prog Tryd.f69 = some x69 := by kernel_rfl

/-- switchyard/switchyardref.Tells -/
def x70 : YF := ⟨28, [.cell 6 true 21],
 (.seq (.ops [⟨(some 3), none, .box 148 (.tmp 0)⟩, ⟨(some 4), none, .box 43 (.tmp 1)⟩, ⟨(some 6), none, .alloc 43 [.int .i64 0, .int .i64 0, .int .u8 0, .int .u8 0, .int .u8 0, .int .u8 0, .int .u8 0, .int .u8 0, .int .i64 0, .int .i64 0, .int .i64 0, .int .u8 0, .int .u8 0, .int .u8 0, .int .u8 0, .int .u8 0, .int .u8 0, .int .i64 0, .int .i64 0, .int .i64 0, .int .i64 0]⟩])
 (.seq (.seq (.ops [⟨(some 7), none, .mov (.tmp 2)⟩, ⟨(some 8), none, .fieldA 8 (.tmp 3)⟩, ⟨(some 9), none, .load false 1 (.tmp 8)⟩, ⟨(some 10), none, .len false (.tmp 9)⟩, ⟨(some 11), none, .bin .sub (.tmp 10) (.const (.int .i64 1))⟩, ⟨(some 12), none, .call 60 [.tmp 7, .const (.int .i64 0), .tmp 11]⟩, ⟨(some 13), none, .un .not (.tmp 12)⟩])
 (.cond (.tmp 13) (.seq (.ops [⟨(some 14), none, .build [.int .i64 0, .int .i64 0, .int .u8 0, .int .u8 0, .int .u8 0, .int .u8 0, .int .u8 0, .int .u8 0, .int .i64 0, .int .i64 0, .int .i64 0, .int .u8 0, .int .u8 0, .int .u8 0, .int .u8 0, .int .u8 0, .int .u8 0, .int .i64 0, .int .i64 0, .int .i64 0, .int .i64 0] []⟩, ⟨none, none, .store 21 (.tmp 6) (.tmp 14)⟩])
 .ret) .skip))
 (.seq (.draw [15, 16, 17, 18, 19, 20, 21, 22, 23, 24, 25, 26, 27] [⟨0, [], ⟨(some 15), none, .fieldA 0 (.tmp 4)⟩⟩, ⟨1, [0], ⟨(some 16), none, .load true 8 (.tmp 15)⟩⟩, ⟨2, [], ⟨(some 17), none, .fieldA 8 (.tmp 4)⟩⟩, ⟨3, [2], ⟨(some 18), none, .load false 1 (.tmp 17)⟩⟩, ⟨4, [], ⟨(some 19), none, .fieldA 0 (.tmp 3)⟩⟩, ⟨5, [4], ⟨(some 20), none, .load true 8 (.tmp 19)⟩⟩, ⟨6, [], ⟨(some 21), none, .fieldA 8 (.tmp 3)⟩⟩, ⟨7, [6], ⟨(some 22), none, .load false 1 (.tmp 21)⟩⟩, ⟨8, [], ⟨(some 23), none, .mov (.tmp 2)⟩⟩, ⟨9, [7, 6, 8], ⟨(some 24), none, .indexS 4 (.tmp 22) (.tmp 23)⟩⟩, ⟨10, [9, 7, 6, 8], ⟨(some 25), none, .fieldA 0 (.tmp 24)⟩⟩, ⟨11, [10, 9, 7, 6, 8], ⟨(some 26), none, .load true 2 (.tmp 25)⟩⟩, ⟨12, [1, 0, 3, 2, 5, 4, 11, 10, 9, 7, 6, 8], ⟨(some 27), none, .build [.int .i64 0, .int .i64 0, .int .u8 0, .int .u8 0, .int .u8 0, .int .u8 0, .int .u8 0, .int .u8 0, .int .i64 0, .int .i64 0, .int .i64 0, .int .u8 0, .int .u8 0, .int .u8 0, .int .u8 0, .int .u8 0, .int .u8 0, .int .i64 0, .int .i64 0, .int .i64 0, .int .i64 0] [(0, 8, .tmp 16), (8, 1, .tmp 18), (9, 8, .tmp 20), (17, 2, .tmp 26)]⟩⟩, ⟨13, [12, 1, 0, 3, 2, 5, 4, 11, 10, 9, 7, 6, 8], ⟨none, none, .store 21 (.tmp 6) (.tmp 27)⟩⟩])
 .ret)))⟩
theorem x70_ok : yfunc Tryd.prog Tryd.f70 = some x70 := by kernel_rfl

/-- switchyard/switchyardref.Role -/
def x71 : YF := ⟨33, [.tmp 8],
 (.seq (.ops [⟨(some 4), none, .box 148 (.tmp 0)⟩, ⟨(some 5), none, .box 43 (.tmp 1)⟩, ⟨(some 8), none, .eff .set [.const (.int .i64 0)]⟩])
 (.seq (.seq (.ops [⟨(some 9), none, .mov (.tmp 2)⟩, ⟨(some 10), none, .fieldA 8 (.tmp 4)⟩, ⟨(some 11), none, .load false 1 (.tmp 10)⟩, ⟨(some 12), none, .len false (.tmp 11)⟩, ⟨(some 13), none, .bin .sub (.tmp 12) (.const (.int .i64 1))⟩, ⟨(some 14), none, .call 60 [.tmp 9, .const (.int .i64 0), .tmp 13]⟩, ⟨(some 15), none, .un .not (.tmp 14)⟩])
 (.cond (.tmp 15) (.seq (.ops [⟨(some 8), none, .eff .set [.const (.int .i64 0)]⟩])
 .ret) .skip))
 (.seq (.seq (.ops [⟨(some 16), none, .mov (.tmp 3)⟩])
 (.cond (.tmp 16) (.seq (.ops [⟨(some 8), none, .eff .set [.const (.int .i64 1)]⟩])
 .ret) .skip))
 (.seq (.seq (.draw [17, 18, 19, 20, 21, 22, 23, 24, 25, 26, 27, 28, 29, 30, 31, 32] [⟨0, [], ⟨(some 17), none, .fieldA 0 (.tmp 5)⟩⟩, ⟨1, [0], ⟨(some 18), none, .load true 8 (.tmp 17)⟩⟩, ⟨2, [], ⟨(some 19), none, .fieldA 0 (.tmp 4)⟩⟩, ⟨3, [2], ⟨(some 20), none, .load true 8 (.tmp 19)⟩⟩, ⟨4, [1, 0, 3, 2], ⟨(some 21), none, .eqAgg true [0, 0, 0, 0, 0, 0, 0, 0] (.tmp 18) (.tmp 20)⟩⟩, ⟨5, [4, 1, 0, 3, 2], ⟨(some 22), none, .mov (.tmp 21)⟩⟩, ⟨6, [5, 4, 1, 0, 3, 2], ⟨(some 23), (some (22, true)), .fieldA 19 (.tmp 5)⟩⟩, ⟨7, [6, 5, 4, 1, 0, 3, 2], ⟨(some 24), (some (22, true)), .load true 2 (.tmp 23)⟩⟩, ⟨8, [5, 4, 1, 0, 3, 2], ⟨(some 25), (some (22, true)), .fieldA 8 (.tmp 4)⟩⟩, ⟨9, [8, 5, 4, 1, 0, 3, 2], ⟨(some 26), (some (22, true)), .load false 1 (.tmp 25)⟩⟩, ⟨10, [5, 4, 1, 0, 3, 2], ⟨(some 27), (some (22, true)), .mov (.tmp 2)⟩⟩, ⟨11, [9, 8, 10, 5, 4, 1, 0, 3, 2], ⟨(some 28), (some (22, true)), .indexS 4 (.tmp 26) (.tmp 27)⟩⟩, ⟨12, [11, 9, 8, 10, 5, 4, 1, 0, 3, 2], ⟨(some 29), (some (22, true)), .fieldA 0 (.tmp 28)⟩⟩, ⟨13, [12, 11, 9, 8, 10, 5, 4, 1, 0, 3, 2], ⟨(some 30), (some (22, true)), .load true 2 (.tmp 29)⟩⟩, ⟨14, [7, 6, 13, 12, 11, 9, 8, 10, 5, 4, 1, 0, 3, 2], ⟨(some 31), (some (22, true)), .eqAgg false [0, 0] (.tmp 24) (.tmp 30)⟩⟩, ⟨15, [14, 7, 6, 13, 12, 11, 9, 8, 10, 5, 4, 1, 0, 3, 2], ⟨(some 32), none, .pick (.tmp 22) (.tmp 31) (.const (.bool false))⟩⟩])
 (.cond (.tmp 32) (.seq (.ops [⟨(some 8), none, .eff .set [.const (.int .i64 2)]⟩])
 .ret) .skip))
 (.seq (.ops [⟨(some 8), none, .eff .set [.const (.int .i64 3)]⟩])
 .ret)))))⟩
theorem x71_ok : yfunc Tryd.prog Tryd.f71 = some x71 := by kernel_rfl

/-- switchyard/switchyardref.Hears -/
def x75 : YF := ⟨33, [.cell 6 true 21],
 (.seq (.ops [⟨(some 3), none, .box 148 (.tmp 0)⟩, ⟨(some 4), none, .box 43 (.tmp 1)⟩, ⟨(some 6), none, .alloc 43 [.int .i64 0, .int .i64 0, .int .u8 0, .int .u8 0, .int .u8 0, .int .u8 0, .int .u8 0, .int .u8 0, .int .i64 0, .int .i64 0, .int .i64 0, .int .u8 0, .int .u8 0, .int .u8 0, .int .u8 0, .int .u8 0, .int .u8 0, .int .i64 0, .int .i64 0, .int .i64 0, .int .i64 0]⟩])
 (.seq (.seq (.ops [⟨(some 7), none, .mov (.tmp 2)⟩, ⟨(some 8), none, .fieldA 8 (.tmp 3)⟩, ⟨(some 9), none, .load false 1 (.tmp 8)⟩, ⟨(some 10), none, .len false (.tmp 9)⟩, ⟨(some 11), none, .bin .sub (.tmp 10) (.const (.int .i64 1))⟩, ⟨(some 12), none, .call 60 [.tmp 7, .const (.int .i64 0), .tmp 11]⟩, ⟨(some 13), none, .un .not (.tmp 12)⟩])
 (.cond (.tmp 13) (.seq (.ops [⟨(some 14), none, .build [.int .i64 0, .int .i64 0, .int .u8 0, .int .u8 0, .int .u8 0, .int .u8 0, .int .u8 0, .int .u8 0, .int .i64 0, .int .i64 0, .int .i64 0, .int .u8 0, .int .u8 0, .int .u8 0, .int .u8 0, .int .u8 0, .int .u8 0, .int .i64 0, .int .i64 0, .int .i64 0, .int .i64 0] []⟩, ⟨none, none, .store 21 (.tmp 6) (.tmp 14)⟩])
 .ret) .skip))
 (.seq (.draw [15, 16, 17, 18, 19, 20, 21, 22, 23, 24, 25, 26, 27, 28, 29, 30, 31] [⟨0, [], ⟨(some 15), none, .fieldA 8 (.tmp 4)⟩⟩, ⟨1, [0], ⟨(some 16), none, .load false 1 (.tmp 15)⟩⟩, ⟨2, [], ⟨(some 17), none, .fieldA 8 (.tmp 3)⟩⟩, ⟨3, [2], ⟨(some 18), none, .load false 1 (.tmp 17)⟩⟩, ⟨4, [], ⟨(some 19), none, .mov (.tmp 2)⟩⟩, ⟨5, [3, 2, 4], ⟨(some 20), none, .indexS 4 (.tmp 18) (.tmp 19)⟩⟩, ⟨6, [5, 3, 2, 4], ⟨(some 21), none, .fieldA 2 (.tmp 20)⟩⟩, ⟨7, [6, 5, 3, 2, 4], ⟨(some 22), none, .load false 1 (.tmp 21)⟩⟩, ⟨8, [1, 0, 7, 6, 5, 3, 2, 4], ⟨(some 23), none, .bin .add (.tmp 16) (.tmp 22)⟩⟩, ⟨9, [], ⟨(some 24), none, .fieldA 8 (.tmp 3)⟩⟩, ⟨10, [9], ⟨(some 25), none, .load false 1 (.tmp 24)⟩⟩, ⟨11, [], ⟨(some 26), none, .mov (.tmp 2)⟩⟩, ⟨12, [10, 9, 11], ⟨(some 27), none, .indexS 4 (.tmp 25) (.tmp 26)⟩⟩, ⟨13, [12, 10, 9, 11], ⟨(some 28), none, .fieldA 0 (.tmp 27)⟩⟩, ⟨14, [13, 12, 10, 9, 11], ⟨(some 29), none, .load true 2 (.tmp 28)⟩⟩, ⟨15, [8, 1, 0, 7, 6, 5, 3, 2, 4], ⟨(some 30), none, .fieldA 8 (.tmp 4)⟩⟩, ⟨16, [15, 8, 1, 0, 7, 6, 5, 3, 2, 4], ⟨none, none, .store 1 (.tmp 30) (.tmp 23)⟩⟩, ⟨17, [14, 13, 12, 10, 9, 11, 16, 15, 8, 1, 0, 7, 6, 5, 3, 2, 4], ⟨(some 31), none, .fieldA 19 (.tmp 4)⟩⟩, ⟨18, [17, 14, 13, 12, 10, 9, 11, 16, 15, 8, 1, 0, 7, 6, 5, 3, 2, 4], ⟨none, none, .store 2 (.tmp 31) (.tmp 29)⟩⟩])
 (.seq (.ops [⟨(some 32), none, .load true 21 (.tmp 4)⟩, ⟨none, none, .store 21 (.tmp 6) (.tmp 32)⟩])
 .ret))))⟩
theorem x75_ok : yfunc Tryd.prog Tryd.f75 = some x75 := by kernel_rfl

/-- switchyard/tree.there -/
def x109 : YF := ⟨14, [.tmp 4],
 (.seq (.ops [⟨(some 2), none, .box 148 (.tmp 0)⟩, ⟨(some 4), none, .eff .set [.const (.bool false)]⟩])
 (.seq (.ops [⟨(some 5), none, .mov (.tmp 1)⟩, ⟨(some 6), none, .bin .geq (.tmp 5) (.const (.int .i64 0))⟩, ⟨(some 7), none, .mov (.tmp 6)⟩, ⟨(some 8), (some (7, true)), .mov (.tmp 1)⟩, ⟨(some 9), (some (7, true)), .fieldA 8 (.tmp 2)⟩, ⟨(some 10), (some (7, true)), .load false 1 (.tmp 9)⟩, ⟨(some 11), (some (7, true)), .len false (.tmp 10)⟩, ⟨(some 12), (some (7, true)), .bin .lss (.tmp 8) (.tmp 11)⟩, ⟨(some 13), none, .pick (.tmp 7) (.tmp 12) (.const (.bool false))⟩, ⟨(some 4), none, .eff .set [.tmp 13]⟩])
 .ret))⟩
theorem x109_ok : yfunc Tryd.prog Tryd.f109 = some x109 := by kernel_rfl
end Go.Proofs.YtedfohdgigbhiaaDoor
