/- Functions of this seat with the type tables looked up; each checked by the kernel. Conditions: none. -/
import Derived.Test.YtedfohdgigbhiaaDoorProg
import Derived.Test.YtedfohdgigbhiaaDoorBaseC
namespace Go.Proofs.YtedfohdgigbhiaaDoor
open Go.Sx
set_option maxRecDepth 100000
/-- switchyard/prio.Better -/
def x56 : YF := ⟨33, [.tmp 4],
 (.seq (.ops [⟨(some 2), none, .box 43 (.tmp 0)⟩, ⟨(some 3), none, .box 43 (.tmp 1)⟩, ⟨(some 4), none, .eff .set [.const (.bool false)]⟩])
 (.seq (.draw [5, 6, 7, 8, 10, 11, 12, 13, 15, 16, 17, 18, 20, 21, 22, 23, 25, 26, 27, 28, 9, 14, 19, 24, 29, 30, 31, 32, 4] [⟨0, [], ⟨(some 5), none, .fieldA 0 (.tmp 2)⟩⟩, ⟨1, [0], ⟨(some 6), none, .load true 8 (.tmp 5)⟩⟩, ⟨2, [], ⟨(some 7), none, .fieldA 0 (.tmp 3)⟩⟩, ⟨3, [2], ⟨(some 8), none, .load true 8 (.tmp 7)⟩⟩, ⟨5, [], ⟨(some 10), none, .fieldA 8 (.tmp 2)⟩⟩, ⟨6, [5], ⟨(some 11), none, .load false 1 (.tmp 10)⟩⟩, ⟨7, [], ⟨(some 12), none, .fieldA 8 (.tmp 3)⟩⟩, ⟨8, [7], ⟨(some 13), none, .load false 1 (.tmp 12)⟩⟩, ⟨10, [], ⟨(some 15), none, .fieldA 9 (.tmp 2)⟩⟩, ⟨11, [10], ⟨(some 16), none, .load true 8 (.tmp 15)⟩⟩, ⟨12, [], ⟨(some 17), none, .fieldA 9 (.tmp 3)⟩⟩, ⟨13, [12], ⟨(some 18), none, .load true 8 (.tmp 17)⟩⟩, ⟨15, [], ⟨(some 20), none, .fieldA 17 (.tmp 2)⟩⟩, ⟨16, [15], ⟨(some 21), none, .load true 2 (.tmp 20)⟩⟩, ⟨17, [], ⟨(some 22), none, .fieldA 17 (.tmp 3)⟩⟩, ⟨18, [17], ⟨(some 23), none, .load true 2 (.tmp 22)⟩⟩, ⟨20, [], ⟨(some 25), none, .fieldA 19 (.tmp 2)⟩⟩, ⟨21, [20], ⟨(some 26), none, .load true 2 (.tmp 25)⟩⟩, ⟨22, [], ⟨(some 27), none, .fieldA 19 (.tmp 3)⟩⟩, ⟨23, [22], ⟨(some 28), none, .load true 2 (.tmp 27)⟩⟩, ⟨4, [1, 0, 3, 2], ⟨(some 9), none, .call 111 [.tmp 6, .tmp 8]⟩⟩, ⟨9, [6, 5, 8, 7, 4, 1, 0, 3, 2], ⟨(some 14), none, .call 112 [.tmp 11, .tmp 13]⟩⟩, ⟨14, [11, 10, 13, 12, 9, 6, 5, 8, 7, 4, 1, 0, 3, 2], ⟨(some 19), none, .call 111 [.tmp 16, .tmp 18]⟩⟩, ⟨19, [16, 15, 18, 17, 14, 11, 10, 13, 12, 9, 6, 5, 8, 7, 4, 1, 0, 3, 2], ⟨(some 24), none, .call 113 [.tmp 21, .tmp 23]⟩⟩, ⟨24, [21, 20, 23, 22, 19, 16, 15, 18, 17, 14, 11, 10, 13, 12, 9, 6, 5, 8, 7, 4, 1, 0, 3, 2], ⟨(some 29), none, .call 113 [.tmp 26, .tmp 28]⟩⟩, ⟨25, [24, 21, 20, 23, 22, 19, 16, 15, 18, 17, 14, 11, 10, 13, 12, 9, 6, 5, 8, 7, 4, 1, 0, 3, 2], ⟨(some 30), none, .bslice 3 5 [.int .i64 0, .int .i64 0, .int .i64 0, .int .i64 0, .int .i64 0] [(0, 1, .tmp 9), (1, 1, .tmp 14), (2, 1, .tmp 19), (3, 1, .tmp 24), (4, 1, .tmp 29)]⟩⟩, ⟨26, [25, 24, 21, 20, 23, 22, 19, 16, 15, 18, 17, 14, 11, 10, 13, 12, 9, 6, 5, 8, 7, 4, 1, 0, 3, 2], ⟨(some 31), none, .call 110 [.tmp 30]⟩⟩, ⟨27, [26, 25, 24, 21, 20, 23, 22, 19, 16, 15, 18, 17, 14, 11, 10, 13, 12, 9, 6, 5, 8, 7, 4, 1, 0, 3, 2], ⟨(some 32), none, .bin .lss (.tmp 31) (.const (.int .i64 0))⟩⟩, ⟨28, [27, 26, 25, 24, 21, 20, 23, 22, 19, 16, 15, 18, 17, 14, 11, 10, 13, 12, 9, 6, 5, 8, 7, 4, 1, 0, 3, 2], ⟨(some 4), none, .eff .set [.tmp 32]⟩⟩])
 .ret))⟩
theorem x56_ok : yfunc Tryd.prog Tryd.f56 = some x56 := by kernel_rfl

/-- switchyard/switchyardref.BridgeLess -/
def x64 : YF := ⟨11, [.tmp 4],
 (.seq (.ops [⟨(some 2), none, .box 39 (.tmp 0)⟩, ⟨(some 3), none, .box 39 (.tmp 1)⟩, ⟨(some 4), none, .eff .set [.const (.bool false)]⟩])
 (.seq (.draw [5, 7, 6, 8, 9, 10, 4] [⟨0, [], ⟨(some 5), none, .load true 8 (.tmp 2)⟩⟩, ⟨2, [], ⟨(some 7), none, .load true 8 (.tmp 3)⟩⟩, ⟨1, [0], ⟨(some 6), none, .call 116 [.tmp 5]⟩⟩, ⟨3, [2, 1, 0], ⟨(some 8), none, .call 116 [.tmp 7]⟩⟩, ⟨4, [3, 2, 1, 0], ⟨(some 9), none, .call 115 [.tmp 6, .tmp 8]⟩⟩, ⟨5, [4, 3, 2, 1, 0], ⟨(some 10), none, .bin .lss (.tmp 9) (.const (.int .i64 0))⟩⟩, ⟨6, [5, 4, 3, 2, 1, 0], ⟨(some 4), none, .eff .set [.tmp 10]⟩⟩])
 .ret))⟩
theorem x64_ok : yfunc Tryd.prog Tryd.f64 = some x64 := by kernel_rfl

/-- switchyard/switchyardref.Better -/
def x65 : YF := ⟨11, [.tmp 4],
 (.seq (.ops [⟨(some 2), none, .box 43 (.tmp 0)⟩, ⟨(some 3), none, .box 43 (.tmp 1)⟩, ⟨(some 4), none, .eff .set [.const (.bool false)]⟩])
 (.seq (.draw [5, 7, 6, 8, 9, 10, 4] [⟨0, [], ⟨(some 5), none, .load true 21 (.tmp 2)⟩⟩, ⟨2, [], ⟨(some 7), none, .load true 21 (.tmp 3)⟩⟩, ⟨1, [0], ⟨(some 6), none, .call 117 [.tmp 5]⟩⟩, ⟨3, [2, 1, 0], ⟨(some 8), none, .call 117 [.tmp 7]⟩⟩, ⟨4, [3, 2, 1, 0], ⟨(some 9), none, .call 115 [.tmp 6, .tmp 8]⟩⟩, ⟨5, [4, 3, 2, 1, 0], ⟨(some 10), none, .bin .lss (.tmp 9) (.const (.int .i64 0))⟩⟩, ⟨6, [5, 4, 3, 2, 1, 0], ⟨(some 4), none, .eff .set [.tmp 10]⟩⟩])
 .ret))⟩
theorem x65_ok : yfunc Tryd.prog Tryd.f65 = some x65 := by kernel_rfl

/-- cmp.Or[int] -/
def x110 : YF := ⟨18, [.tmp 2],
 (.seq (.ops [⟨(some 2), none, .eff .set [.const (.int .i64 0)]⟩])
 (.seq (.ops [⟨(some 3), none, .eff .set [.const (.int .i64 0)]⟩])
 (.seq (.seq (.ops [⟨(some 6), none, .mov (.tmp 0)⟩, ⟨(some 7), none, .len false (.tmp 6)⟩, ⟨(some 8), none, .mov (.const (.int .i64 0))⟩])
 (.block 0 (.loop [false, false, true, false, false, true, false, false, true, true, true, true, true, true, true, true, true] (.seq (.ops [⟨(some 9), none, .bin .lss (.tmp 8) (.tmp 7)⟩])
 (.seq (.cond (.tmp 9) .skip (.exit 0))
 (.seq (.block 1 (.seq (.ops [⟨(some 10), none, .indexS 1 (.tmp 6) (.tmp 8)⟩, ⟨(some 11), none, .load false 1 (.tmp 10)⟩, ⟨(some 5), none, .eff .set [.tmp 11]⟩])
 (.seq (.ops [⟨(some 12), none, .mov (.tmp 5)⟩, ⟨(some 13), none, .mov (.tmp 3)⟩, ⟨(some 14), none, .bin .neq (.tmp 12) (.tmp 13)⟩])
 (.cond (.tmp 14) (.seq (.ops [⟨(some 15), none, .mov (.tmp 5)⟩, ⟨(some 2), none, .eff .set [.tmp 15]⟩])
 .ret) .skip))))
 (.ops [⟨(some 16), none, .bin .add (.tmp 8) (.const (.int .i64 1))⟩, ⟨(some 8), none, .mov (.tmp 16)⟩])))))))
 (.seq (.ops [⟨(some 17), none, .mov (.tmp 3)⟩, ⟨(some 2), none, .eff .set [.tmp 17]⟩])
 .ret))))⟩
theorem x110_ok : yfunc Tryd.prog Tryd.f110 = some x110 := by kernel_rfl

/-- switchyard/prio.order -/
def x111 : YF := ⟨24, [.tmp 4],
 (.seq (.ops [⟨(some 2), none, .box 39 (.tmp 0)⟩, ⟨(some 3), none, .box 39 (.tmp 1)⟩, ⟨(some 4), none, .eff .set [.const (.int .i64 0)]⟩])
 (.seq (.draw [5, 6, 7, 8, 10, 11, 12, 13, 15, 16, 17, 18, 19, 20, 9, 14, 21, 22, 23, 4] [⟨0, [], ⟨(some 5), none, .fieldA 0 (.tmp 2)⟩⟩, ⟨1, [0], ⟨(some 6), none, .load false 1 (.tmp 5)⟩⟩, ⟨2, [], ⟨(some 7), none, .fieldA 0 (.tmp 3)⟩⟩, ⟨3, [2], ⟨(some 8), none, .load false 1 (.tmp 7)⟩⟩, ⟨5, [], ⟨(some 10), none, .fieldA 1 (.tmp 2)⟩⟩, ⟨6, [5], ⟨(some 11), none, .load false 1 (.tmp 10)⟩⟩, ⟨7, [], ⟨(some 12), none, .fieldA 1 (.tmp 3)⟩⟩, ⟨8, [7], ⟨(some 13), none, .load false 1 (.tmp 12)⟩⟩, ⟨10, [], ⟨(some 15), none, .fieldA 2 (.tmp 2)⟩⟩, ⟨11, [10], ⟨(some 16), none, .more (.slcA 6 1 false false) [.tmp 15]⟩⟩, ⟨12, [11, 10], ⟨(some 17), none, .more .b2s [.tmp 16]⟩⟩, ⟨13, [], ⟨(some 18), none, .fieldA 2 (.tmp 3)⟩⟩, ⟨14, [13], ⟨(some 19), none, .more (.slcA 6 1 false false) [.tmp 18]⟩⟩, ⟨15, [14, 13], ⟨(some 20), none, .more .b2s [.tmp 19]⟩⟩, ⟨4, [1, 0, 3, 2], ⟨(some 9), none, .call 112 [.tmp 6, .tmp 8]⟩⟩, ⟨9, [6, 5, 8, 7, 4, 1, 0, 3, 2], ⟨(some 14), none, .call 112 [.tmp 11, .tmp 13]⟩⟩, ⟨16, [12, 11, 10, 15, 14, 13, 9, 6, 5, 8, 7, 4, 1, 0, 3, 2], ⟨(some 21), none, .call 152 [.tmp 17, .tmp 20]⟩⟩, ⟨17, [16, 12, 11, 10, 15, 14, 13, 9, 6, 5, 8, 7, 4, 1, 0, 3, 2], ⟨(some 22), none, .bslice 3 3 [.int .i64 0, .int .i64 0, .int .i64 0] [(0, 1, .tmp 9), (1, 1, .tmp 14), (2, 1, .tmp 21)]⟩⟩, ⟨18, [17, 16, 12, 11, 10, 15, 14, 13, 9, 6, 5, 8, 7, 4, 1, 0, 3, 2], ⟨(some 23), none, .call 110 [.tmp 22]⟩⟩, ⟨19, [18, 17, 16, 12, 11, 10, 15, 14, 13, 9, 6, 5, 8, 7, 4, 1, 0, 3, 2], ⟨(some 4), none, .eff .set [.tmp 23]⟩⟩])
 .ret))⟩
theorem x111_ok : yfunc Tryd.prog Tryd.f111 = some x111 := by kernel_rfl

/-- cmp.Compare[int] -/
def x112 : YF := ⟨20, [.tmp 4],
 (.seq (.ops [⟨(some 4), none, .eff .set [.const (.int .i64 0)]⟩])
 (.seq (.ops [⟨(some 7), none, .mov (.tmp 0)⟩, ⟨(some 8), none, .call 153 [.tmp 7]⟩, ⟨(some 5), none, .eff .set [.tmp 8]⟩])
 (.seq (.ops [⟨(some 9), none, .mov (.tmp 1)⟩, ⟨(some 10), none, .call 153 [.tmp 9]⟩, ⟨(some 6), none, .eff .set [.tmp 10]⟩])
 (.seq (.seq (.ops [⟨(some 11), none, .mov (.tmp 5)⟩])
 (.cond (.tmp 11) (.seq (.seq (.ops [⟨(some 12), none, .mov (.tmp 6)⟩])
 (.cond (.tmp 12) (.seq (.ops [⟨(some 4), none, .eff .set [.const (.int .i64 0)]⟩])
 .ret) .skip))
 (.seq (.ops [⟨(some 4), none, .eff .set [.const (.int .i64 (-1))]⟩])
 .ret)) .skip))
 (.seq (.seq (.ops [⟨(some 13), none, .mov (.tmp 6)⟩])
 (.cond (.tmp 13) (.seq (.ops [⟨(some 4), none, .eff .set [.const (.int .i64 1)]⟩])
 .ret) .skip))
 (.seq (.seq (.ops [⟨(some 14), none, .mov (.tmp 0)⟩, ⟨(some 15), none, .mov (.tmp 1)⟩, ⟨(some 16), none, .bin .lss (.tmp 14) (.tmp 15)⟩])
 (.cond (.tmp 16) (.seq (.ops [⟨(some 4), none, .eff .set [.const (.int .i64 (-1))]⟩])
 .ret) .skip))
 (.seq (.seq (.ops [⟨(some 17), none, .mov (.tmp 0)⟩, ⟨(some 18), none, .mov (.tmp 1)⟩, ⟨(some 19), none, .bin .gtr (.tmp 17) (.tmp 18)⟩])
 (.cond (.tmp 19) (.seq (.ops [⟨(some 4), none, .eff .set [.const (.int .i64 1)]⟩])
 .ret) .skip))
 (.seq (.ops [⟨(some 4), none, .eff .set [.const (.int .i64 0)]⟩])
 .ret))))))))⟩
theorem x112_ok : yfunc Tryd.prog Tryd.f112 = some x112 := by kernel_rfl

/-- switchyard/prio.ports -/
def x113 : YF := ⟨17, [.tmp 4],
 (.seq (.ops [⟨(some 2), none, .box 41 (.tmp 0)⟩, ⟨(some 3), none, .box 41 (.tmp 1)⟩, ⟨(some 4), none, .eff .set [.const (.int .i64 0)]⟩])
 (.seq (.draw [5, 6, 7, 8, 10, 11, 12, 13, 9, 14, 15, 16, 4] [⟨0, [], ⟨(some 5), none, .fieldA 0 (.tmp 2)⟩⟩, ⟨1, [0], ⟨(some 6), none, .load false 1 (.tmp 5)⟩⟩, ⟨2, [], ⟨(some 7), none, .fieldA 0 (.tmp 3)⟩⟩, ⟨3, [2], ⟨(some 8), none, .load false 1 (.tmp 7)⟩⟩, ⟨5, [], ⟨(some 10), none, .fieldA 1 (.tmp 2)⟩⟩, ⟨6, [5], ⟨(some 11), none, .load false 1 (.tmp 10)⟩⟩, ⟨7, [], ⟨(some 12), none, .fieldA 1 (.tmp 3)⟩⟩, ⟨8, [7], ⟨(some 13), none, .load false 1 (.tmp 12)⟩⟩, ⟨4, [1, 0, 3, 2], ⟨(some 9), none, .call 112 [.tmp 6, .tmp 8]⟩⟩, ⟨9, [6, 5, 8, 7, 4, 1, 0, 3, 2], ⟨(some 14), none, .call 112 [.tmp 11, .tmp 13]⟩⟩, ⟨10, [9, 6, 5, 8, 7, 4, 1, 0, 3, 2], ⟨(some 15), none, .bslice 3 2 [.int .i64 0, .int .i64 0] [(0, 1, .tmp 9), (1, 1, .tmp 14)]⟩⟩, ⟨11, [10, 9, 6, 5, 8, 7, 4, 1, 0, 3, 2], ⟨(some 16), none, .call 110 [.tmp 15]⟩⟩, ⟨12, [11, 10, 9, 6, 5, 8, 7, 4, 1, 0, 3, 2], ⟨(some 4), none, .eff .set [.tmp 16]⟩⟩])
 .ret))⟩
theorem x113_ok : yfunc Tryd.prog Tryd.f113 = some x113 := by kernel_rfl

/-- switchyard/switchyardref.first -/
def x115 : YF := ⟨30, [.tmp 4],
 (.seq (.ops [⟨(some 4), none, .eff .set [.const (.int .i64 0)]⟩])
 (.seq (.seq (.ops [⟨(some 6), none, .mov (.tmp 0)⟩, ⟨(some 7), none, .len false (.tmp 6)⟩, ⟨(some 8), none, .mov (.const (.int .i64 0))⟩])
 (.block 0 (.loop [false, false, false, false, true, true, false, false, true, true, true, true, true, true, true, true, true, true, true, true, true, true, true, true, true, true, true, true, true, true] (.seq (.ops [⟨(some 9), none, .bin .lss (.tmp 8) (.tmp 7)⟩])
 (.seq (.cond (.tmp 9) .skip (.exit 0))
 (.seq (.block 1 (.seq (.ops [⟨(some 10), none, .mov (.tmp 8)⟩, ⟨(some 5), none, .eff .set [.tmp 10]⟩])
 (.seq (.draw [11, 12, 13, 14, 15, 16, 17, 18, 19] [⟨0, [], ⟨(some 11), none, .mov (.tmp 0)⟩⟩, ⟨1, [], ⟨(some 12), none, .mov (.tmp 5)⟩⟩, ⟨2, [0, 1], ⟨(some 13), none, .indexS 1 (.tmp 11) (.tmp 12)⟩⟩, ⟨3, [2, 0, 1], ⟨(some 14), none, .load false 1 (.tmp 13)⟩⟩, ⟨4, [], ⟨(some 15), none, .mov (.tmp 1)⟩⟩, ⟨5, [], ⟨(some 16), none, .mov (.tmp 5)⟩⟩, ⟨6, [4, 5], ⟨(some 17), none, .indexS 1 (.tmp 15) (.tmp 16)⟩⟩, ⟨7, [6, 4, 5], ⟨(some 18), none, .load false 1 (.tmp 17)⟩⟩, ⟨8, [3, 2, 0, 1, 7, 6, 4, 5], ⟨(some 19), none, .bin .neq (.tmp 14) (.tmp 18)⟩⟩])
 (.cond (.tmp 19) (.seq (.seq (.draw [20, 21, 22, 23, 24, 25, 26, 27, 28] [⟨0, [], ⟨(some 20), none, .mov (.tmp 0)⟩⟩, ⟨1, [], ⟨(some 21), none, .mov (.tmp 5)⟩⟩, ⟨2, [0, 1], ⟨(some 22), none, .indexS 1 (.tmp 20) (.tmp 21)⟩⟩, ⟨3, [2, 0, 1], ⟨(some 23), none, .load false 1 (.tmp 22)⟩⟩, ⟨4, [], ⟨(some 24), none, .mov (.tmp 1)⟩⟩, ⟨5, [], ⟨(some 25), none, .mov (.tmp 5)⟩⟩, ⟨6, [4, 5], ⟨(some 26), none, .indexS 1 (.tmp 24) (.tmp 25)⟩⟩, ⟨7, [6, 4, 5], ⟨(some 27), none, .load false 1 (.tmp 26)⟩⟩, ⟨8, [3, 2, 0, 1, 7, 6, 4, 5], ⟨(some 28), none, .bin .lss (.tmp 23) (.tmp 27)⟩⟩])
 (.cond (.tmp 28) (.seq (.ops [⟨(some 4), none, .eff .set [.const (.int .i64 (-1))]⟩])
 .ret) .skip))
 (.seq (.ops [⟨(some 4), none, .eff .set [.const (.int .i64 1)]⟩])
 .ret)) .skip))))
 (.ops [⟨(some 29), none, .bin .add (.tmp 8) (.const (.int .i64 1))⟩, ⟨(some 8), none, .mov (.tmp 29)⟩])))))))
 (.seq (.ops [⟨(some 4), none, .eff .set [.const (.int .i64 0)]⟩])
 .ret)))⟩
theorem x115_ok : yfunc Tryd.prog Tryd.f115 = some x115 := by kernel_rfl

/-- switchyard/switchyardref.numbers -/
def x116 : YF := ⟨23, [.tmp 2],
 (.seq (.ops [⟨(some 1), none, .box 39 (.tmp 0)⟩, ⟨(some 2), none, .eff .set [.const (.slice none 0 0)]⟩])
 (.seq (.ops [⟨(some 6), none, .fieldA 0 (.tmp 1)⟩, ⟨(some 7), none, .load false 1 (.tmp 6)⟩, ⟨(some 8), none, .fieldA 1 (.tmp 1)⟩, ⟨(some 9), none, .load false 1 (.tmp 8)⟩, ⟨(some 10), none, .bslice 3 2 [.int .i64 0, .int .i64 0] [(0, 1, .tmp 7), (1, 1, .tmp 9)]⟩, ⟨(some 3), none, .eff .set [.tmp 10]⟩])
 (.seq (.seq (.ops [⟨(some 11), none, .fieldA 2 (.tmp 1)⟩, ⟨(some 12), none, .load true 6 (.tmp 11)⟩, ⟨(some 13), none, .mov (.const (.int .i64 0))⟩])
 (.block 0 (.loop [false, false, false, true, false, true, false, false, false, false, false, false, false, true, true, true, true, true, true, true, true, true] (.seq (.ops [⟨(some 14), none, .bin .lss (.tmp 13) (.const (.int .i64 6))⟩])
 (.seq (.cond (.tmp 14) .skip (.exit 0))
 (.seq (.block 1 (.seq (.ops [⟨(some 15), none, .indexV 6 false 1 (.tmp 12) (.tmp 13)⟩, ⟨(some 5), none, .eff .set [.tmp 15]⟩])
 (.ops [⟨(some 16), none, .mov (.tmp 3)⟩, ⟨(some 17), none, .mov (.tmp 5)⟩, ⟨(some 18), none, .conv .i64 (.tmp 17)⟩, ⟨(some 19), none, .bslice 3 1 [.int .i64 0] [(0, 1, .tmp 18)]⟩, ⟨(some 20), none, .eff (.app 3 1 8 [.int .i64 0]) [.tmp 16, .tmp 19]⟩, ⟨(some 3), none, .eff .set [.tmp 20]⟩])))
 (.ops [⟨(some 21), none, .bin .add (.tmp 13) (.const (.int .i64 1))⟩, ⟨(some 13), none, .mov (.tmp 21)⟩])))))))
 (.seq (.ops [⟨(some 22), none, .mov (.tmp 3)⟩, ⟨(some 2), none, .eff .set [.tmp 22]⟩])
 .ret))))⟩
theorem x116_ok : yfunc Tryd.prog Tryd.f116 = some x116 := by kernel_rfl

/-- switchyard/switchyardref.line -/
def x117 : YF := ⟨31, [.tmp 2],
 (.seq (.ops [⟨(some 1), none, .box 43 (.tmp 0)⟩, ⟨(some 2), none, .eff .set [.const (.slice none 0 0)]⟩])
 (.seq (.draw [4, 5, 7, 8, 9, 6, 10, 3] [⟨0, [], ⟨(some 4), none, .fieldA 0 (.tmp 1)⟩⟩, ⟨1, [0], ⟨(some 5), none, .load true 8 (.tmp 4)⟩⟩, ⟨3, [], ⟨(some 7), none, .fieldA 8 (.tmp 1)⟩⟩, ⟨4, [3], ⟨(some 8), none, .load false 1 (.tmp 7)⟩⟩, ⟨5, [4, 3], ⟨(some 9), none, .bslice 3 1 [.int .i64 0] [(0, 1, .tmp 8)]⟩⟩, ⟨2, [1, 0], ⟨(some 6), none, .call 116 [.tmp 5]⟩⟩, ⟨6, [5, 4, 3, 2, 1, 0], ⟨(some 10), none, .eff (.app 3 1 8 [.int .i64 0]) [.tmp 6, .tmp 9]⟩⟩, ⟨7, [6, 5, 4, 3, 2, 1, 0], ⟨(some 3), none, .eff .set [.tmp 10]⟩⟩])
 (.seq (.ops [⟨(some 11), none, .mov (.tmp 3)⟩, ⟨(some 12), none, .fieldA 9 (.tmp 1)⟩, ⟨(some 13), none, .load true 8 (.tmp 12)⟩, ⟨(some 14), none, .call 116 [.tmp 13]⟩, ⟨(some 15), none, .eff (.app 3 1 8 [.int .i64 0]) [.tmp 11, .tmp 14]⟩, ⟨(some 3), none, .eff .set [.tmp 15]⟩])
 (.seq (.ops [⟨(some 16), none, .mov (.tmp 3)⟩, ⟨(some 17), none, .fieldA 17 (.tmp 1)⟩, ⟨(some 18), none, .fieldA 0 (.tmp 17)⟩, ⟨(some 19), none, .load false 1 (.tmp 18)⟩, ⟨(some 20), none, .fieldA 17 (.tmp 1)⟩, ⟨(some 21), none, .fieldA 1 (.tmp 20)⟩, ⟨(some 22), none, .load false 1 (.tmp 21)⟩, ⟨(some 23), none, .fieldA 19 (.tmp 1)⟩, ⟨(some 24), none, .fieldA 0 (.tmp 23)⟩, ⟨(some 25), none, .load false 1 (.tmp 24)⟩, ⟨(some 26), none, .fieldA 19 (.tmp 1)⟩, ⟨(some 27), none, .fieldA 1 (.tmp 26)⟩, ⟨(some 28), none, .load false 1 (.tmp 27)⟩, ⟨(some 29), none, .bslice 3 4 [.int .i64 0, .int .i64 0, .int .i64 0, .int .i64 0] [(0, 1, .tmp 19), (1, 1, .tmp 22), (2, 1, .tmp 25), (3, 1, .tmp 28)]⟩, ⟨(some 30), none, .eff (.app 3 1 8 [.int .i64 0]) [.tmp 16, .tmp 29]⟩, ⟨(some 2), none, .eff .set [.tmp 30]⟩])
 .ret))))⟩
theorem x117_ok : yfunc Tryd.prog Tryd.f117 = some x117 := by kernel_rfl

/-- strings.Compare -/
def x152 : YF := ⟨8, [.tmp 4],
 (.seq (.ops [⟨(some 4), none, .eff .set [.const (.int .i64 0)]⟩])
 (.seq (.ops [⟨(some 5), none, .mov (.tmp 0)⟩, ⟨(some 6), none, .mov (.tmp 1)⟩, ⟨(some 7), none, .call 157 [.tmp 5, .tmp 6]⟩, ⟨(some 4), none, .eff .set [.tmp 7]⟩])
 .ret))⟩
theorem x152_ok : yfunc Tryd.prog Tryd.f152 = some x152 := by kernel_rfl

/-- cmp.isNaN[int] -/
def x153 : YF := ⟨6, [.tmp 2],
 (.seq (.ops [⟨(some 2), none, .eff .set [.const (.bool false)]⟩])
 (.seq (.ops [⟨(some 3), none, .mov (.tmp 0)⟩, ⟨(some 4), none, .mov (.tmp 0)⟩, ⟨(some 5), none, .bin .neq (.tmp 3) (.tmp 4)⟩, ⟨(some 2), none, .eff .set [.tmp 5]⟩])
 .ret))⟩
theorem x153_ok : yfunc Tryd.prog Tryd.f153 = some x153 := by kernel_rfl

/-- internal/bytealg.CompareString -/
def x157 : YF := ⟨8, [.tmp 4],
 (.seq (.ops [⟨(some 4), none, .eff .set [.const (.int .i64 0)]⟩])
 (.seq (.ops [⟨(some 5), none, .mov (.tmp 0)⟩, ⟨(some 6), none, .mov (.tmp 1)⟩, ⟨(some 7), none, .more .cmps [.tmp 5, .tmp 6]⟩, ⟨(some 4), none, .eff .set [.tmp 7]⟩])
 .ret))⟩
theorem x157_ok : yfunc Tryd.prog Tryd.f157 = some x157 := by kernel_rfl
end Go.Proofs.YtedfohdgigbhiaaDoor
