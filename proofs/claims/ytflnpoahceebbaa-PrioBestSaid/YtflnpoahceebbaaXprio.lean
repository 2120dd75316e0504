/- Functions of this seat with the type tables looked up; each checked by the kernel. Conditions: none. -/
import Derived.Test.YtflnpoahceebbaaProg
import Derived.Test.YtflnpoahceebbaaTy15
namespace Go.Proofs.Ytflnpoahceebbaa
open Go.Sx
set_option maxRecDepth 100000
/-- switchyard/switchyardlaw.PrioOrders -/
def x10 : YF := ⟨25, [.tmp 8],
 (.seq (.ops [⟨(some 4), none, .box 42 (.tmp 0)⟩, ⟨(some 5), none, .box 42 (.tmp 1)⟩, ⟨(some 6), none, .box 49 (.tmp 2)⟩, ⟨(some 7), none, .box 49 (.tmp 3)⟩, ⟨(some 8), none, .eff .set [.const (.bool false)]⟩])
 (.seq (.draw [9, 10, 12, 13, 11, 14, 15, 16, 17, 18, 20, 21, 19, 22, 23, 24, 8] [⟨0, [], ⟨(some 9), none, .load true 8 (.tmp 4)⟩⟩, ⟨1, [], ⟨(some 10), none, .load true 8 (.tmp 5)⟩⟩, ⟨3, [], ⟨(some 12), none, .load true 8 (.tmp 4)⟩⟩, ⟨4, [], ⟨(some 13), none, .load true 8 (.tmp 5)⟩⟩, ⟨2, [0, 1], ⟨(some 11), none, .call 38 [.tmp 9, .tmp 10]⟩⟩, ⟨5, [3, 4, 2, 0, 1], ⟨(some 14), none, .call 39 [.tmp 12, .tmp 13]⟩⟩, ⟨6, [5, 3, 4, 2, 0, 1], ⟨(some 15), none, .eqB false (.tmp 11) (.tmp 14)⟩⟩, ⟨7, [6, 5, 3, 4, 2, 0, 1], ⟨(some 16), none, .mov (.tmp 15)⟩⟩, ⟨8, [7, 6, 5, 3, 4, 2, 0, 1], ⟨(some 17), (some (16, true)), .load true 21 (.tmp 6)⟩⟩, ⟨9, [7, 6, 5, 3, 4, 2, 0, 1], ⟨(some 18), (some (16, true)), .load true 21 (.tmp 7)⟩⟩, ⟨11, [7, 6, 5, 3, 4, 2, 0, 1], ⟨(some 20), (some (16, true)), .load true 21 (.tmp 6)⟩⟩, ⟨12, [7, 6, 5, 3, 4, 2, 0, 1], ⟨(some 21), (some (16, true)), .load true 21 (.tmp 7)⟩⟩, ⟨10, [8, 9, 7, 6, 5, 3, 4, 2, 0, 1], ⟨(some 19), (some (16, true)), .call 40 [.tmp 17, .tmp 18]⟩⟩, ⟨13, [11, 12, 10, 8, 9, 7, 6, 5, 3, 4, 2, 0, 1], ⟨(some 22), (some (16, true)), .call 41 [.tmp 20, .tmp 21]⟩⟩, ⟨14, [13, 11, 12, 10, 8, 9, 7, 6, 5, 3, 4, 2, 0, 1], ⟨(some 23), (some (16, true)), .eqB false (.tmp 19) (.tmp 22)⟩⟩, ⟨15, [14, 13, 11, 12, 10, 8, 9, 7, 6, 5, 3, 4, 2, 0, 1], ⟨(some 24), none, .pick (.tmp 16) (.tmp 23) (.const (.bool false))⟩⟩, ⟨16, [15, 14, 13, 11, 12, 10, 8, 9, 7, 6, 5, 3, 4, 2, 0, 1], ⟨(some 8), none, .eff .set [.tmp 24]⟩⟩])
 .ret))⟩
theorem x10_ok : yfunc Try.prog Try.f10 = some x10 := by kernel_rfl

/-- switchyard/switchyardlaw.PrioBest -/
def x11 : YF := ⟨13, [.tmp 2],
 (.seq (.ops [⟨(some 2), none, .eff .set [.const (.bool false)]⟩])
 (.seq (.ops [⟨(some 3), none, .mov (.tmp 0)⟩, ⟨(some 4), none, .len false (.tmp 3)⟩, ⟨(some 5), none, .bin .gtr (.tmp 4) (.const (.int .i64 30))⟩, ⟨(some 6), none, .mov (.tmp 5)⟩, ⟨(some 7), (some (6, false)), .mov (.tmp 0)⟩, ⟨(some 8), (some (6, false)), .call 42 [.tmp 7]⟩, ⟨(some 9), (some (6, false)), .mov (.tmp 0)⟩, ⟨(some 10), (some (6, false)), .call 43 [.tmp 9]⟩, ⟨(some 11), (some (6, false)), .bin .eql (.tmp 8) (.tmp 10)⟩, ⟨(some 12), none, .pick (.tmp 6) (.const (.bool true)) (.tmp 11)⟩, ⟨(some 2), none, .eff .set [.tmp 12]⟩])
 .ret))⟩
theorem x11_ok : yfunc Try.prog Try.f11 = some x11 := by kernel_rfl

/-- switchyard/prio.Less -/
def x38 : YF := ⟨9, [.tmp 4],
 (.seq (.ops [⟨(some 2), none, .box 42 (.tmp 0)⟩, ⟨(some 3), none, .box 42 (.tmp 1)⟩, ⟨(some 4), none, .eff .set [.const (.bool false)]⟩])
 (.seq (.ops [⟨(some 5), none, .load true 8 (.tmp 2)⟩, ⟨(some 6), none, .load true 8 (.tmp 3)⟩, ⟨(some 7), none, .call 64 [.tmp 5, .tmp 6]⟩, ⟨(some 8), none, .bin .lss (.tmp 7) (.const (.int .i64 0))⟩, ⟨(some 4), none, .eff .set [.tmp 8]⟩])
 .ret))⟩
theorem x38_ok : yfunc Try.prog Try.f38 = some x38 := by kernel_rfl

/-- switchyard/switchyardref.BridgeLess -/
def x39 : YF := ⟨11, [.tmp 4],
 (.seq (.ops [⟨(some 2), none, .box 42 (.tmp 0)⟩, ⟨(some 3), none, .box 42 (.tmp 1)⟩, ⟨(some 4), none, .eff .set [.const (.bool false)]⟩])
 (.seq (.draw [5, 7, 6, 8, 9, 10, 4] [⟨0, [], ⟨(some 5), none, .load true 8 (.tmp 2)⟩⟩, ⟨2, [], ⟨(some 7), none, .load true 8 (.tmp 3)⟩⟩, ⟨1, [0], ⟨(some 6), none, .call 66 [.tmp 5]⟩⟩, ⟨3, [2, 1, 0], ⟨(some 8), none, .call 66 [.tmp 7]⟩⟩, ⟨4, [3, 2, 1, 0], ⟨(some 9), none, .call 65 [.tmp 6, .tmp 8]⟩⟩, ⟨5, [4, 3, 2, 1, 0], ⟨(some 10), none, .bin .lss (.tmp 9) (.const (.int .i64 0))⟩⟩, ⟨6, [5, 4, 3, 2, 1, 0], ⟨(some 4), none, .eff .set [.tmp 10]⟩⟩])
 .ret))⟩
theorem x39_ok : yfunc Try.prog Try.f39 = some x39 := by kernel_rfl

/-- switchyard/prio.Better -/
def x40 : YF := ⟨33, [.tmp 4],
 (.seq (.ops [⟨(some 2), none, .box 49 (.tmp 0)⟩, ⟨(some 3), none, .box 49 (.tmp 1)⟩, ⟨(some 4), none, .eff .set [.const (.bool false)]⟩])
 (.seq (.draw [5, 6, 7, 8, 10, 11, 12, 13, 15, 16, 17, 18, 20, 21, 22, 23, 25, 26, 27, 28, 9, 14, 19, 24, 29, 30, 31, 32, 4] [⟨0, [], ⟨(some 5), none, .fieldA 0 (.tmp 2)⟩⟩, ⟨1, [0], ⟨(some 6), none, .load true 8 (.tmp 5)⟩⟩, ⟨2, [], ⟨(some 7), none, .fieldA 0 (.tmp 3)⟩⟩, ⟨3, [2], ⟨(some 8), none, .load true 8 (.tmp 7)⟩⟩, ⟨5, [], ⟨(some 10), none, .fieldA 8 (.tmp 2)⟩⟩, ⟨6, [5], ⟨(some 11), none, .load false 1 (.tmp 10)⟩⟩, ⟨7, [], ⟨(some 12), none, .fieldA 8 (.tmp 3)⟩⟩, ⟨8, [7], ⟨(some 13), none, .load false 1 (.tmp 12)⟩⟩, ⟨10, [], ⟨(some 15), none, .fieldA 9 (.tmp 2)⟩⟩, ⟨11, [10], ⟨(some 16), none, .load true 8 (.tmp 15)⟩⟩, ⟨12, [], ⟨(some 17), none, .fieldA 9 (.tmp 3)⟩⟩, ⟨13, [12], ⟨(some 18), none, .load true 8 (.tmp 17)⟩⟩, ⟨15, [], ⟨(some 20), none, .fieldA 17 (.tmp 2)⟩⟩, ⟨16, [15], ⟨(some 21), none, .load true 2 (.tmp 20)⟩⟩, ⟨17, [], ⟨(some 22), none, .fieldA 17 (.tmp 3)⟩⟩, ⟨18, [17], ⟨(some 23), none, .load true 2 (.tmp 22)⟩⟩, ⟨20, [], ⟨(some 25), none, .fieldA 19 (.tmp 2)⟩⟩, ⟨21, [20], ⟨(some 26), none, .load true 2 (.tmp 25)⟩⟩, ⟨22, [], ⟨(some 27), none, .fieldA 19 (.tmp 3)⟩⟩, ⟨23, [22], ⟨(some 28), none, .load true 2 (.tmp 27)⟩⟩, ⟨4, [1, 0, 3, 2], ⟨(some 9), none, .call 64 [.tmp 6, .tmp 8]⟩⟩, ⟨9, [6, 5, 8, 7, 4, 1, 0, 3, 2], ⟨(some 14), none, .call 68 [.tmp 11, .tmp 13]⟩⟩, ⟨14, [11, 10, 13, 12, 9, 6, 5, 8, 7, 4, 1, 0, 3, 2], ⟨(some 19), none, .call 64 [.tmp 16, .tmp 18]⟩⟩, ⟨19, [16, 15, 18, 17, 14, 11, 10, 13, 12, 9, 6, 5, 8, 7, 4, 1, 0, 3, 2], ⟨(some 24), none, .call 69 [.tmp 21, .tmp 23]⟩⟩, ⟨24, [21, 20, 23, 22, 19, 16, 15, 18, 17, 14, 11, 10, 13, 12, 9, 6, 5, 8, 7, 4, 1, 0, 3, 2], ⟨(some 29), none, .call 69 [.tmp 26, .tmp 28]⟩⟩, ⟨25, [24, 21, 20, 23, 22, 19, 16, 15, 18, 17, 14, 11, 10, 13, 12, 9, 6, 5, 8, 7, 4, 1, 0, 3, 2], ⟨(some 30), none, .bslice 3 5 [.int .i64 0, .int .i64 0, .int .i64 0, .int .i64 0, .int .i64 0] [(0, 1, .tmp 9), (1, 1, .tmp 14), (2, 1, .tmp 19), (3, 1, .tmp 24), (4, 1, .tmp 29)]⟩⟩, ⟨26, [25, 24, 21, 20, 23, 22, 19, 16, 15, 18, 17, 14, 11, 10, 13, 12, 9, 6, 5, 8, 7, 4, 1, 0, 3, 2], ⟨(some 31), none, .call 67 [.tmp 30]⟩⟩, ⟨27, [26, 25, 24, 21, 20, 23, 22, 19, 16, 15, 18, 17, 14, 11, 10, 13, 12, 9, 6, 5, 8, 7, 4, 1, 0, 3, 2], ⟨(some 32), none, .bin .lss (.tmp 31) (.const (.int .i64 0))⟩⟩, ⟨28, [27, 26, 25, 24, 21, 20, 23, 22, 19, 16, 15, 18, 17, 14, 11, 10, 13, 12, 9, 6, 5, 8, 7, 4, 1, 0, 3, 2], ⟨(some 4), none, .eff .set [.tmp 32]⟩⟩])
 .ret))⟩
theorem x40_ok : yfunc Try.prog Try.f40 = some x40 := by kernel_rfl

/-- switchyard/switchyardref.Better -/
def x41 : YF := ⟨11, [.tmp 4],
 (.seq (.ops [⟨(some 2), none, .box 49 (.tmp 0)⟩, ⟨(some 3), none, .box 49 (.tmp 1)⟩, ⟨(some 4), none, .eff .set [.const (.bool false)]⟩])
 (.seq (.draw [5, 7, 6, 8, 9, 10, 4] [⟨0, [], ⟨(some 5), none, .load true 21 (.tmp 2)⟩⟩, ⟨2, [], ⟨(some 7), none, .load true 21 (.tmp 3)⟩⟩, ⟨1, [0], ⟨(some 6), none, .call 70 [.tmp 5]⟩⟩, ⟨3, [2, 1, 0], ⟨(some 8), none, .call 70 [.tmp 7]⟩⟩, ⟨4, [3, 2, 1, 0], ⟨(some 9), none, .call 65 [.tmp 6, .tmp 8]⟩⟩, ⟨5, [4, 3, 2, 1, 0], ⟨(some 10), none, .bin .lss (.tmp 9) (.const (.int .i64 0))⟩⟩, ⟨6, [5, 4, 3, 2, 1, 0], ⟨(some 4), none, .eff .set [.tmp 10]⟩⟩])
 .ret))⟩
theorem x41_ok : yfunc Try.prog Try.f41 = some x41 := by kernel_rfl

/-- switchyard/prio.Best -/
def x42 : YF := ⟨26, [.tmp 2],
 (.seq (.ops [⟨(some 2), none, .eff .set [.const (.int .i64 0)]⟩])
 (.seq (.ops [⟨(some 3), none, .eff .set [.const (.int .i64 (-1))]⟩])
 (.seq (.seq (.ops [⟨(some 5), none, .mov (.tmp 0)⟩, ⟨(some 6), none, .len false (.tmp 5)⟩, ⟨(some 7), none, .mov (.const (.int .i64 0))⟩])
 (.block 0 (.loop [false, false, false, true, true, false, false, true, true, true, true, true, true, true, true, true, true, true, true, true, true, true, true, true, true] (.seq (.ops [⟨(some 8), none, .bin .lss (.tmp 7) (.tmp 6)⟩])
 (.seq (.cond (.tmp 8) .skip (.exit 0))
 (.seq (.block 1 (.seq (.ops [⟨(some 9), none, .mov (.tmp 7)⟩, ⟨(some 4), none, .eff .set [.tmp 9]⟩])
 (.seq (.draw [10, 11, 12, 13, 14, 15, 16, 17, 18, 19, 20, 21, 22] [⟨0, [], ⟨(some 10), none, .mov (.tmp 3)⟩⟩, ⟨1, [0], ⟨(some 11), none, .bin .lss (.tmp 10) (.const (.int .i64 0))⟩⟩, ⟨2, [1, 0], ⟨(some 12), none, .mov (.tmp 11)⟩⟩, ⟨3, [2, 1, 0], ⟨(some 13), (some (12, false)), .mov (.tmp 0)⟩⟩, ⟨4, [2, 1, 0], ⟨(some 14), (some (12, false)), .mov (.tmp 4)⟩⟩, ⟨5, [3, 4, 2, 1, 0], ⟨(some 15), (some (12, false)), .indexS 21 (.tmp 13) (.tmp 14)⟩⟩, ⟨6, [5, 3, 4, 2, 1, 0], ⟨(some 16), (some (12, false)), .load true 21 (.tmp 15)⟩⟩, ⟨7, [2, 1, 0], ⟨(some 17), (some (12, false)), .mov (.tmp 0)⟩⟩, ⟨8, [2, 1, 0], ⟨(some 18), (some (12, false)), .mov (.tmp 3)⟩⟩, ⟨9, [7, 8, 2, 1, 0], ⟨(some 19), (some (12, false)), .indexS 21 (.tmp 17) (.tmp 18)⟩⟩, ⟨10, [9, 7, 8, 2, 1, 0], ⟨(some 20), (some (12, false)), .load true 21 (.tmp 19)⟩⟩, ⟨11, [6, 5, 3, 4, 10, 9, 7, 8, 2, 1, 0], ⟨(some 21), (some (12, false)), .call 40 [.tmp 16, .tmp 20]⟩⟩, ⟨12, [11, 6, 5, 3, 4, 10, 9, 7, 8, 2, 1, 0], ⟨(some 22), none, .pick (.tmp 12) (.const (.bool true)) (.tmp 21)⟩⟩])
 (.cond (.tmp 22) (.ops [⟨(some 23), none, .mov (.tmp 4)⟩, ⟨(some 3), none, .eff .set [.tmp 23]⟩]) .skip))))
 (.ops [⟨(some 24), none, .bin .add (.tmp 7) (.const (.int .i64 1))⟩, ⟨(some 7), none, .mov (.tmp 24)⟩])))))))
 (.seq (.ops [⟨(some 25), none, .mov (.tmp 3)⟩, ⟨(some 2), none, .eff .set [.tmp 25]⟩])
 .ret))))⟩
theorem x42_ok : yfunc Try.prog Try.f42 = some x42 := by kernel_rfl

/-- switchyard/switchyardref.Best -/
def x43 : YF := ⟨33, [.tmp 2],
 (.seq (.ops [⟨(some 2), none, .eff .set [.const (.int .i64 0)]⟩])
 (.seq (.seq (.ops [⟨(some 6), none, .mov (.tmp 0)⟩, ⟨(some 7), none, .len false (.tmp 6)⟩, ⟨(some 8), none, .mov (.const (.int .i64 0))⟩])
 (.block 0 (.loop [false, false, true, true, true, true, false, false, true, true, true, true, true, true, true, true, true, true, true, true, true, true, true, true, true, true, true, true, true, true, true, true, true] (.seq (.ops [⟨(some 9), none, .bin .lss (.tmp 8) (.tmp 7)⟩])
 (.seq (.cond (.tmp 9) .skip (.exit 0))
 (.seq (.block 1 (.seq (.ops [⟨(some 10), none, .mov (.tmp 8)⟩, ⟨(some 3), none, .eff .set [.tmp 10]⟩])
 (.seq (.ops [⟨(some 4), none, .eff .set [.const (.bool true)]⟩])
 (.seq (.seq (.ops [⟨(some 11), none, .mov (.tmp 0)⟩, ⟨(some 12), none, .len false (.tmp 11)⟩, ⟨(some 13), none, .mov (.const (.int .i64 0))⟩])
 (.block 2 (.loop [false, false, false, false, true, true, false, false, false, false, false, false, false, true, true, true, true, true, true, true, true, true, true, true, true, true, true, true, true, true] (.seq (.ops [⟨(some 14), none, .bin .lss (.tmp 13) (.tmp 12)⟩])
 (.seq (.cond (.tmp 14) .skip (.exit 2))
 (.seq (.block 3 (.seq (.ops [⟨(some 15), none, .mov (.tmp 13)⟩, ⟨(some 5), none, .eff .set [.tmp 15]⟩])
 (.draw [16, 17, 18, 19, 20, 21, 22, 23, 24, 25, 26, 27, 28, 4] [⟨0, [], ⟨(some 16), none, .mov (.tmp 4)⟩⟩, ⟨1, [0], ⟨(some 17), none, .mov (.tmp 16)⟩⟩, ⟨2, [1, 0], ⟨(some 18), (some (17, true)), .mov (.tmp 0)⟩⟩, ⟨3, [1, 0], ⟨(some 19), (some (17, true)), .mov (.tmp 5)⟩⟩, ⟨4, [2, 3, 1, 0], ⟨(some 20), (some (17, true)), .indexS 21 (.tmp 18) (.tmp 19)⟩⟩, ⟨5, [4, 2, 3, 1, 0], ⟨(some 21), (some (17, true)), .load true 21 (.tmp 20)⟩⟩, ⟨6, [1, 0], ⟨(some 22), (some (17, true)), .mov (.tmp 0)⟩⟩, ⟨7, [1, 0], ⟨(some 23), (some (17, true)), .mov (.tmp 3)⟩⟩, ⟨8, [6, 7, 1, 0], ⟨(some 24), (some (17, true)), .indexS 21 (.tmp 22) (.tmp 23)⟩⟩, ⟨9, [8, 6, 7, 1, 0], ⟨(some 25), (some (17, true)), .load true 21 (.tmp 24)⟩⟩, ⟨10, [5, 4, 2, 3, 9, 8, 6, 7, 1, 0], ⟨(some 26), (some (17, true)), .call 41 [.tmp 21, .tmp 25]⟩⟩, ⟨11, [10, 5, 4, 2, 3, 9, 8, 6, 7, 1, 0], ⟨(some 27), (some (17, true)), .un .not (.tmp 26)⟩⟩, ⟨12, [11, 10, 5, 4, 2, 3, 9, 8, 6, 7, 1, 0], ⟨(some 28), none, .pick (.tmp 17) (.tmp 27) (.const (.bool false))⟩⟩, ⟨13, [12, 11, 10, 5, 4, 2, 3, 9, 8, 6, 7, 1, 0], ⟨(some 4), none, .eff .set [.tmp 28]⟩⟩])))
 (.ops [⟨(some 29), none, .bin .add (.tmp 13) (.const (.int .i64 1))⟩, ⟨(some 13), none, .mov (.tmp 29)⟩])))))))
 (.seq (.ops [⟨(some 30), none, .mov (.tmp 4)⟩])
 (.cond (.tmp 30) (.seq (.ops [⟨(some 31), none, .mov (.tmp 3)⟩, ⟨(some 2), none, .eff .set [.tmp 31]⟩])
 .ret) .skip))))))
 (.ops [⟨(some 32), none, .bin .add (.tmp 8) (.const (.int .i64 1))⟩, ⟨(some 8), none, .mov (.tmp 32)⟩])))))))
 (.seq (.ops [⟨(some 2), none, .eff .set [.const (.int .i64 (-1))]⟩])
 .ret)))⟩
theorem x43_ok : yfunc Try.prog Try.f43 = some x43 := by kernel_rfl

/-- switchyard/prio.order -/
def x64 : YF := ⟨24, [.tmp 4],
 (.seq (.ops [⟨(some 2), none, .box 42 (.tmp 0)⟩, ⟨(some 3), none, .box 42 (.tmp 1)⟩, ⟨(some 4), none, .eff .set [.const (.int .i64 0)]⟩])
 (.seq (.draw [5, 6, 7, 8, 10, 11, 12, 13, 15, 16, 17, 18, 19, 20, 9, 14, 21, 22, 23, 4] [⟨0, [], ⟨(some 5), none, .fieldA 0 (.tmp 2)⟩⟩, ⟨1, [0], ⟨(some 6), none, .load false 1 (.tmp 5)⟩⟩, ⟨2, [], ⟨(some 7), none, .fieldA 0 (.tmp 3)⟩⟩, ⟨3, [2], ⟨(some 8), none, .load false 1 (.tmp 7)⟩⟩, ⟨5, [], ⟨(some 10), none, .fieldA 1 (.tmp 2)⟩⟩, ⟨6, [5], ⟨(some 11), none, .load false 1 (.tmp 10)⟩⟩, ⟨7, [], ⟨(some 12), none, .fieldA 1 (.tmp 3)⟩⟩, ⟨8, [7], ⟨(some 13), none, .load false 1 (.tmp 12)⟩⟩, ⟨10, [], ⟨(some 15), none, .fieldA 2 (.tmp 2)⟩⟩, ⟨11, [10], ⟨(some 16), none, .more (.slcA 6 1 false false) [.tmp 15]⟩⟩, ⟨12, [11, 10], ⟨(some 17), none, .more .b2s [.tmp 16]⟩⟩, ⟨13, [], ⟨(some 18), none, .fieldA 2 (.tmp 3)⟩⟩, ⟨14, [13], ⟨(some 19), none, .more (.slcA 6 1 false false) [.tmp 18]⟩⟩, ⟨15, [14, 13], ⟨(some 20), none, .more .b2s [.tmp 19]⟩⟩, ⟨4, [1, 0, 3, 2], ⟨(some 9), none, .call 68 [.tmp 6, .tmp 8]⟩⟩, ⟨9, [6, 5, 8, 7, 4, 1, 0, 3, 2], ⟨(some 14), none, .call 68 [.tmp 11, .tmp 13]⟩⟩, ⟨16, [12, 11, 10, 15, 14, 13, 9, 6, 5, 8, 7, 4, 1, 0, 3, 2], ⟨(some 21), none, .call 72 [.tmp 17, .tmp 20]⟩⟩, ⟨17, [16, 12, 11, 10, 15, 14, 13, 9, 6, 5, 8, 7, 4, 1, 0, 3, 2], ⟨(some 22), none, .bslice 3 3 [.int .i64 0, .int .i64 0, .int .i64 0] [(0, 1, .tmp 9), (1, 1, .tmp 14), (2, 1, .tmp 21)]⟩⟩, ⟨18, [17, 16, 12, 11, 10, 15, 14, 13, 9, 6, 5, 8, 7, 4, 1, 0, 3, 2], ⟨(some 23), none, .call 67 [.tmp 22]⟩⟩, ⟨19, [18, 17, 16, 12, 11, 10, 15, 14, 13, 9, 6, 5, 8, 7, 4, 1, 0, 3, 2], ⟨(some 4), none, .eff .set [.tmp 23]⟩⟩])
 .ret))⟩
theorem x64_ok : yfunc Try.prog Try.f64 = some x64 := by kernel_rfl

/-- switchyard/switchyardref.first -/
def x65 : YF := ⟨30, [.tmp 4],
 (.seq (.ops [⟨(some 4), none, .eff .set [.const (.int .i64 0)]⟩])
 (.seq (.seq (.ops [⟨(some 6), none, .mov (.tmp 0)⟩, ⟨(some 7), none, .len false (.tmp 6)⟩, ⟨(some 8), none, .mov (.const (.int .i64 0))⟩])
 (.block 0 (.loop [false, false, false, false, true, true, false, false, true, true, true, true, true, true, true, true, true, true, true, true, true, true, true, true, true, true, true, true, true, true] (.seq (.ops [⟨(some 9), none, .bin .lss (.tmp 8) (.tmp 7)⟩])
 (.seq (.cond (.tmp 9) .skip (.exit 0))
 (.seq (.block 1 (.seq (.ops [⟨(some 10), none, .mov (.tmp 8)⟩, ⟨(some 5), none, .eff .set [.tmp 10]⟩])
 (.seq (.draw [11, 12, 13, 14, 15, 16, 17, 18, 19] [⟨0, [], ⟨(some 11), none, .mov (.tmp 0)⟩⟩, ⟨1, [], ⟨(some 12), none, .mov (.tmp 5)⟩⟩, ⟨2, [0, 1], ⟨(some 13), none, .indexS 1 (.tmp 11) (.tmp 12)⟩⟩, ⟨3, [2, 0, 1], ⟨(some 14), none, .load false 1 (.tmp 13)⟩⟩, ⟨4, [], ⟨(some 15), none, .mov (.tmp 1)⟩⟩, ⟨5, [], ⟨(some 16), none, .mov (.tmp 5)⟩⟩, ⟨6, [4, 5], ⟨(some 17), none, .indexS 1 (.tmp 15) (.tmp 16)⟩⟩, ⟨7, [6, 4, 5], ⟨(some 18), none, .load false 1 (.tmp 17)⟩⟩, ⟨8, [3, 2, 0, 1, 7, 6, 4, 5], ⟨(some 19), none, .bin .neq (.tmp 14) (.tmp 18)⟩⟩])
 (.cond (.tmp 19) (.seq (.seq (.draw [20, 21, 22, 23, 24, 25, 26, 27, 28] [⟨0, [], ⟨(some 20), none, .mov (.tmp 0)⟩⟩, ⟨1, [], ⟨(some 21), none, .mov (.tmp 5)⟩⟩, ⟨2, [0, 1], ⟨(some 22), none, .indexS 1 (.tmp 20) (.tmp 21)⟩⟩, ⟨3, [2, 0, 1], ⟨(some 23), none, .load false 1 (.tmp 22)⟩⟩, ⟨4, [], ⟨(some 24), none, .mov (.tmp 1)⟩⟩, ⟨5, [], ⟨(some 25), none, .mov (.tmp 5)⟩⟩, ⟨6, [4, 5], ⟨(some 26), none, .indexS 1 (.tmp 24) (.tmp 25)⟩⟩, ⟨7, [6, 4, 5], ⟨(some 27), none, .load false 1 (.tmp 26)⟩⟩, ⟨8, [3, 2, 0, 1, 7, 6, 4, 5], ⟨(some 28), none, .bin .lss (.tmp 23) (.tmp 27)⟩⟩])
 (.cond (.tmp 28) (.seq (.ops [⟨(some 4), none, .eff .set [.const (.int .i64 (-1))]⟩])
 .ret) .skip))
 (.seq (.ops [⟨(some 4), none, .eff .set [.const (.int .i64 1)]⟩])
 .ret)) .skip))))
 (.ops [⟨(some 29), none, .bin .add (.tmp 8) (.const (.int .i64 1))⟩, ⟨(some 8), none, .mov (.tmp 29)⟩])))))))
 (.seq (.ops [⟨(some 4), none, .eff .set [.const (.int .i64 0)]⟩])
 .ret)))⟩
theorem x65_ok : yfunc Try.prog Try.f65 = some x65 := by kernel_rfl

/-- switchyard/switchyardref.numbers -/
def x66 : YF := ⟨23, [.tmp 2],
 (.seq (.ops [⟨(some 1), none, .box 42 (.tmp 0)⟩, ⟨(some 2), none, .eff .set [.const (.slice none 0 0)]⟩])
 (.seq (.ops [⟨(some 6), none, .fieldA 0 (.tmp 1)⟩, ⟨(some 7), none, .load false 1 (.tmp 6)⟩, ⟨(some 8), none, .fieldA 1 (.tmp 1)⟩, ⟨(some 9), none, .load false 1 (.tmp 8)⟩, ⟨(some 10), none, .bslice 3 2 [.int .i64 0, .int .i64 0] [(0, 1, .tmp 7), (1, 1, .tmp 9)]⟩, ⟨(some 3), none, .eff .set [.tmp 10]⟩])
 (.seq (.seq (.ops [⟨(some 11), none, .fieldA 2 (.tmp 1)⟩, ⟨(some 12), none, .load true 6 (.tmp 11)⟩, ⟨(some 13), none, .mov (.const (.int .i64 0))⟩])
 (.block 0 (.loop [false, false, false, true, false, true, false, false, false, false, false, false, false, true, true, true, true, true, true, true, true, true] (.seq (.ops [⟨(some 14), none, .bin .lss (.tmp 13) (.const (.int .i64 6))⟩])
 (.seq (.cond (.tmp 14) .skip (.exit 0))
 (.seq (.block 1 (.seq (.ops [⟨(some 15), none, .indexV 6 false 1 (.tmp 12) (.tmp 13)⟩, ⟨(some 5), none, .eff .set [.tmp 15]⟩])
 (.ops [⟨(some 16), none, .mov (.tmp 3)⟩, ⟨(some 17), none, .mov (.tmp 5)⟩, ⟨(some 18), none, .conv .i64 (.tmp 17)⟩, ⟨(some 19), none, .bslice 3 1 [.int .i64 0] [(0, 1, .tmp 18)]⟩, ⟨(some 20), none, .eff (.app 3 1 8 [.int .i64 0]) [.tmp 16, .tmp 19]⟩, ⟨(some 3), none, .eff .set [.tmp 20]⟩])))
 (.ops [⟨(some 21), none, .bin .add (.tmp 13) (.const (.int .i64 1))⟩, ⟨(some 13), none, .mov (.tmp 21)⟩])))))))
 (.seq (.ops [⟨(some 22), none, .mov (.tmp 3)⟩, ⟨(some 2), none, .eff .set [.tmp 22]⟩])
 .ret))))⟩
theorem x66_ok : yfunc Try.prog Try.f66 = some x66 := by kernel_rfl

/-- cmp.Or[int] -/
def x67 : YF := ⟨18, [.tmp 2],
 (.seq (.ops [⟨(some 2), none, .eff .set [.const (.int .i64 0)]⟩])
 (.seq (.ops [⟨(some 3), none, .eff .set [.const (.int .i64 0)]⟩])
 (.seq (.seq (.ops [⟨(some 6), none, .mov (.tmp 0)⟩, ⟨(some 7), none, .len false (.tmp 6)⟩, ⟨(some 8), none, .mov (.const (.int .i64 0))⟩])
 (.block 0 (.loop [false, false, true, false, false, true, false, false, true, true, true, true, true, true, true, true, true] (.seq (.ops [⟨(some 9), none, .bin .lss (.tmp 8) (.tmp 7)⟩])
 (.seq (.cond (.tmp 9) .skip (.exit 0))
 (.seq (.block 1 (.seq (.ops [⟨(some 10), none, .indexS 1 (.tmp 6) (.tmp 8)⟩, ⟨(some 11), none, .load false 1 (.tmp 10)⟩, ⟨(some 5), none, .eff .set [.tmp 11]⟩])
 (.seq (.ops [⟨(some 12), none, .mov (.tmp 5)⟩, ⟨(some 13), none, .mov (.tmp 3)⟩, ⟨(some 14), none, .bin .neq (.tmp 12) (.tmp 13)⟩])
 (.cond (.tmp 14) (.seq (.ops [⟨(some 15), none, .mov (.tmp 5)⟩, ⟨(some 2), none, .eff .set [.tmp 15]⟩])
 .ret) .skip))))
 (.ops [⟨(some 16), none, .bin .add (.tmp 8) (.const (.int .i64 1))⟩, ⟨(some 8), none, .mov (.tmp 16)⟩])))))))
 (.seq (.ops [⟨(some 17), none, .mov (.tmp 3)⟩, ⟨(some 2), none, .eff .set [.tmp 17]⟩])
 .ret))))⟩
theorem x67_ok : yfunc Try.prog Try.f67 = some x67 := by kernel_rfl

/-- cmp.Compare[int] -/
def x68 : YF := ⟨20, [.tmp 4],
 (.seq (.ops [⟨(some 4), none, .eff .set [.const (.int .i64 0)]⟩])
 (.seq (.ops [⟨(some 7), none, .mov (.tmp 0)⟩, ⟨(some 8), none, .call 73 [.tmp 7]⟩, ⟨(some 5), none, .eff .set [.tmp 8]⟩])
 (.seq (.ops [⟨(some 9), none, .mov (.tmp 1)⟩, ⟨(some 10), none, .call 73 [.tmp 9]⟩, ⟨(some 6), none, .eff .set [.tmp 10]⟩])
 (.seq (.seq (.ops [⟨(some 11), none, .mov (.tmp 5)⟩])
 (.cond (.tmp 11) (.seq (.seq (.ops [⟨(some 12), none, .mov (.tmp 6)⟩])
 (.cond (.tmp 12) (.seq (.ops [⟨(some 4), none, .eff .set [.const (.int .i64 0)]⟩])
 .ret) .skip))
 (.seq (.ops [⟨(some 4), none, .eff .set [.const (.int .i64 (-1))]⟩])
 .ret)) .skip))
 (.seq (.seq (.ops [⟨(some 13), none, .mov (.tmp 6)⟩])
 (.cond (.tmp 13) (.seq (.ops [⟨(some 4), none, .eff .set [.const (.int .i64 1)]⟩])
 .ret) .skip))
 (.seq (.seq (.ops [⟨(some 14), none, .mov (.tmp 0)⟩, ⟨(some 15), none, .mov (.tmp 1)⟩, ⟨(some 16), none, .bin .lss (.tmp 14) (.tmp 15)⟩])
 (.cond (.tmp 16) (.seq (.ops [⟨(some 4), none, .eff .set [.const (.int .i64 (-1))]⟩])
 .ret) .skip))
 (.seq (.seq (.ops [⟨(some 17), none, .mov (.tmp 0)⟩, ⟨(some 18), none, .mov (.tmp 1)⟩, ⟨(some 19), none, .bin .gtr (.tmp 17) (.tmp 18)⟩])
 (.cond (.tmp 19) (.seq (.ops [⟨(some 4), none, .eff .set [.const (.int .i64 1)]⟩])
 .ret) .skip))
 (.seq (.ops [⟨(some 4), none, .eff .set [.const (.int .i64 0)]⟩])
 .ret))))))))⟩
theorem x68_ok : yfunc Try.prog Try.f68 = some x68 := by kernel_rfl

/-- switchyard/prio.ports -/
def x69 : YF := ⟨17, [.tmp 4],
 (.seq (.ops [⟨(some 2), none, .box 47 (.tmp 0)⟩, ⟨(some 3), none, .box 47 (.tmp 1)⟩, ⟨(some 4), none, .eff .set [.const (.int .i64 0)]⟩])
 (.seq (.draw [5, 6, 7, 8, 10, 11, 12, 13, 9, 14, 15, 16, 4] [⟨0, [], ⟨(some 5), none, .fieldA 0 (.tmp 2)⟩⟩, ⟨1, [0], ⟨(some 6), none, .load false 1 (.tmp 5)⟩⟩, ⟨2, [], ⟨(some 7), none, .fieldA 0 (.tmp 3)⟩⟩, ⟨3, [2], ⟨(some 8), none, .load false 1 (.tmp 7)⟩⟩, ⟨5, [], ⟨(some 10), none, .fieldA 1 (.tmp 2)⟩⟩, ⟨6, [5], ⟨(some 11), none, .load false 1 (.tmp 10)⟩⟩, ⟨7, [], ⟨(some 12), none, .fieldA 1 (.tmp 3)⟩⟩, ⟨8, [7], ⟨(some 13), none, .load false 1 (.tmp 12)⟩⟩, ⟨4, [1, 0, 3, 2], ⟨(some 9), none, .call 68 [.tmp 6, .tmp 8]⟩⟩, ⟨9, [6, 5, 8, 7, 4, 1, 0, 3, 2], ⟨(some 14), none, .call 68 [.tmp 11, .tmp 13]⟩⟩, ⟨10, [9, 6, 5, 8, 7, 4, 1, 0, 3, 2], ⟨(some 15), none, .bslice 3 2 [.int .i64 0, .int .i64 0] [(0, 1, .tmp 9), (1, 1, .tmp 14)]⟩⟩, ⟨11, [10, 9, 6, 5, 8, 7, 4, 1, 0, 3, 2], ⟨(some 16), none, .call 67 [.tmp 15]⟩⟩, ⟨12, [11, 10, 9, 6, 5, 8, 7, 4, 1, 0, 3, 2], ⟨(some 4), none, .eff .set [.tmp 16]⟩⟩])
 .ret))⟩
theorem x69_ok : yfunc Try.prog Try.f69 = some x69 := by kernel_rfl

/-- switchyard/switchyardref.line -/
def x70 : YF := ⟨31, [.tmp 2],
 (.seq (.ops [⟨(some 1), none, .box 49 (.tmp 0)⟩, ⟨(some 2), none, .eff .set [.const (.slice none 0 0)]⟩])
 (.seq (.draw [4, 5, 7, 8, 9, 6, 10, 3] [⟨0, [], ⟨(some 4), none, .fieldA 0 (.tmp 1)⟩⟩, ⟨1, [0], ⟨(some 5), none, .load true 8 (.tmp 4)⟩⟩, ⟨3, [], ⟨(some 7), none, .fieldA 8 (.tmp 1)⟩⟩, ⟨4, [3], ⟨(some 8), none, .load false 1 (.tmp 7)⟩⟩, ⟨5, [4, 3], ⟨(some 9), none, .bslice 3 1 [.int .i64 0] [(0, 1, .tmp 8)]⟩⟩, ⟨2, [1, 0], ⟨(some 6), none, .call 66 [.tmp 5]⟩⟩, ⟨6, [5, 4, 3, 2, 1, 0], ⟨(some 10), none, .eff (.app 3 1 8 [.int .i64 0]) [.tmp 6, .tmp 9]⟩⟩, ⟨7, [6, 5, 4, 3, 2, 1, 0], ⟨(some 3), none, .eff .set [.tmp 10]⟩⟩])
 (.seq (.ops [⟨(some 11), none, .mov (.tmp 3)⟩, ⟨(some 12), none, .fieldA 9 (.tmp 1)⟩, ⟨(some 13), none, .load true 8 (.tmp 12)⟩, ⟨(some 14), none, .call 66 [.tmp 13]⟩, ⟨(some 15), none, .eff (.app 3 1 8 [.int .i64 0]) [.tmp 11, .tmp 14]⟩, ⟨(some 3), none, .eff .set [.tmp 15]⟩])
 (.seq (.ops [⟨(some 16), none, .mov (.tmp 3)⟩, ⟨(some 17), none, .fieldA 17 (.tmp 1)⟩, ⟨(some 18), none, .fieldA 0 (.tmp 17)⟩, ⟨(some 19), none, .load false 1 (.tmp 18)⟩, ⟨(some 20), none, .fieldA 17 (.tmp 1)⟩, ⟨(some 21), none, .fieldA 1 (.tmp 20)⟩, ⟨(some 22), none, .load false 1 (.tmp 21)⟩, ⟨(some 23), none, .fieldA 19 (.tmp 1)⟩, ⟨(some 24), none, .fieldA 0 (.tmp 23)⟩, ⟨(some 25), none, .load false 1 (.tmp 24)⟩, ⟨(some 26), none, .fieldA 19 (.tmp 1)⟩, ⟨(some 27), none, .fieldA 1 (.tmp 26)⟩, ⟨(some 28), none, .load false 1 (.tmp 27)⟩, ⟨(some 29), none, .bslice 3 4 [.int .i64 0, .int .i64 0, .int .i64 0, .int .i64 0] [(0, 1, .tmp 19), (1, 1, .tmp 22), (2, 1, .tmp 25), (3, 1, .tmp 28)]⟩, ⟨(some 30), none, .eff (.app 3 1 8 [.int .i64 0]) [.tmp 16, .tmp 29]⟩, ⟨(some 2), none, .eff .set [.tmp 30]⟩])
 .ret))))⟩
theorem x70_ok : yfunc Try.prog Try.f70 = some x70 := by kernel_rfl

/-- strings.Compare -/
def x72 : YF := ⟨8, [.tmp 4],
 (.seq (.ops [⟨(some 4), none, .eff .set [.const (.int .i64 0)]⟩])
 (.seq (.ops [⟨(some 5), none, .mov (.tmp 0)⟩, ⟨(some 6), none, .mov (.tmp 1)⟩, ⟨(some 7), none, .call 74 [.tmp 5, .tmp 6]⟩, ⟨(some 4), none, .eff .set [.tmp 7]⟩])
 .ret))⟩
theorem x72_ok : yfunc Try.prog Try.f72 = some x72 := by kernel_rfl

/-- cmp.isNaN[int] -/
def x73 : YF := ⟨6, [.tmp 2],
 (.seq (.ops [⟨(some 2), none, .eff .set [.const (.bool false)]⟩])
 (.seq (.ops [⟨(some 3), none, .mov (.tmp 0)⟩, ⟨(some 4), none, .mov (.tmp 0)⟩, ⟨(some 5), none, .bin .neq (.tmp 3) (.tmp 4)⟩, ⟨(some 2), none, .eff .set [.tmp 5]⟩])
 .ret))⟩
theorem x73_ok : yfunc Try.prog Try.f73 = some x73 := by kernel_rfl

/-- internal/bytealg.CompareString -/
def x74 : YF := ⟨8, [.tmp 4],
 (.seq (.ops [⟨(some 4), none, .eff .set [.const (.int .i64 0)]⟩])
 (.seq (.ops [⟨(some 5), none, .mov (.tmp 0)⟩, ⟨(some 6), none, .mov (.tmp 1)⟩, ⟨(some 7), none, .more .cmps [.tmp 5, .tmp 6]⟩, ⟨(some 4), none, .eff .set [.tmp 7]⟩])
 .ret))⟩
theorem x74_ok : yfunc Try.prog Try.f74 = some x74 := by kernel_rfl
end Go.Proofs.Ytflnpoahceebbaa
