/- Functions of this seat with the type tables looked up; each checked by the kernel. Conditions: none. -/
import Derived.Test.YtfagdcpfebghoaaDoorProg
import Derived.Test.YtfagdcpfebghoaaDoorBaseC
namespace Go.Proofs.YtfagdcpfebghoaaDoor
open Go.Sx
set_option maxRecDepth 100000
/-- switchyard/switchyardlaw.RegionRights -/
def x7 : YF := ⟨48, [.tmp 4],
 (.seq (.ops [⟨(some 4), none, .eff .set [.const (.bool false)]⟩])
 (.seq (.seq (.ops [⟨(some 8), none, .mov (.tmp 0)⟩, ⟨(some 9), none, .len false (.tmp 8)⟩, ⟨(some 10), none, .bin .gtr (.tmp 9) (.const (.int .i64 60))⟩])
 (.cond (.tmp 10) (.seq (.ops [⟨(some 4), none, .eff .set [.const (.bool true)]⟩])
 .ret) .skip))
 (.seq (.ops [⟨(some 11), none, .mov (.tmp 0)⟩, ⟨(some 12), none, .call 39 [.tmp 11]⟩, ⟨(some 5), none, .eff .set [.tmp 12]⟩])
 (.seq (.seq (.ops [⟨(some 13), none, .mov (.tmp 0)⟩, ⟨(some 14), none, .call 40 [.tmp 13]⟩, ⟨(some 15), none, .mov (.tmp 5)⟩, ⟨(some 16), none, .eqB true (.tmp 14) (.tmp 15)⟩, ⟨(some 17), none, .mov (.tmp 16)⟩, ⟨(some 18), (some (17, false)), .mov (.tmp 0)⟩, ⟨(some 19), (some (17, false)), .mov (.tmp 1)⟩, ⟨(some 20), (some (17, false)), .call 41 [.tmp 18, .tmp 19]⟩, ⟨(some 21), (some (17, false)), .mov (.tmp 0)⟩, ⟨(some 22), (some (17, false)), .mov (.tmp 1)⟩, ⟨(some 23), (some (17, false)), .call 42 [.tmp 21, .tmp 22]⟩, ⟨(some 24), (some (17, false)), .bin .neq (.tmp 20) (.tmp 23)⟩, ⟨(some 25), none, .pick (.tmp 17) (.const (.bool true)) (.tmp 24)⟩])
 (.cond (.tmp 25) (.seq (.ops [⟨(some 4), none, .eff .set [.const (.bool false)]⟩])
 .ret) .skip))
 (.seq (.ops [⟨(some 27), none, .mov (.tmp 0)⟩, ⟨(some 28), none, .call 43 [.tmp 27]⟩, ⟨(some 26), none, .mov (.tmp 28)⟩, ⟨(some 29), none, .ext (.tmp 26) 0⟩, ⟨(some 30), none, .ext (.tmp 26) 1⟩, ⟨(some 6), none, .eff .set [.tmp 29]⟩, ⟨(some 7), none, .eff .set [.tmp 30]⟩])
 (.seq (.seq (.ops [⟨(some 31), none, .mov (.tmp 5)⟩, ⟨(some 32), none, .un .not (.tmp 31)⟩])
 (.cond (.tmp 32) (.seq (.ops [⟨(some 33), none, .mov (.tmp 7)⟩, ⟨(some 34), none, .call 18 [.tmp 33, .const (.int .i64 1)]⟩, ⟨(some 35), none, .mov (.tmp 34)⟩, ⟨(some 36), (some (35, true)), .mov (.tmp 6)⟩, ⟨(some 37), (some (35, true)), .len false (.tmp 36)⟩, ⟨(some 38), (some (35, true)), .bin .eql (.tmp 37) (.const (.int .i64 0))⟩, ⟨(some 39), none, .pick (.tmp 35) (.tmp 38) (.const (.bool false))⟩, ⟨(some 4), none, .eff .set [.tmp 39]⟩])
 .ret) .skip))
 (.seq (.ops [⟨(some 40), none, .mov (.tmp 7)⟩, ⟨(some 41), none, .more (.nilI false) [.tmp 40]⟩, ⟨(some 42), none, .mov (.tmp 41)⟩, ⟨(some 43), (some (42, true)), .mov (.tmp 6)⟩, ⟨(some 44), (some (42, true)), .mov (.tmp 0)⟩, ⟨(some 45), (some (42, true)), .call 45 [.tmp 44]⟩, ⟨(some 46), (some (42, true)), .call 44 [.tmp 43, .tmp 45]⟩, ⟨(some 47), none, .pick (.tmp 42) (.tmp 46) (.const (.bool false))⟩, ⟨(some 4), none, .eff .set [.tmp 47]⟩])
 .ret)))))))⟩
theorem x7_ok : yfunc Tryd.prog Tryd.f7 = some x7 := by kernel_rfl

/-- switchyard/switchyardref.SpansRight -/
def x39 : YF := ⟨49, [.tmp 2],
 (.seq (.ops [⟨(some 2), none, .eff .set [.const (.bool false)]⟩])
 (.seq (.seq (.ops [⟨(some 5), none, .mov (.tmp 0)⟩, ⟨(some 6), none, .len false (.tmp 5)⟩, ⟨(some 7), none, .mov (.const (.int .i64 0))⟩])
 (.block 0 (.loop [false, false, true, true, true, false, false, true, true, true, true, true, true, true, true, true, true, true, true, true, true, true, true, true, true, true, true, true, true, true, true, true, true, true, true, true, true, true, true, true, true, true, true, true, true, true, true, true, true] (.seq (.ops [⟨(some 8), none, .bin .lss (.tmp 7) (.tmp 6)⟩])
 (.seq (.cond (.tmp 8) .skip (.exit 0))
 (.seq (.block 1 (.seq (.ops [⟨(some 9), none, .mov (.tmp 7)⟩, ⟨(some 10), none, .indexS 3 (.tmp 5) (.tmp 7)⟩, ⟨(some 11), none, .load true 3 (.tmp 10)⟩, ⟨(some 4), none, .alloc 119 [.int .i64 0, .int .i64 0, .int .i64 0]⟩, ⟨(some 3), none, .eff .set [.tmp 9]⟩, ⟨none, none, .store 3 (.tmp 4) (.tmp 11)⟩])
 (.seq (.draw [12, 13, 14, 15, 16, 17, 18, 19, 20, 21, 22, 23, 24, 25, 26, 27, 28, 29, 30, 31, 32, 33, 34, 35, 36, 37, 38, 39, 40, 41, 42, 43, 44, 45, 46, 47] [⟨0, [], ⟨(some 12), none, .fieldA 0 (.tmp 4)⟩⟩, ⟨1, [0], ⟨(some 13), none, .load false 1 (.tmp 12)⟩⟩, ⟨2, [1, 0], ⟨(some 14), none, .bin .lss (.tmp 13) (.const (.int .i64 1))⟩⟩, ⟨3, [2, 1, 0], ⟨(some 15), none, .mov (.tmp 14)⟩⟩, ⟨4, [3, 2, 1, 0], ⟨(some 16), (some (15, false)), .fieldA 0 (.tmp 4)⟩⟩, ⟨5, [4, 3, 2, 1, 0], ⟨(some 17), (some (15, false)), .load false 1 (.tmp 16)⟩⟩, ⟨6, [3, 2, 1, 0], ⟨(some 18), (some (15, false)), .fieldA 1 (.tmp 4)⟩⟩, ⟨7, [6, 3, 2, 1, 0], ⟨(some 19), (some (15, false)), .load false 1 (.tmp 18)⟩⟩, ⟨8, [5, 4, 7, 6, 3, 2, 1, 0], ⟨(some 20), (some (15, false)), .bin .gtr (.tmp 17) (.tmp 19)⟩⟩, ⟨9, [8, 5, 4, 7, 6, 3, 2, 1, 0], ⟨(some 21), none, .pick (.tmp 15) (.const (.bool true)) (.tmp 20)⟩⟩, ⟨10, [9, 8, 5, 4, 7, 6, 3, 2, 1, 0], ⟨(some 22), none, .mov (.tmp 21)⟩⟩, ⟨11, [10, 9, 8, 5, 4, 7, 6, 3, 2, 1, 0], ⟨(some 23), (some (22, false)), .fieldA 1 (.tmp 4)⟩⟩, ⟨12, [11, 10, 9, 8, 5, 4, 7, 6, 3, 2, 1, 0], ⟨(some 24), (some (22, false)), .load false 1 (.tmp 23)⟩⟩, ⟨13, [12, 11, 10, 9, 8, 5, 4, 7, 6, 3, 2, 1, 0], ⟨(some 25), (some (22, false)), .bin .gtr (.tmp 24) (.const (.int .i64 4094))⟩⟩, ⟨14, [13, 12, 11, 10, 9, 8, 5, 4, 7, 6, 3, 2, 1, 0], ⟨(some 26), none, .pick (.tmp 22) (.const (.bool true)) (.tmp 25)⟩⟩, ⟨15, [14, 13, 12, 11, 10, 9, 8, 5, 4, 7, 6, 3, 2, 1, 0], ⟨(some 27), none, .mov (.tmp 26)⟩⟩, ⟨16, [15, 14, 13, 12, 11, 10, 9, 8, 5, 4, 7, 6, 3, 2, 1, 0], ⟨(some 28), (some (27, false)), .fieldA 2 (.tmp 4)⟩⟩, ⟨17, [16, 15, 14, 13, 12, 11, 10, 9, 8, 5, 4, 7, 6, 3, 2, 1, 0], ⟨(some 29), (some (27, false)), .load false 1 (.tmp 28)⟩⟩, ⟨18, [17, 16, 15, 14, 13, 12, 11, 10, 9, 8, 5, 4, 7, 6, 3, 2, 1, 0], ⟨(some 30), (some (27, false)), .call 65 [.tmp 29, .const (.int .i64 0), .const (.int .i64 64)]⟩⟩, ⟨19, [18, 17, 16, 15, 14, 13, 12, 11, 10, 9, 8, 5, 4, 7, 6, 3, 2, 1, 0], ⟨(some 31), (some (27, false)), .un .not (.tmp 30)⟩⟩, ⟨20, [19, 18, 17, 16, 15, 14, 13, 12, 11, 10, 9, 8, 5, 4, 7, 6, 3, 2, 1, 0], ⟨(some 32), none, .pick (.tmp 27) (.const (.bool true)) (.tmp 31)⟩⟩, ⟨21, [20, 19, 18, 17, 16, 15, 14, 13, 12, 11, 10, 9, 8, 5, 4, 7, 6, 3, 2, 1, 0], ⟨(some 33), none, .mov (.tmp 32)⟩⟩, ⟨22, [21, 20, 19, 18, 17, 16, 15, 14, 13, 12, 11, 10, 9, 8, 5, 4, 7, 6, 3, 2, 1, 0], ⟨(some 34), (some (33, false)), .mov (.tmp 3)⟩⟩, ⟨23, [22, 21, 20, 19, 18, 17, 16, 15, 14, 13, 12, 11, 10, 9, 8, 5, 4, 7, 6, 3, 2, 1, 0], ⟨(some 35), (some (33, false)), .bin .gtr (.tmp 34) (.const (.int .i64 0))⟩⟩, ⟨24, [23, 22, 21, 20, 19, 18, 17, 16, 15, 14, 13, 12, 11, 10, 9, 8, 5, 4, 7, 6, 3, 2, 1, 0], ⟨(some 36), (some (33, false)), .mov (.tmp 35)⟩⟩, ⟨25, [24, 23, 22, 21, 20, 19, 18, 17, 16, 15, 14, 13, 12, 11, 10, 9, 8, 5, 4, 7, 6, 3, 2, 1, 0], ⟨(some 37), (some (36, true)), .fieldA 0 (.tmp 4)⟩⟩, ⟨26, [25, 24, 23, 22, 21, 20, 19, 18, 17, 16, 15, 14, 13, 12, 11, 10, 9, 8, 5, 4, 7, 6, 3, 2, 1, 0], ⟨(some 38), (some (36, true)), .load false 1 (.tmp 37)⟩⟩, ⟨27, [24, 23, 22, 21, 20, 19, 18, 17, 16, 15, 14, 13, 12, 11, 10, 9, 8, 5, 4, 7, 6, 3, 2, 1, 0], ⟨(some 39), (some (36, true)), .mov (.tmp 0)⟩⟩, ⟨28, [24, 23, 22, 21, 20, 19, 18, 17, 16, 15, 14, 13, 12, 11, 10, 9, 8, 5, 4, 7, 6, 3, 2, 1, 0], ⟨(some 40), (some (36, true)), .mov (.tmp 3)⟩⟩, ⟨29, [28, 24, 23, 22, 21, 20, 19, 18, 17, 16, 15, 14, 13, 12, 11, 10, 9, 8, 5, 4, 7, 6, 3, 2, 1, 0], ⟨(some 41), (some (36, true)), .bin .sub (.tmp 40) (.const (.int .i64 1))⟩⟩, ⟨30, [27, 29, 28, 24, 23, 22, 21, 20, 19, 18, 17, 16, 15, 14, 13, 12, 11, 10, 9, 8, 5, 4, 7, 6, 3, 2, 1, 0], ⟨(some 42), (some (36, true)), .indexS 3 (.tmp 39) (.tmp 41)⟩⟩, ⟨31, [30, 27, 29, 28, 24, 23, 22, 21, 20, 19, 18, 17, 16, 15, 14, 13, 12, 11, 10, 9, 8, 5, 4, 7, 6, 3, 2, 1, 0], ⟨(some 43), (some (36, true)), .fieldA 1 (.tmp 42)⟩⟩, ⟨32, [31, 30, 27, 29, 28, 24, 23, 22, 21, 20, 19, 18, 17, 16, 15, 14, 13, 12, 11, 10, 9, 8, 5, 4, 7, 6, 3, 2, 1, 0], ⟨(some 44), (some (36, true)), .load false 1 (.tmp 43)⟩⟩, ⟨33, [26, 25, 32, 31, 30, 27, 29, 28, 24, 23, 22, 21, 20, 19, 18, 17, 16, 15, 14, 13, 12, 11, 10, 9, 8, 5, 4, 7, 6, 3, 2, 1, 0], ⟨(some 45), (some (36, true)), .bin .leq (.tmp 38) (.tmp 44)⟩⟩, ⟨34, [33, 26, 25, 32, 31, 30, 27, 29, 28, 24, 23, 22, 21, 20, 19, 18, 17, 16, 15, 14, 13, 12, 11, 10, 9, 8, 5, 4, 7, 6, 3, 2, 1, 0], ⟨(some 46), (some (33, false)), .pick (.tmp 36) (.tmp 45) (.const (.bool false))⟩⟩, ⟨35, [34, 33, 26, 25, 32, 31, 30, 27, 29, 28, 24, 23, 22, 21, 20, 19, 18, 17, 16, 15, 14, 13, 12, 11, 10, 9, 8, 5, 4, 7, 6, 3, 2, 1, 0], ⟨(some 47), none, .pick (.tmp 33) (.const (.bool true)) (.tmp 46)⟩⟩])
 (.cond (.tmp 47) (.seq (.ops [⟨(some 2), none, .eff .set [.const (.bool false)]⟩])
 .ret) .skip))))
 (.ops [⟨(some 48), none, .bin .add (.tmp 7) (.const (.int .i64 1))⟩, ⟨(some 7), none, .mov (.tmp 48)⟩])))))))
 (.seq (.ops [⟨(some 2), none, .eff .set [.const (.bool true)]⟩])
 .ret)))⟩
theorem x39_ok : yfunc Tryd.prog Tryd.f39 = some x39 := by kernel_rfl

/-- switchyard/region.Right -/
def x40 : YF := ⟨41, [.tmp 2],
 (.seq (.ops [⟨(some 2), none, .eff .set [.const (.bool false)]⟩])
 (.seq (.ops [⟨(some 3), none, .eff .set [.const (.int .i64 0)]⟩])
 (.seq (.seq (.ops [⟨(some 6), none, .mov (.tmp 0)⟩, ⟨(some 7), none, .len false (.tmp 6)⟩, ⟨(some 8), none, .mov (.const (.int .i64 0))⟩])
 (.block 0 (.loop [false, false, true, true, false, true, false, false, true, true, true, true, true, true, true, true, true, true, true, true, true, true, true, true, true, true, true, true, true, true, true, true, true, true, true, true, true, true, true, true, true] (.seq (.ops [⟨(some 9), none, .bin .lss (.tmp 8) (.tmp 7)⟩])
 (.seq (.cond (.tmp 9) .skip (.exit 0))
 (.seq (.block 1 (.seq (.ops [⟨(some 10), none, .indexS 3 (.tmp 6) (.tmp 8)⟩, ⟨(some 11), none, .load true 3 (.tmp 10)⟩, ⟨(some 5), none, .alloc 119 [.int .i64 0, .int .i64 0, .int .i64 0]⟩, ⟨none, none, .store 3 (.tmp 5) (.tmp 11)⟩])
 (.seq (.seq (.ops [⟨(some 12), none, .fieldA 0 (.tmp 5)⟩, ⟨(some 13), none, .load false 1 (.tmp 12)⟩, ⟨(some 14), none, .mov (.tmp 3)⟩, ⟨(some 15), none, .bin .leq (.tmp 13) (.tmp 14)⟩, ⟨(some 16), none, .mov (.tmp 15)⟩, ⟨(some 17), (some (16, false)), .fieldA 1 (.tmp 5)⟩, ⟨(some 18), (some (16, false)), .load false 1 (.tmp 17)⟩, ⟨(some 19), (some (16, false)), .fieldA 0 (.tmp 5)⟩, ⟨(some 20), (some (16, false)), .load false 1 (.tmp 19)⟩, ⟨(some 21), (some (16, false)), .bin .lss (.tmp 18) (.tmp 20)⟩, ⟨(some 22), none, .pick (.tmp 16) (.const (.bool true)) (.tmp 21)⟩, ⟨(some 23), none, .mov (.tmp 22)⟩, ⟨(some 24), (some (23, false)), .fieldA 1 (.tmp 5)⟩, ⟨(some 25), (some (23, false)), .load false 1 (.tmp 24)⟩, ⟨(some 26), (some (23, false)), .bin .gtr (.tmp 25) (.const (.int .i64 4094))⟩, ⟨(some 27), none, .pick (.tmp 23) (.const (.bool true)) (.tmp 26)⟩, ⟨(some 28), none, .mov (.tmp 27)⟩, ⟨(some 29), (some (28, false)), .fieldA 2 (.tmp 5)⟩, ⟨(some 30), (some (28, false)), .load false 1 (.tmp 29)⟩, ⟨(some 31), (some (28, false)), .bin .lss (.tmp 30) (.const (.int .i64 0))⟩, ⟨(some 32), none, .pick (.tmp 28) (.const (.bool true)) (.tmp 31)⟩, ⟨(some 33), none, .mov (.tmp 32)⟩, ⟨(some 34), (some (33, false)), .fieldA 2 (.tmp 5)⟩, ⟨(some 35), (some (33, false)), .load false 1 (.tmp 34)⟩, ⟨(some 36), (some (33, false)), .bin .gtr (.tmp 35) (.const (.int .i64 64))⟩, ⟨(some 37), none, .pick (.tmp 33) (.const (.bool true)) (.tmp 36)⟩])
 (.cond (.tmp 37) (.seq (.ops [⟨(some 2), none, .eff .set [.const (.bool false)]⟩])
 .ret) .skip))
 (.ops [⟨(some 38), none, .fieldA 1 (.tmp 5)⟩, ⟨(some 39), none, .load false 1 (.tmp 38)⟩, ⟨(some 3), none, .eff .set [.tmp 39]⟩]))))
 (.ops [⟨(some 40), none, .bin .add (.tmp 8) (.const (.int .i64 1))⟩, ⟨(some 8), none, .mov (.tmp 40)⟩])))))))
 (.seq (.ops [⟨(some 2), none, .eff .set [.const (.bool true)]⟩])
 .ret))))⟩
theorem x40_ok : yfunc Tryd.prog Tryd.f40 = some x40 := by kernel_rfl

/-- switchyard/region.Inst -/
def x41 : YF := ⟨26, [.tmp 4],
 (.seq (.ops [⟨(some 4), none, .eff .set [.const (.int .i64 0)]⟩])
 (.seq (.seq (.ops [⟨(some 7), none, .mov (.tmp 0)⟩, ⟨(some 8), none, .len false (.tmp 7)⟩, ⟨(some 9), none, .mov (.const (.int .i64 0))⟩])
 (.block 0 (.loop [false, false, false, false, true, false, true, false, false, true, true, true, true, true, true, true, true, true, true, true, true, true, true, true, true, true] (.seq (.ops [⟨(some 10), none, .bin .lss (.tmp 9) (.tmp 8)⟩])
 (.seq (.cond (.tmp 10) .skip (.exit 0))
 (.seq (.block 1 (.seq (.ops [⟨(some 11), none, .indexS 3 (.tmp 7) (.tmp 9)⟩, ⟨(some 12), none, .load true 3 (.tmp 11)⟩, ⟨(some 6), none, .alloc 119 [.int .i64 0, .int .i64 0, .int .i64 0]⟩, ⟨none, none, .store 3 (.tmp 6) (.tmp 12)⟩])
 (.seq (.ops [⟨(some 13), none, .mov (.tmp 1)⟩, ⟨(some 14), none, .fieldA 0 (.tmp 6)⟩, ⟨(some 15), none, .load false 1 (.tmp 14)⟩, ⟨(some 16), none, .bin .geq (.tmp 13) (.tmp 15)⟩, ⟨(some 17), none, .mov (.tmp 16)⟩, ⟨(some 18), (some (17, true)), .mov (.tmp 1)⟩, ⟨(some 19), (some (17, true)), .fieldA 1 (.tmp 6)⟩, ⟨(some 20), (some (17, true)), .load false 1 (.tmp 19)⟩, ⟨(some 21), (some (17, true)), .bin .leq (.tmp 18) (.tmp 20)⟩, ⟨(some 22), none, .pick (.tmp 17) (.tmp 21) (.const (.bool false))⟩])
 (.cond (.tmp 22) (.seq (.ops [⟨(some 23), none, .fieldA 2 (.tmp 6)⟩, ⟨(some 24), none, .load false 1 (.tmp 23)⟩, ⟨(some 4), none, .eff .set [.tmp 24]⟩])
 .ret) .skip))))
 (.ops [⟨(some 25), none, .bin .add (.tmp 9) (.const (.int .i64 1))⟩, ⟨(some 9), none, .mov (.tmp 25)⟩])))))))
 (.seq (.ops [⟨(some 4), none, .eff .set [.const (.int .i64 0)]⟩])
 .ret)))⟩
theorem x41_ok : yfunc Tryd.prog Tryd.f41 = some x41 := by kernel_rfl

/-- switchyard/switchyardref.SpanInst -/
def x42 : YF := ⟨22, [.tmp 4],
 (.seq (.ops [⟨(some 4), none, .eff .set [.const (.int .i64 0)]⟩])
 (.seq (.seq (.ops [⟨(some 7), none, .mov (.tmp 0)⟩, ⟨(some 8), none, .len false (.tmp 7)⟩, ⟨(some 9), none, .mov (.const (.int .i64 0))⟩])
 (.block 0 (.loop [false, false, false, false, true, false, true, false, false, true, true, true, true, true, true, true, true, true, true, true, true, true] (.seq (.ops [⟨(some 10), none, .bin .lss (.tmp 9) (.tmp 8)⟩])
 (.seq (.cond (.tmp 10) .skip (.exit 0))
 (.seq (.block 1 (.seq (.ops [⟨(some 11), none, .indexS 3 (.tmp 7) (.tmp 9)⟩, ⟨(some 12), none, .load true 3 (.tmp 11)⟩, ⟨(some 6), none, .alloc 119 [.int .i64 0, .int .i64 0, .int .i64 0]⟩, ⟨none, none, .store 3 (.tmp 6) (.tmp 12)⟩])
 (.seq (.ops [⟨(some 13), none, .mov (.tmp 1)⟩, ⟨(some 14), none, .fieldA 0 (.tmp 6)⟩, ⟨(some 15), none, .load false 1 (.tmp 14)⟩, ⟨(some 16), none, .fieldA 1 (.tmp 6)⟩, ⟨(some 17), none, .load false 1 (.tmp 16)⟩, ⟨(some 18), none, .call 65 [.tmp 13, .tmp 15, .tmp 17]⟩])
 (.cond (.tmp 18) (.seq (.ops [⟨(some 19), none, .fieldA 2 (.tmp 6)⟩, ⟨(some 20), none, .load false 1 (.tmp 19)⟩, ⟨(some 4), none, .eff .set [.tmp 20]⟩])
 .ret) .skip))))
 (.ops [⟨(some 21), none, .bin .add (.tmp 9) (.const (.int .i64 1))⟩, ⟨(some 9), none, .mov (.tmp 21)⟩])))))))
 (.seq (.ops [⟨(some 4), none, .eff .set [.const (.int .i64 0)]⟩])
 .ret)))⟩
theorem x42_ok : yfunc Tryd.prog Tryd.f42 = some x42 := by kernel_rfl

/-- switchyard/region.Least -/
def x43 : YF := ⟨61, [.tmp 2, .tmp 3],
 (.seq (.ops [⟨(some 2), none, .eff .set [.const (.slice none 0 0)]⟩, ⟨(some 3), none, .eff .set [.const (.nilIface)]⟩])
 (.seq (.seq (.ops [⟨(some 8), none, .mov (.tmp 0)⟩, ⟨(some 9), none, .call 40 [.tmp 8]⟩, ⟨(some 10), none, .un .not (.tmp 9)⟩])
 (.cond (.tmp 10) (.seq (.ops [⟨(some 11), none, .mkI 24 (.const (.int .i64 1))⟩, ⟨(some 2), none, .eff .set [.const (.slice none 0 0)]⟩, ⟨(some 3), none, .eff .set [.tmp 11]⟩])
 .ret) .skip))
 (.seq (.ops [⟨(some 4), none, .eff .set [.const (.slice none 0 0)]⟩])
 (.seq (.seq (.ops [⟨(some 12), none, .mov (.tmp 0)⟩, ⟨(some 13), none, .len false (.tmp 12)⟩, ⟨(some 14), none, .mov (.const (.int .i64 0))⟩])
 (.block 0 (.loop [false, false, false, false, true, false, true, true, false, false, false, false, false, false, true, true, true, true, true, true, true, true, true, true, true, true, true, true, true, true, true, true, true, true, true, true, true, true, true, true, true, true, true, true, true, true, true, true, true, true, true, true, true, true, true, true, true, true, true, true] (.seq (.ops [⟨(some 15), none, .bin .lss (.tmp 14) (.tmp 13)⟩])
 (.seq (.cond (.tmp 15) .skip (.exit 0))
 (.seq (.block 1 (.seq (.ops [⟨(some 16), none, .indexS 3 (.tmp 12) (.tmp 14)⟩, ⟨(some 17), none, .load true 3 (.tmp 16)⟩, ⟨(some 6), none, .alloc 119 [.int .i64 0, .int .i64 0, .int .i64 0]⟩, ⟨none, none, .store 3 (.tmp 6) (.tmp 17)⟩])
 (.seq (.ops [⟨(some 18), none, .mov (.tmp 4)⟩, ⟨(some 19), none, .len false (.tmp 18)⟩, ⟨(some 20), none, .bin .sub (.tmp 19) (.const (.int .i64 1))⟩, ⟨(some 7), none, .eff .set [.tmp 20]⟩])
 (.block 2 (.seq (.ops [⟨(some 26), none, .fieldA 2 (.tmp 6)⟩, ⟨(some 27), none, .load false 1 (.tmp 26)⟩, ⟨(some 28), none, .bin .eql (.tmp 27) (.const (.int .i64 0))⟩, ⟨(some 25), none, .eff .set [.tmp 28]⟩])
 (.cond (.tmp 25) .skip (.seq (.draw [30, 31, 32, 33, 34, 35, 36, 37, 38, 39, 40, 41, 42, 43, 44, 45, 46, 47, 48, 49, 50, 51, 52, 29] [⟨0, [], ⟨(some 30), none, .mov (.tmp 7)⟩⟩, ⟨1, [0], ⟨(some 31), none, .bin .geq (.tmp 30) (.const (.int .i64 0))⟩⟩, ⟨2, [1, 0], ⟨(some 32), none, .mov (.tmp 31)⟩⟩, ⟨3, [2, 1, 0], ⟨(some 33), (some (32, true)), .mov (.tmp 4)⟩⟩, ⟨4, [2, 1, 0], ⟨(some 34), (some (32, true)), .mov (.tmp 7)⟩⟩, ⟨5, [3, 4, 2, 1, 0], ⟨(some 35), (some (32, true)), .indexS 3 (.tmp 33) (.tmp 34)⟩⟩, ⟨6, [5, 3, 4, 2, 1, 0], ⟨(some 36), (some (32, true)), .fieldA 2 (.tmp 35)⟩⟩, ⟨7, [6, 5, 3, 4, 2, 1, 0], ⟨(some 37), (some (32, true)), .load false 1 (.tmp 36)⟩⟩, ⟨8, [2, 1, 0], ⟨(some 38), (some (32, true)), .fieldA 2 (.tmp 6)⟩⟩, ⟨9, [8, 2, 1, 0], ⟨(some 39), (some (32, true)), .load false 1 (.tmp 38)⟩⟩, ⟨10, [7, 6, 5, 3, 4, 9, 8, 2, 1, 0], ⟨(some 40), (some (32, true)), .bin .eql (.tmp 37) (.tmp 39)⟩⟩, ⟨11, [10, 7, 6, 5, 3, 4, 9, 8, 2, 1, 0], ⟨(some 41), none, .pick (.tmp 32) (.tmp 40) (.const (.bool false))⟩⟩, ⟨12, [11, 10, 7, 6, 5, 3, 4, 9, 8, 2, 1, 0], ⟨(some 42), none, .mov (.tmp 41)⟩⟩, ⟨13, [12, 11, 10, 7, 6, 5, 3, 4, 9, 8, 2, 1, 0], ⟨(some 43), (some (42, true)), .mov (.tmp 4)⟩⟩, ⟨14, [12, 11, 10, 7, 6, 5, 3, 4, 9, 8, 2, 1, 0], ⟨(some 44), (some (42, true)), .mov (.tmp 7)⟩⟩, ⟨15, [13, 14, 12, 11, 10, 7, 6, 5, 3, 4, 9, 8, 2, 1, 0], ⟨(some 45), (some (42, true)), .indexS 3 (.tmp 43) (.tmp 44)⟩⟩, ⟨16, [15, 13, 14, 12, 11, 10, 7, 6, 5, 3, 4, 9, 8, 2, 1, 0], ⟨(some 46), (some (42, true)), .fieldA 1 (.tmp 45)⟩⟩, ⟨17, [16, 15, 13, 14, 12, 11, 10, 7, 6, 5, 3, 4, 9, 8, 2, 1, 0], ⟨(some 47), (some (42, true)), .load false 1 (.tmp 46)⟩⟩, ⟨18, [17, 16, 15, 13, 14, 12, 11, 10, 7, 6, 5, 3, 4, 9, 8, 2, 1, 0], ⟨(some 48), (some (42, true)), .bin .add (.tmp 47) (.const (.int .i64 1))⟩⟩, ⟨19, [12, 11, 10, 7, 6, 5, 3, 4, 9, 8, 2, 1, 0], ⟨(some 49), (some (42, true)), .fieldA 0 (.tmp 6)⟩⟩, ⟨20, [19, 12, 11, 10, 7, 6, 5, 3, 4, 9, 8, 2, 1, 0], ⟨(some 50), (some (42, true)), .load false 1 (.tmp 49)⟩⟩, ⟨21, [18, 17, 16, 15, 13, 14, 20, 19, 12, 11, 10, 7, 6, 5, 3, 4, 9, 8, 2, 1, 0], ⟨(some 51), (some (42, true)), .bin .eql (.tmp 48) (.tmp 50)⟩⟩, ⟨22, [21, 18, 17, 16, 15, 13, 14, 20, 19, 12, 11, 10, 7, 6, 5, 3, 4, 9, 8, 2, 1, 0], ⟨(some 52), none, .pick (.tmp 42) (.tmp 51) (.const (.bool false))⟩⟩, ⟨23, [22, 21, 18, 17, 16, 15, 13, 14, 20, 19, 12, 11, 10, 7, 6, 5, 3, 4, 9, 8, 2, 1, 0], ⟨(some 29), none, .eff .set [.tmp 52]⟩⟩])
 (.cond (.tmp 29) (.ops [⟨(some 53), none, .mov (.tmp 4)⟩, ⟨(some 54), none, .mov (.tmp 7)⟩, ⟨(some 55), none, .fieldA 1 (.tmp 6)⟩, ⟨(some 56), none, .load false 1 (.tmp 55)⟩, ⟨(some 57), none, .indexS 3 (.tmp 53) (.tmp 54)⟩, ⟨(some 58), none, .fieldA 1 (.tmp 57)⟩, ⟨none, none, .store 1 (.tmp 58) (.tmp 56)⟩]) (.ops [⟨(some 21), none, .mov (.tmp 4)⟩, ⟨(some 22), none, .load true 3 (.tmp 6)⟩, ⟨(some 23), none, .bslice 119 1 [.int .i64 0, .int .i64 0, .int .i64 0] [(0, 3, .tmp 22)]⟩, ⟨(some 24), none, .eff (.app 119 3 24 [.int .i64 0, .int .i64 0, .int .i64 0]) [.tmp 21, .tmp 23]⟩, ⟨(some 4), none, .eff .set [.tmp 24]⟩])))))))))
 (.ops [⟨(some 59), none, .bin .add (.tmp 14) (.const (.int .i64 1))⟩, ⟨(some 14), none, .mov (.tmp 59)⟩])))))))
 (.seq (.ops [⟨(some 60), none, .mov (.tmp 4)⟩, ⟨(some 2), none, .eff .set [.tmp 60]⟩, ⟨(some 3), none, .eff .set [.const (.nilIface)]⟩])
 .ret)))))⟩
theorem x43_ok : yfunc Tryd.prog Tryd.f43 = some x43 := by kernel_rfl

/-- switchyard/switchyardlaw.sameSpans -/
def x44 : YF := ⟨26, [.tmp 4],
 (.seq (.ops [⟨(some 4), none, .eff .set [.const (.bool false)]⟩])
 (.seq (.seq (.ops [⟨(some 6), none, .mov (.tmp 0)⟩, ⟨(some 7), none, .len false (.tmp 6)⟩, ⟨(some 8), none, .mov (.tmp 1)⟩, ⟨(some 9), none, .len false (.tmp 8)⟩, ⟨(some 10), none, .bin .neq (.tmp 7) (.tmp 9)⟩])
 (.cond (.tmp 10) (.seq (.ops [⟨(some 4), none, .eff .set [.const (.bool false)]⟩])
 .ret) .skip))
 (.seq (.seq (.ops [⟨(some 11), none, .mov (.tmp 0)⟩, ⟨(some 12), none, .len false (.tmp 11)⟩, ⟨(some 13), none, .mov (.const (.int .i64 0))⟩])
 (.block 0 (.loop [false, false, false, false, true, true, false, false, false, false, false, false, false, true, true, true, true, true, true, true, true, true, true, true, true, true] (.seq (.ops [⟨(some 14), none, .bin .lss (.tmp 13) (.tmp 12)⟩])
 (.seq (.cond (.tmp 14) .skip (.exit 0))
 (.seq (.block 1 (.seq (.ops [⟨(some 15), none, .mov (.tmp 13)⟩, ⟨(some 5), none, .eff .set [.tmp 15]⟩])
 (.seq (.draw [16, 17, 18, 19, 20, 21, 22, 23, 24] [⟨0, [], ⟨(some 16), none, .mov (.tmp 0)⟩⟩, ⟨1, [], ⟨(some 17), none, .mov (.tmp 5)⟩⟩, ⟨2, [0, 1], ⟨(some 18), none, .indexS 3 (.tmp 16) (.tmp 17)⟩⟩, ⟨3, [2, 0, 1], ⟨(some 19), none, .load true 3 (.tmp 18)⟩⟩, ⟨4, [], ⟨(some 20), none, .mov (.tmp 1)⟩⟩, ⟨5, [], ⟨(some 21), none, .mov (.tmp 5)⟩⟩, ⟨6, [4, 5], ⟨(some 22), none, .indexS 3 (.tmp 20) (.tmp 21)⟩⟩, ⟨7, [6, 4, 5], ⟨(some 23), none, .load true 3 (.tmp 22)⟩⟩, ⟨8, [3, 2, 0, 1, 7, 6, 4, 5], ⟨(some 24), none, .eqAgg true [0, 0, 0] (.tmp 19) (.tmp 23)⟩⟩])
 (.cond (.tmp 24) (.seq (.ops [⟨(some 4), none, .eff .set [.const (.bool false)]⟩])
 .ret) .skip))))
 (.ops [⟨(some 25), none, .bin .add (.tmp 13) (.const (.int .i64 1))⟩, ⟨(some 13), none, .mov (.tmp 25)⟩])))))))
 (.seq (.ops [⟨(some 4), none, .eff .set [.const (.bool true)]⟩])
 .ret))))⟩
theorem x44_ok : yfunc Tryd.prog Tryd.f44 = some x44 := by kernel_rfl

/-- switchyard/switchyardref.SpanLeast -/
def x45 : YF := ⟨53, [.tmp 2],
 (.seq (.ops [⟨(some 2), none, .eff .set [.const (.slice none 0 0)]⟩])
 (.seq (.ops [⟨(some 3), none, .eff .set [.const (.slice none 0 0)]⟩])
 (.seq (.seq (.ops [⟨(some 4), none, .eff .set [.const (.int .i64 1)]⟩])
 (.block 0 (.loop [false, false, false, true, true, true, true, true, true, true, true, true, true, true, true, true, true, true, true, true, true, true, true, true, true, true, true, true, true, true, true, true, true, true, true, true, true, true, true, true, true, true, true, true, true, true, true, true, true, true, true, true] (.seq (.seq (.ops [⟨(some 7), none, .mov (.tmp 4)⟩, ⟨(some 8), none, .bin .leq (.tmp 7) (.const (.int .i64 4094))⟩])
 (.cond (.tmp 8) .skip (.exit 0)))
 (.seq (.block 1 (.seq (.ops [⟨(some 11), none, .mov (.tmp 0)⟩, ⟨(some 12), none, .mov (.tmp 4)⟩, ⟨(some 13), none, .call 42 [.tmp 11, .tmp 12]⟩, ⟨(some 5), none, .eff .set [.tmp 13]⟩])
 (.seq (.seq (.ops [⟨(some 14), none, .mov (.tmp 5)⟩, ⟨(some 15), none, .bin .eql (.tmp 14) (.const (.int .i64 0))⟩])
 (.cond (.tmp 15) (.exit 1) .skip))
 (.seq (.ops [⟨(some 16), none, .mov (.tmp 3)⟩, ⟨(some 17), none, .len false (.tmp 16)⟩, ⟨(some 18), none, .bin .sub (.tmp 17) (.const (.int .i64 1))⟩, ⟨(some 6), none, .eff .set [.tmp 18]⟩])
 (.seq (.ops [⟨(some 19), none, .mov (.tmp 6)⟩, ⟨(some 20), none, .bin .geq (.tmp 19) (.const (.int .i64 0))⟩, ⟨(some 21), none, .mov (.tmp 20)⟩, ⟨(some 22), (some (21, true)), .mov (.tmp 3)⟩, ⟨(some 23), (some (21, true)), .mov (.tmp 6)⟩, ⟨(some 24), (some (21, true)), .indexS 3 (.tmp 22) (.tmp 23)⟩, ⟨(some 25), (some (21, true)), .fieldA 1 (.tmp 24)⟩, ⟨(some 26), (some (21, true)), .load false 1 (.tmp 25)⟩, ⟨(some 27), (some (21, true)), .mov (.tmp 4)⟩, ⟨(some 28), (some (21, true)), .bin .sub (.tmp 27) (.const (.int .i64 1))⟩, ⟨(some 29), (some (21, true)), .bin .eql (.tmp 26) (.tmp 28)⟩, ⟨(some 30), none, .pick (.tmp 21) (.tmp 29) (.const (.bool false))⟩, ⟨(some 31), none, .mov (.tmp 30)⟩, ⟨(some 32), (some (31, true)), .mov (.tmp 3)⟩, ⟨(some 33), (some (31, true)), .mov (.tmp 6)⟩, ⟨(some 34), (some (31, true)), .indexS 3 (.tmp 32) (.tmp 33)⟩, ⟨(some 35), (some (31, true)), .fieldA 2 (.tmp 34)⟩, ⟨(some 36), (some (31, true)), .load false 1 (.tmp 35)⟩, ⟨(some 37), (some (31, true)), .mov (.tmp 5)⟩, ⟨(some 38), (some (31, true)), .bin .eql (.tmp 36) (.tmp 37)⟩, ⟨(some 39), none, .pick (.tmp 31) (.tmp 38) (.const (.bool false))⟩])
 (.cond (.tmp 39) (.ops [⟨(some 40), none, .mov (.tmp 3)⟩, ⟨(some 41), none, .mov (.tmp 6)⟩, ⟨(some 42), none, .mov (.tmp 4)⟩, ⟨(some 43), none, .indexS 3 (.tmp 40) (.tmp 41)⟩, ⟨(some 44), none, .fieldA 1 (.tmp 43)⟩, ⟨none, none, .store 1 (.tmp 44) (.tmp 42)⟩]) (.ops [⟨(some 45), none, .mov (.tmp 3)⟩, ⟨(some 46), none, .mov (.tmp 4)⟩, ⟨(some 47), none, .mov (.tmp 4)⟩, ⟨(some 48), none, .mov (.tmp 5)⟩, ⟨(some 49), none, .build [.int .i64 0, .int .i64 0, .int .i64 0] [(0, 1, .tmp 46), (1, 1, .tmp 47), (2, 1, .tmp 48)]⟩, ⟨(some 50), none, .bslice 119 1 [.int .i64 0, .int .i64 0, .int .i64 0] [(0, 3, .tmp 49)]⟩, ⟨(some 51), none, .eff (.app 119 3 24 [.int .i64 0, .int .i64 0, .int .i64 0]) [.tmp 45, .tmp 50]⟩, ⟨(some 3), none, .eff .set [.tmp 51]⟩])))))))
 (.ops [⟨(some 9), none, .mov (.tmp 4)⟩, ⟨(some 10), none, .bin .add (.tmp 9) (.const (.int .i64 1))⟩, ⟨(some 4), none, .eff .set [.tmp 10]⟩]))))))
 (.seq (.ops [⟨(some 52), none, .mov (.tmp 3)⟩, ⟨(some 2), none, .eff .set [.tmp 52]⟩])
 .ret))))⟩
theorem x45_ok : yfunc Tryd.prog Tryd.f45 = some x45 := by kernel_rfl
end Go.Proofs.YtfagdcpfebghoaaDoor
