/- Functions of this seat with the type tables looked up; each checked by the kernel. Conditions: none. -/
import Derived.Test.YtdbkceojpeboeaaDoorProg
import Derived.Test.YtdbkceojpeboeaaDoorBaseC
namespace Go.Proofs.YtdbkceojpeboeaaDoor
open Go.Sx
set_option maxRecDepth 100000
/-- switchyard/switchyardlaw.RegionMarks -/
def x4 : YF := ⟨55, [.tmp 2],
 (.seq (.ops [⟨(some 2), none, .eff .set [.const (.bool false)]⟩])
 (.seq (.seq (.ops [⟨(some 7), none, .mov (.tmp 0)⟩, ⟨(some 8), none, .len false (.tmp 7)⟩, ⟨(some 9), none, .bin .gtr (.tmp 8) (.const (.int .i64 60))⟩])
 (.cond (.tmp 9) (.seq (.ops [⟨(some 2), none, .eff .set [.const (.bool true)]⟩])
 .ret) .skip))
 (.seq (.ops [⟨(some 11), none, .mov (.tmp 0)⟩, ⟨(some 12), none, .call 9 [.tmp 11]⟩, ⟨(some 10), none, .mov (.tmp 12)⟩, ⟨(some 13), none, .ext (.tmp 10) 0⟩, ⟨(some 14), none, .ext (.tmp 10) 1⟩, ⟨(some 3), none, .eff .set [.tmp 13]⟩, ⟨(some 4), none, .eff .set [.tmp 14]⟩])
 (.seq (.ops [⟨(some 16), none, .mov (.tmp 0)⟩, ⟨(some 17), none, .call 10 [.tmp 16]⟩, ⟨(some 15), none, .mov (.tmp 17)⟩, ⟨(some 18), none, .ext (.tmp 15) 0⟩, ⟨(some 19), none, .ext (.tmp 15) 1⟩, ⟨(some 5), none, .eff .set [.tmp 18]⟩, ⟨(some 6), none, .eff .set [.tmp 19]⟩])
 (.seq (.seq (.ops [⟨(some 20), none, .mov (.tmp 0)⟩, ⟨(some 21), none, .call 11 [.tmp 20]⟩, ⟨(some 22), none, .un .not (.tmp 21)⟩])
 (.cond (.tmp 22) (.seq (.ops [⟨(some 23), none, .mov (.tmp 4)⟩, ⟨(some 24), none, .call 12 [.tmp 23, .const (.int .i64 1)]⟩, ⟨(some 25), none, .mov (.tmp 24)⟩, ⟨(some 26), (some (25, true)), .mov (.tmp 6)⟩, ⟨(some 27), (some (25, true)), .call 12 [.tmp 26, .const (.int .i64 1)]⟩, ⟨(some 28), none, .pick (.tmp 25) (.tmp 27) (.const (.bool false))⟩, ⟨(some 29), none, .mov (.tmp 28)⟩, ⟨(some 30), (some (29, true)), .mov (.tmp 3)⟩, ⟨(some 31), (some (29, true)), .bin .eql (.tmp 30) (.const (.string ⟨#[]⟩))⟩, ⟨(some 32), none, .pick (.tmp 29) (.tmp 31) (.const (.bool false))⟩, ⟨(some 33), none, .mov (.tmp 32)⟩, ⟨(some 34), (some (33, true)), .mov (.tmp 5)⟩, ⟨(some 35), (some (33, true)), .bin .eql (.tmp 34) (.const (.string ⟨#[]⟩))⟩, ⟨(some 36), none, .pick (.tmp 33) (.tmp 35) (.const (.bool false))⟩, ⟨(some 2), none, .eff .set [.tmp 36]⟩])
 .ret) .skip))
 (.seq (.ops [⟨(some 37), none, .mov (.tmp 4)⟩, ⟨(some 38), none, .more (.nilI false) [.tmp 37]⟩, ⟨(some 39), none, .mov (.tmp 38)⟩, ⟨(some 40), (some (39, true)), .mov (.tmp 6)⟩, ⟨(some 41), (some (39, true)), .more (.nilI false) [.tmp 40]⟩, ⟨(some 42), none, .pick (.tmp 39) (.tmp 41) (.const (.bool false))⟩, ⟨(some 43), none, .mov (.tmp 42)⟩, ⟨(some 44), (some (43, true)), .mov (.tmp 3)⟩, ⟨(some 45), (some (43, true)), .mov (.tmp 0)⟩, ⟨(some 46), (some (43, true)), .call 13 [.tmp 45]⟩, ⟨(some 47), (some (43, true)), .bin .eql (.tmp 44) (.tmp 46)⟩, ⟨(some 48), none, .pick (.tmp 43) (.tmp 47) (.const (.bool false))⟩, ⟨(some 49), none, .mov (.tmp 48)⟩, ⟨(some 50), (some (49, true)), .mov (.tmp 5)⟩, ⟨(some 51), (some (49, true)), .mov (.tmp 0)⟩, ⟨(some 52), (some (49, true)), .call 14 [.tmp 51]⟩, ⟨(some 53), (some (49, true)), .bin .eql (.tmp 50) (.tmp 52)⟩, ⟨(some 54), none, .pick (.tmp 49) (.tmp 53) (.const (.bool false))⟩, ⟨(some 2), none, .eff .set [.tmp 54]⟩])
 .ret))))))⟩
theorem x4_ok : yfunc Tryd.prog Tryd.f4 = some x4 := by kernel_rfl

/-- switchyard/region.Table -/
def x9 : YF := ⟨47, [.tmp 2, .tmp 3],
 (.seq (.ops [⟨(some 2), none, .eff .set [.const (.string ⟨#[]⟩)]⟩, ⟨(some 3), none, .eff .set [.const (.nilIface)]⟩])
 (.seq (.seq (.ops [⟨(some 11), none, .mov (.tmp 0)⟩, ⟨(some 12), none, .call 19 [.tmp 11]⟩, ⟨(some 13), none, .un .not (.tmp 12)⟩])
 (.cond (.tmp 13) (.seq (.ops [⟨(some 14), none, .mkI 32 (.const (.int .i64 1))⟩, ⟨(some 2), none, .eff .set [.const (.string ⟨#[]⟩)]⟩, ⟨(some 3), none, .eff .set [.tmp 14]⟩])
 .ret) .skip))
 (.seq (.ops [⟨(some 15), none, .prim (.makeSlice 44 (.const (.int .i64 4096)) (.const (.int .i64 4096))) [.const (.int .i64 4096), .const (.int .i64 4096)]⟩, ⟨(some 4), none, .eff .set [.tmp 15]⟩])
 (.seq (.seq (.ops [⟨(some 16), none, .mov (.tmp 0)⟩, ⟨(some 17), none, .len false (.tmp 16)⟩, ⟨(some 18), none, .mov (.const (.int .i64 0))⟩])
 (.block 0 (.loop [false, false, false, false, false, false, true, true, false, false, false, false, false, false, false, false, false, false, true, true, true, true, true, true, true, true, true, true, true, true, true, true, true, true, true, true] (.seq (.ops [⟨(some 19), none, .bin .lss (.tmp 18) (.tmp 17)⟩])
 (.seq (.cond (.tmp 19) .skip (.exit 0))
 (.seq (.block 1 (.seq (.ops [⟨(some 20), none, .indexS 3 (.tmp 16) (.tmp 18)⟩, ⟨(some 21), none, .load true 3 (.tmp 20)⟩, ⟨(some 6), none, .alloc 46 [.int .i64 0, .int .i64 0, .int .i64 0]⟩, ⟨none, none, .store 3 (.tmp 6) (.tmp 21)⟩])
 (.seq (.ops [⟨(some 22), none, .fieldA 0 (.tmp 6)⟩, ⟨(some 23), none, .load false 1 (.tmp 22)⟩, ⟨(some 7), none, .eff .set [.tmp 23]⟩])
 (.block 2 (.loop [false, false, false, false, false, false, false, true, false, false, false, false, false, false, false, false, false, false, false, false, false, false, false, false, true, true, true, true, true, true, true, true, true, true, true] (.seq (.seq (.ops [⟨(some 24), none, .mov (.tmp 7)⟩, ⟨(some 25), none, .fieldA 1 (.tmp 6)⟩, ⟨(some 26), none, .load false 1 (.tmp 25)⟩, ⟨(some 27), none, .bin .leq (.tmp 24) (.tmp 26)⟩])
 (.cond (.tmp 27) .skip (.exit 2)))
 (.seq (.block 3 (.ops [⟨(some 30), none, .mov (.tmp 4)⟩, ⟨(some 31), none, .mov (.tmp 7)⟩, ⟨(some 32), none, .fieldA 2 (.tmp 6)⟩, ⟨(some 33), none, .load false 1 (.tmp 32)⟩, ⟨(some 34), none, .indexS 1 (.tmp 30) (.tmp 31)⟩, ⟨none, none, .store 1 (.tmp 34) (.tmp 33)⟩]))
 (.ops [⟨(some 28), none, .mov (.tmp 7)⟩, ⟨(some 29), none, .bin .add (.tmp 28) (.const (.int .i64 1))⟩, ⟨(some 7), none, .eff .set [.tmp 29]⟩]))))))))
 (.ops [⟨(some 35), none, .bin .add (.tmp 18) (.const (.int .i64 1))⟩, ⟨(some 18), none, .mov (.tmp 35)⟩])))))))
 (.seq (.ops [⟨(some 8), none, .alloc 49 [.pointer none, .slice none 0 0]⟩])
 (.seq (.seq (.ops [⟨(some 36), none, .mov (.tmp 4)⟩, ⟨(some 37), none, .len false (.tmp 36)⟩, ⟨(some 38), none, .mov (.const (.int .i64 0))⟩])
 (.block 4 (.loop [false, false, false, false, false, false, false, false, false, false, true, false, false, false, false, false, false, false, false, false, false, false, false, false, false, false, false, false, false, false, false, false, false, false, false, false, false, false, true, true, true, true, true, true, true, true] (.seq (.ops [⟨(some 39), none, .bin .lss (.tmp 38) (.tmp 37)⟩])
 (.seq (.cond (.tmp 39) .skip (.exit 4))
 (.seq (.block 5 (.seq (.ops [⟨(some 40), none, .indexS 1 (.tmp 36) (.tmp 38)⟩, ⟨(some 41), none, .load false 1 (.tmp 40)⟩, ⟨(some 10), none, .eff .set [.tmp 41]⟩])
 (.ops [⟨(some 42), none, .mov (.tmp 10)⟩, ⟨(some 43), none, .call 21 [.tmp 42, .const (.int .i64 2)]⟩, ⟨(some 44), none, .call 20 [.tmp 8, .tmp 43]⟩])))
 (.ops [⟨(some 45), none, .bin .add (.tmp 38) (.const (.int .i64 1))⟩, ⟨(some 38), none, .mov (.tmp 45)⟩])))))))
 (.seq (.ops [⟨(some 46), none, .call 22 [.tmp 8]⟩, ⟨(some 2), none, .eff .set [.tmp 46]⟩, ⟨(some 3), none, .eff .set [.const (.nilIface)]⟩])
 .ret)))))))⟩
theorem x9_ok : yfunc Tryd.prog Tryd.f9 = some x9 := by kernel_rfl

/-- switchyard/region.Digest -/
def x10 : YF := ⟨16, [.tmp 2, .tmp 3],
 (.seq (.ops [⟨(some 2), none, .eff .set [.const (.string ⟨#[]⟩)]⟩, ⟨(some 3), none, .eff .set [.const (.nilIface)]⟩])
 (.seq (.ops [⟨(some 7), none, .mov (.tmp 0)⟩, ⟨(some 8), none, .call 9 [.tmp 7]⟩, ⟨(some 6), none, .mov (.tmp 8)⟩, ⟨(some 9), none, .ext (.tmp 6) 0⟩, ⟨(some 10), none, .ext (.tmp 6) 1⟩, ⟨(some 4), none, .eff .set [.tmp 9]⟩, ⟨(some 5), none, .eff .set [.tmp 10]⟩])
 (.seq (.seq (.ops [⟨(some 11), none, .mov (.tmp 5)⟩, ⟨(some 12), none, .more (.nilI true) [.tmp 11]⟩])
 (.cond (.tmp 12) (.seq (.ops [⟨(some 13), none, .mov (.tmp 5)⟩, ⟨(some 2), none, .eff .set [.const (.string ⟨#[]⟩)]⟩, ⟨(some 3), none, .eff .set [.tmp 13]⟩])
 .ret) .skip))
 (.seq (.ops [⟨(some 14), none, .mov (.tmp 4)⟩, ⟨(some 15), none, .call 7 [.const (.string ⟨#[19, 172, 6, 166, 46, 71, 253, 81, 249, 93, 43, 162, 67, 205, 3, 70]⟩), .tmp 14]⟩, ⟨(some 2), none, .eff .set [.tmp 15]⟩, ⟨(some 3), none, .eff .set [.const (.nilIface)]⟩])
 .ret))))⟩
theorem x10_ok : yfunc Tryd.prog Tryd.f10 = some x10 := by kernel_rfl

/-- switchyard/switchyardref.SpansRight -/
def x11 : YF := ⟨49, [.tmp 2],
 (.seq (.ops [⟨(some 2), none, .eff .set [.const (.bool false)]⟩])
 (.seq (.seq (.ops [⟨(some 5), none, .mov (.tmp 0)⟩, ⟨(some 6), none, .len false (.tmp 5)⟩, ⟨(some 7), none, .mov (.const (.int .i64 0))⟩])
 (.block 0 (.loop [false, false, true, true, true, false, false, true, true, true, true, true, true, true, true, true, true, true, true, true, true, true, true, true, true, true, true, true, true, true, true, true, true, true, true, true, true, true, true, true, true, true, true, true, true, true, true, true, true] (.seq (.ops [⟨(some 8), none, .bin .lss (.tmp 7) (.tmp 6)⟩])
 (.seq (.cond (.tmp 8) .skip (.exit 0))
 (.seq (.block 1 (.seq (.ops [⟨(some 9), none, .mov (.tmp 7)⟩, ⟨(some 10), none, .indexS 3 (.tmp 5) (.tmp 7)⟩, ⟨(some 11), none, .load true 3 (.tmp 10)⟩, ⟨(some 4), none, .alloc 46 [.int .i64 0, .int .i64 0, .int .i64 0]⟩, ⟨(some 3), none, .eff .set [.tmp 9]⟩, ⟨none, none, .store 3 (.tmp 4) (.tmp 11)⟩])
 (.seq (.draw [12, 13, 14, 15, 16, 17, 18, 19, 20, 21, 22, 23, 24, 25, 26, 27, 28, 29, 30, 31, 32, 33, 34, 35, 36, 37, 38, 39, 40, 41, 42, 43, 44, 45, 46, 47] [⟨0, [], ⟨(some 12), none, .fieldA 0 (.tmp 4)⟩⟩, ⟨1, [0], ⟨(some 13), none, .load false 1 (.tmp 12)⟩⟩, ⟨2, [1, 0], ⟨(some 14), none, .bin .lss (.tmp 13) (.const (.int .i64 1))⟩⟩, ⟨3, [2, 1, 0], ⟨(some 15), none, .mov (.tmp 14)⟩⟩, ⟨4, [3, 2, 1, 0], ⟨(some 16), (some (15, false)), .fieldA 0 (.tmp 4)⟩⟩, ⟨5, [4, 3, 2, 1, 0], ⟨(some 17), (some (15, false)), .load false 1 (.tmp 16)⟩⟩, ⟨6, [3, 2, 1, 0], ⟨(some 18), (some (15, false)), .fieldA 1 (.tmp 4)⟩⟩, ⟨7, [6, 3, 2, 1, 0], ⟨(some 19), (some (15, false)), .load false 1 (.tmp 18)⟩⟩, ⟨8, [5, 4, 7, 6, 3, 2, 1, 0], ⟨(some 20), (some (15, false)), .bin .gtr (.tmp 17) (.tmp 19)⟩⟩, ⟨9, [8, 5, 4, 7, 6, 3, 2, 1, 0], ⟨(some 21), none, .pick (.tmp 15) (.const (.bool true)) (.tmp 20)⟩⟩, ⟨10, [9, 8, 5, 4, 7, 6, 3, 2, 1, 0], ⟨(some 22), none, .mov (.tmp 21)⟩⟩, ⟨11, [10, 9, 8, 5, 4, 7, 6, 3, 2, 1, 0], ⟨(some 23), (some (22, false)), .fieldA 1 (.tmp 4)⟩⟩, ⟨12, [11, 10, 9, 8, 5, 4, 7, 6, 3, 2, 1, 0], ⟨(some 24), (some (22, false)), .load false 1 (.tmp 23)⟩⟩, ⟨13, [12, 11, 10, 9, 8, 5, 4, 7, 6, 3, 2, 1, 0], ⟨(some 25), (some (22, false)), .bin .gtr (.tmp 24) (.const (.int .i64 4094))⟩⟩, ⟨14, [13, 12, 11, 10, 9, 8, 5, 4, 7, 6, 3, 2, 1, 0], ⟨(some 26), none, .pick (.tmp 22) (.const (.bool true)) (.tmp 25)⟩⟩, ⟨15, [14, 13, 12, 11, 10, 9, 8, 5, 4, 7, 6, 3, 2, 1, 0], ⟨(some 27), none, .mov (.tmp 26)⟩⟩, ⟨16, [15, 14, 13, 12, 11, 10, 9, 8, 5, 4, 7, 6, 3, 2, 1, 0], ⟨(some 28), (some (27, false)), .fieldA 2 (.tmp 4)⟩⟩, ⟨17, [16, 15, 14, 13, 12, 11, 10, 9, 8, 5, 4, 7, 6, 3, 2, 1, 0], ⟨(some 29), (some (27, false)), .load false 1 (.tmp 28)⟩⟩, ⟨18, [17, 16, 15, 14, 13, 12, 11, 10, 9, 8, 5, 4, 7, 6, 3, 2, 1, 0], ⟨(some 30), (some (27, false)), .call 23 [.tmp 29, .const (.int .i64 0), .const (.int .i64 64)]⟩⟩, ⟨19, [18, 17, 16, 15, 14, 13, 12, 11, 10, 9, 8, 5, 4, 7, 6, 3, 2, 1, 0], ⟨(some 31), (some (27, false)), .un .not (.tmp 30)⟩⟩, ⟨20, [19, 18, 17, 16, 15, 14, 13, 12, 11, 10, 9, 8, 5, 4, 7, 6, 3, 2, 1, 0], ⟨(some 32), none, .pick (.tmp 27) (.const (.bool true)) (.tmp 31)⟩⟩, ⟨21, [20, 19, 18, 17, 16, 15, 14, 13, 12, 11, 10, 9, 8, 5, 4, 7, 6, 3, 2, 1, 0], ⟨(some 33), none, .mov (.tmp 32)⟩⟩, ⟨22, [21, 20, 19, 18, 17, 16, 15, 14, 13, 12, 11, 10, 9, 8, 5, 4, 7, 6, 3, 2, 1, 0], ⟨(some 34), (some (33, false)), .mov (.tmp 3)⟩⟩, ⟨23, [22, 21, 20, 19, 18, 17, 16, 15, 14, 13, 12, 11, 10, 9, 8, 5, 4, 7, 6, 3, 2, 1, 0], ⟨(some 35), (some (33, false)), .bin .gtr (.tmp 34) (.const (.int .i64 0))⟩⟩, ⟨24, [23, 22, 21, 20, 19, 18, 17, 16, 15, 14, 13, 12, 11, 10, 9, 8, 5, 4, 7, 6, 3, 2, 1, 0], ⟨(some 36), (some (33, false)), .mov (.tmp 35)⟩⟩, ⟨25, [24, 23, 22, 21, 20, 19, 18, 17, 16, 15, 14, 13, 12, 11, 10, 9, 8, 5, 4, 7, 6, 3, 2, 1, 0], ⟨(some 37), (some (36, true)), .fieldA 0 (.tmp 4)⟩⟩, ⟨26, [25, 24, 23, 22, 21, 20, 19, 18, 17, 16, 15, 14, 13, 12, 11, 10, 9, 8, 5, 4, 7, 6, 3, 2, 1, 0], ⟨(some 38), (some (36, true)), .load false 1 (.tmp 37)⟩⟩, ⟨27, [24, 23, 22, 21, 20, 19, 18, 17, 16, 15, 14, 13, 12, 11, 10, 9, 8, 5, 4, 7, 6, 3, 2, 1, 0], ⟨(some 39), (some (36, true)), .mov (.tmp 0)⟩⟩, ⟨28, [24, 23, 22, 21, 20, 19, 18, 17, 16, 15, 14, 13, 12, 11, 10, 9, 8, 5, 4, 7, 6, 3, 2, 1, 0], ⟨(some 40), (some (36, true)), .mov (.tmp 3)⟩⟩, ⟨29, [28, 24, 23, 22, 21, 20, 19, 18, 17, 16, 15, 14, 13, 12, 11, 10, 9, 8, 5, 4, 7, 6, 3, 2, 1, 0], ⟨(some 41), (some (36, true)), .bin .sub (.tmp 40) (.const (.int .i64 1))⟩⟩, ⟨30, [27, 29, 28, 24, 23, 22, 21, 20, 19, 18, 17, 16, 15, 14, 13, 12, 11, 10, 9, 8, 5, 4, 7, 6, 3, 2, 1, 0], ⟨(some 42), (some (36, true)), .indexS 3 (.tmp 39) (.tmp 41)⟩⟩, ⟨31, [30, 27, 29, 28, 24, 23, 22, 21, 20, 19, 18, 17, 16, 15, 14, 13, 12, 11, 10, 9, 8, 5, 4, 7, 6, 3, 2, 1, 0], ⟨(some 43), (some (36, true)), .fieldA 1 (.tmp 42)⟩⟩, ⟨32, [31, 30, 27, 29, 28, 24, 23, 22, 21, 20, 19, 18, 17, 16, 15, 14, 13, 12, 11, 10, 9, 8, 5, 4, 7, 6, 3, 2, 1, 0], ⟨(some 44), (some (36, true)), .load false 1 (.tmp 43)⟩⟩, ⟨33, [26, 25, 32, 31, 30, 27, 29, 28, 24, 23, 22, 21, 20, 19, 18, 17, 16, 15, 14, 13, 12, 11, 10, 9, 8, 5, 4, 7, 6, 3, 2, 1, 0], ⟨(some 45), (some (36, true)), .bin .leq (.tmp 38) (.tmp 44)⟩⟩, ⟨34, [33, 26, 25, 32, 31, 30, 27, 29, 28, 24, 23, 22, 21, 20, 19, 18, 17, 16, 15, 14, 13, 12, 11, 10, 9, 8, 5, 4, 7, 6, 3, 2, 1, 0], ⟨(some 46), (some (33, false)), .pick (.tmp 36) (.tmp 45) (.const (.bool false))⟩⟩, ⟨35, [34, 33, 26, 25, 32, 31, 30, 27, 29, 28, 24, 23, 22, 21, 20, 19, 18, 17, 16, 15, 14, 13, 12, 11, 10, 9, 8, 5, 4, 7, 6, 3, 2, 1, 0], ⟨(some 47), none, .pick (.tmp 33) (.const (.bool true)) (.tmp 46)⟩⟩])
 (.cond (.tmp 47) (.seq (.ops [⟨(some 2), none, .eff .set [.const (.bool false)]⟩])
 .ret) .skip))))
 (.ops [⟨(some 48), none, .bin .add (.tmp 7) (.const (.int .i64 1))⟩, ⟨(some 7), none, .mov (.tmp 48)⟩])))))))
 (.seq (.ops [⟨(some 2), none, .eff .set [.const (.bool true)]⟩])
 .ret)))⟩
theorem x11_ok : yfunc Tryd.prog Tryd.f11 = some x11 := by kernel_rfl

/-- switchyard/switchyardref.SpanTable -/
def x13 : YF := ⟨15, [.tmp 2],
 (.seq (.ops [⟨(some 2), none, .eff .set [.const (.string ⟨#[]⟩)]⟩])
 (.seq (.ops [⟨(some 3), none, .alloc 49 [.pointer none, .slice none 0 0]⟩])
 (.seq (.seq (.ops [⟨(some 5), none, .mov (.const (.int .i64 0))⟩])
 (.block 0 (.loop [false, false, false, false, true, true, true, true, true, true, true, true, true, true] (.seq (.ops [⟨(some 6), none, .bin .lss (.tmp 5) (.const (.int .i64 4096))⟩])
 (.seq (.cond (.tmp 6) .skip (.exit 0))
 (.seq (.block 1 (.seq (.ops [⟨(some 7), none, .mov (.tmp 5)⟩, ⟨(some 4), none, .eff .set [.tmp 7]⟩])
 (.ops [⟨(some 8), none, .mov (.tmp 0)⟩, ⟨(some 9), none, .mov (.tmp 4)⟩, ⟨(some 10), none, .call 26 [.tmp 8, .tmp 9]⟩, ⟨(some 11), none, .call 25 [.tmp 10, .const (.int .i64 2)]⟩, ⟨(some 12), none, .call 20 [.tmp 3, .tmp 11]⟩])))
 (.ops [⟨(some 13), none, .bin .add (.tmp 5) (.const (.int .i64 1))⟩, ⟨(some 5), none, .mov (.tmp 13)⟩])))))))
 (.seq (.ops [⟨(some 14), none, .call 22 [.tmp 3]⟩, ⟨(some 2), none, .eff .set [.tmp 14]⟩])
 .ret))))⟩
theorem x13_ok : yfunc Tryd.prog Tryd.f13 = some x13 := by kernel_rfl

/-- switchyard/switchyardref.SpanDigest -/
def x14 : YF := ⟨6, [.tmp 2],
 (.seq (.ops [⟨(some 2), none, .eff .set [.const (.string ⟨#[]⟩)]⟩])
 (.seq (.ops [⟨(some 3), none, .mov (.tmp 0)⟩, ⟨(some 4), none, .call 13 [.tmp 3]⟩, ⟨(some 5), none, .call 8 [.const (.string ⟨#[19, 172, 6, 166, 46, 71, 253, 81, 249, 93, 43, 162, 67, 205, 3, 70]⟩), .tmp 4]⟩, ⟨(some 2), none, .eff .set [.tmp 5]⟩])
 .ret))⟩
theorem x14_ok : yfunc Tryd.prog Tryd.f14 = some x14 := by kernel_rfl

/-- switchyard/region.Right -/
def x19 : YF := ⟨41, [.tmp 2],
 (.seq (.ops [⟨(some 2), none, .eff .set [.const (.bool false)]⟩])
 (.seq (.ops [⟨(some 3), none, .eff .set [.const (.int .i64 0)]⟩])
 (.seq (.seq (.ops [⟨(some 6), none, .mov (.tmp 0)⟩, ⟨(some 7), none, .len false (.tmp 6)⟩, ⟨(some 8), none, .mov (.const (.int .i64 0))⟩])
 (.block 0 (.loop [false, false, true, true, false, true, false, false, true, true, true, true, true, true, true, true, true, true, true, true, true, true, true, true, true, true, true, true, true, true, true, true, true, true, true, true, true, true, true, true, true] (.seq (.ops [⟨(some 9), none, .bin .lss (.tmp 8) (.tmp 7)⟩])
 (.seq (.cond (.tmp 9) .skip (.exit 0))
 (.seq (.block 1 (.seq (.ops [⟨(some 10), none, .indexS 3 (.tmp 6) (.tmp 8)⟩, ⟨(some 11), none, .load true 3 (.tmp 10)⟩, ⟨(some 5), none, .alloc 46 [.int .i64 0, .int .i64 0, .int .i64 0]⟩, ⟨none, none, .store 3 (.tmp 5) (.tmp 11)⟩])
 (.seq (.seq (.ops [⟨(some 12), none, .fieldA 0 (.tmp 5)⟩, ⟨(some 13), none, .load false 1 (.tmp 12)⟩, ⟨(some 14), none, .mov (.tmp 3)⟩, ⟨(some 15), none, .bin .leq (.tmp 13) (.tmp 14)⟩, ⟨(some 16), none, .mov (.tmp 15)⟩, ⟨(some 17), (some (16, false)), .fieldA 1 (.tmp 5)⟩, ⟨(some 18), (some (16, false)), .load false 1 (.tmp 17)⟩, ⟨(some 19), (some (16, false)), .fieldA 0 (.tmp 5)⟩, ⟨(some 20), (some (16, false)), .load false 1 (.tmp 19)⟩, ⟨(some 21), (some (16, false)), .bin .lss (.tmp 18) (.tmp 20)⟩, ⟨(some 22), none, .pick (.tmp 16) (.const (.bool true)) (.tmp 21)⟩, ⟨(some 23), none, .mov (.tmp 22)⟩, ⟨(some 24), (some (23, false)), .fieldA 1 (.tmp 5)⟩, ⟨(some 25), (some (23, false)), .load false 1 (.tmp 24)⟩, ⟨(some 26), (some (23, false)), .bin .gtr (.tmp 25) (.const (.int .i64 4094))⟩, ⟨(some 27), none, .pick (.tmp 23) (.const (.bool true)) (.tmp 26)⟩, ⟨(some 28), none, .mov (.tmp 27)⟩, ⟨(some 29), (some (28, false)), .fieldA 2 (.tmp 5)⟩, ⟨(some 30), (some (28, false)), .load false 1 (.tmp 29)⟩, ⟨(some 31), (some (28, false)), .bin .lss (.tmp 30) (.const (.int .i64 0))⟩, ⟨(some 32), none, .pick (.tmp 28) (.const (.bool true)) (.tmp 31)⟩, ⟨(some 33), none, .mov (.tmp 32)⟩, ⟨(some 34), (some (33, false)), .fieldA 2 (.tmp 5)⟩, ⟨(some 35), (some (33, false)), .load false 1 (.tmp 34)⟩, ⟨(some 36), (some (33, false)), .bin .gtr (.tmp 35) (.const (.int .i64 64))⟩, ⟨(some 37), none, .pick (.tmp 33) (.const (.bool true)) (.tmp 36)⟩])
 (.cond (.tmp 37) (.seq (.ops [⟨(some 2), none, .eff .set [.const (.bool false)]⟩])
 .ret) .skip))
 (.ops [⟨(some 38), none, .fieldA 1 (.tmp 5)⟩, ⟨(some 39), none, .load false 1 (.tmp 38)⟩, ⟨(some 3), none, .eff .set [.tmp 39]⟩]))))
 (.ops [⟨(some 40), none, .bin .add (.tmp 8) (.const (.int .i64 1))⟩, ⟨(some 8), none, .mov (.tmp 40)⟩])))))))
 (.seq (.ops [⟨(some 2), none, .eff .set [.const (.bool true)]⟩])
 .ret))))⟩
theorem x19_ok : yfunc Tryd.prog Tryd.f19 = some x19 := by kernel_rfl

/-- switchyard/switchyardref.SpanInst -/
def x26 : YF := ⟨22, [.tmp 4],
 (.seq (.ops [⟨(some 4), none, .eff .set [.const (.int .i64 0)]⟩])
 (.seq (.seq (.ops [⟨(some 7), none, .mov (.tmp 0)⟩, ⟨(some 8), none, .len false (.tmp 7)⟩, ⟨(some 9), none, .mov (.const (.int .i64 0))⟩])
 (.block 0 (.loop [false, false, false, false, true, false, true, false, false, true, true, true, true, true, true, true, true, true, true, true, true, true] (.seq (.ops [⟨(some 10), none, .bin .lss (.tmp 9) (.tmp 8)⟩])
 (.seq (.cond (.tmp 10) .skip (.exit 0))
 (.seq (.block 1 (.seq (.ops [⟨(some 11), none, .indexS 3 (.tmp 7) (.tmp 9)⟩, ⟨(some 12), none, .load true 3 (.tmp 11)⟩, ⟨(some 6), none, .alloc 46 [.int .i64 0, .int .i64 0, .int .i64 0]⟩, ⟨none, none, .store 3 (.tmp 6) (.tmp 12)⟩])
 (.seq (.ops [⟨(some 13), none, .mov (.tmp 1)⟩, ⟨(some 14), none, .fieldA 0 (.tmp 6)⟩, ⟨(some 15), none, .load false 1 (.tmp 14)⟩, ⟨(some 16), none, .fieldA 1 (.tmp 6)⟩, ⟨(some 17), none, .load false 1 (.tmp 16)⟩, ⟨(some 18), none, .call 23 [.tmp 13, .tmp 15, .tmp 17]⟩])
 (.cond (.tmp 18) (.seq (.ops [⟨(some 19), none, .fieldA 2 (.tmp 6)⟩, ⟨(some 20), none, .load false 1 (.tmp 19)⟩, ⟨(some 4), none, .eff .set [.tmp 20]⟩])
 .ret) .skip))))
 (.ops [⟨(some 21), none, .bin .add (.tmp 9) (.const (.int .i64 1))⟩, ⟨(some 9), none, .mov (.tmp 21)⟩])))))))
 (.seq (.ops [⟨(some 4), none, .eff .set [.const (.int .i64 0)]⟩])
 .ret)))⟩
theorem x26_ok : yfunc Tryd.prog Tryd.f26 = some x26 := by kernel_rfl
end Go.Proofs.YtdbkceojpeboeaaDoor
