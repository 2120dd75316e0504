/- Functions of this seat with the type tables looked up; each checked by the kernel. Conditions: none. -/
import Derived.Test.YtedfohdgigbhiaaDoorProg
import Derived.Test.YtedfohdgigbhiaaDoorBaseC
namespace Go.Proofs.YtedfohdgigbhiaaDoor
open Go.Sx
set_option maxRecDepth 100000
/-- switchyard/switchyardlaw.placed -/
def x13 : YF := ⟨22, [.tmp 4],
 (.seq (.ops [⟨(some 3), none, .box 31 (.tmp 1)⟩, ⟨(some 4), none, .eff .set [.const (.bool false)]⟩])
 (.seq (.ops [⟨(some 8), none, .mov (.tmp 0)⟩, ⟨(some 9), none, .call 62 [.tmp 8]⟩, ⟨(some 7), none, .mov (.tmp 9)⟩, ⟨(some 10), none, .ext (.tmp 7) 0⟩, ⟨(some 11), none, .ext (.tmp 7) 1⟩, ⟨(some 5), none, .eff .set [.tmp 10]⟩, ⟨(some 6), none, .eff .set [.tmp 11]⟩])
 (.seq (.ops [⟨(some 12), none, .mov (.tmp 5)⟩, ⟨(some 13), none, .fieldA 0 (.tmp 3)⟩, ⟨(some 14), none, .load false 1 (.tmp 13)⟩, ⟨(some 15), none, .bin .eql (.tmp 12) (.tmp 14)⟩, ⟨(some 16), none, .mov (.tmp 15)⟩, ⟨(some 17), (some (16, true)), .mov (.tmp 6)⟩, ⟨(some 18), (some (16, true)), .fieldA 1 (.tmp 3)⟩, ⟨(some 19), (some (16, true)), .load false 1 (.tmp 18)⟩, ⟨(some 20), (some (16, true)), .bin .eql (.tmp 17) (.tmp 19)⟩, ⟨(some 21), none, .pick (.tmp 16) (.tmp 20) (.const (.bool false))⟩, ⟨(some 4), none, .eff .set [.tmp 21]⟩])
 .ret)))⟩
theorem x13_ok : yfunc Tryd.prog Tryd.f13 = some x13 := by kernel_rfl

/-- switchyard/switchyardlaw.bare -/
def x24 : YF := ⟨19, [.tmp 4],
 (.seq (.ops [⟨(some 4), none, .eff .set [.const (.bool false)]⟩])
 (.seq (.ops [⟨(some 8), none, .mov (.tmp 0)⟩, ⟨(some 9), none, .call 62 [.tmp 8]⟩, ⟨(some 7), none, .mov (.tmp 9)⟩, ⟨(some 10), none, .ext (.tmp 7) 0⟩, ⟨(some 11), none, .ext (.tmp 7) 1⟩, ⟨(some 5), none, .eff .set [.tmp 10]⟩, ⟨(some 6), none, .eff .set [.tmp 11]⟩])
 (.seq (.ops [⟨(some 12), none, .mov (.tmp 5)⟩, ⟨(some 13), none, .mov (.tmp 1)⟩, ⟨(some 14), none, .bin .eql (.tmp 12) (.tmp 13)⟩, ⟨(some 15), none, .mov (.tmp 14)⟩, ⟨(some 16), (some (15, true)), .mov (.tmp 6)⟩, ⟨(some 17), (some (15, true)), .bin .eql (.tmp 16) (.const (.int .i64 (-1)))⟩, ⟨(some 18), none, .pick (.tmp 15) (.tmp 17) (.const (.bool false))⟩, ⟨(some 4), none, .eff .set [.tmp 18]⟩])
 .ret)))⟩
theorem x24_ok : yfunc Tryd.prog Tryd.f24 = some x24 := by kernel_rfl

/-- switchyard/plain.Place -/
def x62 : YF := ⟨38, [.tmp 2, .tmp 3],
 (.seq (.ops [⟨(some 2), none, .eff .set [.const (.int .i64 0)]⟩, ⟨(some 3), none, .eff .set [.const (.int .i64 0)]⟩])
 (.seq (.ops [⟨(some 9), none, .mov (.tmp 0)⟩, ⟨(some 10), none, .call 114 [.tmp 9]⟩, ⟨(some 4), none, .eff .set [.tmp 10]⟩])
 (.seq (.block 0 (.loop [true, false, true, true, false, true, true, true, true, false, false, true, true, true, true, true, true, true, true, true, true, true, true, true, true, true, true, true, true, true, true, true, true, true, true, true, true] (.seq (.seq (.ops [⟨(some 11), none, .mov (.tmp 0)⟩, ⟨(some 12), none, .more (.nilI true) [.tmp 11]⟩])
 (.cond (.tmp 12) .skip (.exit 0)))
 (.block 1 (.seq (.seq (.ops [⟨(some 14), none, .mov (.tmp 0)⟩, ⟨(some 15), none, .more (.tass 191 (.pointer none)) [.tmp 14]⟩, ⟨(some 13), none, .mov (.tmp 15)⟩, ⟨(some 16), none, .ext (.tmp 13) 0⟩, ⟨(some 17), none, .ext (.tmp 13) 1⟩, ⟨(some 5), none, .eff .set [.tmp 16]⟩, ⟨(some 6), none, .eff .set [.tmp 17]⟩])
 (.seq (.ops [⟨(some 18), none, .mov (.tmp 6)⟩, ⟨(some 19), none, .mov (.tmp 18)⟩, ⟨(some 20), (some (19, true)), .mov (.tmp 5)⟩, ⟨(some 21), (some (19, true)), .more (.nilP true) [.tmp 20]⟩, ⟨(some 22), none, .pick (.tmp 19) (.tmp 21) (.const (.bool false))⟩])
 (.cond (.tmp 22) (.seq (.draw [23, 24, 25, 26, 27, 2, 3] [⟨0, [], ⟨(some 23), none, .mov (.tmp 4)⟩⟩, ⟨1, [], ⟨(some 24), none, .mov (.tmp 5)⟩⟩, ⟨2, [1], ⟨(some 25), none, .more .nilC [.tmp 24]⟩⟩, ⟨3, [2, 1], ⟨(some 26), none, .fieldA 1 (.tmp 25)⟩⟩, ⟨4, [3, 2, 1], ⟨(some 27), none, .load false 1 (.tmp 26)⟩⟩, ⟨5, [0], ⟨(some 2), none, .eff .set [.tmp 23]⟩⟩, ⟨6, [4, 3, 2, 1, 5, 0], ⟨(some 3), none, .eff .set [.tmp 27]⟩⟩])
 .ret) .skip)))
 (.seq (.ops [⟨(some 29), none, .mov (.tmp 0)⟩, ⟨(some 30), none, .prim (.typeAssert (.tmp 29) 26 248 true) [.tmp 29]⟩, ⟨(some 28), none, .mov (.tmp 30)⟩, ⟨(some 31), none, .ext (.tmp 28) 0⟩, ⟨(some 32), none, .ext (.tmp 28) 1⟩, ⟨(some 7), none, .eff .set [.tmp 31]⟩, ⟨(some 8), none, .eff .set [.tmp 32]⟩])
 (.seq (.seq (.ops [⟨(some 33), none, .mov (.tmp 8)⟩, ⟨(some 34), none, .un .not (.tmp 33)⟩])
 (.cond (.tmp 34) (.exit 0) .skip))
 (.ops [⟨(some 35), none, .mov (.tmp 7)⟩, ⟨(some 36), none, .prim (.call ⟨.invoke (.tmp 35) "Unwrap", #[], #[]⟩) [.tmp 35]⟩, ⟨(some 0), none, .eff .set [.tmp 36]⟩]))))))))
 (.seq (.ops [⟨(some 37), none, .mov (.tmp 4)⟩, ⟨(some 2), none, .eff .set [.tmp 37]⟩, ⟨(some 3), none, .eff .set [.const (.int .i64 (-1))]⟩])
 .ret))))⟩
theorem x62_ok : yfunc Tryd.prog Tryd.f62 = some x62 := by kernel_rfl

/-- switchyard/api.Tell -/
def x114 : YF := ⟨10, [.tmp 2],
 (.seq (.ops [⟨(some 2), none, .eff .set [.const (.int .i64 0)]⟩])
 (.seq (.seq (.ops [⟨(some 4), none, .mov (.tmp 0)⟩, ⟨(some 5), none, .more (.nilI false) [.tmp 4]⟩])
 (.cond (.tmp 5) (.seq (.ops [⟨(some 2), none, .eff .set [.const (.int .i64 0)]⟩])
 .ret) .skip))
 (.seq (.ops [⟨(some 3), none, .alloc 29 [.int .i64 0]⟩])
 (.seq (.seq (.ops [⟨(some 6), none, .mov (.tmp 0)⟩, ⟨(some 7), none, .mkI 285 (.tmp 3)⟩, ⟨(some 8), none, .call 154 [.tmp 6, .tmp 7]⟩])
 (.cond (.tmp 8) (.seq (.ops [⟨(some 9), none, .load false 1 (.tmp 3)⟩, ⟨(some 2), none, .eff .set [.tmp 9]⟩])
 .ret) .skip))
 (.seq (.ops [⟨(some 2), none, .eff .set [.const (.int .i64 (-1))]⟩])
 .ret)))))⟩
theorem x114_ok : yfunc Tryd.prog Tryd.f114 = some x114 := by kernel_rfl

/-- errors.As -/
def x154 : YF := ⟨42, [.tmp 4],
 (.seq (.ops [⟨(some 4), none, .eff .set [.const (.bool false)]⟩])
 (.seq (.seq (.ops [⟨(some 8), none, .mov (.tmp 0)⟩, ⟨(some 9), none, .more (.nilI false) [.tmp 8]⟩])
 (.cond (.tmp 9) (.seq (.ops [⟨(some 4), none, .eff .set [.const (.bool false)]⟩])
 .ret) .skip))
 (.seq (.seq (.ops [⟨(some 10), none, .mov (.tmp 1)⟩, ⟨(some 11), none, .more (.nilI false) [.tmp 10]⟩])
 (.cond (.tmp 11) (.ops [⟨(some 12), none, .mkI 9 (.const (.string ⟨#[101, 114, 114, 111, 114, 115, 58, 32, 116, 97, 114, 103, 101, 116, 32, 99, 97, 110, 110, 111, 116, 32, 98, 101, 32, 110, 105, 108]⟩))⟩, ⟨none, none, .prim (.panic (.tmp 12)) [.tmp 12]⟩]) .skip))
 (.seq (.ops [⟨(some 13), none, .mov (.tmp 1)⟩, ⟨(some 14), none, .prim (.call ⟨.value (.func 158), #[.tmp 13], #[20]⟩) [.tmp 13]⟩, ⟨(some 5), none, .alloc 296 [.pointer none, .pointer none, .int .u64 0]⟩, ⟨none, none, .store 3 (.tmp 5) (.tmp 14)⟩])
 (.seq (.ops [⟨(some 15), none, .load true 3 (.tmp 5)⟩, ⟨(some 16), none, .prim (.call ⟨.value (.func 159), #[.tmp 15], #[296]⟩) [.tmp 15]⟩, ⟨(some 6), none, .eff .set [.tmp 16]⟩])
 (.seq (.seq (.ops [⟨(some 17), none, .mov (.tmp 6)⟩, ⟨(some 18), none, .prim (.call ⟨.invoke (.tmp 17) "Kind", #[], #[]⟩) [.tmp 17]⟩, ⟨(some 19), none, .bin .neq (.tmp 18) (.const (.int .u8 22))⟩, ⟨(some 20), none, .mov (.tmp 19)⟩, ⟨(some 21), (some (20, false)), .load true 3 (.tmp 5)⟩, ⟨(some 22), (some (20, false)), .prim (.call ⟨.value (.func 160), #[.tmp 21], #[296]⟩) [.tmp 21]⟩, ⟨(some 23), none, .pick (.tmp 20) (.const (.bool true)) (.tmp 22)⟩])
 (.cond (.tmp 23) (.ops [⟨(some 24), none, .mkI 9 (.const (.string ⟨#[101, 114, 114, 111, 114, 115, 58, 32, 116, 97, 114, 103, 101, 116, 32, 109, 117, 115, 116, 32, 98, 101, 32, 97, 32, 110, 111, 110, 45, 110, 105, 108, 32, 112, 111, 105, 110, 116, 101, 114]⟩))⟩, ⟨none, none, .prim (.panic (.tmp 24)) [.tmp 24]⟩]) .skip))
 (.seq (.ops [⟨(some 25), none, .mov (.tmp 6)⟩, ⟨(some 26), none, .prim (.call ⟨.invoke (.tmp 25) "Elem", #[], #[]⟩) [.tmp 25]⟩, ⟨(some 7), none, .eff .set [.tmp 26]⟩])
 (.seq (.seq (.ops [⟨(some 27), none, .mov (.tmp 7)⟩, ⟨(some 28), none, .prim (.call ⟨.invoke (.tmp 27) "Kind", #[], #[]⟩) [.tmp 27]⟩, ⟨(some 29), none, .bin .neq (.tmp 28) (.const (.int .u8 20))⟩, ⟨(some 30), none, .mov (.tmp 29)⟩, ⟨(some 31), (some (30, true)), .mov (.tmp 7)⟩, ⟨(some 32), (some (30, true)), .load false 1 (.global 0)⟩, ⟨(some 33), (some (30, true)), .prim (.call ⟨.invoke (.tmp 31) "Implements", #[.tmp 32], #[299]⟩) [.tmp 31, .tmp 32]⟩, ⟨(some 34), (some (30, true)), .un .not (.tmp 33)⟩, ⟨(some 35), none, .pick (.tmp 30) (.tmp 34) (.const (.bool false))⟩])
 (.cond (.tmp 35) (.ops [⟨(some 36), none, .mkI 9 (.const (.string ⟨#[101, 114, 114, 111, 114, 115, 58, 32, 42, 116, 97, 114, 103, 101, 116, 32, 109, 117, 115, 116, 32, 98, 101, 32, 105, 110, 116, 101, 114, 102, 97, 99, 101, 32, 111, 114, 32, 105, 109, 112, 108, 101, 109, 101, 110, 116, 32, 101, 114, 114, 111, 114]⟩))⟩, ⟨none, none, .prim (.panic (.tmp 36)) [.tmp 36]⟩]) .skip))
 (.seq (.ops [⟨(some 37), none, .mov (.tmp 0)⟩, ⟨(some 38), none, .mov (.tmp 1)⟩, ⟨(some 39), none, .load true 3 (.tmp 5)⟩, ⟨(some 40), none, .mov (.tmp 7)⟩, ⟨(some 41), none, .call 161 [.tmp 37, .tmp 38, .tmp 39, .tmp 40]⟩, ⟨(some 4), none, .eff .set [.tmp 41]⟩])
 .ret)))))))))⟩
theorem x154_ok : yfunc Tryd.prog Tryd.f154 = some x154 := by kernel_rfl

/-- errors.as -/
def x161 : YF := ⟨62, [.tmp 8],
 (.seq (.ops [⟨(some 6), none, .box 296 (.tmp 2)⟩, ⟨(some 8), none, .eff .set [.const (.bool false)]⟩])
 (.block 0 (.loop [true, false, false, false, false, false, false, false, true, true, true, true, true, false, true, true, true, true, true, true, true, true, true, true, true, true, true, true, true, true, true, true, true, true, true, true, true, true, true, true, true, true, true, true, true, true, true, true, true, true, true, true, true, true, true, true, true, true, true, true, true, true] (.block 1 (.seq (.seq (.ops [⟨(some 16), none, .mov (.tmp 0)⟩, ⟨(some 17), none, .prim (.call ⟨.value (.func 163), #[.tmp 16], #[20]⟩) [.tmp 16]⟩, ⟨(some 18), none, .mov (.tmp 3)⟩, ⟨(some 19), none, .prim (.call ⟨.invoke (.tmp 17) "AssignableTo", #[.tmp 18], #[299]⟩) [.tmp 17, .tmp 18]⟩])
 (.cond (.tmp 19) (.seq (.ops [⟨(some 20), none, .load true 3 (.tmp 6)⟩, ⟨(some 21), none, .prim (.call ⟨.value (.func 164), #[.tmp 20], #[296]⟩) [.tmp 20]⟩, ⟨(some 22), none, .mov (.tmp 0)⟩, ⟨(some 23), none, .prim (.call ⟨.value (.func 158), #[.tmp 22], #[20]⟩) [.tmp 22]⟩, ⟨(some 24), none, .prim (.call ⟨.value (.func 165), #[.tmp 21, .tmp 23], #[296, 296]⟩) [.tmp 21, .tmp 23]⟩])
 (.seq (.ops [⟨(some 8), none, .eff .set [.const (.bool true)]⟩])
 .ret)) .skip))
 (.seq (.seq (.ops [⟨(some 26), none, .mov (.tmp 0)⟩, ⟨(some 27), none, .prim (.typeAssert (.tmp 26) 26 311 true) [.tmp 26]⟩, ⟨(some 25), none, .mov (.tmp 27)⟩, ⟨(some 28), none, .ext (.tmp 25) 0⟩, ⟨(some 29), none, .ext (.tmp 25) 1⟩, ⟨(some 9), none, .eff .set [.tmp 28]⟩, ⟨(some 10), none, .eff .set [.tmp 29]⟩])
 (.seq (.ops [⟨(some 30), none, .mov (.tmp 10)⟩, ⟨(some 31), none, .mov (.tmp 30)⟩, ⟨(some 32), (some (31, true)), .mov (.tmp 9)⟩, ⟨(some 33), (some (31, true)), .mov (.tmp 1)⟩, ⟨(some 34), (some (31, true)), .prim (.call ⟨.invoke (.tmp 32) "As", #[.tmp 33], #[20]⟩) [.tmp 32, .tmp 33]⟩, ⟨(some 35), none, .pick (.tmp 31) (.tmp 34) (.const (.bool false))⟩])
 (.cond (.tmp 35) (.seq (.ops [⟨(some 8), none, .eff .set [.const (.bool true)]⟩])
 .ret) .skip)))
 (.seq (.ops [⟨(some 36), none, .mov (.tmp 0)⟩])
 (.block 2 (.seq (.ops [⟨(some 37), none, .prim (.typeAssert (.tmp 36) 26 248 true) [.tmp 36]⟩, ⟨(some 38), none, .ext (.tmp 37) 1⟩, ⟨(some 39), none, .ext (.tmp 37) 0⟩])
 (.cond (.tmp 38) (.seq (.ops [⟨(some 11), none, .eff .set [.tmp 39]⟩])
 (.seq (.ops [⟨(some 40), none, .mov (.tmp 11)⟩, ⟨(some 41), none, .prim (.call ⟨.invoke (.tmp 40) "Unwrap", #[], #[]⟩) [.tmp 40]⟩, ⟨(some 0), none, .eff .set [.tmp 41]⟩])
 (.seq (.ops [⟨(some 42), none, .mov (.tmp 0)⟩, ⟨(some 43), none, .more (.nilI false) [.tmp 42]⟩])
 (.cond (.tmp 43) (.seq (.ops [⟨(some 8), none, .eff .set [.const (.bool false)]⟩])
 .ret) .skip)))) (.seq (.ops [⟨(some 44), none, .prim (.typeAssert (.tmp 36) 26 314 true) [.tmp 36]⟩, ⟨(some 45), none, .ext (.tmp 44) 1⟩, ⟨(some 46), none, .ext (.tmp 44) 0⟩])
 (.cond (.tmp 45) (.seq (.ops [⟨(some 12), none, .eff .set [.tmp 46]⟩])
 (.seq (.seq (.ops [⟨(some 47), none, .mov (.tmp 12)⟩, ⟨(some 48), none, .prim (.call ⟨.invoke (.tmp 47) "Unwrap", #[], #[]⟩) [.tmp 47]⟩, ⟨(some 49), none, .len false (.tmp 48)⟩, ⟨(some 50), none, .mov (.const (.int .i64 0))⟩])
 (.block 3 (.loop [false, false, false, false, false, false, false, false, true, false, false, false, false, false, true, false, false, false, false, false, false, false, false, false, false, false, false, false, false, false, false, false, false, false, false, false, false, false, false, false, false, false, false, false, false, false, false, false, false, false, true, true, true, true, true, true, true, true, true, true, true, true] (.seq (.ops [⟨(some 51), none, .bin .lss (.tmp 50) (.tmp 49)⟩])
 (.seq (.cond (.tmp 51) .skip (.exit 3))
 (.seq (.block 4 (.seq (.ops [⟨(some 52), none, .indexS 1 (.tmp 48) (.tmp 50)⟩, ⟨(some 53), none, .load false 1 (.tmp 52)⟩, ⟨(some 14), none, .eff .set [.tmp 53]⟩])
 (.seq (.seq (.ops [⟨(some 54), none, .mov (.tmp 14)⟩, ⟨(some 55), none, .more (.nilI false) [.tmp 54]⟩])
 (.cond (.tmp 55) (.exit 4) .skip))
 (.seq (.ops [⟨(some 56), none, .mov (.tmp 14)⟩, ⟨(some 57), none, .mov (.tmp 1)⟩, ⟨(some 58), none, .load true 3 (.tmp 6)⟩, ⟨(some 59), none, .mov (.tmp 3)⟩, ⟨(some 60), none, .call 161 [.tmp 56, .tmp 57, .tmp 58, .tmp 59]⟩])
 (.cond (.tmp 60) (.seq (.ops [⟨(some 8), none, .eff .set [.const (.bool true)]⟩])
 .ret) .skip)))))
 (.ops [⟨(some 61), none, .bin .add (.tmp 50) (.const (.int .i64 1))⟩, ⟨(some 50), none, .mov (.tmp 61)⟩])))))))
 (.seq (.ops [⟨(some 8), none, .eff .set [.const (.bool false)]⟩])
 .ret))) (.seq (.ops [⟨(some 15), none, .eff .set [.tmp 36]⟩])
 (.seq (.ops [⟨(some 8), none, .eff .set [.const (.bool false)]⟩])
 .ret))))))))))))))⟩
theorem x161_ok : yfunc Tryd.prog Tryd.f161 = some x161 := by kernel_rfl

/-- (*switchyard/api.At).Unwrap -/
def x185 : YF := ⟨8, [.tmp 2],
 (.seq (.ops [⟨(some 2), none, .eff .set [.const (.nilIface)]⟩])
 (.seq (.ops [⟨(some 3), none, .mov (.tmp 0)⟩, ⟨(some 4), none, .more .nilC [.tmp 3]⟩, ⟨(some 5), none, .fieldA 0 (.tmp 4)⟩, ⟨(some 6), none, .load false 1 (.tmp 5)⟩, ⟨(some 7), none, .mkI 29 (.tmp 6)⟩, ⟨(some 2), none, .eff .set [.tmp 7]⟩])
 .ret))⟩
theorem x185_ok : yfunc Tryd.prog Tryd.f185 = some x185 := by kernel_rfl
end Go.Proofs.YtedfohdgigbhiaaDoor
