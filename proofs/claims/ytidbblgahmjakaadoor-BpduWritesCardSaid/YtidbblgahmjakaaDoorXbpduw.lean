/- Functions of this seat with the type tables looked up; each checked by the kernel. Conditions: none. -/
import Derived.Test.YtidbblgahmjakaaDoorProg
import Derived.Test.YtidbblgahmjakaaDoorBaseC
namespace Go.Proofs.YtidbblgahmjakaaDoor
open Go.Sx
set_option maxRecDepth 100000
/-- switchyard/switchyardlaw.BpduWrites -/
def x9 : YF := ⟨32, [.tmp 2],
 (.seq (.ops [⟨(some 1), none, .box 86 (.tmp 0)⟩, ⟨(some 2), none, .eff .set [.const (.bool false)]⟩])
 (.seq (.ops [⟨(some 8), none, .load true 31 (.tmp 1)⟩, ⟨(some 9), none, .call 46 [.tmp 8]⟩, ⟨(some 7), none, .mov (.tmp 9)⟩, ⟨(some 10), none, .ext (.tmp 7) 0⟩, ⟨(some 11), none, .ext (.tmp 7) 1⟩, ⟨(some 3), none, .eff .set [.tmp 10]⟩, ⟨(some 4), none, .eff .set [.tmp 11]⟩])
 (.seq (.ops [⟨(some 13), none, .load true 31 (.tmp 1)⟩, ⟨(some 14), none, .call 47 [.tmp 13]⟩, ⟨(some 12), none, .mov (.tmp 14)⟩, ⟨(some 15), none, .ext (.tmp 12) 0⟩, ⟨(some 16), none, .ext (.tmp 12) 1⟩, ⟨(some 5), none, .eff .set [.tmp 15]⟩, ⟨(some 6), none, .eff .set [.tmp 16]⟩])
 (.seq (.draw [17, 18, 19, 20, 21, 22, 23, 24, 25, 26, 28, 27, 29, 30, 31, 2] [⟨0, [], ⟨(some 17), none, .mov (.tmp 6)⟩⟩, ⟨1, [], ⟨(some 18), none, .mov (.tmp 4)⟩⟩, ⟨2, [0, 1], ⟨(some 19), none, .call 35 [.tmp 17, .tmp 18]⟩⟩, ⟨3, [2, 0, 1], ⟨(some 20), none, .mov (.tmp 19)⟩⟩, ⟨4, [3, 2, 0, 1], ⟨(some 21), (some (20, true)), .mov (.tmp 3)⟩⟩, ⟨5, [3, 2, 0, 1], ⟨(some 22), (some (20, true)), .mov (.tmp 5)⟩⟩, ⟨6, [4, 5, 3, 2, 0, 1], ⟨(some 23), (some (20, true)), .bin .eql (.tmp 21) (.tmp 22)⟩⟩, ⟨7, [6, 4, 5, 3, 2, 0, 1], ⟨(some 24), none, .pick (.tmp 20) (.tmp 23) (.const (.bool false))⟩⟩, ⟨8, [7, 6, 4, 5, 3, 2, 0, 1], ⟨(some 25), none, .mov (.tmp 24)⟩⟩, ⟨9, [8, 7, 6, 4, 5, 3, 2, 0, 1], ⟨(some 26), (some (25, true)), .load true 31 (.tmp 1)⟩⟩, ⟨11, [8, 7, 6, 4, 5, 3, 2, 0, 1], ⟨(some 28), (some (25, true)), .load true 31 (.tmp 1)⟩⟩, ⟨10, [9, 8, 7, 6, 4, 5, 3, 2, 0, 1], ⟨(some 27), (some (25, true)), .call 48 [.tmp 26]⟩⟩, ⟨12, [11, 10, 9, 8, 7, 6, 4, 5, 3, 2, 0, 1], ⟨(some 29), (some (25, true)), .call 49 [.tmp 28]⟩⟩, ⟨13, [12, 11, 10, 9, 8, 7, 6, 4, 5, 3, 2, 0, 1], ⟨(some 30), (some (25, true)), .eqB false (.tmp 27) (.tmp 29)⟩⟩, ⟨14, [13, 12, 11, 10, 9, 8, 7, 6, 4, 5, 3, 2, 0, 1], ⟨(some 31), none, .pick (.tmp 25) (.tmp 30) (.const (.bool false))⟩⟩, ⟨15, [14, 13, 12, 11, 10, 9, 8, 7, 6, 4, 5, 3, 2, 0, 1], ⟨(some 2), none, .eff .set [.tmp 31]⟩⟩])
 .ret))))⟩
theorem x9_ok : yfunc Tryd.prog Tryd.f9 = some x9 := by kernel_rfl

/-- switchyard/switchyardref.BpduWrite -/
def x46 : YF := ⟨20, [.tmp 2, .tmp 3],
 (.seq (.ops [⟨(some 1), none, .box 86 (.tmp 0)⟩, ⟨(some 2), none, .eff .set [.const (.string ⟨#[]⟩)]⟩, ⟨(some 3), none, .eff .set [.const (.int .i64 0)]⟩])
 (.seq (.seq (.ops [⟨(some 4), none, .load true 31 (.tmp 1)⟩, ⟨(some 5), none, .call 49 [.tmp 4]⟩, ⟨(some 6), none, .un .not (.tmp 5)⟩])
 (.cond (.tmp 6) (.seq (.ops [⟨(some 2), none, .eff .set [.const (.string ⟨#[]⟩)]⟩, ⟨(some 3), none, .eff .set [.const (.int .i64 1)]⟩])
 .ret) .skip))
 (.seq (.seq (.ops [⟨(some 7), none, .fieldA 0 (.tmp 1)⟩, ⟨(some 8), none, .load false 1 (.tmp 7)⟩])
 (.block 0 (.seq (.ops [⟨(some 10), none, .bin .eql (.tmp 8) (.const (.int .i64 2))⟩, ⟨(some 9), none, .eff .set [.tmp 10]⟩])
 (.cond (.tmp 9) (.seq (.ops [⟨(some 2), none, .eff .set [.const (.string ⟨#[0, 0, 0, 128]⟩)]⟩, ⟨(some 3), none, .eff .set [.const (.int .i64 0)]⟩])
 .ret) (.seq (.ops [⟨(some 12), none, .bin .eql (.tmp 8) (.const (.int .i64 1))⟩, ⟨(some 11), none, .eff .set [.tmp 12]⟩])
 (.cond (.tmp 11) (.seq (.ops [⟨(some 13), none, .load true 31 (.tmp 1)⟩, ⟨(some 14), none, .call 107 [.tmp 13]⟩, ⟨(some 15), none, .bin .add (.const (.string ⟨#[0, 0, 0, 0]⟩)) (.tmp 14)⟩, ⟨(some 2), none, .eff .set [.tmp 15]⟩, ⟨(some 3), none, .eff .set [.const (.int .i64 0)]⟩])
 .ret) .skip))))))
 (.seq (.ops [⟨(some 16), none, .load true 31 (.tmp 1)⟩, ⟨(some 17), none, .call 107 [.tmp 16]⟩, ⟨(some 18), none, .bin .add (.const (.string ⟨#[0, 0, 2, 2]⟩)) (.tmp 17)⟩, ⟨(some 19), none, .bin .add (.tmp 18) (.const (.string ⟨#[0]⟩))⟩, ⟨(some 2), none, .eff .set [.tmp 19]⟩, ⟨(some 3), none, .eff .set [.const (.int .i64 0)]⟩])
 .ret))))⟩
theorem x46_ok : yfunc Tryd.prog Tryd.f46 = some x46 := by kernel_rfl

/-- switchyard/bpdu.Write -/
def x47 : YF := ⟨30, [.tmp 2, .tmp 3],
 (.seq (.ops [⟨(some 1), none, .box 86 (.tmp 0)⟩, ⟨(some 2), none, .eff .set [.const (.string ⟨#[]⟩)]⟩, ⟨(some 3), none, .eff .set [.const (.nilIface)]⟩])
 (.seq (.seq (.ops [⟨(some 4), none, .load true 31 (.tmp 1)⟩, ⟨(some 5), none, .call 48 [.tmp 4]⟩, ⟨(some 6), none, .un .not (.tmp 5)⟩])
 (.cond (.tmp 6) (.seq (.ops [⟨(some 7), none, .mkI 40 (.const (.int .i64 1))⟩, ⟨(some 2), none, .eff .set [.const (.string ⟨#[]⟩)]⟩, ⟨(some 3), none, .eff .set [.tmp 7]⟩])
 .ret) .skip))
 (.seq (.seq (.ops [⟨(some 8), none, .fieldA 0 (.tmp 1)⟩, ⟨(some 9), none, .load false 1 (.tmp 8)⟩])
 (.block 0 (.seq (.ops [⟨(some 11), none, .bin .eql (.tmp 9) (.const (.int .i64 2))⟩, ⟨(some 10), none, .eff .set [.tmp 11]⟩])
 (.cond (.tmp 10) (.seq (.ops [⟨(some 12), none, .fieldA 0 (.tmp 1)⟩, ⟨(some 13), none, .load false 1 (.tmp 12)⟩, ⟨(some 14), none, .call 102 [.tmp 13]⟩, ⟨(some 2), none, .eff .set [.tmp 14]⟩, ⟨(some 3), none, .eff .set [.const (.nilIface)]⟩])
 .ret) (.seq (.ops [⟨(some 16), none, .bin .eql (.tmp 9) (.const (.int .i64 1))⟩, ⟨(some 15), none, .eff .set [.tmp 16]⟩])
 (.cond (.tmp 15) (.seq (.draw [17, 18, 20, 19, 21, 22, 2, 3] [⟨0, [], ⟨(some 17), none, .fieldA 0 (.tmp 1)⟩⟩, ⟨1, [0], ⟨(some 18), none, .load false 1 (.tmp 17)⟩⟩, ⟨3, [], ⟨(some 20), none, .load true 31 (.tmp 1)⟩⟩, ⟨2, [1, 0], ⟨(some 19), none, .call 102 [.tmp 18]⟩⟩, ⟨4, [3, 2, 1, 0], ⟨(some 21), none, .call 108 [.tmp 20]⟩⟩, ⟨5, [4, 3, 2, 1, 0], ⟨(some 22), none, .bin .add (.tmp 19) (.tmp 21)⟩⟩, ⟨6, [5, 4, 3, 2, 1, 0], ⟨(some 2), none, .eff .set [.tmp 22]⟩⟩, ⟨7, [6, 5, 4, 3, 2, 1, 0], ⟨(some 3), none, .eff .set [.const (.nilIface)]⟩⟩])
 .ret) .skip))))))
 (.seq (.draw [23, 24, 26, 25, 27, 28, 29, 2, 3] [⟨0, [], ⟨(some 23), none, .fieldA 0 (.tmp 1)⟩⟩, ⟨1, [0], ⟨(some 24), none, .load false 1 (.tmp 23)⟩⟩, ⟨3, [], ⟨(some 26), none, .load true 31 (.tmp 1)⟩⟩, ⟨2, [1, 0], ⟨(some 25), none, .call 102 [.tmp 24]⟩⟩, ⟨4, [3, 2, 1, 0], ⟨(some 27), none, .call 108 [.tmp 26]⟩⟩, ⟨5, [4, 3, 2, 1, 0], ⟨(some 28), none, .bin .add (.tmp 25) (.tmp 27)⟩⟩, ⟨6, [5, 4, 3, 2, 1, 0], ⟨(some 29), none, .bin .add (.tmp 28) (.const (.string ⟨#[0]⟩))⟩⟩, ⟨7, [6, 5, 4, 3, 2, 1, 0], ⟨(some 2), none, .eff .set [.tmp 29]⟩⟩, ⟨8, [7, 6, 5, 4, 3, 2, 1, 0], ⟨(some 3), none, .eff .set [.const (.nilIface)]⟩⟩])
 .ret))))⟩
theorem x47_ok : yfunc Tryd.prog Tryd.f47 = some x47 := by kernel_rfl

/-- switchyard/bpdu.Right -/
def x48 : YF := ⟨62, [.tmp 2],
 (.seq (.ops [⟨(some 1), none, .box 86 (.tmp 0)⟩, ⟨(some 2), none, .eff .set [.const (.bool false)]⟩])
 (.seq (.ops [⟨(some 4), none, .fieldA 1 (.tmp 1)⟩, ⟨(some 5), none, .load true 7 (.tmp 4)⟩, ⟨(some 3), none, .alloc 82 [.bool false, .bool false, .int .i64 0, .bool false, .bool false, .bool false, .bool false]⟩, ⟨none, none, .store 7 (.tmp 3) (.tmp 5)⟩])
 (.seq (.seq (.ops [⟨(some 6), none, .fieldA 0 (.tmp 1)⟩, ⟨(some 7), none, .load false 1 (.tmp 6)⟩])
 (.block 0 (.seq (.ops [⟨(some 9), none, .bin .eql (.tmp 7) (.const (.int .i64 2))⟩, ⟨(some 8), none, .eff .set [.tmp 9]⟩])
 (.cond (.tmp 8) (.seq (.ops [⟨(some 10), none, .load true 31 (.tmp 1)⟩, ⟨(some 11), none, .build [.int .i64 0, .bool false, .bool false, .int .i64 0, .bool false, .bool false, .bool false, .bool false, .int .i64 0, .int .i64 0, .int .u8 0, .int .u8 0, .int .u8 0, .int .u8 0, .int .u8 0, .int .u8 0, .int .i64 0, .int .i64 0, .int .i64 0, .int .u8 0, .int .u8 0, .int .u8 0, .int .u8 0, .int .u8 0, .int .u8 0, .int .i64 0, .int .i64 0, .int .i64 0, .int .i64 0, .int .i64 0, .int .i64 0] [(0, 1, .const (.int .i64 2))]⟩, ⟨(some 12), none, .eqAgg false [0, 1, 1, 0, 1, 1, 1, 1, 0, 0, 0, 0, 0, 0, 0, 0, 0, 0, 0, 0, 0, 0, 0, 0, 0, 0, 0, 0, 0, 0, 0] (.tmp 10) (.tmp 11)⟩, ⟨(some 2), none, .eff .set [.tmp 12]⟩])
 .ret) (.seq (.ops [⟨(some 14), none, .bin .eql (.tmp 7) (.const (.int .i64 1))⟩, ⟨(some 13), none, .eff .set [.tmp 14]⟩])
 (.cond (.tmp 13) (.seq (.ops [⟨(some 15), none, .load true 7 (.tmp 3)⟩, ⟨(some 16), none, .fieldA 0 (.tmp 3)⟩, ⟨(some 17), none, .load false 1 (.tmp 16)⟩, ⟨(some 18), none, .fieldA 6 (.tmp 3)⟩, ⟨(some 19), none, .load false 1 (.tmp 18)⟩, ⟨(some 20), none, .build [.bool false, .bool false, .int .i64 0, .bool false, .bool false, .bool false, .bool false] [(0, 1, .tmp 17), (6, 1, .tmp 19)]⟩, ⟨(some 21), none, .eqAgg true [1, 1, 0, 1, 1, 1, 1] (.tmp 15) (.tmp 20)⟩])
 (.cond (.tmp 21) (.seq (.ops [⟨(some 2), none, .eff .set [.const (.bool false)]⟩])
 .ret) .skip)) (.seq (.ops [⟨(some 23), none, .bin .eql (.tmp 7) (.const (.int .i64 3))⟩, ⟨(some 22), none, .eff .set [.tmp 23]⟩])
 (.cond (.tmp 22) (.seq (.ops [⟨(some 24), none, .load true 7 (.tmp 3)⟩, ⟨(some 25), none, .call 109 [.tmp 24]⟩, ⟨(some 26), none, .un .not (.tmp 25)⟩])
 (.cond (.tmp 26) (.seq (.ops [⟨(some 2), none, .eff .set [.const (.bool false)]⟩])
 .ret) .skip)) (.seq (.ops [⟨(some 2), none, .eff .set [.const (.bool false)]⟩])
 .ret)))))))))
 (.seq (.ops [⟨(some 27), none, .fieldA 8 (.tmp 1)⟩, ⟨(some 28), none, .load true 8 (.tmp 27)⟩, ⟨(some 29), none, .call 63 [.tmp 28]⟩, ⟨(some 30), none, .mov (.tmp 29)⟩, ⟨(some 31), (some (30, true)), .fieldA 17 (.tmp 1)⟩, ⟨(some 32), (some (30, true)), .load true 8 (.tmp 31)⟩, ⟨(some 33), (some (30, true)), .call 63 [.tmp 32]⟩, ⟨(some 34), none, .pick (.tmp 30) (.tmp 33) (.const (.bool false))⟩, ⟨(some 35), none, .mov (.tmp 34)⟩, ⟨(some 36), (some (35, true)), .fieldA 25 (.tmp 1)⟩, ⟨(some 37), (some (35, true)), .load true 2 (.tmp 36)⟩, ⟨(some 38), (some (35, true)), .call 66 [.tmp 37]⟩, ⟨(some 39), none, .pick (.tmp 35) (.tmp 38) (.const (.bool false))⟩, ⟨(some 40), none, .mov (.tmp 39)⟩, ⟨(some 41), (some (40, true)), .fieldA 16 (.tmp 1)⟩, ⟨(some 42), (some (40, true)), .load false 1 (.tmp 41)⟩, ⟨(some 43), (some (40, true)), .bin .geq (.tmp 42) (.const (.int .i64 0))⟩, ⟨(some 44), none, .pick (.tmp 40) (.tmp 43) (.const (.bool false))⟩, ⟨(some 45), none, .mov (.tmp 44)⟩, ⟨(some 46), (some (45, true)), .fieldA 16 (.tmp 1)⟩, ⟨(some 47), (some (45, true)), .load false 1 (.tmp 46)⟩, ⟨(some 48), (some (45, true)), .bin .lss (.tmp 47) (.const (.int .i64 4294967296))⟩, ⟨(some 49), none, .pick (.tmp 45) (.tmp 48) (.const (.bool false))⟩, ⟨(some 50), none, .mov (.tmp 49)⟩, ⟨(some 51), (some (50, true)), .fieldA 27 (.tmp 1)⟩, ⟨(some 52), (some (50, true)), .load false 1 (.tmp 51)⟩, ⟨(some 53), (some (50, true)), .fieldA 28 (.tmp 1)⟩, ⟨(some 54), (some (50, true)), .load false 1 (.tmp 53)⟩, ⟨(some 55), (some (50, true)), .fieldA 29 (.tmp 1)⟩, ⟨(some 56), (some (50, true)), .load false 1 (.tmp 55)⟩, ⟨(some 57), (some (50, true)), .fieldA 30 (.tmp 1)⟩, ⟨(some 58), (some (50, true)), .load false 1 (.tmp 57)⟩, ⟨(some 59), (some (50, true)), .bslice 3 4 [.int .i64 0, .int .i64 0, .int .i64 0, .int .i64 0] [(0, 1, .tmp 52), (1, 1, .tmp 54), (2, 1, .tmp 56), (3, 1, .tmp 58)]⟩, ⟨(some 60), (some (50, true)), .call 110 [.tmp 59]⟩, ⟨(some 61), none, .pick (.tmp 50) (.tmp 60) (.const (.bool false))⟩, ⟨(some 2), none, .eff .set [.tmp 61]⟩])
 .ret))))⟩
theorem x48_ok : yfunc Tryd.prog Tryd.f48 = some x48 := by kernel_rfl

/-- switchyard/switchyardref.BpduRight -/
def x49 : YF := ⟨65, [.tmp 2],
 (.seq (.ops [⟨(some 1), none, .box 86 (.tmp 0)⟩, ⟨(some 2), none, .eff .set [.const (.bool false)]⟩])
 (.seq (.ops [⟨(some 6), none, .fieldA 1 (.tmp 1)⟩, ⟨(some 7), none, .load true 7 (.tmp 6)⟩, ⟨(some 3), none, .alloc 82 [.bool false, .bool false, .int .i64 0, .bool false, .bool false, .bool false, .bool false]⟩, ⟨none, none, .store 7 (.tmp 3) (.tmp 7)⟩])
 (.seq (.seq (.ops [⟨(some 8), none, .fieldA 0 (.tmp 1)⟩, ⟨(some 9), none, .load false 1 (.tmp 8)⟩])
 (.block 0 (.seq (.ops [⟨(some 11), none, .bin .eql (.tmp 9) (.const (.int .i64 2))⟩, ⟨(some 10), none, .eff .set [.tmp 11]⟩])
 (.cond (.tmp 10) (.seq (.ops [⟨(some 12), none, .fieldA 0 (.tmp 1)⟩, ⟨none, none, .store 1 (.tmp 12) (.const (.int .i64 0))⟩])
 (.seq (.ops [⟨(some 13), none, .load true 31 (.tmp 1)⟩, ⟨(some 14), none, .build [.int .i64 0, .bool false, .bool false, .int .i64 0, .bool false, .bool false, .bool false, .bool false, .int .i64 0, .int .i64 0, .int .u8 0, .int .u8 0, .int .u8 0, .int .u8 0, .int .u8 0, .int .u8 0, .int .i64 0, .int .i64 0, .int .i64 0, .int .u8 0, .int .u8 0, .int .u8 0, .int .u8 0, .int .u8 0, .int .u8 0, .int .i64 0, .int .i64 0, .int .i64 0, .int .i64 0, .int .i64 0, .int .i64 0] []⟩, ⟨(some 15), none, .eqAgg false [0, 1, 1, 0, 1, 1, 1, 1, 0, 0, 0, 0, 0, 0, 0, 0, 0, 0, 0, 0, 0, 0, 0, 0, 0, 0, 0, 0, 0, 0, 0] (.tmp 13) (.tmp 14)⟩, ⟨(some 2), none, .eff .set [.tmp 15]⟩])
 .ret)) (.seq (.ops [⟨(some 17), none, .bin .eql (.tmp 9) (.const (.int .i64 1))⟩, ⟨(some 16), none, .eff .set [.tmp 17]⟩])
 (.cond (.tmp 16) (.seq (.ops [⟨(some 18), none, .fieldA 0 (.tmp 3)⟩, ⟨none, none, .store 1 (.tmp 18) (.const (.bool false))⟩, ⟨(some 19), none, .fieldA 6 (.tmp 3)⟩, ⟨none, none, .store 1 (.tmp 19) (.const (.bool false))⟩])
 (.seq (.ops [⟨(some 20), none, .load true 7 (.tmp 3)⟩, ⟨(some 21), none, .build [.bool false, .bool false, .int .i64 0, .bool false, .bool false, .bool false, .bool false] []⟩, ⟨(some 22), none, .eqAgg true [1, 1, 0, 1, 1, 1, 1] (.tmp 20) (.tmp 21)⟩])
 (.cond (.tmp 22) (.seq (.ops [⟨(some 2), none, .eff .set [.const (.bool false)]⟩])
 .ret) .skip))) (.seq (.ops [⟨(some 24), none, .bin .eql (.tmp 9) (.const (.int .i64 3))⟩, ⟨(some 23), none, .eff .set [.tmp 24]⟩])
 (.cond (.tmp 23) (.seq (.ops [⟨(some 25), none, .fieldA 2 (.tmp 3)⟩, ⟨(some 26), none, .load false 1 (.tmp 25)⟩, ⟨(some 27), none, .call 71 [.tmp 26, .const (.int .i64 0), .const (.int .i64 3)]⟩, ⟨(some 28), none, .un .not (.tmp 27)⟩])
 (.cond (.tmp 28) (.seq (.ops [⟨(some 2), none, .eff .set [.const (.bool false)]⟩])
 .ret) .skip)) (.seq (.ops [⟨(some 2), none, .eff .set [.const (.bool false)]⟩])
 .ret)))))))))
 (.seq (.seq (.ops [⟨(some 29), none, .fieldA 27 (.tmp 1)⟩, ⟨(some 30), none, .load false 1 (.tmp 29)⟩, ⟨(some 31), none, .fieldA 28 (.tmp 1)⟩, ⟨(some 32), none, .load false 1 (.tmp 31)⟩, ⟨(some 33), none, .fieldA 29 (.tmp 1)⟩, ⟨(some 34), none, .load false 1 (.tmp 33)⟩, ⟨(some 35), none, .fieldA 30 (.tmp 1)⟩, ⟨(some 36), none, .load false 1 (.tmp 35)⟩, ⟨(some 37), none, .bslice 3 4 [.int .i64 0, .int .i64 0, .int .i64 0, .int .i64 0] [(0, 1, .tmp 30), (1, 1, .tmp 32), (2, 1, .tmp 34), (3, 1, .tmp 36)]⟩, ⟨(some 38), none, .len false (.tmp 37)⟩, ⟨(some 39), none, .mov (.const (.int .i64 0))⟩])
 (.block 1 (.loop [false, false, true, false, false, true, false, false, false, false, false, false, false, false, false, false, false, false, false, false, false, false, false, false, false, false, false, false, false, false, false, false, false, false, false, false, false, false, false, true, true, true, true, true, true, true, true] (.seq (.ops [⟨(some 40), none, .bin .lss (.tmp 39) (.tmp 38)⟩])
 (.seq (.cond (.tmp 40) .skip (.exit 1))
 (.seq (.block 2 (.seq (.ops [⟨(some 41), none, .indexS 1 (.tmp 37) (.tmp 39)⟩, ⟨(some 42), none, .load false 1 (.tmp 41)⟩, ⟨(some 5), none, .eff .set [.tmp 42]⟩])
 (.seq (.ops [⟨(some 43), none, .mov (.tmp 5)⟩, ⟨(some 44), none, .call 71 [.tmp 43, .const (.int .i64 0), .const (.int .i64 65535)]⟩, ⟨(some 45), none, .un .not (.tmp 44)⟩])
 (.cond (.tmp 45) (.seq (.ops [⟨(some 2), none, .eff .set [.const (.bool false)]⟩])
 .ret) .skip))))
 (.ops [⟨(some 46), none, .bin .add (.tmp 39) (.const (.int .i64 1))⟩, ⟨(some 39), none, .mov (.tmp 46)⟩])))))))
 (.seq (.ops [⟨(some 47), none, .fieldA 8 (.tmp 1)⟩, ⟨(some 48), none, .load true 8 (.tmp 47)⟩, ⟨(some 49), none, .call 69 [.tmp 48]⟩, ⟨(some 50), none, .mov (.tmp 49)⟩, ⟨(some 51), (some (50, true)), .fieldA 17 (.tmp 1)⟩, ⟨(some 52), (some (50, true)), .load true 8 (.tmp 51)⟩, ⟨(some 53), (some (50, true)), .call 69 [.tmp 52]⟩, ⟨(some 54), none, .pick (.tmp 50) (.tmp 53) (.const (.bool false))⟩, ⟨(some 55), none, .mov (.tmp 54)⟩, ⟨(some 56), (some (55, true)), .fieldA 25 (.tmp 1)⟩, ⟨(some 57), (some (55, true)), .load true 2 (.tmp 56)⟩, ⟨(some 58), (some (55, true)), .call 70 [.tmp 57]⟩, ⟨(some 59), none, .pick (.tmp 55) (.tmp 58) (.const (.bool false))⟩, ⟨(some 60), none, .mov (.tmp 59)⟩, ⟨(some 61), (some (60, true)), .fieldA 16 (.tmp 1)⟩, ⟨(some 62), (some (60, true)), .load false 1 (.tmp 61)⟩, ⟨(some 63), (some (60, true)), .call 71 [.tmp 62, .const (.int .i64 0), .const (.int .i64 4294967295)]⟩, ⟨(some 64), none, .pick (.tmp 60) (.tmp 63) (.const (.bool false))⟩, ⟨(some 2), none, .eff .set [.tmp 64]⟩])
 .ret)))))⟩
theorem x49_ok : yfunc Tryd.prog Tryd.f49 = some x49 := by kernel_rfl

/-- switchyard/switchyardref.body -/
def x107 : YF := ⟨57, [.tmp 2],
 (.seq (.ops [⟨(some 1), none, .box 86 (.tmp 0)⟩, ⟨(some 2), none, .eff .set [.const (.string ⟨#[]⟩)]⟩])
 (.seq (.ops [⟨(some 10), none, .fieldA 8 (.tmp 1)⟩, ⟨(some 11), none, .load true 8 (.tmp 10)⟩, ⟨(some 12), none, .call 153 [.tmp 11]⟩, ⟨(some 9), none, .mov (.tmp 12)⟩, ⟨(some 13), none, .ext (.tmp 9) 0⟩, ⟨(some 14), none, .ext (.tmp 9) 1⟩, ⟨(some 3), none, .eff .set [.tmp 13]⟩, ⟨(some 4), none, .eff .set [.tmp 14]⟩])
 (.seq (.ops [⟨(some 16), none, .fieldA 17 (.tmp 1)⟩, ⟨(some 17), none, .load true 8 (.tmp 16)⟩, ⟨(some 18), none, .call 153 [.tmp 17]⟩, ⟨(some 15), none, .mov (.tmp 18)⟩, ⟨(some 19), none, .ext (.tmp 15) 0⟩, ⟨(some 20), none, .ext (.tmp 15) 1⟩, ⟨(some 5), none, .eff .set [.tmp 19]⟩, ⟨(some 6), none, .eff .set [.tmp 20]⟩])
 (.seq (.ops [⟨(some 22), none, .fieldA 25 (.tmp 1)⟩, ⟨(some 23), none, .load true 2 (.tmp 22)⟩, ⟨(some 24), none, .call 154 [.tmp 23]⟩, ⟨(some 21), none, .mov (.tmp 24)⟩, ⟨(some 25), none, .ext (.tmp 21) 0⟩, ⟨(some 26), none, .ext (.tmp 21) 1⟩, ⟨(some 7), none, .eff .set [.tmp 25]⟩, ⟨(some 8), none, .eff .set [.tmp 26]⟩])
 (.seq (.draw [27, 28, 31, 33, 34, 37, 39, 41, 42, 45, 46, 49, 50, 53, 54, 29, 30, 32, 35, 36, 38, 40, 43, 44, 47, 48, 51, 52, 55, 56, 2] [⟨0, [], ⟨(some 27), none, .fieldA 1 (.tmp 1)⟩⟩, ⟨1, [0], ⟨(some 28), none, .load true 7 (.tmp 27)⟩⟩, ⟨4, [], ⟨(some 31), none, .mov (.tmp 3)⟩⟩, ⟨6, [], ⟨(some 33), none, .fieldA 16 (.tmp 1)⟩⟩, ⟨7, [6], ⟨(some 34), none, .load false 1 (.tmp 33)⟩⟩, ⟨10, [], ⟨(some 37), none, .mov (.tmp 5)⟩⟩, ⟨12, [], ⟨(some 39), none, .mov (.tmp 7)⟩⟩, ⟨14, [], ⟨(some 41), none, .fieldA 27 (.tmp 1)⟩⟩, ⟨15, [14], ⟨(some 42), none, .load false 1 (.tmp 41)⟩⟩, ⟨18, [], ⟨(some 45), none, .fieldA 28 (.tmp 1)⟩⟩, ⟨19, [18], ⟨(some 46), none, .load false 1 (.tmp 45)⟩⟩, ⟨22, [], ⟨(some 49), none, .fieldA 29 (.tmp 1)⟩⟩, ⟨23, [22], ⟨(some 50), none, .load false 1 (.tmp 49)⟩⟩, ⟨26, [], ⟨(some 53), none, .fieldA 30 (.tmp 1)⟩⟩, ⟨27, [26], ⟨(some 54), none, .load false 1 (.tmp 53)⟩⟩, ⟨2, [1, 0], ⟨(some 29), none, .call 155 [.tmp 28]⟩⟩, ⟨3, [2, 1, 0], ⟨(some 30), none, .call 111 [.tmp 29, .const (.int .i64 1)]⟩⟩, ⟨5, [3, 2, 1, 0, 4], ⟨(some 32), none, .bin .add (.tmp 30) (.tmp 31)⟩⟩, ⟨8, [7, 6, 3, 2, 1, 0], ⟨(some 35), none, .call 111 [.tmp 34, .const (.int .i64 4)]⟩⟩, ⟨9, [5, 4, 8, 7, 6, 3, 2, 1, 0], ⟨(some 36), none, .bin .add (.tmp 32) (.tmp 35)⟩⟩, ⟨11, [9, 5, 4, 8, 7, 6, 3, 2, 1, 0, 10], ⟨(some 38), none, .bin .add (.tmp 36) (.tmp 37)⟩⟩, ⟨13, [11, 9, 5, 4, 8, 7, 6, 3, 2, 1, 0, 10, 12], ⟨(some 40), none, .bin .add (.tmp 38) (.tmp 39)⟩⟩, ⟨16, [15, 14, 8, 7, 6, 3, 2, 1, 0], ⟨(some 43), none, .call 111 [.tmp 42, .const (.int .i64 2)]⟩⟩, ⟨17, [13, 11, 9, 5, 4, 10, 12, 16, 15, 14, 8, 7, 6, 3, 2, 1, 0], ⟨(some 44), none, .bin .add (.tmp 40) (.tmp 43)⟩⟩, ⟨20, [19, 18, 16, 15, 14, 8, 7, 6, 3, 2, 1, 0], ⟨(some 47), none, .call 111 [.tmp 46, .const (.int .i64 2)]⟩⟩, ⟨21, [17, 13, 11, 9, 5, 4, 10, 12, 20, 19, 18, 16, 15, 14, 8, 7, 6, 3, 2, 1, 0], ⟨(some 48), none, .bin .add (.tmp 44) (.tmp 47)⟩⟩, ⟨24, [23, 22, 20, 19, 18, 16, 15, 14, 8, 7, 6, 3, 2, 1, 0], ⟨(some 51), none, .call 111 [.tmp 50, .const (.int .i64 2)]⟩⟩, ⟨25, [21, 17, 13, 11, 9, 5, 4, 10, 12, 24, 23, 22, 20, 19, 18, 16, 15, 14, 8, 7, 6, 3, 2, 1, 0], ⟨(some 52), none, .bin .add (.tmp 48) (.tmp 51)⟩⟩, ⟨28, [27, 26, 24, 23, 22, 20, 19, 18, 16, 15, 14, 8, 7, 6, 3, 2, 1, 0], ⟨(some 55), none, .call 111 [.tmp 54, .const (.int .i64 2)]⟩⟩, ⟨29, [25, 21, 17, 13, 11, 9, 5, 4, 10, 12, 28, 27, 26, 24, 23, 22, 20, 19, 18, 16, 15, 14, 8, 7, 6, 3, 2, 1, 0], ⟨(some 56), none, .bin .add (.tmp 52) (.tmp 55)⟩⟩, ⟨30, [29, 25, 21, 17, 13, 11, 9, 5, 4, 10, 12, 28, 27, 26, 24, 23, 22, 20, 19, 18, 16, 15, 14, 8, 7, 6, 3, 2, 1, 0], ⟨(some 2), none, .eff .set [.tmp 56]⟩⟩])
 .ret)))))⟩
theorem x107_ok : yfunc Tryd.prog Tryd.f107 = some x107 := by kernel_rfl

/-- switchyard/bpdu.Body -/
def x108 : YF := ⟨57, [.tmp 2],
 (.seq (.ops [⟨(some 1), none, .box 86 (.tmp 0)⟩, ⟨(some 2), none, .eff .set [.const (.string ⟨#[]⟩)]⟩])
 (.seq (.ops [⟨(some 10), none, .fieldA 8 (.tmp 1)⟩, ⟨(some 11), none, .load true 8 (.tmp 10)⟩, ⟨(some 12), none, .call 156 [.tmp 11]⟩, ⟨(some 9), none, .mov (.tmp 12)⟩, ⟨(some 13), none, .ext (.tmp 9) 0⟩, ⟨(some 14), none, .ext (.tmp 9) 1⟩, ⟨(some 3), none, .eff .set [.tmp 13]⟩, ⟨(some 4), none, .eff .set [.tmp 14]⟩])
 (.seq (.ops [⟨(some 16), none, .fieldA 17 (.tmp 1)⟩, ⟨(some 17), none, .load true 8 (.tmp 16)⟩, ⟨(some 18), none, .call 156 [.tmp 17]⟩, ⟨(some 15), none, .mov (.tmp 18)⟩, ⟨(some 19), none, .ext (.tmp 15) 0⟩, ⟨(some 20), none, .ext (.tmp 15) 1⟩, ⟨(some 5), none, .eff .set [.tmp 19]⟩, ⟨(some 6), none, .eff .set [.tmp 20]⟩])
 (.seq (.ops [⟨(some 22), none, .fieldA 25 (.tmp 1)⟩, ⟨(some 23), none, .load true 2 (.tmp 22)⟩, ⟨(some 24), none, .call 157 [.tmp 23]⟩, ⟨(some 21), none, .mov (.tmp 24)⟩, ⟨(some 25), none, .ext (.tmp 21) 0⟩, ⟨(some 26), none, .ext (.tmp 21) 1⟩, ⟨(some 7), none, .eff .set [.tmp 25]⟩, ⟨(some 8), none, .eff .set [.tmp 26]⟩])
 (.seq (.draw [27, 28, 31, 33, 34, 37, 39, 41, 42, 45, 46, 49, 50, 53, 54, 29, 30, 32, 35, 36, 38, 40, 43, 44, 47, 48, 51, 52, 55, 56, 2] [⟨0, [], ⟨(some 27), none, .fieldA 1 (.tmp 1)⟩⟩, ⟨1, [0], ⟨(some 28), none, .load true 7 (.tmp 27)⟩⟩, ⟨4, [], ⟨(some 31), none, .mov (.tmp 3)⟩⟩, ⟨6, [], ⟨(some 33), none, .fieldA 16 (.tmp 1)⟩⟩, ⟨7, [6], ⟨(some 34), none, .load false 1 (.tmp 33)⟩⟩, ⟨10, [], ⟨(some 37), none, .mov (.tmp 5)⟩⟩, ⟨12, [], ⟨(some 39), none, .mov (.tmp 7)⟩⟩, ⟨14, [], ⟨(some 41), none, .fieldA 27 (.tmp 1)⟩⟩, ⟨15, [14], ⟨(some 42), none, .load false 1 (.tmp 41)⟩⟩, ⟨18, [], ⟨(some 45), none, .fieldA 28 (.tmp 1)⟩⟩, ⟨19, [18], ⟨(some 46), none, .load false 1 (.tmp 45)⟩⟩, ⟨22, [], ⟨(some 49), none, .fieldA 29 (.tmp 1)⟩⟩, ⟨23, [22], ⟨(some 50), none, .load false 1 (.tmp 49)⟩⟩, ⟨26, [], ⟨(some 53), none, .fieldA 30 (.tmp 1)⟩⟩, ⟨27, [26], ⟨(some 54), none, .load false 1 (.tmp 53)⟩⟩, ⟨2, [1, 0], ⟨(some 29), none, .call 158 [.tmp 28]⟩⟩, ⟨3, [2, 1, 0], ⟨(some 30), none, .call 113 [.tmp 29, .const (.int .i64 1)]⟩⟩, ⟨5, [3, 2, 1, 0, 4], ⟨(some 32), none, .bin .add (.tmp 30) (.tmp 31)⟩⟩, ⟨8, [7, 6, 3, 2, 1, 0], ⟨(some 35), none, .call 113 [.tmp 34, .const (.int .i64 4)]⟩⟩, ⟨9, [5, 4, 8, 7, 6, 3, 2, 1, 0], ⟨(some 36), none, .bin .add (.tmp 32) (.tmp 35)⟩⟩, ⟨11, [9, 5, 4, 8, 7, 6, 3, 2, 1, 0, 10], ⟨(some 38), none, .bin .add (.tmp 36) (.tmp 37)⟩⟩, ⟨13, [11, 9, 5, 4, 8, 7, 6, 3, 2, 1, 0, 10, 12], ⟨(some 40), none, .bin .add (.tmp 38) (.tmp 39)⟩⟩, ⟨16, [15, 14, 8, 7, 6, 3, 2, 1, 0], ⟨(some 43), none, .call 113 [.tmp 42, .const (.int .i64 2)]⟩⟩, ⟨17, [13, 11, 9, 5, 4, 10, 12, 16, 15, 14, 8, 7, 6, 3, 2, 1, 0], ⟨(some 44), none, .bin .add (.tmp 40) (.tmp 43)⟩⟩, ⟨20, [19, 18, 16, 15, 14, 8, 7, 6, 3, 2, 1, 0], ⟨(some 47), none, .call 113 [.tmp 46, .const (.int .i64 2)]⟩⟩, ⟨21, [17, 13, 11, 9, 5, 4, 10, 12, 20, 19, 18, 16, 15, 14, 8, 7, 6, 3, 2, 1, 0], ⟨(some 48), none, .bin .add (.tmp 44) (.tmp 47)⟩⟩, ⟨24, [23, 22, 20, 19, 18, 16, 15, 14, 8, 7, 6, 3, 2, 1, 0], ⟨(some 51), none, .call 113 [.tmp 50, .const (.int .i64 2)]⟩⟩, ⟨25, [21, 17, 13, 11, 9, 5, 4, 10, 12, 24, 23, 22, 20, 19, 18, 16, 15, 14, 8, 7, 6, 3, 2, 1, 0], ⟨(some 52), none, .bin .add (.tmp 48) (.tmp 51)⟩⟩, ⟨28, [27, 26, 24, 23, 22, 20, 19, 18, 16, 15, 14, 8, 7, 6, 3, 2, 1, 0], ⟨(some 55), none, .call 113 [.tmp 54, .const (.int .i64 2)]⟩⟩, ⟨29, [25, 21, 17, 13, 11, 9, 5, 4, 10, 12, 28, 27, 26, 24, 23, 22, 20, 19, 18, 16, 15, 14, 8, 7, 6, 3, 2, 1, 0], ⟨(some 56), none, .bin .add (.tmp 52) (.tmp 55)⟩⟩, ⟨30, [29, 25, 21, 17, 13, 11, 9, 5, 4, 10, 12, 28, 27, 26, 24, 23, 22, 20, 19, 18, 16, 15, 14, 8, 7, 6, 3, 2, 1, 0], ⟨(some 2), none, .eff .set [.tmp 56]⟩⟩])
 .ret)))))⟩
theorem x108_ok : yfunc Tryd.prog Tryd.f108 = some x108 := by kernel_rfl

/-- switchyard/bpdu.times -/
def x110 : YF := ⟨18, [.tmp 2],
 (.seq (.ops [⟨(some 2), none, .eff .set [.const (.bool false)]⟩])
 (.seq (.seq (.ops [⟨(some 5), none, .mov (.tmp 0)⟩, ⟨(some 6), none, .len false (.tmp 5)⟩, ⟨(some 7), none, .mov (.const (.int .i64 0))⟩])
 (.block 0 (.loop [false, false, true, false, true, false, false, true, true, true, true, true, true, true, true, true, true, true] (.seq (.ops [⟨(some 8), none, .bin .lss (.tmp 7) (.tmp 6)⟩])
 (.seq (.cond (.tmp 8) .skip (.exit 0))
 (.seq (.block 1 (.seq (.ops [⟨(some 9), none, .indexS 1 (.tmp 5) (.tmp 7)⟩, ⟨(some 10), none, .load false 1 (.tmp 9)⟩, ⟨(some 4), none, .eff .set [.tmp 10]⟩])
 (.seq (.ops [⟨(some 11), none, .mov (.tmp 4)⟩, ⟨(some 12), none, .bin .lss (.tmp 11) (.const (.int .i64 0))⟩, ⟨(some 13), none, .mov (.tmp 12)⟩, ⟨(some 14), (some (13, false)), .mov (.tmp 4)⟩, ⟨(some 15), (some (13, false)), .bin .gtr (.tmp 14) (.const (.int .i64 65535))⟩, ⟨(some 16), none, .pick (.tmp 13) (.const (.bool true)) (.tmp 15)⟩])
 (.cond (.tmp 16) (.seq (.ops [⟨(some 2), none, .eff .set [.const (.bool false)]⟩])
 .ret) .skip))))
 (.ops [⟨(some 17), none, .bin .add (.tmp 7) (.const (.int .i64 1))⟩, ⟨(some 7), none, .mov (.tmp 17)⟩])))))))
 (.seq (.ops [⟨(some 2), none, .eff .set [.const (.bool true)]⟩])
 .ret)))⟩
theorem x110_ok : yfunc Tryd.prog Tryd.f110 = some x110 := by kernel_rfl
end Go.Proofs.YtidbblgahmjakaaDoor
