/- Functions of this seat with the type tables looked up; each checked by the kernel. Conditions: none. -/
import Derived.Test.YtfianfpmnglfnaaDoorProg
import Derived.Test.YtfianfpmnglfnaaDoorBaseC
namespace Go.Proofs.YtfianfpmnglfnaaDoor
open Go.Sx
set_option maxRecDepth 100000
/-- (switchyard/switchyardref.Fault).Is -/
def x42 : YF := ⟨6, [.tmp 2],
 (.seq (.ops [⟨(some 1), none, .box 40 (.tmp 0)⟩, ⟨(some 2), none, .eff .set [.const (.bool false)]⟩])
 (.seq (.ops [⟨(some 3), none, .fieldA 0 (.tmp 1)⟩, ⟨(some 4), none, .load false 1 (.tmp 3)⟩, ⟨(some 5), none, .bin .eql (.tmp 4) (.const (.int .i64 0))⟩, ⟨(some 2), none, .eff .set [.tmp 5]⟩])
 .ret))⟩
theorem x42_ok : yfunc Tryd.prog Tryd.f42 = some x42 := by kernel_rfl

/-- switchyard/switchyardref.Good -/
def x48 : YF := ⟨2, [.cell 0 true 2],
 (.seq (.ops [⟨(some 0), none, .alloc 40 [.int .i64 0, .int .i64 0]⟩])
 (.seq (.ops [⟨(some 1), none, .build [.int .i64 0, .int .i64 0] [(0, 1, .const (.int .i64 0)), (1, 1, .const (.int .i64 (-1)))]⟩, ⟨none, none, .store 2 (.tmp 0) (.tmp 1)⟩])
 .ret))⟩
theorem x48_ok : yfunc Tryd.prog Tryd.f48 = some x48 := by kernel_rfl

/-- switchyard/switchyardref.caught -/
def x59 : YR := ⟨20, 5, 2,
 (.seq (.ops [⟨(some 6), none, .mov (.tmp 2)⟩, ⟨(some 7), none, .more (.nilI true) [.tmp 6]⟩])
 (.cond (.tmp 7) (.seq (.ops [⟨(some 9), none, .mov (.tmp 2)⟩, ⟨(some 10), none, .more (.tass 204 (.agg #[.int .i64 0, .int .i64 0])) [.tmp 9]⟩, ⟨(some 8), none, .mov (.tmp 10)⟩, ⟨(some 11), none, .ext (.tmp 8) 0⟩, ⟨(some 12), none, .ext (.tmp 8) 1⟩, ⟨(some 3), none, .alloc 204 [.int .i64 0, .int .i64 0]⟩, ⟨none, none, .store 2 (.tmp 3) (.tmp 11)⟩, ⟨(some 4), none, .eff .set [.tmp 12]⟩])
 (.seq (.seq (.ops [⟨(some 13), none, .mov (.tmp 4)⟩, ⟨(some 14), none, .un .not (.tmp 13)⟩])
 (.cond (.tmp 14) (.ops [⟨(some 15), none, .mov (.tmp 2)⟩, ⟨none, none, .prim (.panic (.tmp 15)) [.tmp 15]⟩]) .skip))
 (.ops [⟨(some 16), none, .mov (.tmp 0)⟩, ⟨(some 17), none, .fieldA 0 (.tmp 3)⟩, ⟨(some 18), none, .load true 2 (.tmp 17)⟩, ⟨(some 19), none, .more .nilC [.tmp 16]⟩, ⟨none, none, .store 2 (.tmp 19) (.tmp 18)⟩]))) .skip))⟩
theorem x59_ok : yrec Tryd.prog Tryd.f59 = some x59 := by kernel_rfl

/-- (*switchyard/switchyardref.cursor).want -/
def x60 : YF := ⟨18, [],
 (.seq (.ops [⟨(some 5), none, .mov (.tmp 0)⟩, ⟨(some 6), none, .more .nilC [.tmp 5]⟩, ⟨(some 7), none, .fieldA 1 (.tmp 6)⟩, ⟨(some 8), none, .load false 1 (.tmp 7)⟩, ⟨(some 4), none, .eff .set [.tmp 8]⟩])
 (.seq (.ops [⟨(some 9), none, .mov (.tmp 0)⟩, ⟨(some 10), none, .mov (.tmp 1)⟩, ⟨(some 11), none, .len true (.tmp 10)⟩, ⟨(some 12), none, .call 90 [.tmp 9, .tmp 11]⟩, ⟨(some 13), none, .mov (.tmp 1)⟩, ⟨(some 14), none, .bin .neq (.tmp 12) (.tmp 13)⟩])
 (.cond (.tmp 14) (.ops [⟨(some 15), none, .mov (.tmp 0)⟩, ⟨(some 16), none, .mov (.tmp 4)⟩, ⟨(some 17), none, .call 63 [.tmp 15, .const (.int .i64 3), .tmp 16]⟩]) .skip)))⟩
theorem x60_ok : yfunc Tryd.prog Tryd.f60 = some x60 := by kernel_rfl

/-- (*switchyard/switchyardref.cursor).num -/
def x61 : YF := ⟨24, [.tmp 4],
 (.seq (.ops [⟨(some 4), none, .eff .set [.const (.int .i64 0)]⟩])
 (.seq (.ops [⟨(some 5), none, .eff .set [.const (.int .i64 0)]⟩])
 (.seq (.seq (.ops [⟨(some 8), none, .mov (.tmp 0)⟩, ⟨(some 9), none, .mov (.tmp 1)⟩, ⟨(some 10), none, .call 90 [.tmp 8, .tmp 9]⟩, ⟨(some 11), none, .prim (.convert 9 181 (.tmp 10)) [.tmp 10]⟩, ⟨(some 12), none, .len false (.tmp 11)⟩, ⟨(some 13), none, .mov (.const (.int .i64 0))⟩])
 (.block 0 (.loop [false, false, false, false, false, true, false, true, false, false, false, false, false, true, true, true, true, true, true, true, true, true, true] (.seq (.ops [⟨(some 14), none, .bin .lss (.tmp 13) (.tmp 12)⟩])
 (.seq (.cond (.tmp 14) .skip (.exit 0))
 (.seq (.block 1 (.seq (.ops [⟨(some 15), none, .indexS 1 (.tmp 11) (.tmp 13)⟩, ⟨(some 16), none, .load false 1 (.tmp 15)⟩, ⟨(some 7), none, .eff .set [.tmp 16]⟩])
 (.ops [⟨(some 17), none, .mov (.tmp 5)⟩, ⟨(some 18), none, .bin .mul (.tmp 17) (.const (.int .i64 256))⟩, ⟨(some 19), none, .mov (.tmp 7)⟩, ⟨(some 20), none, .conv .i64 (.tmp 19)⟩, ⟨(some 21), none, .bin .add (.tmp 18) (.tmp 20)⟩, ⟨(some 5), none, .eff .set [.tmp 21]⟩])))
 (.ops [⟨(some 22), none, .bin .add (.tmp 13) (.const (.int .i64 1))⟩, ⟨(some 13), none, .mov (.tmp 22)⟩])))))))
 (.seq (.ops [⟨(some 23), none, .mov (.tmp 5)⟩, ⟨(some 4), none, .eff .set [.tmp 23]⟩])
 .ret))))⟩
theorem x61_ok : yfunc Tryd.prog Tryd.f61 = some x61 := by kernel_rfl

/-- (*switchyard/switchyardref.cursor).noughts -/
def x62 : YF := ⟨35, [],
 (.block 0 (.loop [false, false, true, true, true, true, true, true, true, true, true, true, true, true, true, true, true, true, true, true, true, true, true, true, true, true, true, true, true, true, true, true, true, true, true] (.seq (.seq (.draw [2, 3, 4, 5, 6, 7, 8, 9, 10, 11] [⟨0, [], ⟨(some 2), none, .mov (.tmp 0)⟩⟩, ⟨1, [0], ⟨(some 3), none, .more .nilC [.tmp 2]⟩⟩, ⟨2, [1, 0], ⟨(some 4), none, .fieldA 1 (.tmp 3)⟩⟩, ⟨3, [2, 1, 0], ⟨(some 5), none, .load false 1 (.tmp 4)⟩⟩, ⟨4, [], ⟨(some 6), none, .mov (.tmp 0)⟩⟩, ⟨5, [4], ⟨(some 7), none, .more .nilC [.tmp 6]⟩⟩, ⟨6, [5, 4], ⟨(some 8), none, .fieldA 0 (.tmp 7)⟩⟩, ⟨7, [6, 5, 4], ⟨(some 9), none, .load false 1 (.tmp 8)⟩⟩, ⟨8, [7, 6, 5, 4], ⟨(some 10), none, .len true (.tmp 9)⟩⟩, ⟨9, [3, 2, 1, 0, 8, 7, 6, 5, 4], ⟨(some 11), none, .bin .lss (.tmp 5) (.tmp 10)⟩⟩])
 (.cond (.tmp 11) .skip (.exit 0)))
 (.block 1 (.seq (.seq (.draw [12, 13, 14, 15, 16, 17, 18, 19, 20, 21] [⟨0, [], ⟨(some 12), none, .mov (.tmp 0)⟩⟩, ⟨1, [0], ⟨(some 13), none, .more .nilC [.tmp 12]⟩⟩, ⟨2, [1, 0], ⟨(some 14), none, .fieldA 0 (.tmp 13)⟩⟩, ⟨3, [2, 1, 0], ⟨(some 15), none, .load false 1 (.tmp 14)⟩⟩, ⟨4, [], ⟨(some 16), none, .mov (.tmp 0)⟩⟩, ⟨5, [4], ⟨(some 17), none, .more .nilC [.tmp 16]⟩⟩, ⟨6, [5, 4], ⟨(some 18), none, .fieldA 1 (.tmp 17)⟩⟩, ⟨7, [6, 5, 4], ⟨(some 19), none, .load false 1 (.tmp 18)⟩⟩, ⟨8, [3, 2, 1, 0, 7, 6, 5, 4], ⟨(some 20), none, .indexStr (.tmp 15) (.tmp 19)⟩⟩, ⟨9, [8, 3, 2, 1, 0, 7, 6, 5, 4], ⟨(some 21), none, .bin .neq (.tmp 20) (.const (.int .u8 0))⟩⟩])
 (.cond (.tmp 21) (.ops [⟨(some 22), none, .mov (.tmp 0)⟩, ⟨(some 23), none, .mov (.tmp 0)⟩, ⟨(some 24), none, .more .nilC [.tmp 23]⟩, ⟨(some 25), none, .fieldA 1 (.tmp 24)⟩, ⟨(some 26), none, .load false 1 (.tmp 25)⟩, ⟨(some 27), none, .call 63 [.tmp 22, .const (.int .i64 15), .tmp 26]⟩]) .skip))
 (.ops [⟨(some 28), none, .mov (.tmp 0)⟩, ⟨(some 29), none, .more .nilC [.tmp 28]⟩, ⟨(some 30), none, .fieldA 1 (.tmp 29)⟩, ⟨(some 31), none, .load false 1 (.tmp 30)⟩, ⟨(some 32), none, .bin .add (.tmp 31) (.const (.int .i64 1))⟩, ⟨(some 33), none, .more .nilC [.tmp 28]⟩, ⟨(some 34), none, .fieldA 1 (.tmp 33)⟩, ⟨none, none, .store 1 (.tmp 34) (.tmp 32)⟩]))))))⟩
theorem x62_ok : yfunc Tryd.prog Tryd.f62 = some x62 := by kernel_rfl

/-- (*switchyard/switchyardref.cursor).throw -/
def x63 : YF := ⟨16, [],
 (.ops [⟨(some 6), none, .mov (.tmp 1)⟩, ⟨(some 7), none, .mov (.tmp 0)⟩, ⟨(some 8), none, .more .nilC [.tmp 7]⟩, ⟨(some 9), none, .fieldA 2 (.tmp 8)⟩, ⟨(some 10), none, .load false 1 (.tmp 9)⟩, ⟨(some 11), none, .mov (.tmp 2)⟩, ⟨(some 12), none, .bin .add (.tmp 10) (.tmp 11)⟩, ⟨(some 13), none, .build [.int .i64 0, .int .i64 0] [(0, 1, .tmp 6), (1, 1, .tmp 12)]⟩, ⟨(some 14), none, .build [.int .i64 0, .int .i64 0] [(0, 2, .tmp 13)]⟩, ⟨(some 15), none, .mkI 204 (.tmp 14)⟩, ⟨none, none, .prim (.panic (.tmp 15)) [.tmp 15]⟩])⟩
theorem x63_ok : yfunc Tryd.prog Tryd.f63 = some x63 := by kernel_rfl

/-- (*switchyard/switchyardref.cursor).eat -/
def x90 : YF := ⟨46, [.tmp 4],
 (.seq (.ops [⟨(some 4), none, .eff .set [.const (.string ⟨#[]⟩)]⟩])
 (.seq (.seq (.draw [5, 6, 7, 8, 9, 10, 11, 12, 13, 14, 15, 16] [⟨0, [], ⟨(some 5), none, .mov (.tmp 0)⟩⟩, ⟨1, [0], ⟨(some 6), none, .more .nilC [.tmp 5]⟩⟩, ⟨2, [1, 0], ⟨(some 7), none, .fieldA 0 (.tmp 6)⟩⟩, ⟨3, [2, 1, 0], ⟨(some 8), none, .load false 1 (.tmp 7)⟩⟩, ⟨4, [3, 2, 1, 0], ⟨(some 9), none, .len true (.tmp 8)⟩⟩, ⟨5, [], ⟨(some 10), none, .mov (.tmp 0)⟩⟩, ⟨6, [5], ⟨(some 11), none, .more .nilC [.tmp 10]⟩⟩, ⟨7, [6, 5], ⟨(some 12), none, .fieldA 1 (.tmp 11)⟩⟩, ⟨8, [7, 6, 5], ⟨(some 13), none, .load false 1 (.tmp 12)⟩⟩, ⟨9, [4, 3, 2, 1, 0, 8, 7, 6, 5], ⟨(some 14), none, .bin .sub (.tmp 9) (.tmp 13)⟩⟩, ⟨10, [], ⟨(some 15), none, .mov (.tmp 1)⟩⟩, ⟨11, [9, 4, 3, 2, 1, 0, 8, 7, 6, 5, 10], ⟨(some 16), none, .bin .lss (.tmp 14) (.tmp 15)⟩⟩])
 (.cond (.tmp 16) (.ops [⟨(some 17), none, .mov (.tmp 0)⟩, ⟨(some 18), none, .mov (.tmp 0)⟩, ⟨(some 19), none, .more .nilC [.tmp 18]⟩, ⟨(some 20), none, .fieldA 1 (.tmp 19)⟩, ⟨(some 21), none, .load false 1 (.tmp 20)⟩, ⟨(some 22), none, .call 63 [.tmp 17, .const (.int .i64 7), .tmp 21]⟩]) .skip))
 (.seq (.ops [⟨(some 23), none, .mov (.tmp 0)⟩, ⟨(some 24), none, .more .nilC [.tmp 23]⟩, ⟨(some 25), none, .fieldA 1 (.tmp 24)⟩, ⟨(some 26), none, .load false 1 (.tmp 25)⟩, ⟨(some 27), none, .mov (.tmp 1)⟩, ⟨(some 28), none, .bin .add (.tmp 26) (.tmp 27)⟩, ⟨(some 29), none, .more .nilC [.tmp 23]⟩, ⟨(some 30), none, .fieldA 1 (.tmp 29)⟩, ⟨none, none, .store 1 (.tmp 30) (.tmp 28)⟩])
 (.seq (.draw [31, 32, 33, 34, 35, 36, 37, 38, 39, 40, 41, 42, 43, 44, 45, 4] [⟨0, [], ⟨(some 31), none, .mov (.tmp 0)⟩⟩, ⟨1, [0], ⟨(some 32), none, .more .nilC [.tmp 31]⟩⟩, ⟨2, [1, 0], ⟨(some 33), none, .fieldA 0 (.tmp 32)⟩⟩, ⟨3, [2, 1, 0], ⟨(some 34), none, .load false 1 (.tmp 33)⟩⟩, ⟨4, [], ⟨(some 35), none, .mov (.tmp 0)⟩⟩, ⟨5, [4], ⟨(some 36), none, .more .nilC [.tmp 35]⟩⟩, ⟨6, [5, 4], ⟨(some 37), none, .fieldA 1 (.tmp 36)⟩⟩, ⟨7, [6, 5, 4], ⟨(some 38), none, .load false 1 (.tmp 37)⟩⟩, ⟨8, [], ⟨(some 39), none, .mov (.tmp 1)⟩⟩, ⟨9, [7, 6, 5, 4, 8], ⟨(some 40), none, .bin .sub (.tmp 38) (.tmp 39)⟩⟩, ⟨10, [], ⟨(some 41), none, .mov (.tmp 0)⟩⟩, ⟨11, [10], ⟨(some 42), none, .more .nilC [.tmp 41]⟩⟩, ⟨12, [11, 10], ⟨(some 43), none, .fieldA 1 (.tmp 42)⟩⟩, ⟨13, [12, 11, 10], ⟨(some 44), none, .load false 1 (.tmp 43)⟩⟩, ⟨14, [3, 2, 1, 0, 9, 7, 6, 5, 4, 8, 13, 12, 11, 10], ⟨(some 45), none, .more (.slcT true true) [.tmp 34, .tmp 40, .tmp 44]⟩⟩, ⟨15, [14, 3, 2, 1, 0, 9, 7, 6, 5, 4, 8, 13, 12, 11, 10], ⟨(some 4), none, .eff .set [.tmp 45]⟩⟩])
 .ret))))⟩
theorem x90_ok : yfunc Tryd.prog Tryd.f90 = some x90 := by kernel_rfl
end Go.Proofs.YtfianfpmnglfnaaDoor
