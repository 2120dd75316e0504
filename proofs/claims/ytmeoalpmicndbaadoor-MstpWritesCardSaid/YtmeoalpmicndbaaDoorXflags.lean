/- Functions of this seat with the type tables looked up; each checked by the kernel. Conditions: none. -/
import Derived.Test.YtmeoalpmicndbaaDoorProg
import Derived.Test.YtmeoalpmicndbaaDoorBaseC
namespace Go.Proofs.YtmeoalpmicndbaaDoor
open Go.Sx
set_option maxRecDepth 100000
/-- switchyard/switchyardref.FlagsByte -/
def x99 : YF := ⟨34, [.tmp 2],
 (.seq (.ops [⟨(some 1), none, .box 59 (.tmp 0)⟩, ⟨(some 2), none, .eff .set [.const (.int .i64 0)]⟩])
 (.seq (.ops [⟨(some 6), none, .fieldA 2 (.tmp 1)⟩, ⟨(some 7), none, .load false 1 (.tmp 6)⟩, ⟨(some 8), none, .bin .mul (.tmp 7) (.const (.int .i64 4))⟩, ⟨(some 3), none, .eff .set [.tmp 8]⟩])
 (.seq (.seq (.ops [⟨(some 9), none, .prim (.makeMap 256 none) []⟩, ⟨(some 10), none, .fieldA 0 (.tmp 1)⟩, ⟨(some 11), none, .load false 1 (.tmp 10)⟩, ⟨none, none, .prim (.insert 256 (.tmp 9) (.const (.int .i64 1)) (.tmp 11)) [.tmp 9, .const (.int .i64 1), .tmp 11]⟩, ⟨(some 12), none, .fieldA 1 (.tmp 1)⟩, ⟨(some 13), none, .load false 1 (.tmp 12)⟩, ⟨none, none, .prim (.insert 256 (.tmp 9) (.const (.int .i64 2)) (.tmp 13)) [.tmp 9, .const (.int .i64 2), .tmp 13]⟩, ⟨(some 14), none, .fieldA 3 (.tmp 1)⟩, ⟨(some 15), none, .load false 1 (.tmp 14)⟩, ⟨none, none, .prim (.insert 256 (.tmp 9) (.const (.int .i64 16)) (.tmp 15)) [.tmp 9, .const (.int .i64 16), .tmp 15]⟩, ⟨(some 16), none, .fieldA 4 (.tmp 1)⟩, ⟨(some 17), none, .load false 1 (.tmp 16)⟩, ⟨none, none, .prim (.insert 256 (.tmp 9) (.const (.int .i64 32)) (.tmp 17)) [.tmp 9, .const (.int .i64 32), .tmp 17]⟩, ⟨(some 18), none, .fieldA 5 (.tmp 1)⟩, ⟨(some 19), none, .load false 1 (.tmp 18)⟩, ⟨none, none, .prim (.insert 256 (.tmp 9) (.const (.int .i64 64)) (.tmp 19)) [.tmp 9, .const (.int .i64 64), .tmp 19]⟩, ⟨(some 20), none, .fieldA 6 (.tmp 1)⟩, ⟨(some 21), none, .load false 1 (.tmp 20)⟩, ⟨none, none, .prim (.insert 256 (.tmp 9) (.const (.int .i64 128)) (.tmp 21)) [.tmp 9, .const (.int .i64 128), .tmp 21]⟩, ⟨(some 22), none, .mov (.tmp 9)⟩, ⟨(some 23), none, .prim (.range 256 (.tmp 22)) [.tmp 22]⟩])
 (.block 0 (.loop [false, false, false, true, true, true, false, false, false, false, false, false, false, false, false, false, false, false, false, false, false, false, false, false, true, true, true, true, true, true, true, true, true] (.seq (.ops [⟨(some 24), none, .prim (.next (.tmp 23) false) [.tmp 23]⟩, ⟨(some 25), none, .ext (.tmp 24) 0⟩])
 (.seq (.cond (.tmp 25) .skip (.exit 0))
 (.block 1 (.seq (.ops [⟨(some 26), none, .prim (.entry (.tmp 23)) [.tmp 23]⟩, ⟨(some 27), none, .ext (.tmp 26) 0⟩, ⟨(some 28), none, .ext (.tmp 26) 1⟩, ⟨(some 4), none, .eff .set [.tmp 27]⟩, ⟨(some 5), none, .eff .set [.tmp 28]⟩])
 (.seq (.ops [⟨(some 29), none, .mov (.tmp 5)⟩])
 (.cond (.tmp 29) (.ops [⟨(some 30), none, .mov (.tmp 3)⟩, ⟨(some 31), none, .mov (.tmp 4)⟩, ⟨(some 32), none, .bin .add (.tmp 30) (.tmp 31)⟩, ⟨(some 3), none, .eff .set [.tmp 32]⟩]) .skip)))))))))
 (.seq (.ops [⟨(some 33), none, .mov (.tmp 3)⟩, ⟨(some 2), none, .eff .set [.tmp 33]⟩])
 .ret))))⟩
theorem x99_ok : yfunc Tryd.prog Tryd.f99 = some x99 := by kernel_rfl

/-- switchyard/bpdu.Byte -/
def x103 : YF := ⟨33, [.tmp 2],
 (.seq (.ops [⟨(some 1), none, .box 59 (.tmp 0)⟩, ⟨(some 2), none, .eff .set [.const (.int .i64 0)]⟩])
 (.seq (.ops [⟨(some 6), none, .fieldA 2 (.tmp 1)⟩, ⟨(some 7), none, .load false 1 (.tmp 6)⟩, ⟨(some 8), none, .bin .shl (.tmp 7) (.const (.int .u64 2))⟩, ⟨(some 3), none, .eff .set [.tmp 8]⟩])
 (.seq (.seq (.ops [⟨(some 9), none, .fieldA 0 (.tmp 1)⟩, ⟨(some 10), none, .load false 1 (.tmp 9)⟩, ⟨(some 11), none, .fieldA 1 (.tmp 1)⟩, ⟨(some 12), none, .load false 1 (.tmp 11)⟩, ⟨(some 13), none, .fieldA 3 (.tmp 1)⟩, ⟨(some 14), none, .load false 1 (.tmp 13)⟩, ⟨(some 15), none, .fieldA 4 (.tmp 1)⟩, ⟨(some 16), none, .load false 1 (.tmp 15)⟩, ⟨(some 17), none, .fieldA 5 (.tmp 1)⟩, ⟨(some 18), none, .load false 1 (.tmp 17)⟩, ⟨(some 19), none, .fieldA 6 (.tmp 1)⟩, ⟨(some 20), none, .load false 1 (.tmp 19)⟩, ⟨(some 21), none, .build [.bool false, .bool false, .bool false, .bool false, .bool false, .bool false, .bool false, .bool false] [(0, 1, .tmp 10), (1, 1, .tmp 12), (2, 1, .const (.bool false)), (3, 1, .const (.bool false)), (4, 1, .tmp 14), (5, 1, .tmp 16), (6, 1, .tmp 18), (7, 1, .tmp 20)]⟩, ⟨(some 22), none, .mov (.const (.int .i64 0))⟩])
 (.block 0 (.loop [false, false, false, true, true, true, false, false, false, false, false, false, false, false, false, false, false, false, false, false, false, false, true, true, true, true, true, true, true, true, true, true] (.seq (.ops [⟨(some 23), none, .bin .lss (.tmp 22) (.const (.int .i64 8))⟩])
 (.seq (.cond (.tmp 23) .skip (.exit 0))
 (.seq (.block 1 (.seq (.ops [⟨(some 24), none, .mov (.tmp 22)⟩, ⟨(some 25), none, .indexV 8 false 1 (.tmp 21) (.tmp 22)⟩, ⟨(some 4), none, .eff .set [.tmp 24]⟩, ⟨(some 5), none, .eff .set [.tmp 25]⟩])
 (.seq (.ops [⟨(some 26), none, .mov (.tmp 5)⟩])
 (.cond (.tmp 26) (.ops [⟨(some 27), none, .mov (.tmp 3)⟩, ⟨(some 28), none, .mov (.tmp 4)⟩, ⟨(some 29), none, .bin .shl (.const (.int .i64 1)) (.tmp 28)⟩, ⟨(some 30), none, .bin .or (.tmp 27) (.tmp 29)⟩, ⟨(some 3), none, .eff .set [.tmp 30]⟩]) .skip))))
 (.ops [⟨(some 31), none, .bin .add (.tmp 22) (.const (.int .i64 1))⟩, ⟨(some 22), none, .mov (.tmp 31)⟩])))))))
 (.seq (.ops [⟨(some 32), none, .mov (.tmp 3)⟩, ⟨(some 2), none, .eff .set [.tmp 32]⟩])
 .ret))))⟩
theorem x103_ok : yfunc Tryd.prog Tryd.f103 = some x103 := by kernel_rfl

/-- switchyard/switchyardref.FlagsOf -/
def x116 : YF := ⟨21, [.cell 2 true 7],
 (.seq (.ops [⟨(some 1), none, .box 3 (.tmp 0)⟩, ⟨(some 2), none, .alloc 59 [.bool false, .bool false, .int .i64 0, .bool false, .bool false, .bool false, .bool false]⟩])
 (.seq (.ops [⟨(some 4), none, .mkF 162 [] [.tmp 1]⟩, ⟨(some 3), none, .eff .set [.tmp 4]⟩])
 (.seq (.draw [5, 7, 9, 10, 11, 12, 14, 16, 18, 6, 8, 13, 15, 17, 19, 20] [⟨0, [], ⟨(some 5), none, .mov (.tmp 3)⟩⟩, ⟨2, [], ⟨(some 7), none, .mov (.tmp 3)⟩⟩, ⟨4, [], ⟨(some 9), none, .load false 1 (.tmp 1)⟩⟩, ⟨5, [4], ⟨(some 10), none, .bin .quo (.tmp 9) (.const (.int .i64 4))⟩⟩, ⟨6, [5, 4], ⟨(some 11), none, .bin .rem (.tmp 10) (.const (.int .i64 4))⟩⟩, ⟨7, [], ⟨(some 12), none, .mov (.tmp 3)⟩⟩, ⟨9, [], ⟨(some 14), none, .mov (.tmp 3)⟩⟩, ⟨11, [], ⟨(some 16), none, .mov (.tmp 3)⟩⟩, ⟨13, [], ⟨(some 18), none, .mov (.tmp 3)⟩⟩, ⟨1, [0], ⟨(some 6), none, .callv (.tmp 5) [.const (.int .i64 1)]⟩⟩, ⟨3, [2, 1, 0], ⟨(some 8), none, .callv (.tmp 7) [.const (.int .i64 2)]⟩⟩, ⟨8, [7, 3, 2, 1, 0], ⟨(some 13), none, .callv (.tmp 12) [.const (.int .i64 16)]⟩⟩, ⟨10, [9, 8, 7, 3, 2, 1, 0], ⟨(some 15), none, .callv (.tmp 14) [.const (.int .i64 32)]⟩⟩, ⟨12, [11, 10, 9, 8, 7, 3, 2, 1, 0], ⟨(some 17), none, .callv (.tmp 16) [.const (.int .i64 64)]⟩⟩, ⟨14, [13, 12, 11, 10, 9, 8, 7, 3, 2, 1, 0], ⟨(some 19), none, .callv (.tmp 18) [.const (.int .i64 128)]⟩⟩, ⟨15, [6, 5, 4, 14, 13, 12, 11, 10, 9, 8, 7, 3, 2, 1, 0], ⟨(some 20), none, .build [.bool false, .bool false, .int .i64 0, .bool false, .bool false, .bool false, .bool false] [(0, 1, .tmp 6), (1, 1, .tmp 8), (2, 1, .tmp 11), (3, 1, .tmp 13), (4, 1, .tmp 15), (5, 1, .tmp 17), (6, 1, .tmp 19)]⟩⟩, ⟨16, [15, 6, 5, 4, 14, 13, 12, 11, 10, 9, 8, 7, 3, 2, 1, 0], ⟨none, none, .store 7 (.tmp 2) (.tmp 20)⟩⟩])
 .ret)))⟩
theorem x116_ok : yfunc Tryd.prog Tryd.f116 = some x116 := by kernel_rfl

/-- switchyard/bpdu.Of -/
def x121 : YF := ⟨21, [.cell 2 true 7],
 (.seq (.ops [⟨(some 1), none, .box 3 (.tmp 0)⟩, ⟨(some 2), none, .alloc 59 [.bool false, .bool false, .int .i64 0, .bool false, .bool false, .bool false, .bool false]⟩])
 (.seq (.ops [⟨(some 4), none, .mkF 168 [] [.tmp 1]⟩, ⟨(some 3), none, .eff .set [.tmp 4]⟩])
 (.seq (.draw [5, 7, 9, 10, 11, 12, 14, 16, 18, 6, 8, 13, 15, 17, 19, 20] [⟨0, [], ⟨(some 5), none, .mov (.tmp 3)⟩⟩, ⟨2, [], ⟨(some 7), none, .mov (.tmp 3)⟩⟩, ⟨4, [], ⟨(some 9), none, .load false 1 (.tmp 1)⟩⟩, ⟨5, [4], ⟨(some 10), none, .bin .shr (.tmp 9) (.const (.int .u64 2))⟩⟩, ⟨6, [5, 4], ⟨(some 11), none, .bin .and (.tmp 10) (.const (.int .i64 3))⟩⟩, ⟨7, [], ⟨(some 12), none, .mov (.tmp 3)⟩⟩, ⟨9, [], ⟨(some 14), none, .mov (.tmp 3)⟩⟩, ⟨11, [], ⟨(some 16), none, .mov (.tmp 3)⟩⟩, ⟨13, [], ⟨(some 18), none, .mov (.tmp 3)⟩⟩, ⟨1, [0], ⟨(some 6), none, .callv (.tmp 5) [.const (.int .i64 0)]⟩⟩, ⟨3, [2, 1, 0], ⟨(some 8), none, .callv (.tmp 7) [.const (.int .i64 1)]⟩⟩, ⟨8, [7, 3, 2, 1, 0], ⟨(some 13), none, .callv (.tmp 12) [.const (.int .i64 4)]⟩⟩, ⟨10, [9, 8, 7, 3, 2, 1, 0], ⟨(some 15), none, .callv (.tmp 14) [.const (.int .i64 5)]⟩⟩, ⟨12, [11, 10, 9, 8, 7, 3, 2, 1, 0], ⟨(some 17), none, .callv (.tmp 16) [.const (.int .i64 6)]⟩⟩, ⟨14, [13, 12, 11, 10, 9, 8, 7, 3, 2, 1, 0], ⟨(some 19), none, .callv (.tmp 18) [.const (.int .i64 7)]⟩⟩, ⟨15, [6, 5, 4, 14, 13, 12, 11, 10, 9, 8, 7, 3, 2, 1, 0], ⟨(some 20), none, .build [.bool false, .bool false, .int .i64 0, .bool false, .bool false, .bool false, .bool false] [(0, 1, .tmp 6), (1, 1, .tmp 8), (2, 1, .tmp 11), (3, 1, .tmp 13), (4, 1, .tmp 15), (5, 1, .tmp 17), (6, 1, .tmp 19)]⟩⟩, ⟨16, [15, 6, 5, 4, 14, 13, 12, 11, 10, 9, 8, 7, 3, 2, 1, 0], ⟨none, none, .store 7 (.tmp 2) (.tmp 20)⟩⟩])
 .ret)))⟩
theorem x121_ok : yfunc Tryd.prog Tryd.f121 = some x121 := by kernel_rfl

/-- switchyard/bpdu.Flags -/
def x154 : YF := ⟨11, [.tmp 2],
 (.seq (.ops [⟨(some 1), none, .box 59 (.tmp 0)⟩, ⟨(some 2), none, .eff .set [.const (.bool false)]⟩])
 (.seq (.ops [⟨(some 3), none, .fieldA 2 (.tmp 1)⟩, ⟨(some 4), none, .load false 1 (.tmp 3)⟩, ⟨(some 5), none, .bin .geq (.tmp 4) (.const (.int .i64 0))⟩, ⟨(some 6), none, .mov (.tmp 5)⟩, ⟨(some 7), (some (6, true)), .fieldA 2 (.tmp 1)⟩, ⟨(some 8), (some (6, true)), .load false 1 (.tmp 7)⟩, ⟨(some 9), (some (6, true)), .bin .leq (.tmp 8) (.const (.int .i64 3))⟩, ⟨(some 10), none, .pick (.tmp 6) (.tmp 9) (.const (.bool false))⟩, ⟨(some 2), none, .eff .set [.tmp 10]⟩])
 .ret))⟩
theorem x154_ok : yfunc Tryd.prog Tryd.f154 = some x154 := by kernel_rfl

/-- switchyard/switchyardref.FlagsOf$1 -/
def x162 : YF := ⟨9, [.tmp 3],
 (.seq (.ops [⟨(some 3), none, .eff .set [.const (.bool false)]⟩])
 (.seq (.ops [⟨(some 4), none, .load false 1 (.tmp 1)⟩, ⟨(some 5), none, .mov (.tmp 0)⟩, ⟨(some 6), none, .bin .quo (.tmp 4) (.tmp 5)⟩, ⟨(some 7), none, .bin .rem (.tmp 6) (.const (.int .i64 2))⟩, ⟨(some 8), none, .bin .eql (.tmp 7) (.const (.int .i64 1))⟩, ⟨(some 3), none, .eff .set [.tmp 8]⟩])
 .ret))⟩
theorem x162_ok : yfunc Tryd.prog Tryd.f162 = some x162 := by kernel_rfl

/-- switchyard/bpdu.Of$1 -/
def x168 : YF := ⟨9, [.tmp 3],
 (.seq (.ops [⟨(some 3), none, .eff .set [.const (.bool false)]⟩])
 (.seq (.ops [⟨(some 4), none, .load false 1 (.tmp 1)⟩, ⟨(some 5), none, .mov (.tmp 0)⟩, ⟨(some 6), none, .bin .shr (.tmp 4) (.tmp 5)⟩, ⟨(some 7), none, .bin .and (.tmp 6) (.const (.int .i64 1))⟩, ⟨(some 8), none, .bin .eql (.tmp 7) (.const (.int .i64 1))⟩, ⟨(some 3), none, .eff .set [.tmp 8]⟩])
 .ret))⟩
theorem x168_ok : yfunc Tryd.prog Tryd.f168 = some x168 := by kernel_rfl
end Go.Proofs.YtmeoalpmicndbaaDoor
