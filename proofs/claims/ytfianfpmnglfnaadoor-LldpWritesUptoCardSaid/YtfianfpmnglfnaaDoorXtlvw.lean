/- Functions of this seat with the type tables looked up; each checked by the kernel. Conditions: none. -/
import Derived.Test.YtfianfpmnglfnaaDoorProg
import Derived.Test.YtfianfpmnglfnaaDoorBaseC
namespace Go.Proofs.YtfianfpmnglfnaaDoor
open Go.Sx
set_option maxRecDepth 100000
/-- switchyard/switchyardref.TlvWrite -/
def x29 : YF := ⟨36, [.tmp 2, .cell 3 true 2],
 (.seq (.ops [⟨(some 2), none, .eff .set [.const (.string ⟨#[]⟩)]⟩, ⟨(some 3), none, .alloc 40 [.int .i64 0, .int .i64 0]⟩])
 (.seq (.ops [⟨(some 4), none, .eff .set [.const (.string ⟨#[]⟩)]⟩])
 (.seq (.seq (.ops [⟨(some 7), none, .mov (.tmp 0)⟩, ⟨(some 8), none, .len false (.tmp 7)⟩, ⟨(some 9), none, .mov (.const (.int .i64 0))⟩])
 (.block 0 (.loop [false, false, true, false, true, true, true, false, false, true, true, true, true, true, true, true, true, true, true, true, true, true, true, true, true, true, true, true, true, true, true, true, true] (.seq (.ops [⟨(some 10), none, .bin .lss (.tmp 9) (.tmp 8)⟩])
 (.seq (.cond (.tmp 10) .skip (.exit 0))
 (.seq (.block 1 (.seq (.ops [⟨(some 11), none, .mov (.tmp 9)⟩, ⟨(some 12), none, .indexS 2 (.tmp 7) (.tmp 9)⟩, ⟨(some 13), none, .load true 2 (.tmp 12)⟩, ⟨(some 6), none, .alloc 108 [.int .i64 0, .string ⟨#[]⟩]⟩, ⟨(some 5), none, .eff .set [.tmp 11]⟩, ⟨none, none, .store 2 (.tmp 6) (.tmp 13)⟩])
 (.seq (.seq (.ops [⟨(some 14), none, .load true 2 (.tmp 6)⟩, ⟨(some 15), none, .call 81 [.tmp 14]⟩, ⟨(some 16), none, .un .not (.tmp 15)⟩])
 (.cond (.tmp 16) (.seq (.ops [⟨(some 17), none, .mov (.tmp 5)⟩, ⟨(some 18), none, .build [.int .i64 0, .int .i64 0] [(0, 1, .const (.int .i64 1)), (1, 1, .tmp 17)]⟩, ⟨(some 2), none, .eff .set [.const (.string ⟨#[]⟩)]⟩, ⟨none, none, .store 2 (.tmp 3) (.tmp 18)⟩])
 .ret) .skip))
 (.draw [19, 20, 21, 22, 23, 24, 25, 26, 28, 29, 27, 30, 31, 4] [⟨0, [], ⟨(some 19), none, .mov (.tmp 4)⟩⟩, ⟨1, [], ⟨(some 20), none, .fieldA 0 (.tmp 6)⟩⟩, ⟨2, [1], ⟨(some 21), none, .load false 1 (.tmp 20)⟩⟩, ⟨3, [2, 1], ⟨(some 22), none, .bin .mul (.tmp 21) (.const (.int .i64 512))⟩⟩, ⟨4, [], ⟨(some 23), none, .fieldA 1 (.tmp 6)⟩⟩, ⟨5, [4], ⟨(some 24), none, .load false 1 (.tmp 23)⟩⟩, ⟨6, [5, 4], ⟨(some 25), none, .len true (.tmp 24)⟩⟩, ⟨7, [3, 2, 1, 6, 5, 4], ⟨(some 26), none, .bin .add (.tmp 22) (.tmp 25)⟩⟩, ⟨9, [], ⟨(some 28), none, .fieldA 1 (.tmp 6)⟩⟩, ⟨10, [9], ⟨(some 29), none, .load false 1 (.tmp 28)⟩⟩, ⟨8, [7, 3, 2, 1, 6, 5, 4], ⟨(some 27), none, .call 79 [.tmp 26, .const (.int .i64 2)]⟩⟩, ⟨11, [8, 7, 3, 2, 1, 6, 5, 4, 10, 9], ⟨(some 30), none, .bin .add (.tmp 27) (.tmp 29)⟩⟩, ⟨12, [0, 11, 8, 7, 3, 2, 1, 6, 5, 4, 10, 9], ⟨(some 31), none, .bin .add (.tmp 19) (.tmp 30)⟩⟩, ⟨13, [12, 0, 11, 8, 7, 3, 2, 1, 6, 5, 4, 10, 9], ⟨(some 4), none, .eff .set [.tmp 31]⟩⟩]))))
 (.ops [⟨(some 32), none, .bin .add (.tmp 9) (.const (.int .i64 1))⟩, ⟨(some 9), none, .mov (.tmp 32)⟩])))))))
 (.seq (.ops [⟨(some 33), none, .mov (.tmp 4)⟩, ⟨(some 34), none, .bin .add (.tmp 33) (.const (.string ⟨#[0, 0]⟩))⟩, ⟨(some 35), none, .call 48 []⟩, ⟨(some 2), none, .eff .set [.tmp 34]⟩, ⟨none, none, .store 2 (.tmp 3) (.tmp 35)⟩])
 .ret))))⟩
theorem x29_ok : yfunc Tryd.prog Tryd.f29 = some x29 := by kernel_rfl

/-- switchyard/tlv.Write -/
def x31 : YF := ⟨36, [.tmp 2, .tmp 3],
 (.seq (.ops [⟨(some 2), none, .eff .set [.const (.string ⟨#[]⟩)]⟩, ⟨(some 3), none, .eff .set [.const (.nilIface)]⟩])
 (.seq (.ops [⟨(some 4), none, .alloc 183 [.pointer none, .slice none 0 0]⟩])
 (.seq (.seq (.ops [⟨(some 7), none, .mov (.tmp 0)⟩, ⟨(some 8), none, .len false (.tmp 7)⟩, ⟨(some 9), none, .mov (.const (.int .i64 0))⟩])
 (.block 0 (.loop [false, false, true, true, false, true, true, false, false, true, true, true, true, true, true, true, true, true, true, true, true, true, true, true, true, true, true, true, true, true, true, true, true, true] (.seq (.ops [⟨(some 10), none, .bin .lss (.tmp 9) (.tmp 8)⟩])
 (.seq (.cond (.tmp 10) .skip (.exit 0))
 (.seq (.block 1 (.seq (.ops [⟨(some 11), none, .mov (.tmp 9)⟩, ⟨(some 12), none, .indexS 2 (.tmp 7) (.tmp 9)⟩, ⟨(some 13), none, .load true 2 (.tmp 12)⟩, ⟨(some 6), none, .alloc 108 [.int .i64 0, .string ⟨#[]⟩]⟩, ⟨(some 5), none, .eff .set [.tmp 11]⟩, ⟨none, none, .store 2 (.tmp 6) (.tmp 13)⟩])
 (.seq (.seq (.ops [⟨(some 14), none, .load true 2 (.tmp 6)⟩, ⟨(some 15), none, .call 83 [.tmp 14]⟩, ⟨(some 16), none, .un .not (.tmp 15)⟩])
 (.cond (.tmp 16) (.seq (.ops [⟨(some 17), none, .mov (.tmp 5)⟩, ⟨(some 18), none, .build [.int .i64 0, .int .i64 0] [(0, 1, .const (.int .i64 1)), (1, 1, .tmp 17)]⟩, ⟨(some 19), none, .box 138 (.tmp 18)⟩, ⟨(some 20), none, .mkI 136 (.tmp 19)⟩, ⟨(some 2), none, .eff .set [.const (.string ⟨#[]⟩)]⟩, ⟨(some 3), none, .eff .set [.tmp 20]⟩])
 .ret) .skip))
 (.draw [21, 22, 23, 24, 25, 26, 27, 29, 30, 28, 31, 32] [⟨0, [], ⟨(some 21), none, .fieldA 0 (.tmp 6)⟩⟩, ⟨1, [0], ⟨(some 22), none, .load false 1 (.tmp 21)⟩⟩, ⟨2, [1, 0], ⟨(some 23), none, .bin .shl (.tmp 22) (.const (.int .u64 9))⟩⟩, ⟨3, [], ⟨(some 24), none, .fieldA 1 (.tmp 6)⟩⟩, ⟨4, [3], ⟨(some 25), none, .load false 1 (.tmp 24)⟩⟩, ⟨5, [4, 3], ⟨(some 26), none, .len true (.tmp 25)⟩⟩, ⟨6, [2, 1, 0, 5, 4, 3], ⟨(some 27), none, .bin .or (.tmp 23) (.tmp 26)⟩⟩, ⟨8, [], ⟨(some 29), none, .fieldA 1 (.tmp 6)⟩⟩, ⟨9, [8], ⟨(some 30), none, .load false 1 (.tmp 29)⟩⟩, ⟨7, [6, 2, 1, 0, 5, 4, 3], ⟨(some 28), none, .call 30 [.tmp 27, .const (.int .i64 2)]⟩⟩, ⟨10, [7, 6, 2, 1, 0, 5, 4, 3, 9, 8], ⟨(some 31), none, .bin .add (.tmp 28) (.tmp 30)⟩⟩, ⟨11, [10, 9, 8, 7, 6, 2, 1, 0, 5, 4, 3], ⟨(some 32), none, .call 84 [.tmp 4, .tmp 31]⟩⟩]))))
 (.ops [⟨(some 33), none, .bin .add (.tmp 9) (.const (.int .i64 1))⟩, ⟨(some 9), none, .mov (.tmp 33)⟩])))))))
 (.seq (.ops [⟨(some 34), none, .call 85 [.tmp 4]⟩, ⟨(some 35), none, .bin .add (.tmp 34) (.const (.string ⟨#[0, 0]⟩))⟩, ⟨(some 2), none, .eff .set [.tmp 35]⟩, ⟨(some 3), none, .eff .set [.const (.nilIface)]⟩])
 .ret))))⟩
theorem x31_ok : yfunc Tryd.prog Tryd.f31 = some x31 := by kernel_rfl

/-- switchyard/switchyardref.TlvRight -/
def x81 : YF := ⟨12, [.tmp 2],
 (.seq (.ops [⟨(some 1), none, .box 108 (.tmp 0)⟩, ⟨(some 2), none, .eff .set [.const (.bool false)]⟩])
 (.seq (.ops [⟨(some 3), none, .fieldA 0 (.tmp 1)⟩, ⟨(some 4), none, .load false 1 (.tmp 3)⟩, ⟨(some 5), none, .call 47 [.tmp 4, .const (.int .i64 1), .const (.int .i64 127)]⟩, ⟨(some 6), none, .mov (.tmp 5)⟩, ⟨(some 7), (some (6, true)), .fieldA 1 (.tmp 1)⟩, ⟨(some 8), (some (6, true)), .load false 1 (.tmp 7)⟩, ⟨(some 9), (some (6, true)), .len true (.tmp 8)⟩, ⟨(some 10), (some (6, true)), .bin .lss (.tmp 9) (.const (.int .i64 512))⟩, ⟨(some 11), none, .pick (.tmp 6) (.tmp 10) (.const (.bool false))⟩, ⟨(some 2), none, .eff .set [.tmp 11]⟩])
 .ret))⟩
theorem x81_ok : yfunc Tryd.prog Tryd.f81 = some x81 := by kernel_rfl

/-- switchyard/tlv.Right -/
def x83 : YF := ⟨17, [.tmp 2],
 (.seq (.ops [⟨(some 1), none, .box 108 (.tmp 0)⟩, ⟨(some 2), none, .eff .set [.const (.bool false)]⟩])
 (.seq (.ops [⟨(some 3), none, .fieldA 0 (.tmp 1)⟩, ⟨(some 4), none, .load false 1 (.tmp 3)⟩, ⟨(some 5), none, .bin .geq (.tmp 4) (.const (.int .i64 1))⟩, ⟨(some 6), none, .mov (.tmp 5)⟩, ⟨(some 7), (some (6, true)), .fieldA 0 (.tmp 1)⟩, ⟨(some 8), (some (6, true)), .load false 1 (.tmp 7)⟩, ⟨(some 9), (some (6, true)), .bin .leq (.tmp 8) (.const (.int .i64 127))⟩, ⟨(some 10), none, .pick (.tmp 6) (.tmp 9) (.const (.bool false))⟩, ⟨(some 11), none, .mov (.tmp 10)⟩, ⟨(some 12), (some (11, true)), .fieldA 1 (.tmp 1)⟩, ⟨(some 13), (some (11, true)), .load false 1 (.tmp 12)⟩, ⟨(some 14), (some (11, true)), .len true (.tmp 13)⟩, ⟨(some 15), (some (11, true)), .bin .leq (.tmp 14) (.const (.int .i64 511))⟩, ⟨(some 16), none, .pick (.tmp 11) (.tmp 15) (.const (.bool false))⟩, ⟨(some 2), none, .eff .set [.tmp 16]⟩])
 .ret))⟩
theorem x83_ok : yfunc Tryd.prog Tryd.f83 = some x83 := by kernel_rfl
end Go.Proofs.YtfianfpmnglfnaaDoor
