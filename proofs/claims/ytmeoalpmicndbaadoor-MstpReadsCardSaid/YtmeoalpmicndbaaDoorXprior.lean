/- Functions of this seat with the type tables looked up; each checked by the kernel. Conditions: none. -/
import Derived.Test.YtmeoalpmicndbaaDoorProg
import Derived.Test.YtmeoalpmicndbaaDoorBaseC
namespace Go.Proofs.YtmeoalpmicndbaaDoor
open Go.Sx
set_option maxRecDepth 100000
/-- (*switchyard/switchyardref.cursor).bridge -/
def x115 : YF := ⟨14, [.cell 2 true 8],
 (.seq (.ops [⟨(some 2), none, .alloc 61 [.int .i64 0, .int .i64 0, .int .u8 0, .int .u8 0, .int .u8 0, .int .u8 0, .int .u8 0, .int .u8 0]⟩])
 (.seq (.ops [⟨(some 4), none, .mov (.tmp 0)⟩, ⟨(some 5), none, .call 87 [.tmp 4, .const (.int .i64 2)]⟩, ⟨(some 3), none, .eff .set [.tmp 5]⟩])
 (.seq (.ops [⟨(some 6), none, .mov (.tmp 3)⟩, ⟨(some 7), none, .bin .quo (.tmp 6) (.const (.int .i64 4096))⟩, ⟨(some 8), none, .bin .mul (.tmp 7) (.const (.int .i64 4096))⟩, ⟨(some 9), none, .mov (.tmp 3)⟩, ⟨(some 10), none, .bin .rem (.tmp 9) (.const (.int .i64 4096))⟩, ⟨(some 11), none, .mov (.tmp 0)⟩, ⟨(some 12), none, .call 161 [.tmp 11]⟩, ⟨(some 13), none, .build [.int .i64 0, .int .i64 0, .int .u8 0, .int .u8 0, .int .u8 0, .int .u8 0, .int .u8 0, .int .u8 0] [(0, 1, .tmp 8), (1, 1, .tmp 10), (2, 6, .tmp 12)]⟩, ⟨none, none, .store 8 (.tmp 2) (.tmp 13)⟩])
 .ret)))⟩
theorem x115_ok : yfunc Tryd.prog Tryd.f115 = some x115 := by kernel_rfl

/-- switchyard/prio.Read -/
def x120 : YF := ⟨18, [.cell 2 true 8],
 (.seq (.ops [⟨(some 2), none, .alloc 61 [.int .i64 0, .int .i64 0, .int .u8 0, .int .u8 0, .int .u8 0, .int .u8 0, .int .u8 0, .int .u8 0]⟩])
 (.seq (.ops [⟨(some 5), none, .mov (.tmp 0)⟩, ⟨(some 6), none, .call 91 [.tmp 5, .const (.int .i64 2)]⟩, ⟨(some 3), none, .eff .set [.tmp 6]⟩])
 (.seq (.ops [⟨(some 7), none, .mov (.tmp 3)⟩, ⟨(some 8), none, .bin .andNot (.tmp 7) (.const (.int .i64 4095))⟩, ⟨(some 9), none, .mov (.tmp 3)⟩, ⟨(some 10), none, .bin .and (.tmp 9) (.const (.int .i64 4095))⟩, ⟨(some 11), none, .build [.int .i64 0, .int .i64 0, .int .u8 0, .int .u8 0, .int .u8 0, .int .u8 0, .int .u8 0, .int .u8 0] [(0, 1, .tmp 8), (1, 1, .tmp 10)]⟩, ⟨(some 4), none, .alloc 61 [.int .i64 0, .int .i64 0, .int .u8 0, .int .u8 0, .int .u8 0, .int .u8 0, .int .u8 0, .int .u8 0]⟩, ⟨none, none, .store 8 (.tmp 4) (.tmp 11)⟩])
 (.seq (.draw [12, 13, 14, 15, 16] [⟨0, [], ⟨(some 12), none, .fieldA 2 (.tmp 4)⟩⟩, ⟨1, [0], ⟨(some 13), none, .more (.slcA 6 1 false false) [.tmp 12]⟩⟩, ⟨2, [], ⟨(some 14), none, .mov (.tmp 0)⟩⟩, ⟨3, [2], ⟨(some 15), none, .call 117 [.tmp 14, .const (.int .i64 6)]⟩⟩, ⟨4, [1, 0, 3, 2], ⟨(some 16), none, .prim (.call ⟨.builtin .copy, #[.tmp 13, .tmp 15], #[173, 9]⟩) [.tmp 13, .tmp 15]⟩⟩])
 (.seq (.ops [⟨(some 17), none, .load true 8 (.tmp 4)⟩, ⟨none, none, .store 8 (.tmp 2) (.tmp 17)⟩])
 .ret)))))⟩
theorem x120_ok : yfunc Tryd.prog Tryd.f120 = some x120 := by kernel_rfl

/-- (*switchyard/switchyardref.cursor).port -/
def x160 : YF := ⟨23, [.cell 2 true 2],
 (.seq (.ops [⟨(some 2), none, .alloc 63 [.int .i64 0, .int .i64 0]⟩])
 (.seq (.ops [⟨(some 5), none, .mov (.tmp 0)⟩, ⟨(some 6), none, .more .nilC [.tmp 5]⟩, ⟨(some 7), none, .fieldA 1 (.tmp 6)⟩, ⟨(some 8), none, .load false 1 (.tmp 7)⟩, ⟨(some 3), none, .eff .set [.tmp 8]⟩])
 (.seq (.ops [⟨(some 9), none, .mov (.tmp 0)⟩, ⟨(some 10), none, .call 87 [.tmp 9, .const (.int .i64 2)]⟩, ⟨(some 4), none, .eff .set [.tmp 10]⟩])
 (.seq (.seq (.ops [⟨(some 11), none, .mov (.tmp 4)⟩, ⟨(some 12), none, .bin .rem (.tmp 11) (.const (.int .i64 4096))⟩, ⟨(some 13), none, .bin .eql (.tmp 12) (.const (.int .i64 0))⟩])
 (.cond (.tmp 13) (.ops [⟨(some 14), none, .mov (.tmp 0)⟩, ⟨(some 15), none, .mov (.tmp 3)⟩, ⟨(some 16), none, .call 89 [.tmp 14, .const (.int .i64 2), .tmp 15]⟩]) .skip))
 (.seq (.ops [⟨(some 17), none, .mov (.tmp 4)⟩, ⟨(some 18), none, .bin .quo (.tmp 17) (.const (.int .i64 4096))⟩, ⟨(some 19), none, .bin .mul (.tmp 18) (.const (.int .i64 16))⟩, ⟨(some 20), none, .mov (.tmp 4)⟩, ⟨(some 21), none, .bin .rem (.tmp 20) (.const (.int .i64 4096))⟩, ⟨(some 22), none, .build [.int .i64 0, .int .i64 0] [(0, 1, .tmp 19), (1, 1, .tmp 21)]⟩, ⟨none, none, .store 2 (.tmp 2) (.tmp 22)⟩])
 .ret)))))⟩
theorem x160_ok : yfunc Tryd.prog Tryd.f160 = some x160 := by kernel_rfl

/-- switchyard/prio.ReadPort -/
def x163 : YF := ⟨28, [.cell 2 true 2],
 (.seq (.ops [⟨(some 2), none, .alloc 63 [.int .i64 0, .int .i64 0]⟩])
 (.seq (.ops [⟨(some 6), none, .mov (.tmp 0)⟩, ⟨(some 7), none, .call 94 [.tmp 6]⟩, ⟨(some 3), none, .eff .set [.tmp 7]⟩])
 (.seq (.ops [⟨(some 8), none, .mov (.tmp 0)⟩, ⟨(some 9), none, .call 91 [.tmp 8, .const (.int .i64 2)]⟩, ⟨(some 4), none, .eff .set [.tmp 9]⟩])
 (.seq (.ops [⟨(some 10), none, .mov (.tmp 4)⟩, ⟨(some 11), none, .bin .shr (.tmp 10) (.const (.int .u64 8))⟩, ⟨(some 12), none, .bin .andNot (.tmp 11) (.const (.int .i64 15))⟩, ⟨(some 13), none, .mov (.tmp 4)⟩, ⟨(some 14), none, .bin .and (.tmp 13) (.const (.int .i64 4095))⟩, ⟨(some 15), none, .build [.int .i64 0, .int .i64 0] [(0, 1, .tmp 12), (1, 1, .tmp 14)]⟩, ⟨(some 5), none, .alloc 63 [.int .i64 0, .int .i64 0]⟩, ⟨none, none, .store 2 (.tmp 5) (.tmp 15)⟩])
 (.seq (.seq (.ops [⟨(some 16), none, .mov (.tmp 0)⟩, ⟨(some 17), none, .call 93 [.tmp 16]⟩, ⟨(some 18), none, .more (.nilI false) [.tmp 17]⟩, ⟨(some 19), none, .mov (.tmp 18)⟩, ⟨(some 20), (some (19, true)), .fieldA 1 (.tmp 5)⟩, ⟨(some 21), (some (19, true)), .load false 1 (.tmp 20)⟩, ⟨(some 22), (some (19, true)), .bin .eql (.tmp 21) (.const (.int .i64 0))⟩, ⟨(some 23), none, .pick (.tmp 19) (.tmp 22) (.const (.bool false))⟩])
 (.cond (.tmp 23) (.ops [⟨(some 24), none, .mov (.tmp 0)⟩, ⟨(some 25), none, .mov (.tmp 3)⟩, ⟨(some 26), none, .call 92 [.tmp 24, .const (.int .i64 2), .tmp 25]⟩]) .skip))
 (.seq (.ops [⟨(some 27), none, .load true 2 (.tmp 5)⟩, ⟨none, none, .store 2 (.tmp 2) (.tmp 27)⟩])
 .ret))))))⟩
theorem x163_ok : yfunc Tryd.prog Tryd.f163 = some x163 := by kernel_rfl
end Go.Proofs.YtmeoalpmicndbaaDoor
