/- Functions of this seat with the type tables looked up; each checked by the kernel. Conditions: none. -/
import Derived.Test.YtmeoalpmicndbaaDoorProg
import Derived.Test.YtmeoalpmicndbaaDoorBaseC
namespace Go.Proofs.YtmeoalpmicndbaaDoor
open Go.Sx
set_option maxRecDepth 100000
/-- (*switchyard/switchyardref.cursor).body -/
def x113 : YF := ⟨36, [.cell 4 true 31],
 (.seq (.ops [⟨(some 4), none, .alloc 65 [.int .i64 0, .bool false, .bool false, .int .i64 0, .bool false, .bool false, .bool false, .bool false, .int .i64 0, .int .i64 0, .int .u8 0, .int .u8 0, .int .u8 0, .int .u8 0, .int .u8 0, .int .u8 0, .int .i64 0, .int .i64 0, .int .i64 0, .int .u8 0, .int .u8 0, .int .u8 0, .int .u8 0, .int .u8 0, .int .u8 0, .int .i64 0, .int .i64 0, .int .i64 0, .int .i64 0, .int .i64 0, .int .i64 0]⟩])
 (.seq (.ops [⟨(some 5), none, .mov (.tmp 1)⟩, ⟨(some 6), none, .fieldA 0 (.tmp 4)⟩, ⟨none, none, .store 1 (.tmp 6) (.tmp 5)⟩])
 (.seq (.ops [⟨(some 7), none, .mov (.tmp 0)⟩, ⟨(some 8), none, .call 87 [.tmp 7, .const (.int .i64 1)]⟩, ⟨(some 9), none, .call 116 [.tmp 8]⟩, ⟨(some 10), none, .fieldA 1 (.tmp 4)⟩, ⟨none, none, .store 7 (.tmp 10) (.tmp 9)⟩])
 (.seq (.ops [⟨(some 11), none, .mov (.tmp 0)⟩, ⟨(some 12), none, .call 115 [.tmp 11]⟩, ⟨(some 13), none, .fieldA 8 (.tmp 4)⟩, ⟨none, none, .store 8 (.tmp 13) (.tmp 12)⟩])
 (.seq (.ops [⟨(some 14), none, .mov (.tmp 0)⟩, ⟨(some 15), none, .call 87 [.tmp 14, .const (.int .i64 4)]⟩, ⟨(some 16), none, .fieldA 16 (.tmp 4)⟩, ⟨none, none, .store 1 (.tmp 16) (.tmp 15)⟩])
 (.seq (.ops [⟨(some 17), none, .mov (.tmp 0)⟩, ⟨(some 18), none, .call 115 [.tmp 17]⟩, ⟨(some 19), none, .fieldA 17 (.tmp 4)⟩, ⟨none, none, .store 8 (.tmp 19) (.tmp 18)⟩])
 (.seq (.ops [⟨(some 20), none, .mov (.tmp 0)⟩, ⟨(some 21), none, .call 160 [.tmp 20]⟩, ⟨(some 22), none, .fieldA 25 (.tmp 4)⟩, ⟨none, none, .store 2 (.tmp 22) (.tmp 21)⟩])
 (.seq (.ops [⟨(some 23), none, .mov (.tmp 0)⟩, ⟨(some 24), none, .call 87 [.tmp 23, .const (.int .i64 2)]⟩, ⟨(some 25), none, .mov (.tmp 0)⟩, ⟨(some 26), none, .call 87 [.tmp 25, .const (.int .i64 2)]⟩, ⟨(some 27), none, .mov (.tmp 0)⟩, ⟨(some 28), none, .call 87 [.tmp 27, .const (.int .i64 2)]⟩, ⟨(some 29), none, .mov (.tmp 0)⟩, ⟨(some 30), none, .call 87 [.tmp 29, .const (.int .i64 2)]⟩, ⟨(some 31), none, .fieldA 27 (.tmp 4)⟩, ⟨none, none, .store 1 (.tmp 31) (.tmp 24)⟩, ⟨(some 32), none, .fieldA 28 (.tmp 4)⟩, ⟨none, none, .store 1 (.tmp 32) (.tmp 26)⟩, ⟨(some 33), none, .fieldA 29 (.tmp 4)⟩, ⟨none, none, .store 1 (.tmp 33) (.tmp 28)⟩, ⟨(some 34), none, .fieldA 30 (.tmp 4)⟩, ⟨none, none, .store 1 (.tmp 34) (.tmp 30)⟩])
 (.seq (.ops [⟨(some 35), none, .load true 31 (.tmp 4)⟩, ⟨none, none, .store 31 (.tmp 4) (.tmp 35)⟩])
 .ret)))))))))⟩
theorem x113_ok : yfunc Tryd.prog Tryd.f113 = some x113 := by kernel_rfl

/-- switchyard/bpdu.ReadBody -/
def x118 : YF := ⟨37, [.cell 4 true 31],
 (.seq (.ops [⟨(some 4), none, .alloc 65 [.int .i64 0, .bool false, .bool false, .int .i64 0, .bool false, .bool false, .bool false, .bool false, .int .i64 0, .int .i64 0, .int .u8 0, .int .u8 0, .int .u8 0, .int .u8 0, .int .u8 0, .int .u8 0, .int .i64 0, .int .i64 0, .int .i64 0, .int .u8 0, .int .u8 0, .int .u8 0, .int .u8 0, .int .u8 0, .int .u8 0, .int .i64 0, .int .i64 0, .int .i64 0, .int .i64 0, .int .i64 0, .int .i64 0]⟩])
 (.seq (.ops [⟨(some 6), none, .mov (.tmp 1)⟩, ⟨(some 7), none, .build [.int .i64 0, .bool false, .bool false, .int .i64 0, .bool false, .bool false, .bool false, .bool false, .int .i64 0, .int .i64 0, .int .u8 0, .int .u8 0, .int .u8 0, .int .u8 0, .int .u8 0, .int .u8 0, .int .i64 0, .int .i64 0, .int .i64 0, .int .u8 0, .int .u8 0, .int .u8 0, .int .u8 0, .int .u8 0, .int .u8 0, .int .i64 0, .int .i64 0, .int .i64 0, .int .i64 0, .int .i64 0, .int .i64 0] [(0, 1, .tmp 6)]⟩, ⟨(some 5), none, .alloc 65 [.int .i64 0, .bool false, .bool false, .int .i64 0, .bool false, .bool false, .bool false, .bool false, .int .i64 0, .int .i64 0, .int .u8 0, .int .u8 0, .int .u8 0, .int .u8 0, .int .u8 0, .int .u8 0, .int .i64 0, .int .i64 0, .int .i64 0, .int .u8 0, .int .u8 0, .int .u8 0, .int .u8 0, .int .u8 0, .int .u8 0, .int .i64 0, .int .i64 0, .int .i64 0, .int .i64 0, .int .i64 0, .int .i64 0]⟩, ⟨none, none, .store 31 (.tmp 5) (.tmp 7)⟩])
 (.seq (.ops [⟨(some 8), none, .mov (.tmp 0)⟩, ⟨(some 9), none, .call 91 [.tmp 8, .const (.int .i64 1)]⟩, ⟨(some 10), none, .call 121 [.tmp 9]⟩, ⟨(some 11), none, .fieldA 1 (.tmp 5)⟩, ⟨none, none, .store 7 (.tmp 11) (.tmp 10)⟩])
 (.seq (.ops [⟨(some 12), none, .mov (.tmp 0)⟩, ⟨(some 13), none, .call 120 [.tmp 12]⟩, ⟨(some 14), none, .fieldA 8 (.tmp 5)⟩, ⟨none, none, .store 8 (.tmp 14) (.tmp 13)⟩])
 (.seq (.ops [⟨(some 15), none, .mov (.tmp 0)⟩, ⟨(some 16), none, .call 91 [.tmp 15, .const (.int .i64 4)]⟩, ⟨(some 17), none, .fieldA 16 (.tmp 5)⟩, ⟨none, none, .store 1 (.tmp 17) (.tmp 16)⟩])
 (.seq (.ops [⟨(some 18), none, .mov (.tmp 0)⟩, ⟨(some 19), none, .call 120 [.tmp 18]⟩, ⟨(some 20), none, .fieldA 17 (.tmp 5)⟩, ⟨none, none, .store 8 (.tmp 20) (.tmp 19)⟩])
 (.seq (.ops [⟨(some 21), none, .mov (.tmp 0)⟩, ⟨(some 22), none, .call 163 [.tmp 21]⟩, ⟨(some 23), none, .fieldA 25 (.tmp 5)⟩, ⟨none, none, .store 2 (.tmp 23) (.tmp 22)⟩])
 (.seq (.ops [⟨(some 24), none, .mov (.tmp 0)⟩, ⟨(some 25), none, .call 91 [.tmp 24, .const (.int .i64 2)]⟩, ⟨(some 26), none, .mov (.tmp 0)⟩, ⟨(some 27), none, .call 91 [.tmp 26, .const (.int .i64 2)]⟩, ⟨(some 28), none, .mov (.tmp 0)⟩, ⟨(some 29), none, .call 91 [.tmp 28, .const (.int .i64 2)]⟩, ⟨(some 30), none, .mov (.tmp 0)⟩, ⟨(some 31), none, .call 91 [.tmp 30, .const (.int .i64 2)]⟩, ⟨(some 32), none, .fieldA 27 (.tmp 5)⟩, ⟨none, none, .store 1 (.tmp 32) (.tmp 25)⟩, ⟨(some 33), none, .fieldA 28 (.tmp 5)⟩, ⟨none, none, .store 1 (.tmp 33) (.tmp 27)⟩, ⟨(some 34), none, .fieldA 29 (.tmp 5)⟩, ⟨none, none, .store 1 (.tmp 34) (.tmp 29)⟩, ⟨(some 35), none, .fieldA 30 (.tmp 5)⟩, ⟨none, none, .store 1 (.tmp 35) (.tmp 31)⟩])
 (.seq (.ops [⟨(some 36), none, .load true 31 (.tmp 5)⟩, ⟨none, none, .store 31 (.tmp 4) (.tmp 36)⟩])
 .ret)))))))))⟩
theorem x118_ok : yfunc Tryd.prog Tryd.f118 = some x118 := by kernel_rfl
end Go.Proofs.YtmeoalpmicndbaaDoor
