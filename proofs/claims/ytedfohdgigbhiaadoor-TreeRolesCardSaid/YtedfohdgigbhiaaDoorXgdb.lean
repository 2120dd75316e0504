/- Functions of this seat with the type tables looked up; each checked by the kernel. Conditions: none. -/
import Derived.Test.YtedfohdgigbhiaaDoorProg
import Derived.Test.YtedfohdgigbhiaaDoorBaseC
namespace Go.Proofs.YtedfohdgigbhiaaDoor
open Go.Sx
set_option maxRecDepth 100000
/-- (switchyard/switchyardref.Fault).Is -/
def x14 : YF := ⟨6, [.tmp 2],
 (.seq (.ops [⟨(some 1), none, .box 31 (.tmp 0)⟩, ⟨(some 2), none, .eff .set [.const (.bool false)]⟩])
 (.seq (.ops [⟨(some 3), none, .fieldA 0 (.tmp 1)⟩, ⟨(some 4), none, .load false 1 (.tmp 3)⟩, ⟨(some 5), none, .bin .eql (.tmp 4) (.const (.int .i64 0))⟩, ⟨(some 2), none, .eff .set [.tmp 5]⟩])
 .ret))⟩
theorem x14_ok : yfunc Tryd.prog Tryd.f14 = some x14 := by kernel_rfl

/-- switchyard/switchyardref.Bare -/
def x57 : YF := ⟨5, [.cell 2 true 2],
 (.seq (.ops [⟨(some 2), none, .alloc 31 [.int .i64 0, .int .i64 0]⟩])
 (.seq (.ops [⟨(some 3), none, .mov (.tmp 0)⟩, ⟨(some 4), none, .build [.int .i64 0, .int .i64 0] [(0, 1, .tmp 3), (1, 1, .const (.int .i64 (-1)))]⟩, ⟨none, none, .store 2 (.tmp 2) (.tmp 4)⟩])
 .ret))⟩
theorem x57_ok : yfunc Tryd.prog Tryd.f57 = some x57 := by kernel_rfl

/-- switchyard/switchyardref.Good -/
def x61 : YF := ⟨2, [.cell 0 true 2],
 (.seq (.ops [⟨(some 0), none, .alloc 31 [.int .i64 0, .int .i64 0]⟩])
 (.seq (.ops [⟨(some 1), none, .build [.int .i64 0, .int .i64 0] [(0, 1, .const (.int .i64 0)), (1, 1, .const (.int .i64 (-1)))]⟩, ⟨none, none, .store 2 (.tmp 0) (.tmp 1)⟩])
 .ret))⟩
theorem x61_ok : yfunc Tryd.prog Tryd.f61 = some x61 := by kernel_rfl
end Go.Proofs.YtedfohdgigbhiaaDoor
