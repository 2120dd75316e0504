/- Functions of this seat with the type tables looked up; each checked by the kernel. Conditions: none. -/
import Derived.Test.YtdbkceojpeboeaaDoorProg
import Derived.Test.YtdbkceojpeboeaaDoorBaseC
namespace Go.Proofs.YtdbkceojpeboeaaDoor
open Go.Sx
set_option maxRecDepth 100000
/-- (*strings.Builder).WriteString -/
def x20 : YF := ⟨19, [.tmp 4, .tmp 5],
 (.seq (.ops [⟨(some 4), none, .eff .set [.const (.int .i64 0)]⟩, ⟨(some 5), none, .eff .set [.const (.nilIface)]⟩])
 (.seq (.ops [⟨(some 6), none, .mov (.tmp 0)⟩, ⟨(some 7), none, .call 34 [.tmp 6]⟩])
 (.seq (.ops [⟨(some 8), none, .mov (.tmp 0)⟩, ⟨(some 9), none, .mov (.tmp 0)⟩, ⟨(some 10), none, .more .nilC [.tmp 9]⟩, ⟨(some 11), none, .fieldA 1 (.tmp 10)⟩, ⟨(some 12), none, .load false 1 (.tmp 11)⟩, ⟨(some 13), none, .mov (.tmp 1)⟩, ⟨(some 14), none, .prim (.call ⟨.builtin .append, #[.tmp 12, .tmp 13], #[38, 9]⟩) [.tmp 12, .tmp 13]⟩, ⟨(some 15), none, .more .nilC [.tmp 8]⟩, ⟨(some 16), none, .fieldA 1 (.tmp 15)⟩, ⟨none, none, .store 1 (.tmp 16) (.tmp 14)⟩])
 (.seq (.ops [⟨(some 17), none, .mov (.tmp 1)⟩, ⟨(some 18), none, .len true (.tmp 17)⟩, ⟨(some 4), none, .eff .set [.tmp 18]⟩, ⟨(some 5), none, .eff .set [.const (.nilIface)]⟩])
 .ret))))⟩
theorem x20_ok : yfunc Tryd.prog Tryd.f20 = some x20 := by kernel_rfl

/-- (*strings.Builder).String -/
def x22 : YF := ⟨14, [.tmp 2],
 (.seq (.ops [⟨(some 2), none, .eff .set [.const (.string ⟨#[]⟩)]⟩])
 (.seq (.draw [3, 4, 5, 6, 8, 9, 10, 11, 12, 7, 13, 2] [⟨0, [], ⟨(some 3), none, .mov (.tmp 0)⟩⟩, ⟨1, [0], ⟨(some 4), none, .more .nilC [.tmp 3]⟩⟩, ⟨2, [1, 0], ⟨(some 5), none, .fieldA 1 (.tmp 4)⟩⟩, ⟨3, [2, 1, 0], ⟨(some 6), none, .load false 1 (.tmp 5)⟩⟩, ⟨5, [], ⟨(some 8), none, .mov (.tmp 0)⟩⟩, ⟨6, [5], ⟨(some 9), none, .more .nilC [.tmp 8]⟩⟩, ⟨7, [6, 5], ⟨(some 10), none, .fieldA 1 (.tmp 9)⟩⟩, ⟨8, [7, 6, 5], ⟨(some 11), none, .load false 1 (.tmp 10)⟩⟩, ⟨9, [8, 7, 6, 5], ⟨(some 12), none, .len false (.tmp 11)⟩⟩, ⟨4, [3, 2, 1, 0], ⟨(some 7), none, .prim (.call ⟨.builtin .unsafeSliceData, #[.tmp 6], #[38]⟩) [.tmp 6]⟩⟩, ⟨10, [4, 3, 2, 1, 0, 9, 8, 7, 6, 5], ⟨(some 13), none, .prim (.call ⟨.builtin .unsafeString, #[.tmp 7, .tmp 12], #[72, 3]⟩) [.tmp 7, .tmp 12]⟩⟩, ⟨11, [10, 4, 3, 2, 1, 0, 9, 8, 7, 6, 5], ⟨(some 2), none, .eff .set [.tmp 13]⟩⟩])
 .ret))⟩
theorem x22_ok : yfunc Tryd.prog Tryd.f22 = some x22 := by kernel_rfl

/-- (*strings.Builder).copyCheck -/
def x34 : YF := ⟨20, [],
 (.seq (.ops [⟨(some 2), none, .mov (.tmp 0)⟩, ⟨(some 3), none, .more .nilC [.tmp 2]⟩, ⟨(some 4), none, .fieldA 0 (.tmp 3)⟩, ⟨(some 5), none, .load false 1 (.tmp 4)⟩, ⟨(some 6), none, .more (.nilP false) [.tmp 5]⟩])
 (.cond (.tmp 6) (.ops [⟨(some 7), none, .mov (.tmp 0)⟩, ⟨(some 8), none, .mov (.tmp 0)⟩, ⟨(some 9), none, .prim (.convert 47 87 (.tmp 8)) [.tmp 8]⟩, ⟨(some 10), none, .prim (.call ⟨.value (.func 44), #[.tmp 9], #[87]⟩) [.tmp 9]⟩, ⟨(some 11), none, .prim (.convert 87 47 (.tmp 10)) [.tmp 10]⟩, ⟨(some 12), none, .more .nilC [.tmp 7]⟩, ⟨(some 13), none, .fieldA 0 (.tmp 12)⟩, ⟨none, none, .store 1 (.tmp 13) (.tmp 11)⟩]) (.seq (.ops [⟨(some 14), none, .mov (.tmp 0)⟩, ⟨(some 15), none, .more .nilC [.tmp 14]⟩, ⟨(some 16), none, .fieldA 0 (.tmp 15)⟩, ⟨(some 17), none, .load false 1 (.tmp 16)⟩, ⟨(some 18), none, .mov (.tmp 0)⟩, ⟨(some 19), none, .prim (.binOp .neq 47 (.tmp 17) (.tmp 18) 47) [.tmp 17, .tmp 18]⟩])
 (.cond (.tmp 19) (.ops [⟨none, none, .more .bad []⟩]) .skip))))⟩
theorem x34_ok : yfunc Tryd.prog Tryd.f34 = some x34 := by kernel_rfl
end Go.Proofs.YtdbkceojpeboeaaDoor
