/- Functions of this seat with the type tables looked up; each checked by the kernel. Conditions: none. -/
import Derived.Test.YtidbblgahmjakaaDoorProg
import Derived.Test.YtidbblgahmjakaaDoorBaseC
namespace Go.Proofs.YtidbblgahmjakaaDoor
open Go.Sx
set_option maxRecDepth 100000
/-- switchyard/bpdu.head -/
def x102 : YF := ⟨6, [.tmp 2],
 (.seq (.ops [⟨(some 2), none, .eff .set [.const (.string ⟨#[]⟩)]⟩])
 (.seq (.ops [⟨(some 3), none, .build [.string ⟨#[]⟩, .string ⟨#[]⟩, .string ⟨#[]⟩, .string ⟨#[]⟩] [(1, 1, .const (.string ⟨#[0, 0, 0, 0]⟩)), (2, 1, .const (.string ⟨#[0, 0, 0, 128]⟩)), (3, 1, .const (.string ⟨#[0, 0, 2, 2]⟩))]⟩, ⟨(some 4), none, .mov (.tmp 0)⟩, ⟨(some 5), none, .indexV 4 false 1 (.tmp 3) (.tmp 4)⟩, ⟨(some 2), none, .eff .set [.tmp 5]⟩])
 .ret))⟩
theorem x102_ok : yfunc Tryd.prog Tryd.f102 = some x102 := by kernel_rfl
end Go.Proofs.YtidbblgahmjakaaDoor
