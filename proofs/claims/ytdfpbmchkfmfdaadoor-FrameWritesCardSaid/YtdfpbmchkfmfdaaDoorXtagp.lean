/- Functions of this seat with the type tables looked up; each checked by the kernel. Conditions: none. -/
import Derived.Test.YtdfpbmchkfmfdaaDoorProg
import Derived.Test.YtdfpbmchkfmfdaaDoorBaseC
namespace Go.Proofs.YtdfpbmchkfmfdaaDoor
open Go.Sx
set_option maxRecDepth 100000
/-- switchyard/switchyardref.TagPack -/
def x107 : YF := ⟨19, [.tmp 2, .tmp 3],
 (.seq (.ops [⟨(some 1), none, .box 107 (.tmp 0)⟩, ⟨(some 2), none, .eff .set [.const (.int .i64 0)]⟩, ⟨(some 3), none, .eff .set [.const (.int .i64 0)]⟩])
 (.seq (.seq (.ops [⟨(some 5), none, .load true 4 (.tmp 1)⟩, ⟨(some 6), none, .call 130 [.tmp 5]⟩, ⟨(some 7), none, .un .not (.tmp 6)⟩])
 (.cond (.tmp 7) (.seq (.ops [⟨(some 2), none, .eff .set [.const (.int .i64 0)]⟩, ⟨(some 3), none, .eff .set [.const (.int .i64 1)]⟩])
 .ret) .skip))
 (.seq (.ops [⟨(some 8), none, .fieldA 1 (.tmp 1)⟩, ⟨(some 9), none, .load false 1 (.tmp 8)⟩, ⟨(some 10), none, .bin .mul (.tmp 9) (.const (.int .i64 8192))⟩, ⟨(some 11), none, .fieldA 3 (.tmp 1)⟩, ⟨(some 12), none, .load false 1 (.tmp 11)⟩, ⟨(some 13), none, .bin .add (.tmp 10) (.tmp 12)⟩, ⟨(some 4), none, .eff .set [.tmp 13]⟩])
 (.seq (.seq (.ops [⟨(some 14), none, .fieldA 2 (.tmp 1)⟩, ⟨(some 15), none, .load false 1 (.tmp 14)⟩])
 (.cond (.tmp 15) (.ops [⟨(some 16), none, .mov (.tmp 4)⟩, ⟨(some 17), none, .bin .add (.tmp 16) (.const (.int .i64 4096))⟩, ⟨(some 4), none, .eff .set [.tmp 17]⟩]) .skip))
 (.seq (.ops [⟨(some 18), none, .mov (.tmp 4)⟩, ⟨(some 2), none, .eff .set [.tmp 18]⟩, ⟨(some 3), none, .eff .set [.const (.int .i64 0)]⟩])
 .ret)))))⟩
theorem x107_ok : yfunc Tryd.prog Tryd.f107 = some x107 := by kernel_rfl

/-- switchyard/tag.Pack -/
def x110 : YF := ⟨20, [.tmp 2, .tmp 3],
 (.seq (.ops [⟨(some 1), none, .box 107 (.tmp 0)⟩, ⟨(some 2), none, .eff .set [.const (.int .i64 0)]⟩, ⟨(some 3), none, .eff .set [.const (.nilIface)]⟩])
 (.seq (.seq (.ops [⟨(some 5), none, .load true 4 (.tmp 1)⟩, ⟨(some 6), none, .call 131 [.tmp 5]⟩, ⟨(some 7), none, .un .not (.tmp 6)⟩])
 (.cond (.tmp 7) (.seq (.ops [⟨(some 8), none, .mkI 34 (.const (.int .i64 1))⟩, ⟨(some 2), none, .eff .set [.const (.int .i64 0)]⟩, ⟨(some 3), none, .eff .set [.tmp 8]⟩])
 .ret) .skip))
 (.seq (.ops [⟨(some 9), none, .fieldA 1 (.tmp 1)⟩, ⟨(some 10), none, .load false 1 (.tmp 9)⟩, ⟨(some 11), none, .bin .shl (.tmp 10) (.const (.int .u64 13))⟩, ⟨(some 12), none, .fieldA 3 (.tmp 1)⟩, ⟨(some 13), none, .load false 1 (.tmp 12)⟩, ⟨(some 14), none, .bin .or (.tmp 11) (.tmp 13)⟩, ⟨(some 4), none, .eff .set [.tmp 14]⟩])
 (.seq (.seq (.ops [⟨(some 15), none, .fieldA 2 (.tmp 1)⟩, ⟨(some 16), none, .load false 1 (.tmp 15)⟩])
 (.cond (.tmp 16) (.ops [⟨(some 17), none, .mov (.tmp 4)⟩, ⟨(some 18), none, .bin .or (.tmp 17) (.const (.int .i64 4096))⟩, ⟨(some 4), none, .eff .set [.tmp 18]⟩]) .skip))
 (.seq (.ops [⟨(some 19), none, .mov (.tmp 4)⟩, ⟨(some 2), none, .eff .set [.tmp 19]⟩, ⟨(some 3), none, .eff .set [.const (.nilIface)]⟩])
 .ret)))))⟩
theorem x110_ok : yfunc Tryd.prog Tryd.f110 = some x110 := by kernel_rfl
end Go.Proofs.YtdfpbmchkfmfdaaDoor
