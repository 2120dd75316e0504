/- Functions of this seat with the type tables looked up; each checked by the kernel. Conditions: none. -/
import Derived.Test.YtdfpbmchkfmfdaaDoorProg
import Derived.Test.YtdfpbmchkfmfdaaDoorBaseC
namespace Go.Proofs.YtdfpbmchkfmfdaaDoor
open Go.Sx
set_option maxRecDepth 100000
/-- switchyard/switchyardref.Stack -/
def x172 : YF := ⟨36, [.tmp 2],
 (.seq (.ops [⟨(some 2), none, .eff .set [.const (.bool false)]⟩])
 (.seq (.seq (.ops [⟨(some 5), none, .mov (.tmp 0)⟩, ⟨(some 6), none, .len false (.tmp 5)⟩, ⟨(some 7), none, .mov (.const (.int .i64 0))⟩])
 (.block 0 (.loop [false, false, true, false, true, false, false, true, true, true, true, true, true, true, true] (.seq (.ops [⟨(some 8), none, .bin .lss (.tmp 7) (.tmp 6)⟩])
 (.seq (.cond (.tmp 8) .skip (.exit 0))
 (.seq (.block 1 (.seq (.ops [⟨(some 9), none, .indexS 4 (.tmp 5) (.tmp 7)⟩, ⟨(some 10), none, .load true 4 (.tmp 9)⟩, ⟨(some 4), none, .alloc 107 [.bool false, .int .i64 0, .bool false, .int .i64 0]⟩, ⟨none, none, .store 4 (.tmp 4) (.tmp 10)⟩])
 (.seq (.ops [⟨(some 11), none, .load true 4 (.tmp 4)⟩, ⟨(some 12), none, .call 130 [.tmp 11]⟩, ⟨(some 13), none, .un .not (.tmp 12)⟩])
 (.cond (.tmp 13) (.seq (.ops [⟨(some 2), none, .eff .set [.const (.bool false)]⟩])
 .ret) .skip))))
 (.ops [⟨(some 14), none, .bin .add (.tmp 7) (.const (.int .i64 1))⟩, ⟨(some 7), none, .mov (.tmp 14)⟩])))))))
 (.seq (.ops [⟨(some 15), none, .mov (.tmp 0)⟩, ⟨(some 16), none, .len false (.tmp 15)⟩, ⟨(some 17), none, .bin .lss (.tmp 16) (.const (.int .i64 2))⟩, ⟨(some 18), none, .mov (.tmp 17)⟩, ⟨(some 19), (some (18, false)), .mov (.tmp 0)⟩, ⟨(some 20), (some (18, false)), .len false (.tmp 19)⟩, ⟨(some 21), (some (18, false)), .bin .eql (.tmp 20) (.const (.int .i64 2))⟩, ⟨(some 22), (some (18, false)), .mov (.tmp 21)⟩, ⟨(some 23), (some (22, true)), .mov (.tmp 0)⟩, ⟨(some 24), (some (22, true)), .indexS 4 (.tmp 23) (.const (.int .i64 0))⟩, ⟨(some 25), (some (22, true)), .fieldA 0 (.tmp 24)⟩, ⟨(some 26), (some (22, true)), .load false 1 (.tmp 25)⟩, ⟨(some 27), (some (18, false)), .pick (.tmp 22) (.tmp 26) (.const (.bool false))⟩, ⟨(some 28), (some (18, false)), .mov (.tmp 27)⟩, ⟨(some 29), (some (28, true)), .mov (.tmp 0)⟩, ⟨(some 30), (some (28, true)), .indexS 4 (.tmp 29) (.const (.int .i64 1))⟩, ⟨(some 31), (some (28, true)), .fieldA 0 (.tmp 30)⟩, ⟨(some 32), (some (28, true)), .load false 1 (.tmp 31)⟩, ⟨(some 33), (some (28, true)), .un .not (.tmp 32)⟩, ⟨(some 34), (some (18, false)), .pick (.tmp 28) (.tmp 33) (.const (.bool false))⟩, ⟨(some 35), none, .pick (.tmp 18) (.const (.bool true)) (.tmp 34)⟩, ⟨(some 2), none, .eff .set [.tmp 35]⟩])
 .ret)))⟩
theorem x172_ok : yfunc Tryd.prog Tryd.f172 = some x172 := by kernel_rfl

/-- switchyard/tag.Stack -/
def x174 : YF := ⟨31, [.tmp 2],
 (.seq (.ops [⟨(some 2), none, .eff .set [.const (.bool false)]⟩])
 (.seq (.seq (.ops [⟨(some 5), none, .mov (.tmp 0)⟩, ⟨(some 6), none, .len false (.tmp 5)⟩, ⟨(some 7), none, .mov (.const (.int .i64 0))⟩])
 (.block 0 (.loop [false, false, true, true, true, false, false, true, true, true, true, true, true, true, true, true, true, true, true, true, true, true, true, true, true, true, true, true] (.seq (.ops [⟨(some 8), none, .bin .lss (.tmp 7) (.tmp 6)⟩])
 (.seq (.cond (.tmp 8) .skip (.exit 0))
 (.seq (.block 1 (.seq (.ops [⟨(some 9), none, .mov (.tmp 7)⟩, ⟨(some 10), none, .indexS 4 (.tmp 5) (.tmp 7)⟩, ⟨(some 11), none, .load true 4 (.tmp 10)⟩, ⟨(some 4), none, .alloc 107 [.bool false, .int .i64 0, .bool false, .int .i64 0]⟩, ⟨(some 3), none, .eff .set [.tmp 9]⟩, ⟨none, none, .store 4 (.tmp 4) (.tmp 11)⟩])
 (.seq (.ops [⟨(some 12), none, .load true 4 (.tmp 4)⟩, ⟨(some 13), none, .call 131 [.tmp 12]⟩, ⟨(some 14), none, .un .not (.tmp 13)⟩, ⟨(some 15), none, .mov (.tmp 14)⟩, ⟨(some 16), (some (15, false)), .mov (.tmp 0)⟩, ⟨(some 17), (some (15, false)), .len false (.tmp 16)⟩, ⟨(some 18), (some (15, false)), .bin .eql (.tmp 17) (.const (.int .i64 2))⟩, ⟨(some 19), (some (15, false)), .mov (.tmp 18)⟩, ⟨(some 20), (some (19, true)), .fieldA 0 (.tmp 4)⟩, ⟨(some 21), (some (19, true)), .load false 1 (.tmp 20)⟩, ⟨(some 22), (some (19, true)), .mov (.tmp 3)⟩, ⟨(some 23), (some (19, true)), .bin .eql (.tmp 22) (.const (.int .i64 0))⟩, ⟨(some 24), (some (19, true)), .eqB true (.tmp 21) (.tmp 23)⟩, ⟨(some 25), (some (15, false)), .pick (.tmp 19) (.tmp 24) (.const (.bool false))⟩, ⟨(some 26), none, .pick (.tmp 15) (.const (.bool true)) (.tmp 25)⟩])
 (.cond (.tmp 26) (.seq (.ops [⟨(some 2), none, .eff .set [.const (.bool false)]⟩])
 .ret) .skip))))
 (.ops [⟨(some 27), none, .bin .add (.tmp 7) (.const (.int .i64 1))⟩, ⟨(some 7), none, .mov (.tmp 27)⟩])))))))
 (.seq (.ops [⟨(some 28), none, .mov (.tmp 0)⟩, ⟨(some 29), none, .len false (.tmp 28)⟩, ⟨(some 30), none, .bin .leq (.tmp 29) (.const (.int .i64 2))⟩, ⟨(some 2), none, .eff .set [.tmp 30]⟩])
 .ret)))⟩
theorem x174_ok : yfunc Tryd.prog Tryd.f174 = some x174 := by kernel_rfl
end Go.Proofs.YtdfpbmchkfmfdaaDoor
