/- Functions of this seat with the type tables looked up; each checked by the kernel. Conditions: none. -/
import Derived.Test.YtdbkceojpeboeaaDoorProg
import Derived.Test.YtdbkceojpeboeaaDoorBaseC
namespace Go.Proofs.YtdbkceojpeboeaaDoor
open Go.Sx
set_option maxRecDepth 100000
/-- switchyard/wire.Must -/
def x21 : YF := ⟨15, [.tmp 4],
 (.seq (.ops [⟨(some 4), none, .eff .set [.const (.string ⟨#[]⟩)]⟩])
 (.seq (.ops [⟨(some 8), none, .mov (.tmp 0)⟩, ⟨(some 9), none, .conv .u64 (.tmp 8)⟩, ⟨(some 10), none, .mov (.tmp 1)⟩, ⟨(some 11), none, .call 35 [.tmp 9, .tmp 10]⟩, ⟨(some 7), none, .mov (.tmp 11)⟩, ⟨(some 12), none, .ext (.tmp 7) 0⟩, ⟨(some 13), none, .ext (.tmp 7) 1⟩, ⟨(some 5), none, .eff .set [.tmp 12]⟩, ⟨(some 6), none, .eff .set [.tmp 13]⟩])
 (.seq (.ops [⟨(some 14), none, .mov (.tmp 5)⟩, ⟨(some 4), none, .eff .set [.tmp 14]⟩])
 .ret)))⟩
theorem x21_ok : yfunc Tryd.prog Tryd.f21 = some x21 := by kernel_rfl

/-- switchyard/switchyardref.be -/
def x25 : YF := ⟨9, [.tmp 4],
 (.seq (.ops [⟨(some 4), none, .eff .set [.const (.string ⟨#[]⟩)]⟩])
 (.seq (.ops [⟨(some 5), none, .mov (.tmp 0)⟩, ⟨(some 6), none, .conv .u64 (.tmp 5)⟩, ⟨(some 7), none, .mov (.tmp 1)⟩, ⟨(some 8), none, .call 37 [.tmp 6, .tmp 7]⟩, ⟨(some 4), none, .eff .set [.tmp 8]⟩])
 .ret))⟩
theorem x25_ok : yfunc Tryd.prog Tryd.f25 = some x25 := by kernel_rfl

/-- switchyard/wire.Put -/
def x35 : YF := ⟨46, [.tmp 4, .tmp 5],
 (.seq (.ops [⟨(some 4), none, .eff .set [.const (.string ⟨#[]⟩)]⟩, ⟨(some 5), none, .eff .set [.const (.nilIface)]⟩])
 (.seq (.seq (.ops [⟨(some 8), none, .mov (.tmp 1)⟩, ⟨(some 9), none, .bin .lss (.tmp 8) (.const (.int .i64 1))⟩, ⟨(some 10), none, .mov (.tmp 9)⟩, ⟨(some 11), (some (10, false)), .mov (.tmp 1)⟩, ⟨(some 12), (some (10, false)), .bin .gtr (.tmp 11) (.const (.int .i64 8))⟩, ⟨(some 13), none, .pick (.tmp 10) (.const (.bool true)) (.tmp 12)⟩])
 (.cond (.tmp 13) (.seq (.ops [⟨(some 14), none, .mkI 32 (.const (.int .i64 2))⟩, ⟨(some 4), none, .eff .set [.const (.string ⟨#[]⟩)]⟩, ⟨(some 5), none, .eff .set [.tmp 14]⟩])
 .ret) .skip))
 (.seq (.seq (.ops [⟨(some 15), none, .mov (.tmp 1)⟩, ⟨(some 16), none, .bin .lss (.tmp 15) (.const (.int .i64 8))⟩, ⟨(some 17), none, .mov (.tmp 16)⟩, ⟨(some 18), (some (17, true)), .mov (.tmp 0)⟩, ⟨(some 19), (some (17, true)), .mov (.tmp 1)⟩, ⟨(some 20), (some (17, true)), .bin .mul (.const (.int .i64 8)) (.tmp 19)⟩, ⟨(some 21), (some (17, true)), .bin .shr (.tmp 18) (.tmp 20)⟩, ⟨(some 22), (some (17, true)), .bin .neq (.tmp 21) (.const (.int .u64 0))⟩, ⟨(some 23), none, .pick (.tmp 17) (.tmp 22) (.const (.bool false))⟩])
 (.cond (.tmp 23) (.seq (.ops [⟨(some 24), none, .mkI 32 (.const (.int .i64 12))⟩, ⟨(some 4), none, .eff .set [.const (.string ⟨#[]⟩)]⟩, ⟨(some 5), none, .eff .set [.tmp 24]⟩])
 .ret) .skip))
 (.seq (.ops [⟨(some 25), none, .mov (.tmp 1)⟩, ⟨(some 26), none, .prim (.makeSlice 38 (.tmp 25) (.tmp 25)) [.tmp 25, .tmp 25]⟩, ⟨(some 6), none, .eff .set [.tmp 26]⟩])
 (.seq (.seq (.ops [⟨(some 27), none, .mov (.tmp 6)⟩, ⟨(some 28), none, .len false (.tmp 27)⟩, ⟨(some 29), none, .mov (.const (.int .i64 0))⟩])
 (.block 0 (.loop [false, false, false, false, false, false, false, true, false, false, false, false, false, false, false, false, false, false, false, false, false, false, false, false, false, false, false, false, false, true, true, true, true, true, true, true, true, true, true, true, true, true, true, true] (.seq (.ops [⟨(some 30), none, .bin .lss (.tmp 29) (.tmp 28)⟩])
 (.seq (.cond (.tmp 30) .skip (.exit 0))
 (.seq (.block 1 (.seq (.ops [⟨(some 31), none, .mov (.tmp 29)⟩, ⟨(some 7), none, .eff .set [.tmp 31]⟩])
 (.ops [⟨(some 32), none, .mov (.tmp 6)⟩, ⟨(some 33), none, .mov (.tmp 1)⟩, ⟨(some 34), none, .bin .sub (.tmp 33) (.const (.int .i64 1))⟩, ⟨(some 35), none, .mov (.tmp 7)⟩, ⟨(some 36), none, .bin .sub (.tmp 34) (.tmp 35)⟩, ⟨(some 37), none, .mov (.tmp 0)⟩, ⟨(some 38), none, .mov (.tmp 7)⟩, ⟨(some 39), none, .bin .mul (.const (.int .i64 8)) (.tmp 38)⟩, ⟨(some 40), none, .bin .shr (.tmp 37) (.tmp 39)⟩, ⟨(some 41), none, .conv .u8 (.tmp 40)⟩, ⟨(some 42), none, .indexS 1 (.tmp 32) (.tmp 36)⟩, ⟨none, none, .store 1 (.tmp 42) (.tmp 41)⟩])))
 (.ops [⟨(some 43), none, .bin .add (.tmp 29) (.const (.int .i64 1))⟩, ⟨(some 29), none, .mov (.tmp 43)⟩])))))))
 (.seq (.ops [⟨(some 44), none, .mov (.tmp 6)⟩, ⟨(some 45), none, .more .b2s [.tmp 44]⟩, ⟨(some 4), none, .eff .set [.tmp 45]⟩, ⟨(some 5), none, .eff .set [.const (.nilIface)]⟩])
 .ret))))))⟩
theorem x35_ok : yfunc Tryd.prog Tryd.f35 = some x35 := by kernel_rfl

/-- switchyard/switchyardref.bytesOf -/
def x37 : YF := ⟨20, [.tmp 4],
 (.seq (.ops [⟨(some 4), none, .eff .set [.const (.string ⟨#[]⟩)]⟩])
 (.seq (.ops [⟨(some 5), none, .eff .set [.const (.string ⟨#[]⟩)]⟩])
 (.seq (.seq (.ops [⟨(some 6), none, .mov (.tmp 1)⟩, ⟨(some 7), none, .mov (.const (.int .i64 0))⟩])
 (.block 0 (.loop [true, false, false, false, false, true, false, true, true, true, true, true, true, true, true, true, true, true, true] (.seq (.ops [⟨(some 8), none, .bin .lss (.tmp 7) (.tmp 6)⟩])
 (.seq (.cond (.tmp 8) .skip (.exit 0))
 (.seq (.block 1 (.seq (.ops [⟨(some 9), none, .mov (.tmp 0)⟩, ⟨(some 10), none, .bin .rem (.tmp 9) (.const (.int .u64 256))⟩, ⟨(some 11), none, .conv .u8 (.tmp 10)⟩, ⟨(some 12), none, .bslice 5 1 [.int .u8 0] [(0, 1, .tmp 11)]⟩, ⟨(some 13), none, .more .b2s [.tmp 12]⟩, ⟨(some 14), none, .mov (.tmp 5)⟩, ⟨(some 15), none, .bin .add (.tmp 13) (.tmp 14)⟩, ⟨(some 5), none, .eff .set [.tmp 15]⟩])
 (.ops [⟨(some 16), none, .mov (.tmp 0)⟩, ⟨(some 17), none, .bin .quo (.tmp 16) (.const (.int .u64 256))⟩, ⟨(some 0), none, .eff .set [.tmp 17]⟩])))
 (.ops [⟨(some 18), none, .bin .add (.tmp 7) (.const (.int .i64 1))⟩, ⟨(some 7), none, .mov (.tmp 18)⟩])))))))
 (.seq (.ops [⟨(some 19), none, .mov (.tmp 5)⟩, ⟨(some 4), none, .eff .set [.tmp 19]⟩])
 .ret))))⟩
theorem x37_ok : yfunc Tryd.prog Tryd.f37 = some x37 := by kernel_rfl
end Go.Proofs.YtdbkceojpeboeaaDoor
