/- Functions of this seat with the type tables looked up; each checked by the kernel. Conditions: none. -/
import Derived.Test.YtflnpoahceebbaaProg
import Derived.Test.YtflnpoahceebbaaSx16
namespace Go.Proofs.Ytflnpoahceebbaa
open Go.Sx
set_option maxRecDepth 100000
/-- switchyard/switchyardlaw.PauseLasts -/
def x4 : XF := ⟨17, [.tmp 4],
 (.seq (.ops [⟨(some 2), none, .box 26 (.tmp 0)⟩, ⟨(some 4), none, .mov (.const (.bool false))⟩])
 (.seq (.draw 13 [⟨(some 5), none, .load true 10 (.tmp 2)⟩, ⟨(some 6), none, .call 14 [.tmp 5]⟩, ⟨(some 7), none, .un .not (.tmp 6)⟩, ⟨(some 8), none, .mov (.tmp 7)⟩, ⟨(some 9), (some (8, false)), .load true 10 (.tmp 2)⟩, ⟨(some 10), (some (8, false)), .mov (.tmp 1)⟩, ⟨(some 11), (some (8, false)), .call 15 [.tmp 9, .tmp 10]⟩, ⟨(some 12), (some (8, false)), .load true 10 (.tmp 2)⟩, ⟨(some 13), (some (8, false)), .mov (.tmp 1)⟩, ⟨(some 14), (some (8, false)), .call 16 [.tmp 12, .tmp 13]⟩, ⟨(some 15), (some (8, false)), .bin .eql (.tmp 11) (.tmp 14)⟩, ⟨(some 16), none, .pick (.tmp 8) (.const (.bool true)) (.tmp 15)⟩, ⟨(some 4), none, .mov (.tmp 16)⟩])
 .ret))⟩
theorem x4_ok : xfunc Try.prog Try.f4 = some x4 := by kernel_rfl

/-- switchyard/switchyardref.PauseRight -/
def x14 : XF := ⟨40, [.tmp 2],
 (.seq (.ops [⟨(some 1), none, .box 26 (.tmp 0)⟩, ⟨(some 2), none, .mov (.const (.bool false))⟩])
 (.seq (.seq (.ops [⟨(some 5), none, .fieldA 2 (.tmp 1)⟩, ⟨(some 6), none, .load true 8 (.tmp 5)⟩, ⟨(some 7), none, .mov (.const (.int .i64 0))⟩])
 (.block 0 (.loop [false, false, true, true, true, false, false, true, true, true, true, true, true, true, true, true, true, true, true, true, true, true, true, true, true, true, true, true] (.seq (.ops [⟨(some 8), none, .bin .lss (.tmp 7) (.const (.int .i64 8))⟩])
 (.seq (.cond (.tmp 8) .skip (.exit 0))
 (.seq (.block 1 (.seq (.ops [⟨(some 9), none, .mov (.tmp 7)⟩, ⟨(some 10), none, .indexV 8 false 1 (.tmp 6) (.tmp 7)⟩, ⟨(some 3), none, .mov (.tmp 9)⟩, ⟨(some 4), none, .mov (.tmp 10)⟩])
 (.seq (.ops [⟨(some 11), none, .mov (.tmp 4)⟩, ⟨(some 12), none, .call 46 [.tmp 11, .const (.int .i64 0), .const (.int .i64 65535)]⟩, ⟨(some 13), none, .un .not (.tmp 12)⟩, ⟨(some 14), none, .mov (.tmp 13)⟩, ⟨(some 15), (some (14, false)), .mov (.tmp 3)⟩, ⟨(some 16), (some (14, false)), .bin .gtr (.tmp 15) (.const (.int .i64 0))⟩, ⟨(some 17), (some (14, false)), .mov (.tmp 16)⟩, ⟨(some 18), (some (17, true)), .mov (.tmp 4)⟩, ⟨(some 19), (some (17, true)), .bin .neq (.tmp 18) (.const (.int .i64 0))⟩, ⟨(some 20), (some (14, false)), .pick (.tmp 17) (.tmp 19) (.const (.bool false))⟩, ⟨(some 21), (some (14, false)), .mov (.tmp 20)⟩, ⟨(some 22), (some (21, true)), .fieldA 0 (.tmp 1)⟩, ⟨(some 23), (some (21, true)), .load false 1 (.tmp 22)⟩, ⟨(some 24), (some (21, true)), .un .not (.tmp 23)⟩, ⟨(some 25), (some (14, false)), .pick (.tmp 21) (.tmp 24) (.const (.bool false))⟩, ⟨(some 26), none, .pick (.tmp 14) (.const (.bool true)) (.tmp 25)⟩])
 (.cond (.tmp 26) (.seq (.ops [⟨(some 2), none, .mov (.const (.bool false))⟩])
 .ret) .skip))))
 (.ops [⟨(some 27), none, .bin .add (.tmp 7) (.const (.int .i64 1))⟩, ⟨(some 7), none, .mov (.tmp 27)⟩])))))))
 (.seq (.ops [⟨(some 28), none, .fieldA 1 (.tmp 1)⟩, ⟨(some 29), none, .load false 1 (.tmp 28)⟩, ⟨(some 30), none, .call 46 [.tmp 29, .const (.int .i64 0), .const (.int .i64 255)]⟩, ⟨(some 31), none, .mov (.tmp 30)⟩, ⟨(some 32), (some (31, true)), .fieldA 1 (.tmp 1)⟩, ⟨(some 33), (some (31, true)), .load false 1 (.tmp 32)⟩, ⟨(some 34), (some (31, true)), .bin .eql (.tmp 33) (.const (.int .i64 0))⟩, ⟨(some 35), (some (31, true)), .mov (.tmp 34)⟩, ⟨(some 36), (some (35, false)), .fieldA 0 (.tmp 1)⟩, ⟨(some 37), (some (35, false)), .load false 1 (.tmp 36)⟩, ⟨(some 38), (some (31, true)), .pick (.tmp 35) (.const (.bool true)) (.tmp 37)⟩, ⟨(some 39), none, .pick (.tmp 31) (.tmp 38) (.const (.bool false))⟩, ⟨(some 2), none, .mov (.tmp 39)⟩])
 .ret)))⟩
theorem x14_ok : xfunc Try.prog Try.f14 = some x14 := by kernel_rfl

/-- switchyard/pause.Long -/
def x15 : XF := ⟨30, [.tmp 4],
 (.seq (.ops [⟨(some 2), none, .box 26 (.tmp 0)⟩, ⟨(some 4), none, .mov (.const (.int .i64 0))⟩])
 (.seq (.block 0 (.seq (.ops [⟨(some 6), none, .mov (.tmp 1)⟩, ⟨(some 7), none, .bin .lss (.tmp 6) (.const (.int .i64 0))⟩, ⟨(some 8), none, .mov (.tmp 7)⟩, ⟨(some 9), (some (8, false)), .mov (.tmp 1)⟩, ⟨(some 10), (some (8, false)), .bin .geq (.tmp 9) (.const (.int .i64 8))⟩, ⟨(some 11), none, .pick (.tmp 8) (.const (.bool true)) (.tmp 10)⟩, ⟨(some 5), none, .mov (.tmp 11)⟩])
 (.cond (.tmp 5) (.seq (.ops [⟨(some 4), none, .mov (.const (.int .i64 0))⟩])
 .ret) (.seq (.ops [⟨(some 13), none, .fieldA 0 (.tmp 2)⟩, ⟨(some 14), none, .load false 1 (.tmp 13)⟩, ⟨(some 15), none, .un .not (.tmp 14)⟩, ⟨(some 12), none, .mov (.tmp 15)⟩])
 (.cond (.tmp 12) (.seq (.ops [⟨(some 16), none, .fieldA 2 (.tmp 2)⟩, ⟨(some 17), none, .indexP 8 1 (.tmp 16) (.const (.int .i64 0))⟩, ⟨(some 18), none, .load false 1 (.tmp 17)⟩, ⟨(some 4), none, .mov (.tmp 18)⟩])
 .ret) (.seq (.ops [⟨(some 20), none, .fieldA 1 (.tmp 2)⟩, ⟨(some 21), none, .load false 1 (.tmp 20)⟩, ⟨(some 22), none, .mov (.tmp 1)⟩, ⟨(some 23), none, .bin .shr (.tmp 21) (.tmp 22)⟩, ⟨(some 24), none, .bin .and (.tmp 23) (.const (.int .i64 1))⟩, ⟨(some 25), none, .bin .eql (.tmp 24) (.const (.int .i64 1))⟩, ⟨(some 19), none, .mov (.tmp 25)⟩])
 (.cond (.tmp 19) (.seq (.ops [⟨(some 26), none, .mov (.tmp 1)⟩, ⟨(some 27), none, .fieldA 2 (.tmp 2)⟩, ⟨(some 28), none, .indexP 8 1 (.tmp 27) (.tmp 26)⟩, ⟨(some 29), none, .load false 1 (.tmp 28)⟩, ⟨(some 4), none, .mov (.tmp 29)⟩])
 .ret) .skip)))))))
 (.seq (.ops [⟨(some 4), none, .mov (.const (.int .i64 0))⟩])
 .ret)))⟩
theorem x15_ok : xfunc Try.prog Try.f15 = some x15 := by kernel_rfl

/-- switchyard/switchyardref.PauseLong -/
def x16 : XF := ⟨30, [.tmp 4],
 (.seq (.ops [⟨(some 2), none, .box 26 (.tmp 0)⟩, ⟨(some 4), none, .mov (.const (.int .i64 0))⟩])
 (.seq (.seq (.ops [⟨(some 6), none, .mov (.tmp 1)⟩, ⟨(some 7), none, .call 46 [.tmp 6, .const (.int .i64 0), .const (.int .i64 7)]⟩, ⟨(some 8), none, .un .not (.tmp 7)⟩])
 (.cond (.tmp 8) (.seq (.ops [⟨(some 4), none, .mov (.const (.int .i64 0))⟩])
 .ret) .skip))
 (.seq (.seq (.ops [⟨(some 9), none, .fieldA 0 (.tmp 2)⟩, ⟨(some 10), none, .load false 1 (.tmp 9)⟩, ⟨(some 11), none, .un .not (.tmp 10)⟩])
 (.cond (.tmp 11) (.seq (.ops [⟨(some 12), none, .fieldA 2 (.tmp 2)⟩, ⟨(some 13), none, .indexP 8 1 (.tmp 12) (.const (.int .i64 0))⟩, ⟨(some 14), none, .load false 1 (.tmp 13)⟩, ⟨(some 4), none, .mov (.tmp 14)⟩])
 .ret) .skip))
 (.seq (.ops [⟨(some 15), none, .fieldA 1 (.tmp 2)⟩, ⟨(some 16), none, .load false 1 (.tmp 15)⟩, ⟨(some 5), none, .mov (.tmp 16)⟩])
 (.seq (.seq (.ops [⟨(some 17), none, .mov (.tmp 1)⟩, ⟨(some 18), none, .mov (.const (.int .i64 0))⟩])
 (.block 0 (.loop [false, false, false, false, false, true, false, false, false, false, false, false, false, false, false, false, false, false, true, true, true, true, true] (.seq (.ops [⟨(some 19), none, .bin .lss (.tmp 18) (.tmp 17)⟩])
 (.seq (.cond (.tmp 19) .skip (.exit 0))
 (.seq (.block 1 (.ops [⟨(some 20), none, .mov (.tmp 5)⟩, ⟨(some 21), none, .bin .quo (.tmp 20) (.const (.int .i64 2))⟩, ⟨(some 5), none, .mov (.tmp 21)⟩]))
 (.ops [⟨(some 22), none, .bin .add (.tmp 18) (.const (.int .i64 1))⟩, ⟨(some 18), none, .mov (.tmp 22)⟩])))))))
 (.seq (.ops [⟨(some 23), none, .mov (.tmp 1)⟩, ⟨(some 24), none, .fieldA 2 (.tmp 2)⟩, ⟨(some 25), none, .indexP 8 1 (.tmp 24) (.tmp 23)⟩, ⟨(some 26), none, .load false 1 (.tmp 25)⟩, ⟨(some 27), none, .mov (.tmp 5)⟩, ⟨(some 28), none, .bin .rem (.tmp 27) (.const (.int .i64 2))⟩, ⟨(some 29), none, .bin .mul (.tmp 26) (.tmp 28)⟩, ⟨(some 4), none, .mov (.tmp 29)⟩])
 .ret))))))⟩
theorem x16_ok : xfunc Try.prog Try.f16 = some x16 := by kernel_rfl

/-- switchyard/switchyardref.within -/
def x46 : XF := ⟨15, [.tmp 6],
 (.seq (.ops [⟨(some 6), none, .mov (.const (.bool false))⟩])
 (.seq (.ops [⟨(some 7), none, .mov (.tmp 1)⟩, ⟨(some 8), none, .mov (.tmp 0)⟩, ⟨(some 9), none, .bin .leq (.tmp 7) (.tmp 8)⟩, ⟨(some 10), none, .mov (.tmp 9)⟩, ⟨(some 11), (some (10, true)), .mov (.tmp 0)⟩, ⟨(some 12), (some (10, true)), .mov (.tmp 2)⟩, ⟨(some 13), (some (10, true)), .bin .leq (.tmp 11) (.tmp 12)⟩, ⟨(some 14), none, .pick (.tmp 10) (.tmp 13) (.const (.bool false))⟩, ⟨(some 6), none, .mov (.tmp 14)⟩])
 .ret))⟩
theorem x46_ok : xfunc Try.prog Try.f46 = some x46 := by kernel_rfl
end Go.Proofs.Ytflnpoahceebbaa
