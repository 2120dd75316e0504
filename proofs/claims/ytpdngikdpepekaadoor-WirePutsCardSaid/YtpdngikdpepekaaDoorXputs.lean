/- Functions of this seat with the type tables looked up; each checked by the kernel. Conditions: none. -/
import Derived.Test.YtpdngikdpepekaaDoorProg
import Derived.Test.YtpdngikdpepekaaDoorBaseC
namespace Go.Proofs.YtpdngikdpepekaaDoor
open Go.Sx
set_option maxRecDepth 100000
/-- switchyard/switchyardlaw.WirePuts -/
def x7 : YF := ⟨40, [.tmp 4],
 (.seq (.ops [⟨(some 4), none, .eff .set [.const (.bool false)]⟩])
 (.seq (.ops [⟨(some 10), none, .mov (.tmp 0)⟩, ⟨(some 11), none, .mov (.tmp 1)⟩, ⟨(some 12), none, .call 26 [.tmp 10, .tmp 11]⟩, ⟨(some 9), none, .mov (.tmp 12)⟩, ⟨(some 13), none, .ext (.tmp 9) 0⟩, ⟨(some 14), none, .ext (.tmp 9) 1⟩, ⟨(some 5), none, .eff .set [.tmp 13]⟩, ⟨(some 6), none, .eff .set [.tmp 14]⟩])
 (.seq (.ops [⟨(some 16), none, .mov (.tmp 0)⟩, ⟨(some 17), none, .mov (.tmp 1)⟩, ⟨(some 18), none, .call 27 [.tmp 16, .tmp 17]⟩, ⟨(some 15), none, .mov (.tmp 18)⟩, ⟨(some 19), none, .ext (.tmp 15) 0⟩, ⟨(some 20), none, .ext (.tmp 15) 1⟩, ⟨(some 7), none, .eff .set [.tmp 19]⟩, ⟨(some 8), none, .eff .set [.tmp 20]⟩])
 (.seq (.seq (.ops [⟨(some 21), none, .mov (.tmp 8)⟩, ⟨(some 22), none, .mov (.tmp 6)⟩, ⟨(some 23), none, .call 10 [.tmp 21, .tmp 22]⟩, ⟨(some 24), none, .un .not (.tmp 23)⟩, ⟨(some 25), none, .mov (.tmp 24)⟩, ⟨(some 26), (some (25, false)), .mov (.tmp 7)⟩, ⟨(some 27), (some (25, false)), .mov (.tmp 5)⟩, ⟨(some 28), (some (25, false)), .bin .neq (.tmp 26) (.tmp 27)⟩, ⟨(some 29), none, .pick (.tmp 25) (.const (.bool true)) (.tmp 28)⟩])
 (.cond (.tmp 29) (.seq (.ops [⟨(some 4), none, .eff .set [.const (.bool false)]⟩])
 .ret) .skip))
 (.seq (.ops [⟨(some 30), none, .mov (.tmp 0)⟩, ⟨(some 31), none, .bin .gtr (.tmp 30) (.const (.int .u64 4611686018427387904))⟩, ⟨(some 32), none, .mov (.tmp 31)⟩, ⟨(some 33), (some (32, false)), .mov (.tmp 0)⟩, ⟨(some 34), (some (32, false)), .conv .i64 (.tmp 33)⟩, ⟨(some 35), (some (32, false)), .mov (.tmp 1)⟩, ⟨(some 36), (some (32, false)), .call 28 [.tmp 34, .tmp 35]⟩, ⟨(some 37), (some (32, false)), .mov (.tmp 5)⟩, ⟨(some 38), (some (32, false)), .bin .eql (.tmp 36) (.tmp 37)⟩, ⟨(some 39), none, .pick (.tmp 32) (.const (.bool true)) (.tmp 38)⟩, ⟨(some 4), none, .eff .set [.tmp 39]⟩])
 .ret)))))⟩
theorem x7_ok : yfunc Tryd.prog Tryd.f7 = some x7 := by kernel_rfl

/-- switchyard/switchyardref.Put -/
def x26 : YF := ⟨22, [.tmp 4, .tmp 5],
 (.seq (.ops [⟨(some 4), none, .eff .set [.const (.string ⟨#[]⟩)]⟩, ⟨(some 5), none, .eff .set [.const (.int .i64 0)]⟩])
 (.seq (.seq (.ops [⟨(some 7), none, .mov (.tmp 1)⟩, ⟨(some 8), none, .call 36 [.tmp 7, .const (.int .i64 1), .const (.int .i64 8)]⟩, ⟨(some 9), none, .un .not (.tmp 8)⟩])
 (.cond (.tmp 9) (.seq (.ops [⟨(some 4), none, .eff .set [.const (.string ⟨#[]⟩)]⟩, ⟨(some 5), none, .eff .set [.const (.int .i64 2)]⟩])
 .ret) .skip))
 (.seq (.ops [⟨(some 10), none, .mov (.tmp 0)⟩, ⟨(some 11), none, .call 59 [.tmp 10, .const (.int .i64 8)]⟩, ⟨(some 6), none, .eff .set [.tmp 11]⟩])
 (.seq (.seq (.ops [⟨(some 12), none, .mov (.tmp 6)⟩, ⟨(some 13), none, .mov (.tmp 1)⟩, ⟨(some 14), none, .bin .sub (.const (.int .i64 8)) (.tmp 13)⟩, ⟨(some 15), none, .more (.slcT false true) [.tmp 12, .tmp 14]⟩, ⟨(some 16), none, .call 60 [.tmp 15, .const (.string ⟨#[0]⟩)]⟩, ⟨(some 17), none, .bin .neq (.tmp 16) (.const (.string ⟨#[]⟩))⟩])
 (.cond (.tmp 17) (.seq (.ops [⟨(some 4), none, .eff .set [.const (.string ⟨#[]⟩)]⟩, ⟨(some 5), none, .eff .set [.const (.int .i64 12)]⟩])
 .ret) .skip))
 (.seq (.ops [⟨(some 18), none, .mov (.tmp 6)⟩, ⟨(some 19), none, .mov (.tmp 1)⟩, ⟨(some 20), none, .bin .sub (.const (.int .i64 8)) (.tmp 19)⟩, ⟨(some 21), none, .more (.slcT true false) [.tmp 18, .tmp 20]⟩, ⟨(some 4), none, .eff .set [.tmp 21]⟩, ⟨(some 5), none, .eff .set [.const (.int .i64 0)]⟩])
 .ret)))))⟩
theorem x26_ok : yfunc Tryd.prog Tryd.f26 = some x26 := by kernel_rfl

/-- strings.Trim -/
def x60 : YF := ⟨43, [.tmp 4],
 (.seq (.ops [⟨(some 4), none, .eff .set [.const (.string ⟨#[]⟩)]⟩])
 (.seq (.seq (.ops [⟨(some 7), none, .mov (.tmp 0)⟩, ⟨(some 8), none, .bin .eql (.tmp 7) (.const (.string ⟨#[]⟩))⟩, ⟨(some 9), none, .mov (.tmp 8)⟩, ⟨(some 10), (some (9, false)), .mov (.tmp 1)⟩, ⟨(some 11), (some (9, false)), .bin .eql (.tmp 10) (.const (.string ⟨#[]⟩))⟩, ⟨(some 12), none, .pick (.tmp 9) (.const (.bool true)) (.tmp 11)⟩])
 (.cond (.tmp 12) (.seq (.ops [⟨(some 13), none, .mov (.tmp 0)⟩, ⟨(some 4), none, .eff .set [.tmp 13]⟩])
 .ret) .skip))
 (.seq (.seq (.ops [⟨(some 14), none, .mov (.tmp 1)⟩, ⟨(some 15), none, .len true (.tmp 14)⟩, ⟨(some 16), none, .bin .eql (.tmp 15) (.const (.int .i64 1))⟩, ⟨(some 17), none, .mov (.tmp 16)⟩, ⟨(some 18), (some (17, true)), .mov (.tmp 1)⟩, ⟨(some 19), (some (17, true)), .indexStr (.tmp 18) (.const (.int .i64 0))⟩, ⟨(some 20), (some (17, true)), .bin .lss (.tmp 19) (.const (.int .u8 128))⟩, ⟨(some 21), none, .pick (.tmp 17) (.tmp 20) (.const (.bool false))⟩])
 (.cond (.tmp 21) (.seq (.draw [22, 23, 24, 26, 27, 25, 28, 4] [⟨0, [], ⟨(some 22), none, .mov (.tmp 0)⟩⟩, ⟨1, [], ⟨(some 23), none, .mov (.tmp 1)⟩⟩, ⟨2, [1], ⟨(some 24), none, .indexStr (.tmp 23) (.const (.int .i64 0))⟩⟩, ⟨4, [], ⟨(some 26), none, .mov (.tmp 1)⟩⟩, ⟨5, [4], ⟨(some 27), none, .indexStr (.tmp 26) (.const (.int .i64 0))⟩⟩, ⟨3, [0, 2, 1], ⟨(some 25), none, .call 84 [.tmp 22, .tmp 24]⟩⟩, ⟨6, [5, 4, 3, 0, 2, 1], ⟨(some 28), none, .call 83 [.tmp 25, .tmp 27]⟩⟩, ⟨7, [6, 5, 4, 3, 0, 2, 1], ⟨(some 4), none, .eff .set [.tmp 28]⟩⟩])
 .ret) .skip))
 (.seq (.seq (.ops [⟨(some 30), none, .mov (.tmp 1)⟩, ⟨(some 31), none, .call 85 [.tmp 30]⟩, ⟨(some 29), none, .mov (.tmp 31)⟩, ⟨(some 32), none, .ext (.tmp 29) 0⟩, ⟨(some 33), none, .ext (.tmp 29) 1⟩, ⟨(some 5), none, .alloc 136 [.bool false, .bool false, .bool false, .bool false, .bool false, .bool false, .bool false, .bool false, .bool false, .bool false, .bool false, .bool false, .bool false, .bool false, .bool false, .bool false, .bool false, .bool false, .bool false, .bool false, .bool false, .bool false, .bool false, .bool false, .bool false, .bool false, .bool false, .bool false, .bool false, .bool false, .bool false, .bool false, .bool false, .bool false, .bool false, .bool false, .bool false, .bool false, .bool false, .bool false, .bool false, .bool false, .bool false, .bool false, .bool false, .bool false, .bool false, .bool false, .bool false, .bool false, .bool false, .bool false, .bool false, .bool false, .bool false, .bool false, .bool false, .bool false, .bool false, .bool false, .bool false, .bool false, .bool false, .bool false, .bool false, .bool false, .bool false, .bool false, .bool false, .bool false, .bool false, .bool false, .bool false, .bool false, .bool false, .bool false, .bool false, .bool false, .bool false, .bool false, .bool false, .bool false, .bool false, .bool false, .bool false, .bool false, .bool false, .bool false, .bool false, .bool false, .bool false, .bool false, .bool false, .bool false, .bool false, .bool false, .bool false, .bool false, .bool false, .bool false, .bool false, .bool false, .bool false, .bool false, .bool false, .bool false, .bool false, .bool false, .bool false, .bool false, .bool false, .bool false, .bool false, .bool false, .bool false, .bool false, .bool false, .bool false, .bool false, .bool false, .bool false, .bool false, .bool false, .bool false, .bool false, .bool false, .bool false, .bool false, .bool false, .bool false, .bool false, .bool false, .bool false, .bool false, .bool false, .bool false, .bool false, .bool false, .bool false, .bool false, .bool false, .bool false, .bool false, .bool false, .bool false, .bool false, .bool false, .bool false, .bool false, .bool false, .bool false, .bool false, .bool false, .bool false, .bool false, .bool false, .bool false, .bool false, .bool false, .bool false, .bool false, .bool false, .bool false, .bool false, .bool false, .bool false, .bool false, .bool false, .bool false, .bool false, .bool false, .bool false, .bool false, .bool false, .bool false, .bool false, .bool false, .bool false, .bool false, .bool false, .bool false, .bool false, .bool false, .bool false, .bool false, .bool false, .bool false, .bool false, .bool false, .bool false, .bool false, .bool false, .bool false, .bool false, .bool false, .bool false, .bool false, .bool false, .bool false, .bool false, .bool false, .bool false, .bool false, .bool false, .bool false, .bool false, .bool false, .bool false, .bool false, .bool false, .bool false, .bool false, .bool false, .bool false, .bool false, .bool false, .bool false, .bool false, .bool false, .bool false, .bool false, .bool false, .bool false, .bool false, .bool false, .bool false, .bool false, .bool false, .bool false, .bool false, .bool false, .bool false, .bool false, .bool false, .bool false, .bool false, .bool false, .bool false, .bool false, .bool false, .bool false, .bool false, .bool false, .bool false, .bool false, .bool false, .bool false, .bool false, .bool false, .bool false, .bool false, .bool false, .bool false, .bool false, .bool false, .bool false]⟩, ⟨none, none, .store 256 (.tmp 5) (.tmp 32)⟩, ⟨(some 6), none, .eff .set [.tmp 33]⟩])
 (.seq (.ops [⟨(some 34), none, .mov (.tmp 6)⟩])
 (.cond (.tmp 34) (.seq (.ops [⟨(some 35), none, .mov (.tmp 0)⟩, ⟨(some 36), none, .call 87 [.tmp 35, .tmp 5]⟩, ⟨(some 37), none, .call 86 [.tmp 36, .tmp 5]⟩, ⟨(some 4), none, .eff .set [.tmp 37]⟩])
 .ret) .skip)))
 (.seq (.ops [⟨(some 38), none, .mov (.tmp 0)⟩, ⟨(some 39), none, .mov (.tmp 1)⟩, ⟨(some 40), none, .call 89 [.tmp 38, .tmp 39]⟩, ⟨(some 41), none, .mov (.tmp 1)⟩, ⟨(some 42), none, .call 88 [.tmp 40, .tmp 41]⟩, ⟨(some 4), none, .eff .set [.tmp 42]⟩])
 .ret)))))⟩
theorem x60_ok : yfunc Tryd.prog Tryd.f60 = some x60 := by kernel_rfl

/-- strings.trimLeftByte -/
def x83 : YF := ⟨17, [.tmp 4],
 (.seq (.ops [⟨(some 4), none, .eff .set [.const (.string ⟨#[]⟩)]⟩])
 (.seq (.block 0 (.loop [true, false, false, false, false, true, true, true, true, true, true, true, true, true, true, true] (.seq (.seq (.ops [⟨(some 5), none, .mov (.tmp 0)⟩, ⟨(some 6), none, .len true (.tmp 5)⟩, ⟨(some 7), none, .bin .gtr (.tmp 6) (.const (.int .i64 0))⟩, ⟨(some 8), none, .mov (.tmp 7)⟩, ⟨(some 9), (some (8, true)), .mov (.tmp 0)⟩, ⟨(some 10), (some (8, true)), .indexStr (.tmp 9) (.const (.int .i64 0))⟩, ⟨(some 11), (some (8, true)), .mov (.tmp 1)⟩, ⟨(some 12), (some (8, true)), .bin .eql (.tmp 10) (.tmp 11)⟩, ⟨(some 13), none, .pick (.tmp 8) (.tmp 12) (.const (.bool false))⟩])
 (.cond (.tmp 13) .skip (.exit 0)))
 (.block 1 (.ops [⟨(some 14), none, .mov (.tmp 0)⟩, ⟨(some 15), none, .more (.slcT true false) [.tmp 14, .const (.int .i64 1)]⟩, ⟨(some 0), none, .eff .set [.tmp 15]⟩])))))
 (.seq (.ops [⟨(some 16), none, .mov (.tmp 0)⟩, ⟨(some 4), none, .eff .set [.tmp 16]⟩])
 .ret)))⟩
theorem x83_ok : yfunc Tryd.prog Tryd.f83 = some x83 := by kernel_rfl

/-- strings.trimRightByte -/
def x84 : YF := ⟨23, [.tmp 4],
 (.seq (.ops [⟨(some 4), none, .eff .set [.const (.string ⟨#[]⟩)]⟩])
 (.seq (.block 0 (.loop [true, false, false, false, false, true, true, true, true, true, true, true, true, true, true, true, true, true, true, true, true, true] (.seq (.seq (.ops [⟨(some 5), none, .mov (.tmp 0)⟩, ⟨(some 6), none, .len true (.tmp 5)⟩, ⟨(some 7), none, .bin .gtr (.tmp 6) (.const (.int .i64 0))⟩, ⟨(some 8), none, .mov (.tmp 7)⟩, ⟨(some 9), (some (8, true)), .mov (.tmp 0)⟩, ⟨(some 10), (some (8, true)), .mov (.tmp 0)⟩, ⟨(some 11), (some (8, true)), .len true (.tmp 10)⟩, ⟨(some 12), (some (8, true)), .bin .sub (.tmp 11) (.const (.int .i64 1))⟩, ⟨(some 13), (some (8, true)), .indexStr (.tmp 9) (.tmp 12)⟩, ⟨(some 14), (some (8, true)), .mov (.tmp 1)⟩, ⟨(some 15), (some (8, true)), .bin .eql (.tmp 13) (.tmp 14)⟩, ⟨(some 16), none, .pick (.tmp 8) (.tmp 15) (.const (.bool false))⟩])
 (.cond (.tmp 16) .skip (.exit 0)))
 (.block 1 (.ops [⟨(some 17), none, .mov (.tmp 0)⟩, ⟨(some 18), none, .mov (.tmp 0)⟩, ⟨(some 19), none, .len true (.tmp 18)⟩, ⟨(some 20), none, .bin .sub (.tmp 19) (.const (.int .i64 1))⟩, ⟨(some 21), none, .more (.slcT false true) [.tmp 17, .tmp 20]⟩, ⟨(some 0), none, .eff .set [.tmp 21]⟩])))))
 (.seq (.ops [⟨(some 22), none, .mov (.tmp 0)⟩, ⟨(some 4), none, .eff .set [.tmp 22]⟩])
 .ret)))⟩
theorem x84_ok : yfunc Tryd.prog Tryd.f84 = some x84 := by kernel_rfl
end Go.Proofs.YtpdngikdpepekaaDoor
