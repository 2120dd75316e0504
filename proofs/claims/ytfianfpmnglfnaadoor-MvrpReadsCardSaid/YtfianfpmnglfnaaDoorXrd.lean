/- Functions of this seat with the type tables looked up; each checked by the kernel. Conditions: none. -/
import Derived.Test.YtfianfpmnglfnaaDoorProg
import Derived.Test.YtfianfpmnglfnaaDoorBaseC
namespace Go.Proofs.YtfianfpmnglfnaaDoor
open Go.Sx
set_option maxRecDepth 100000
/-- switchyard/wire.New -/
def x65 : YF := ⟨9, [.tmp 4],
 (.seq (.ops [⟨(some 4), none, .eff .set [.const (.pointer none)]⟩])
 (.seq (.ops [⟨(some 5), none, .mov (.tmp 0)⟩, ⟨(some 6), none, .mov (.tmp 1)⟩, ⟨(some 7), none, .build [.string ⟨#[]⟩, .int .i64 0, .int .i64 0, .nilIface] [(0, 1, .tmp 5), (2, 1, .tmp 6)]⟩, ⟨(some 8), none, .box 207 (.tmp 7)⟩, ⟨(some 4), none, .eff .set [.tmp 8]⟩])
 .ret))⟩
theorem x65_ok : yfunc Tryd.prog Tryd.f65 = some x65 := by kernel_rfl

/-- (*switchyard/wire.Reader).Num -/
def x66 : YF := ⟨41, [.tmp 4],
 (.seq (.ops [⟨(some 4), none, .eff .set [.const (.int .i64 0)]⟩])
 (.seq (.seq (.ops [⟨(some 8), none, .mov (.tmp 0)⟩, ⟨(some 9), none, .more .nilC [.tmp 8]⟩, ⟨(some 10), none, .fieldA 3 (.tmp 9)⟩, ⟨(some 11), none, .load false 1 (.tmp 10)⟩, ⟨(some 12), none, .more (.nilI false) [.tmp 11]⟩, ⟨(some 13), none, .mov (.tmp 12)⟩, ⟨(some 14), (some (13, true)), .mov (.tmp 1)⟩, ⟨(some 15), (some (13, true)), .bin .lss (.tmp 14) (.const (.int .i64 1))⟩, ⟨(some 16), (some (13, true)), .mov (.tmp 15)⟩, ⟨(some 17), (some (16, false)), .mov (.tmp 1)⟩, ⟨(some 18), (some (16, false)), .bin .gtr (.tmp 17) (.const (.int .i64 8))⟩, ⟨(some 19), (some (13, true)), .pick (.tmp 16) (.const (.bool true)) (.tmp 18)⟩, ⟨(some 20), none, .pick (.tmp 13) (.tmp 19) (.const (.bool false))⟩])
 (.cond (.tmp 20) (.ops [⟨(some 21), none, .mov (.tmp 0)⟩, ⟨(some 22), none, .mov (.tmp 0)⟩, ⟨(some 23), none, .call 69 [.tmp 22]⟩, ⟨(some 24), none, .call 67 [.tmp 21, .const (.int .i64 2), .tmp 23]⟩]) .skip))
 (.seq (.ops [⟨(some 5), none, .eff .set [.const (.int .i64 0)]⟩])
 (.seq (.seq (.ops [⟨(some 25), none, .mov (.tmp 0)⟩, ⟨(some 26), none, .mov (.tmp 1)⟩, ⟨(some 27), none, .call 93 [.tmp 25, .tmp 26]⟩, ⟨(some 28), none, .prim (.convert 9 181 (.tmp 27)) [.tmp 27]⟩, ⟨(some 29), none, .len false (.tmp 28)⟩, ⟨(some 30), none, .mov (.const (.int .i64 0))⟩])
 (.block 0 (.loop [false, false, false, false, false, true, false, true, false, false, false, false, false, false, false, false, false, false, false, false, false, false, false, false, false, false, false, false, false, false, true, true, true, true, true, true, true, true, true, true] (.seq (.ops [⟨(some 31), none, .bin .lss (.tmp 30) (.tmp 29)⟩])
 (.seq (.cond (.tmp 31) .skip (.exit 0))
 (.seq (.block 1 (.seq (.ops [⟨(some 32), none, .indexS 1 (.tmp 28) (.tmp 30)⟩, ⟨(some 33), none, .load false 1 (.tmp 32)⟩, ⟨(some 7), none, .eff .set [.tmp 33]⟩])
 (.ops [⟨(some 34), none, .mov (.tmp 5)⟩, ⟨(some 35), none, .bin .shl (.tmp 34) (.const (.int .u64 8))⟩, ⟨(some 36), none, .mov (.tmp 7)⟩, ⟨(some 37), none, .conv .i64 (.tmp 36)⟩, ⟨(some 38), none, .bin .or (.tmp 35) (.tmp 37)⟩, ⟨(some 5), none, .eff .set [.tmp 38]⟩])))
 (.ops [⟨(some 39), none, .bin .add (.tmp 30) (.const (.int .i64 1))⟩, ⟨(some 30), none, .mov (.tmp 39)⟩])))))))
 (.seq (.ops [⟨(some 40), none, .mov (.tmp 5)⟩, ⟨(some 4), none, .eff .set [.tmp 40]⟩])
 .ret)))))⟩
theorem x66_ok : yfunc Tryd.prog Tryd.f66 = some x66 := by kernel_rfl

/-- (*switchyard/wire.Reader).Fail -/
def x67 : YF := ⟨19, [],
 (.seq (.ops [⟨(some 6), none, .mov (.tmp 0)⟩, ⟨(some 7), none, .more .nilC [.tmp 6]⟩, ⟨(some 8), none, .fieldA 3 (.tmp 7)⟩, ⟨(some 9), none, .load false 1 (.tmp 8)⟩, ⟨(some 10), none, .more (.nilI false) [.tmp 9]⟩])
 (.cond (.tmp 10) (.ops [⟨(some 11), none, .mov (.tmp 0)⟩, ⟨(some 12), none, .mov (.tmp 1)⟩, ⟨(some 13), none, .mov (.tmp 2)⟩, ⟨(some 14), none, .build [.int .i64 0, .int .i64 0] [(0, 1, .tmp 12), (1, 1, .tmp 13)]⟩, ⟨(some 15), none, .box 138 (.tmp 14)⟩, ⟨(some 16), none, .mkI 136 (.tmp 15)⟩, ⟨(some 17), none, .more .nilC [.tmp 11]⟩, ⟨(some 18), none, .fieldA 3 (.tmp 17)⟩, ⟨none, none, .store 1 (.tmp 18) (.tmp 16)⟩]) .skip))⟩
theorem x67_ok : yfunc Tryd.prog Tryd.f67 = some x67 := by kernel_rfl

/-- (*switchyard/wire.Reader).Err -/
def x68 : YF := ⟨7, [.tmp 2],
 (.seq (.ops [⟨(some 2), none, .eff .set [.const (.nilIface)]⟩])
 (.seq (.ops [⟨(some 3), none, .mov (.tmp 0)⟩, ⟨(some 4), none, .more .nilC [.tmp 3]⟩, ⟨(some 5), none, .fieldA 3 (.tmp 4)⟩, ⟨(some 6), none, .load false 1 (.tmp 5)⟩, ⟨(some 2), none, .eff .set [.tmp 6]⟩])
 .ret))⟩
theorem x68_ok : yfunc Tryd.prog Tryd.f68 = some x68 := by kernel_rfl

/-- (*switchyard/wire.Reader).At -/
def x69 : YF := ⟨12, [.tmp 2],
 (.seq (.ops [⟨(some 2), none, .eff .set [.const (.int .i64 0)]⟩])
 (.seq (.draw [3, 4, 5, 6, 7, 8, 9, 10, 11, 2] [⟨0, [], ⟨(some 3), none, .mov (.tmp 0)⟩⟩, ⟨1, [0], ⟨(some 4), none, .more .nilC [.tmp 3]⟩⟩, ⟨2, [1, 0], ⟨(some 5), none, .fieldA 2 (.tmp 4)⟩⟩, ⟨3, [2, 1, 0], ⟨(some 6), none, .load false 1 (.tmp 5)⟩⟩, ⟨4, [], ⟨(some 7), none, .mov (.tmp 0)⟩⟩, ⟨5, [4], ⟨(some 8), none, .more .nilC [.tmp 7]⟩⟩, ⟨6, [5, 4], ⟨(some 9), none, .fieldA 1 (.tmp 8)⟩⟩, ⟨7, [6, 5, 4], ⟨(some 10), none, .load false 1 (.tmp 9)⟩⟩, ⟨8, [3, 2, 1, 0, 7, 6, 5, 4], ⟨(some 11), none, .bin .add (.tmp 6) (.tmp 10)⟩⟩, ⟨9, [8, 3, 2, 1, 0, 7, 6, 5, 4], ⟨(some 2), none, .eff .set [.tmp 11]⟩⟩])
 .ret))⟩
theorem x69_ok : yfunc Tryd.prog Tryd.f69 = some x69 := by kernel_rfl

/-- (*switchyard/wire.Reader).Zeros -/
def x70 : YF := ⟨39, [.tmp 2],
 (.seq (.ops [⟨(some 2), none, .eff .set [.const (.bool false)]⟩])
 (.seq (.block 0 (.loop [false, false, false, true, true, true, true, true, true, true, true, true, true, true, true, true, true, true, true, true, true, true, true, true, true, true, true, true, true, true, true, true, true, true] (.seq (.seq (.ops [⟨(some 3), none, .mov (.tmp 0)⟩, ⟨(some 4), none, .more .nilC [.tmp 3]⟩, ⟨(some 5), none, .fieldA 3 (.tmp 4)⟩, ⟨(some 6), none, .load false 1 (.tmp 5)⟩, ⟨(some 7), none, .more (.nilI false) [.tmp 6]⟩, ⟨(some 8), none, .mov (.tmp 7)⟩, ⟨(some 9), (some (8, true)), .mov (.tmp 0)⟩, ⟨(some 10), (some (8, true)), .call 94 [.tmp 9]⟩, ⟨(some 11), (some (8, true)), .bin .gtr (.tmp 10) (.const (.int .i64 0))⟩, ⟨(some 12), none, .pick (.tmp 8) (.tmp 11) (.const (.bool false))⟩])
 (.cond (.tmp 12) .skip (.exit 0)))
 (.block 1 (.seq (.seq (.draw [13, 14, 15, 16, 17, 18, 19, 20, 21, 22] [⟨0, [], ⟨(some 13), none, .mov (.tmp 0)⟩⟩, ⟨1, [0], ⟨(some 14), none, .more .nilC [.tmp 13]⟩⟩, ⟨2, [1, 0], ⟨(some 15), none, .fieldA 0 (.tmp 14)⟩⟩, ⟨3, [2, 1, 0], ⟨(some 16), none, .load false 1 (.tmp 15)⟩⟩, ⟨4, [], ⟨(some 17), none, .mov (.tmp 0)⟩⟩, ⟨5, [4], ⟨(some 18), none, .more .nilC [.tmp 17]⟩⟩, ⟨6, [5, 4], ⟨(some 19), none, .fieldA 1 (.tmp 18)⟩⟩, ⟨7, [6, 5, 4], ⟨(some 20), none, .load false 1 (.tmp 19)⟩⟩, ⟨8, [3, 2, 1, 0, 7, 6, 5, 4], ⟨(some 21), none, .indexStr (.tmp 16) (.tmp 20)⟩⟩, ⟨9, [8, 3, 2, 1, 0, 7, 6, 5, 4], ⟨(some 22), none, .bin .neq (.tmp 21) (.const (.int .u8 0))⟩⟩])
 (.cond (.tmp 22) (.seq (.ops [⟨(some 23), none, .mov (.tmp 0)⟩, ⟨(some 24), none, .mov (.tmp 0)⟩, ⟨(some 25), none, .call 69 [.tmp 24]⟩, ⟨(some 26), none, .call 67 [.tmp 23, .const (.int .i64 15), .tmp 25]⟩])
 (.exit 0)) .skip))
 (.ops [⟨(some 27), none, .mov (.tmp 0)⟩, ⟨(some 28), none, .more .nilC [.tmp 27]⟩, ⟨(some 29), none, .fieldA 1 (.tmp 28)⟩, ⟨(some 30), none, .load false 1 (.tmp 29)⟩, ⟨(some 31), none, .bin .add (.tmp 30) (.const (.int .i64 1))⟩, ⟨(some 32), none, .more .nilC [.tmp 27]⟩, ⟨(some 33), none, .fieldA 1 (.tmp 32)⟩, ⟨none, none, .store 1 (.tmp 33) (.tmp 31)⟩]))))))
 (.seq (.ops [⟨(some 34), none, .mov (.tmp 0)⟩, ⟨(some 35), none, .more .nilC [.tmp 34]⟩, ⟨(some 36), none, .fieldA 3 (.tmp 35)⟩, ⟨(some 37), none, .load false 1 (.tmp 36)⟩, ⟨(some 38), none, .more (.nilI false) [.tmp 37]⟩, ⟨(some 2), none, .eff .set [.tmp 38]⟩])
 .ret)))⟩
theorem x70_ok : yfunc Tryd.prog Tryd.f70 = some x70 := by kernel_rfl

/-- (*switchyard/wire.Reader).Bytes -/
def x93 : YF := ⟨50, [.tmp 4],
 (.seq (.ops [⟨(some 4), none, .eff .set [.const (.string ⟨#[]⟩)]⟩])
 (.seq (.block 0 (.seq (.ops [⟨(some 29), none, .mov (.tmp 0)⟩, ⟨(some 30), none, .more .nilC [.tmp 29]⟩, ⟨(some 31), none, .fieldA 3 (.tmp 30)⟩, ⟨(some 32), none, .load false 1 (.tmp 31)⟩, ⟨(some 33), none, .more (.nilI true) [.tmp 32]⟩, ⟨(some 28), none, .eff .set [.tmp 33]⟩])
 (.cond (.tmp 28) .skip (.seq (.ops [⟨(some 35), none, .mov (.tmp 1)⟩, ⟨(some 36), none, .bin .lss (.tmp 35) (.const (.int .i64 0))⟩, ⟨(some 34), none, .eff .set [.tmp 36]⟩])
 (.cond (.tmp 34) (.ops [⟨(some 37), none, .mov (.tmp 0)⟩, ⟨(some 38), none, .mov (.tmp 0)⟩, ⟨(some 39), none, .call 69 [.tmp 38]⟩, ⟨(some 40), none, .call 67 [.tmp 37, .const (.int .i64 2), .tmp 39]⟩]) (.seq (.ops [⟨(some 42), none, .mov (.tmp 1)⟩, ⟨(some 43), none, .mov (.tmp 0)⟩, ⟨(some 44), none, .call 94 [.tmp 43]⟩, ⟨(some 45), none, .bin .gtr (.tmp 42) (.tmp 44)⟩, ⟨(some 41), none, .eff .set [.tmp 45]⟩])
 (.cond (.tmp 41) (.ops [⟨(some 46), none, .mov (.tmp 0)⟩, ⟨(some 47), none, .mov (.tmp 0)⟩, ⟨(some 48), none, .call 69 [.tmp 47]⟩, ⟨(some 49), none, .call 67 [.tmp 46, .const (.int .i64 7), .tmp 48]⟩]) (.seq (.ops [⟨(some 5), none, .mov (.tmp 0)⟩, ⟨(some 6), none, .more .nilC [.tmp 5]⟩, ⟨(some 7), none, .fieldA 1 (.tmp 6)⟩, ⟨(some 8), none, .load false 1 (.tmp 7)⟩, ⟨(some 9), none, .mov (.tmp 1)⟩, ⟨(some 10), none, .bin .add (.tmp 8) (.tmp 9)⟩, ⟨(some 11), none, .more .nilC [.tmp 5]⟩, ⟨(some 12), none, .fieldA 1 (.tmp 11)⟩, ⟨none, none, .store 1 (.tmp 12) (.tmp 10)⟩])
 (.seq (.draw [13, 14, 15, 16, 17, 18, 19, 20, 21, 22, 23, 24, 25, 26, 27, 4] [⟨0, [], ⟨(some 13), none, .mov (.tmp 0)⟩⟩, ⟨1, [0], ⟨(some 14), none, .more .nilC [.tmp 13]⟩⟩, ⟨2, [1, 0], ⟨(some 15), none, .fieldA 0 (.tmp 14)⟩⟩, ⟨3, [2, 1, 0], ⟨(some 16), none, .load false 1 (.tmp 15)⟩⟩, ⟨4, [], ⟨(some 17), none, .mov (.tmp 0)⟩⟩, ⟨5, [4], ⟨(some 18), none, .more .nilC [.tmp 17]⟩⟩, ⟨6, [5, 4], ⟨(some 19), none, .fieldA 1 (.tmp 18)⟩⟩, ⟨7, [6, 5, 4], ⟨(some 20), none, .load false 1 (.tmp 19)⟩⟩, ⟨8, [], ⟨(some 21), none, .mov (.tmp 1)⟩⟩, ⟨9, [7, 6, 5, 4, 8], ⟨(some 22), none, .bin .sub (.tmp 20) (.tmp 21)⟩⟩, ⟨10, [], ⟨(some 23), none, .mov (.tmp 0)⟩⟩, ⟨11, [10], ⟨(some 24), none, .more .nilC [.tmp 23]⟩⟩, ⟨12, [11, 10], ⟨(some 25), none, .fieldA 1 (.tmp 24)⟩⟩, ⟨13, [12, 11, 10], ⟨(some 26), none, .load false 1 (.tmp 25)⟩⟩, ⟨14, [3, 2, 1, 0, 9, 7, 6, 5, 4, 8, 13, 12, 11, 10], ⟨(some 27), none, .more (.slcT true true) [.tmp 16, .tmp 22, .tmp 26]⟩⟩, ⟨15, [14, 3, 2, 1, 0, 9, 7, 6, 5, 4, 8, 13, 12, 11, 10], ⟨(some 4), none, .eff .set [.tmp 27]⟩⟩])
 .ret)))))))))
 (.seq (.ops [⟨(some 4), none, .eff .set [.const (.string ⟨#[]⟩)]⟩])
 .ret)))⟩
theorem x93_ok : yfunc Tryd.prog Tryd.f93 = some x93 := by kernel_rfl

/-- (*switchyard/wire.Reader).Left -/
def x94 : YF := ⟨13, [.tmp 2],
 (.seq (.ops [⟨(some 2), none, .eff .set [.const (.int .i64 0)]⟩])
 (.seq (.draw [3, 4, 5, 6, 7, 8, 9, 10, 11, 12, 2] [⟨0, [], ⟨(some 3), none, .mov (.tmp 0)⟩⟩, ⟨1, [0], ⟨(some 4), none, .more .nilC [.tmp 3]⟩⟩, ⟨2, [1, 0], ⟨(some 5), none, .fieldA 0 (.tmp 4)⟩⟩, ⟨3, [2, 1, 0], ⟨(some 6), none, .load false 1 (.tmp 5)⟩⟩, ⟨4, [3, 2, 1, 0], ⟨(some 7), none, .len true (.tmp 6)⟩⟩, ⟨5, [], ⟨(some 8), none, .mov (.tmp 0)⟩⟩, ⟨6, [5], ⟨(some 9), none, .more .nilC [.tmp 8]⟩⟩, ⟨7, [6, 5], ⟨(some 10), none, .fieldA 1 (.tmp 9)⟩⟩, ⟨8, [7, 6, 5], ⟨(some 11), none, .load false 1 (.tmp 10)⟩⟩, ⟨9, [4, 3, 2, 1, 0, 8, 7, 6, 5], ⟨(some 12), none, .bin .sub (.tmp 7) (.tmp 11)⟩⟩, ⟨10, [9, 4, 3, 2, 1, 0, 8, 7, 6, 5], ⟨(some 2), none, .eff .set [.tmp 12]⟩⟩])
 .ret))⟩
theorem x94_ok : yfunc Tryd.prog Tryd.f94 = some x94 := by kernel_rfl
end Go.Proofs.YtfianfpmnglfnaaDoor
