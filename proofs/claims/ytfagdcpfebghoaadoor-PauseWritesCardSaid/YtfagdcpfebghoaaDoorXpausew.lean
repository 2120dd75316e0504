/- Functions of this seat with the type tables looked up; each checked by the kernel. Conditions: none. -/
import Derived.Test.YtfagdcpfebghoaaDoorProg
import Derived.Test.YtfagdcpfebghoaaDoorTy21
namespace Go.Proofs.YtfagdcpfebghoaaDoor
open Go.Sx
set_option maxRecDepth 100000
/-- switchyard/switchyardlaw.PauseWrites -/
def x8 : YF := ⟨32, [.tmp 2],
 (.seq (.ops [⟨(some 1), none, .box 78 (.tmp 0)⟩, ⟨(some 2), none, .eff .set [.const (.bool false)]⟩])
 (.seq (.ops [⟨(some 8), none, .load true 10 (.tmp 1)⟩, ⟨(some 9), none, .call 46 [.tmp 8]⟩, ⟨(some 7), none, .mov (.tmp 9)⟩, ⟨(some 10), none, .ext (.tmp 7) 0⟩, ⟨(some 11), none, .ext (.tmp 7) 1⟩, ⟨(some 3), none, .eff .set [.tmp 10]⟩, ⟨(some 4), none, .eff .set [.tmp 11]⟩])
 (.seq (.ops [⟨(some 13), none, .load true 10 (.tmp 1)⟩, ⟨(some 14), none, .call 47 [.tmp 13]⟩, ⟨(some 12), none, .mov (.tmp 14)⟩, ⟨(some 15), none, .ext (.tmp 12) 0⟩, ⟨(some 16), none, .ext (.tmp 12) 1⟩, ⟨(some 5), none, .eff .set [.tmp 15]⟩, ⟨(some 6), none, .eff .set [.tmp 16]⟩])
 (.seq (.draw [17, 18, 19, 20, 21, 22, 23, 24, 25, 26, 28, 27, 29, 30, 31, 2] [⟨0, [], ⟨(some 17), none, .mov (.tmp 6)⟩⟩, ⟨1, [], ⟨(some 18), none, .mov (.tmp 4)⟩⟩, ⟨2, [0, 1], ⟨(some 19), none, .call 18 [.tmp 17, .tmp 18]⟩⟩, ⟨3, [2, 0, 1], ⟨(some 20), none, .mov (.tmp 19)⟩⟩, ⟨4, [3, 2, 0, 1], ⟨(some 21), (some (20, true)), .mov (.tmp 5)⟩⟩, ⟨5, [3, 2, 0, 1], ⟨(some 22), (some (20, true)), .mov (.tmp 3)⟩⟩, ⟨6, [4, 5, 3, 2, 0, 1], ⟨(some 23), (some (20, true)), .bin .eql (.tmp 21) (.tmp 22)⟩⟩, ⟨7, [6, 4, 5, 3, 2, 0, 1], ⟨(some 24), none, .pick (.tmp 20) (.tmp 23) (.const (.bool false))⟩⟩, ⟨8, [7, 6, 4, 5, 3, 2, 0, 1], ⟨(some 25), none, .mov (.tmp 24)⟩⟩, ⟨9, [8, 7, 6, 4, 5, 3, 2, 0, 1], ⟨(some 26), (some (25, true)), .load true 10 (.tmp 1)⟩⟩, ⟨11, [8, 7, 6, 4, 5, 3, 2, 0, 1], ⟨(some 28), (some (25, true)), .load true 10 (.tmp 1)⟩⟩, ⟨10, [9, 8, 7, 6, 4, 5, 3, 2, 0, 1], ⟨(some 27), (some (25, true)), .call 48 [.tmp 26]⟩⟩, ⟨12, [11, 10, 9, 8, 7, 6, 4, 5, 3, 2, 0, 1], ⟨(some 29), (some (25, true)), .call 49 [.tmp 28]⟩⟩, ⟨13, [12, 11, 10, 9, 8, 7, 6, 4, 5, 3, 2, 0, 1], ⟨(some 30), (some (25, true)), .eqB false (.tmp 27) (.tmp 29)⟩⟩, ⟨14, [13, 12, 11, 10, 9, 8, 7, 6, 4, 5, 3, 2, 0, 1], ⟨(some 31), none, .pick (.tmp 25) (.tmp 30) (.const (.bool false))⟩⟩, ⟨15, [14, 13, 12, 11, 10, 9, 8, 7, 6, 4, 5, 3, 2, 0, 1], ⟨(some 2), none, .eff .set [.tmp 31]⟩⟩])
 .ret))))⟩
theorem x8_ok : yfunc Tryd.prog Tryd.f8 = some x8 := by kernel_rfl

/-- switchyard/switchyardref.PauseWrite -/
def x46 : YF := ⟨35, [.tmp 2, .tmp 3],
 (.seq (.ops [⟨(some 1), none, .box 78 (.tmp 0)⟩, ⟨(some 2), none, .eff .set [.const (.string ⟨#[]⟩)]⟩, ⟨(some 3), none, .eff .set [.const (.int .i64 0)]⟩])
 (.seq (.seq (.ops [⟨(some 8), none, .load true 10 (.tmp 1)⟩, ⟨(some 9), none, .call 49 [.tmp 8]⟩, ⟨(some 10), none, .un .not (.tmp 9)⟩])
 (.cond (.tmp 10) (.seq (.ops [⟨(some 2), none, .eff .set [.const (.string ⟨#[]⟩)]⟩, ⟨(some 3), none, .eff .set [.const (.int .i64 1)]⟩])
 .ret) .skip))
 (.seq (.ops [⟨(some 11), none, .fieldA 2 (.tmp 1)⟩, ⟨(some 12), none, .indexP 8 1 (.tmp 11) (.const (.int .i64 0))⟩, ⟨(some 13), none, .load false 1 (.tmp 12)⟩, ⟨(some 14), none, .bslice 3 2 [.int .i64 0, .int .i64 0] [(0, 1, .const (.int .i64 1)), (1, 1, .tmp 13)]⟩, ⟨(some 4), none, .eff .set [.tmp 14]⟩])
 (.seq (.seq (.ops [⟨(some 15), none, .fieldA 0 (.tmp 1)⟩, ⟨(some 16), none, .load false 1 (.tmp 15)⟩])
 (.cond (.tmp 16) (.draw [17, 18, 19, 20, 21, 22, 4] [⟨0, [], ⟨(some 17), none, .fieldA 1 (.tmp 1)⟩⟩, ⟨1, [0], ⟨(some 18), none, .load false 1 (.tmp 17)⟩⟩, ⟨2, [1, 0], ⟨(some 19), none, .bslice 3 2 [.int .i64 0, .int .i64 0] [(0, 1, .const (.int .i64 257)), (1, 1, .tmp 18)]⟩⟩, ⟨3, [], ⟨(some 20), none, .fieldA 2 (.tmp 1)⟩⟩, ⟨4, [3], ⟨(some 21), none, .more (.slcA 8 1 false false) [.tmp 20]⟩⟩, ⟨5, [2, 1, 0, 4, 3], ⟨(some 22), none, .eff (.app 3 1 8 [.int .i64 0]) [.tmp 19, .tmp 21]⟩⟩, ⟨6, [5, 2, 1, 0, 4, 3], ⟨(some 4), none, .eff .set [.tmp 22]⟩⟩]) .skip))
 (.seq (.ops [⟨(some 5), none, .eff .set [.const (.string ⟨#[]⟩)]⟩])
 (.seq (.seq (.ops [⟨(some 23), none, .mov (.tmp 4)⟩, ⟨(some 24), none, .len false (.tmp 23)⟩, ⟨(some 25), none, .mov (.const (.int .i64 0))⟩])
 (.block 0 (.loop [false, false, false, false, false, true, false, true, false, false, false, false, false, false, false, false, false, false, false, false, false, false, false, false, false, true, true, true, true, true, true, true, true, true] (.seq (.ops [⟨(some 26), none, .bin .lss (.tmp 25) (.tmp 24)⟩])
 (.seq (.cond (.tmp 26) .skip (.exit 0))
 (.seq (.block 1 (.seq (.ops [⟨(some 27), none, .indexS 1 (.tmp 23) (.tmp 25)⟩, ⟨(some 28), none, .load false 1 (.tmp 27)⟩, ⟨(some 7), none, .eff .set [.tmp 28]⟩])
 (.ops [⟨(some 29), none, .mov (.tmp 5)⟩, ⟨(some 30), none, .mov (.tmp 7)⟩, ⟨(some 31), none, .call 68 [.tmp 30, .const (.int .i64 2)]⟩, ⟨(some 32), none, .bin .add (.tmp 29) (.tmp 31)⟩, ⟨(some 5), none, .eff .set [.tmp 32]⟩])))
 (.ops [⟨(some 33), none, .bin .add (.tmp 25) (.const (.int .i64 1))⟩, ⟨(some 25), none, .mov (.tmp 33)⟩])))))))
 (.seq (.ops [⟨(some 34), none, .mov (.tmp 5)⟩, ⟨(some 2), none, .eff .set [.tmp 34]⟩, ⟨(some 3), none, .eff .set [.const (.int .i64 0)]⟩])
 .ret)))))))⟩
theorem x46_ok : yfunc Tryd.prog Tryd.f46 = some x46 := by kernel_rfl

/-- switchyard/pause.Write -/
def x47 : YF := ⟨36, [.tmp 2, .tmp 3],
 (.seq (.ops [⟨(some 1), none, .box 78 (.tmp 0)⟩, ⟨(some 2), none, .eff .set [.const (.string ⟨#[]⟩)]⟩, ⟨(some 3), none, .eff .set [.const (.nilIface)]⟩])
 (.seq (.seq (.ops [⟨(some 7), none, .load true 10 (.tmp 1)⟩, ⟨(some 8), none, .call 48 [.tmp 7]⟩, ⟨(some 9), none, .un .not (.tmp 8)⟩])
 (.cond (.tmp 9) (.seq (.ops [⟨(some 10), none, .mkI 24 (.const (.int .i64 1))⟩, ⟨(some 2), none, .eff .set [.const (.string ⟨#[]⟩)]⟩, ⟨(some 3), none, .eff .set [.tmp 10]⟩])
 .ret) .skip))
 (.seq (.seq (.ops [⟨(some 11), none, .fieldA 0 (.tmp 1)⟩, ⟨(some 12), none, .load false 1 (.tmp 11)⟩, ⟨(some 13), none, .un .not (.tmp 12)⟩])
 (.cond (.tmp 13) (.seq (.draw [15, 16, 17, 14, 18, 19, 2, 3] [⟨1, [], ⟨(some 15), none, .fieldA 2 (.tmp 1)⟩⟩, ⟨2, [1], ⟨(some 16), none, .indexP 8 1 (.tmp 15) (.const (.int .i64 0))⟩⟩, ⟨3, [2, 1], ⟨(some 17), none, .load false 1 (.tmp 16)⟩⟩, ⟨0, [], ⟨(some 14), none, .call 67 [.const (.int .i64 1), .const (.int .i64 2)]⟩⟩, ⟨4, [3, 2, 1, 0], ⟨(some 18), none, .call 67 [.tmp 17, .const (.int .i64 2)]⟩⟩, ⟨5, [4, 3, 2, 1, 0], ⟨(some 19), none, .bin .add (.tmp 14) (.tmp 18)⟩⟩, ⟨6, [5, 4, 3, 2, 1, 0], ⟨(some 2), none, .eff .set [.tmp 19]⟩⟩, ⟨7, [6, 5, 4, 3, 2, 1, 0], ⟨(some 3), none, .eff .set [.const (.nilIface)]⟩⟩])
 .ret) .skip))
 (.seq (.draw [21, 22, 20, 23, 24, 4] [⟨1, [], ⟨(some 21), none, .fieldA 1 (.tmp 1)⟩⟩, ⟨2, [1], ⟨(some 22), none, .load false 1 (.tmp 21)⟩⟩, ⟨0, [], ⟨(some 20), none, .call 67 [.const (.int .i64 257), .const (.int .i64 2)]⟩⟩, ⟨3, [2, 1, 0], ⟨(some 23), none, .call 67 [.tmp 22, .const (.int .i64 2)]⟩⟩, ⟨4, [3, 2, 1, 0], ⟨(some 24), none, .bin .add (.tmp 20) (.tmp 23)⟩⟩, ⟨5, [4, 3, 2, 1, 0], ⟨(some 4), none, .eff .set [.tmp 24]⟩⟩])
 (.seq (.seq (.ops [⟨(some 25), none, .fieldA 2 (.tmp 1)⟩, ⟨(some 26), none, .load true 8 (.tmp 25)⟩, ⟨(some 27), none, .mov (.const (.int .i64 0))⟩])
 (.block 0 (.loop [false, false, false, false, true, false, true, false, false, false, false, false, false, false, false, false, false, false, false, false, false, false, false, false, false, false, false, true, true, true, true, true, true, true, true] (.seq (.ops [⟨(some 28), none, .bin .lss (.tmp 27) (.const (.int .i64 8))⟩])
 (.seq (.cond (.tmp 28) .skip (.exit 0))
 (.seq (.block 1 (.seq (.ops [⟨(some 29), none, .indexV 8 false 1 (.tmp 26) (.tmp 27)⟩, ⟨(some 6), none, .eff .set [.tmp 29]⟩])
 (.ops [⟨(some 30), none, .mov (.tmp 4)⟩, ⟨(some 31), none, .mov (.tmp 6)⟩, ⟨(some 32), none, .call 67 [.tmp 31, .const (.int .i64 2)]⟩, ⟨(some 33), none, .bin .add (.tmp 30) (.tmp 32)⟩, ⟨(some 4), none, .eff .set [.tmp 33]⟩])))
 (.ops [⟨(some 34), none, .bin .add (.tmp 27) (.const (.int .i64 1))⟩, ⟨(some 27), none, .mov (.tmp 34)⟩])))))))
 (.seq (.ops [⟨(some 35), none, .mov (.tmp 4)⟩, ⟨(some 2), none, .eff .set [.tmp 35]⟩, ⟨(some 3), none, .eff .set [.const (.nilIface)]⟩])
 .ret))))))⟩
theorem x47_ok : yfunc Tryd.prog Tryd.f47 = some x47 := by kernel_rfl

/-- switchyard/pause.Right -/
def x48 : YF := ⟨48, [.tmp 2],
 (.seq (.ops [⟨(some 1), none, .box 78 (.tmp 0)⟩, ⟨(some 2), none, .eff .set [.const (.bool false)]⟩])
 (.seq (.seq (.ops [⟨(some 5), none, .fieldA 2 (.tmp 1)⟩, ⟨(some 6), none, .load true 8 (.tmp 5)⟩, ⟨(some 7), none, .mov (.const (.int .i64 0))⟩])
 (.block 0 (.loop [false, false, true, true, true, false, false, true, true, true, true, true, true, true, true, true, true, true, true, true, true, true, true, true, true, true, true, true, true, true, true] (.seq (.ops [⟨(some 8), none, .bin .lss (.tmp 7) (.const (.int .i64 8))⟩])
 (.seq (.cond (.tmp 8) .skip (.exit 0))
 (.seq (.block 1 (.seq (.ops [⟨(some 9), none, .mov (.tmp 7)⟩, ⟨(some 10), none, .indexV 8 false 1 (.tmp 6) (.tmp 7)⟩, ⟨(some 3), none, .eff .set [.tmp 9]⟩, ⟨(some 4), none, .eff .set [.tmp 10]⟩])
 (.seq (.ops [⟨(some 11), none, .mov (.tmp 4)⟩, ⟨(some 12), none, .bin .lss (.tmp 11) (.const (.int .i64 0))⟩, ⟨(some 13), none, .mov (.tmp 12)⟩, ⟨(some 14), (some (13, false)), .mov (.tmp 4)⟩, ⟨(some 15), (some (13, false)), .bin .gtr (.tmp 14) (.const (.int .i64 65535))⟩, ⟨(some 16), none, .pick (.tmp 13) (.const (.bool true)) (.tmp 15)⟩, ⟨(some 17), none, .mov (.tmp 16)⟩, ⟨(some 18), (some (17, false)), .fieldA 0 (.tmp 1)⟩, ⟨(some 19), (some (17, false)), .load false 1 (.tmp 18)⟩, ⟨(some 20), (some (17, false)), .un .not (.tmp 19)⟩, ⟨(some 21), (some (17, false)), .mov (.tmp 20)⟩, ⟨(some 22), (some (21, true)), .mov (.tmp 3)⟩, ⟨(some 23), (some (21, true)), .bin .gtr (.tmp 22) (.const (.int .i64 0))⟩, ⟨(some 24), (some (17, false)), .pick (.tmp 21) (.tmp 23) (.const (.bool false))⟩, ⟨(some 25), (some (17, false)), .mov (.tmp 24)⟩, ⟨(some 26), (some (25, true)), .mov (.tmp 4)⟩, ⟨(some 27), (some (25, true)), .bin .neq (.tmp 26) (.const (.int .i64 0))⟩, ⟨(some 28), (some (17, false)), .pick (.tmp 25) (.tmp 27) (.const (.bool false))⟩, ⟨(some 29), none, .pick (.tmp 17) (.const (.bool true)) (.tmp 28)⟩])
 (.cond (.tmp 29) (.seq (.ops [⟨(some 2), none, .eff .set [.const (.bool false)]⟩])
 .ret) .skip))))
 (.ops [⟨(some 30), none, .bin .add (.tmp 7) (.const (.int .i64 1))⟩, ⟨(some 7), none, .mov (.tmp 30)⟩])))))))
 (.seq (.ops [⟨(some 31), none, .fieldA 1 (.tmp 1)⟩, ⟨(some 32), none, .load false 1 (.tmp 31)⟩, ⟨(some 33), none, .bin .geq (.tmp 32) (.const (.int .i64 0))⟩, ⟨(some 34), none, .mov (.tmp 33)⟩, ⟨(some 35), (some (34, true)), .fieldA 1 (.tmp 1)⟩, ⟨(some 36), (some (34, true)), .load false 1 (.tmp 35)⟩, ⟨(some 37), (some (34, true)), .bin .leq (.tmp 36) (.const (.int .i64 255))⟩, ⟨(some 38), none, .pick (.tmp 34) (.tmp 37) (.const (.bool false))⟩, ⟨(some 39), none, .mov (.tmp 38)⟩, ⟨(some 40), (some (39, true)), .fieldA 0 (.tmp 1)⟩, ⟨(some 41), (some (39, true)), .load false 1 (.tmp 40)⟩, ⟨(some 42), (some (39, true)), .mov (.tmp 41)⟩, ⟨(some 43), (some (42, false)), .fieldA 1 (.tmp 1)⟩, ⟨(some 44), (some (42, false)), .load false 1 (.tmp 43)⟩, ⟨(some 45), (some (42, false)), .bin .eql (.tmp 44) (.const (.int .i64 0))⟩, ⟨(some 46), (some (39, true)), .pick (.tmp 42) (.const (.bool true)) (.tmp 45)⟩, ⟨(some 47), none, .pick (.tmp 39) (.tmp 46) (.const (.bool false))⟩, ⟨(some 2), none, .eff .set [.tmp 47]⟩])
 .ret)))⟩
theorem x48_ok : yfunc Tryd.prog Tryd.f48 = some x48 := by kernel_rfl

/-- switchyard/switchyardref.PauseRight -/
def x49 : YF := ⟨40, [.tmp 2],
 (.seq (.ops [⟨(some 1), none, .box 78 (.tmp 0)⟩, ⟨(some 2), none, .eff .set [.const (.bool false)]⟩])
 (.seq (.seq (.ops [⟨(some 5), none, .fieldA 2 (.tmp 1)⟩, ⟨(some 6), none, .load true 8 (.tmp 5)⟩, ⟨(some 7), none, .mov (.const (.int .i64 0))⟩])
 (.block 0 (.loop [false, false, true, true, true, false, false, true, true, true, true, true, true, true, true, true, true, true, true, true, true, true, true, true, true, true, true, true] (.seq (.ops [⟨(some 8), none, .bin .lss (.tmp 7) (.const (.int .i64 8))⟩])
 (.seq (.cond (.tmp 8) .skip (.exit 0))
 (.seq (.block 1 (.seq (.ops [⟨(some 9), none, .mov (.tmp 7)⟩, ⟨(some 10), none, .indexV 8 false 1 (.tmp 6) (.tmp 7)⟩, ⟨(some 3), none, .eff .set [.tmp 9]⟩, ⟨(some 4), none, .eff .set [.tmp 10]⟩])
 (.seq (.ops [⟨(some 11), none, .mov (.tmp 4)⟩, ⟨(some 12), none, .call 65 [.tmp 11, .const (.int .i64 0), .const (.int .i64 65535)]⟩, ⟨(some 13), none, .un .not (.tmp 12)⟩, ⟨(some 14), none, .mov (.tmp 13)⟩, ⟨(some 15), (some (14, false)), .mov (.tmp 3)⟩, ⟨(some 16), (some (14, false)), .bin .gtr (.tmp 15) (.const (.int .i64 0))⟩, ⟨(some 17), (some (14, false)), .mov (.tmp 16)⟩, ⟨(some 18), (some (17, true)), .mov (.tmp 4)⟩, ⟨(some 19), (some (17, true)), .bin .neq (.tmp 18) (.const (.int .i64 0))⟩, ⟨(some 20), (some (14, false)), .pick (.tmp 17) (.tmp 19) (.const (.bool false))⟩, ⟨(some 21), (some (14, false)), .mov (.tmp 20)⟩, ⟨(some 22), (some (21, true)), .fieldA 0 (.tmp 1)⟩, ⟨(some 23), (some (21, true)), .load false 1 (.tmp 22)⟩, ⟨(some 24), (some (21, true)), .un .not (.tmp 23)⟩, ⟨(some 25), (some (14, false)), .pick (.tmp 21) (.tmp 24) (.const (.bool false))⟩, ⟨(some 26), none, .pick (.tmp 14) (.const (.bool true)) (.tmp 25)⟩])
 (.cond (.tmp 26) (.seq (.ops [⟨(some 2), none, .eff .set [.const (.bool false)]⟩])
 .ret) .skip))))
 (.ops [⟨(some 27), none, .bin .add (.tmp 7) (.const (.int .i64 1))⟩, ⟨(some 7), none, .mov (.tmp 27)⟩])))))))
 (.seq (.ops [⟨(some 28), none, .fieldA 1 (.tmp 1)⟩, ⟨(some 29), none, .load false 1 (.tmp 28)⟩, ⟨(some 30), none, .call 65 [.tmp 29, .const (.int .i64 0), .const (.int .i64 255)]⟩, ⟨(some 31), none, .mov (.tmp 30)⟩, ⟨(some 32), (some (31, true)), .fieldA 1 (.tmp 1)⟩, ⟨(some 33), (some (31, true)), .load false 1 (.tmp 32)⟩, ⟨(some 34), (some (31, true)), .bin .eql (.tmp 33) (.const (.int .i64 0))⟩, ⟨(some 35), (some (31, true)), .mov (.tmp 34)⟩, ⟨(some 36), (some (35, false)), .fieldA 0 (.tmp 1)⟩, ⟨(some 37), (some (35, false)), .load false 1 (.tmp 36)⟩, ⟨(some 38), (some (31, true)), .pick (.tmp 35) (.const (.bool true)) (.tmp 37)⟩, ⟨(some 39), none, .pick (.tmp 31) (.tmp 38) (.const (.bool false))⟩, ⟨(some 2), none, .eff .set [.tmp 39]⟩])
 .ret)))⟩
theorem x49_ok : yfunc Tryd.prog Tryd.f49 = some x49 := by kernel_rfl
end Go.Proofs.YtfagdcpfebghoaaDoor
