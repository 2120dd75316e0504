/- Functions of this seat with the type tables looked up; each checked by the kernel. Conditions: none. -/
import Derived.Test.YtfianfpmnglfnaaDoorProg
import Derived.Test.YtfianfpmnglfnaaDoorBaseC
namespace Go.Proofs.YtfianfpmnglfnaaDoor
open Go.Sx
set_option maxRecDepth 100000
/-- switchyard/switchyardlaw.big -/
def x7 : YF := ⟨45, [.tmp 2],
 (.seq (.ops [⟨(some 1), none, .box 29 (.tmp 0)⟩, ⟨(some 2), none, .eff .set [.const (.bool false)]⟩])
 (.seq (.ops [⟨(some 6), none, .fieldA 9 (.tmp 1)⟩, ⟨(some 7), none, .load false 1 (.tmp 6)⟩, ⟨(some 8), none, .len false (.tmp 7)⟩, ⟨(some 9), none, .fieldA 10 (.tmp 1)⟩, ⟨(some 10), none, .load false 1 (.tmp 9)⟩, ⟨(some 11), none, .len false (.tmp 10)⟩, ⟨(some 12), none, .bin .add (.tmp 8) (.tmp 11)⟩, ⟨(some 13), none, .fieldA 5 (.tmp 1)⟩, ⟨(some 14), none, .load false 1 (.tmp 13)⟩, ⟨(some 15), none, .len false (.tmp 14)⟩, ⟨(some 16), none, .bin .add (.tmp 12) (.tmp 15)⟩, ⟨(some 17), none, .fieldA 6 (.tmp 1)⟩, ⟨(some 18), none, .load false 1 (.tmp 17)⟩, ⟨(some 19), none, .len false (.tmp 18)⟩, ⟨(some 20), none, .bin .add (.tmp 16) (.tmp 19)⟩, ⟨(some 21), none, .fieldA 7 (.tmp 1)⟩, ⟨(some 22), none, .load false 1 (.tmp 21)⟩, ⟨(some 23), none, .len false (.tmp 22)⟩, ⟨(some 24), none, .bin .add (.tmp 20) (.tmp 23)⟩, ⟨(some 25), none, .fieldA 8 (.tmp 1)⟩, ⟨(some 26), none, .load false 1 (.tmp 25)⟩, ⟨(some 27), none, .len false (.tmp 26)⟩, ⟨(some 28), none, .bin .add (.tmp 24) (.tmp 27)⟩, ⟨(some 3), none, .eff .set [.tmp 28]⟩])
 (.seq (.seq (.ops [⟨(some 29), none, .fieldA 10 (.tmp 1)⟩, ⟨(some 30), none, .load false 1 (.tmp 29)⟩, ⟨(some 31), none, .len false (.tmp 30)⟩, ⟨(some 32), none, .mov (.const (.int .i64 0))⟩])
 (.block 0 (.loop [false, false, false, true, false, true, false, false, false, false, false, false, false, false, false, false, false, false, false, false, false, false, false, false, false, false, false, false, false, false, false, false, true, true, true, true, true, true, true, true, true, true, true] (.seq (.ops [⟨(some 33), none, .bin .lss (.tmp 32) (.tmp 31)⟩])
 (.seq (.cond (.tmp 33) .skip (.exit 0))
 (.seq (.block 1 (.seq (.ops [⟨(some 34), none, .indexS 3 (.tmp 30) (.tmp 32)⟩, ⟨(some 35), none, .load true 3 (.tmp 34)⟩, ⟨(some 5), none, .alloc 100 [.int .i64 0, .int .i64 0, .string ⟨#[]⟩]⟩, ⟨none, none, .store 3 (.tmp 5) (.tmp 35)⟩])
 (.ops [⟨(some 36), none, .mov (.tmp 3)⟩, ⟨(some 37), none, .fieldA 2 (.tmp 5)⟩, ⟨(some 38), none, .load false 1 (.tmp 37)⟩, ⟨(some 39), none, .len true (.tmp 38)⟩, ⟨(some 40), none, .bin .quo (.tmp 39) (.const (.int .i64 20))⟩, ⟨(some 41), none, .bin .add (.tmp 36) (.tmp 40)⟩, ⟨(some 3), none, .eff .set [.tmp 41]⟩])))
 (.ops [⟨(some 42), none, .bin .add (.tmp 32) (.const (.int .i64 1))⟩, ⟨(some 32), none, .mov (.tmp 42)⟩])))))))
 (.seq (.ops [⟨(some 43), none, .mov (.tmp 3)⟩, ⟨(some 44), none, .bin .gtr (.tmp 43) (.const (.int .i64 700))⟩, ⟨(some 2), none, .eff .set [.tmp 44]⟩])
 .ret))))⟩
theorem x7_ok : yfunc Tryd.prog Tryd.f7 = some x7 := by kernel_rfl

/-- switchyard/lldp.Right -/
def x11 : YF := ⟨93, [.tmp 2],
 (.seq (.ops [⟨(some 1), none, .box 29 (.tmp 0)⟩, ⟨(some 2), none, .eff .set [.const (.bool false)]⟩])
 (.seq (.seq (.ops [⟨(some 5), none, .fieldA 5 (.tmp 1)⟩, ⟨(some 6), none, .load false 1 (.tmp 5)⟩, ⟨(some 7), none, .fieldA 6 (.tmp 1)⟩, ⟨(some 8), none, .load false 1 (.tmp 7)⟩, ⟨(some 9), none, .fieldA 7 (.tmp 1)⟩, ⟨(some 10), none, .load false 1 (.tmp 9)⟩, ⟨(some 11), none, .bslice 24 3 [.slice none 0 0, .slice none 0 0, .slice none 0 0] [(0, 1, .tmp 6), (1, 1, .tmp 8), (2, 1, .tmp 10)]⟩, ⟨(some 12), none, .len false (.tmp 11)⟩, ⟨(some 13), none, .mov (.const (.int .i64 0))⟩])
 (.block 0 (.loop [false, false, true, false, true, false, false, false, false, false, false, false, false, true, true, true, true, true, true, true, true, true, true, true, true, true, true, true, true, true, true, true, true] (.seq (.ops [⟨(some 14), none, .bin .lss (.tmp 13) (.tmp 12)⟩])
 (.seq (.cond (.tmp 14) .skip (.exit 0))
 (.seq (.block 1 (.seq (.ops [⟨(some 15), none, .indexS 1 (.tmp 11) (.tmp 13)⟩, ⟨(some 16), none, .load false 1 (.tmp 15)⟩, ⟨(some 4), none, .eff .set [.tmp 16]⟩])
 (.seq (.ops [⟨(some 17), none, .mov (.tmp 4)⟩, ⟨(some 18), none, .len false (.tmp 17)⟩, ⟨(some 19), none, .bin .gtr (.tmp 18) (.const (.int .i64 1))⟩, ⟨(some 20), none, .mov (.tmp 19)⟩, ⟨(some 21), (some (20, false)), .mov (.tmp 4)⟩, ⟨(some 22), (some (20, false)), .len false (.tmp 21)⟩, ⟨(some 23), (some (20, false)), .bin .eql (.tmp 22) (.const (.int .i64 1))⟩, ⟨(some 24), (some (20, false)), .mov (.tmp 23)⟩, ⟨(some 25), (some (24, true)), .mov (.tmp 4)⟩, ⟨(some 26), (some (24, true)), .indexS 1 (.tmp 25) (.const (.int .i64 0))⟩, ⟨(some 27), (some (24, true)), .load false 1 (.tmp 26)⟩, ⟨(some 28), (some (24, true)), .len true (.tmp 27)⟩, ⟨(some 29), (some (24, true)), .bin .gtr (.tmp 28) (.const (.int .i64 255))⟩, ⟨(some 30), (some (20, false)), .pick (.tmp 24) (.tmp 29) (.const (.bool false))⟩, ⟨(some 31), none, .pick (.tmp 20) (.const (.bool true)) (.tmp 30)⟩])
 (.cond (.tmp 31) (.seq (.ops [⟨(some 2), none, .eff .set [.const (.bool false)]⟩])
 .ret) .skip))))
 (.ops [⟨(some 32), none, .bin .add (.tmp 13) (.const (.int .i64 1))⟩, ⟨(some 13), none, .mov (.tmp 32)⟩])))))))
 (.seq (.seq (.ops [⟨(some 33), none, .fieldA 8 (.tmp 1)⟩, ⟨(some 34), none, .load false 1 (.tmp 33)⟩, ⟨(some 35), none, .len false (.tmp 34)⟩, ⟨(some 36), none, .bin .gtr (.tmp 35) (.const (.int .i64 1))⟩, ⟨(some 37), none, .mov (.tmp 36)⟩, ⟨(some 38), (some (37, false)), .fieldA 8 (.tmp 1)⟩, ⟨(some 39), (some (37, false)), .load false 1 (.tmp 38)⟩, ⟨(some 40), (some (37, false)), .len false (.tmp 39)⟩, ⟨(some 41), (some (37, false)), .bin .eql (.tmp 40) (.const (.int .i64 1))⟩, ⟨(some 42), (some (37, false)), .mov (.tmp 41)⟩, ⟨(some 43), (some (42, true)), .fieldA 8 (.tmp 1)⟩, ⟨(some 44), (some (42, true)), .load false 1 (.tmp 43)⟩, ⟨(some 45), (some (42, true)), .indexS 2 (.tmp 44) (.const (.int .i64 0))⟩, ⟨(some 46), (some (42, true)), .load true 2 (.tmp 45)⟩, ⟨(some 47), (some (42, true)), .call 33 [.tmp 46]⟩, ⟨(some 48), (some (42, true)), .un .not (.tmp 47)⟩, ⟨(some 49), (some (37, false)), .pick (.tmp 42) (.tmp 48) (.const (.bool false))⟩, ⟨(some 50), none, .pick (.tmp 37) (.const (.bool true)) (.tmp 49)⟩, ⟨(some 51), none, .mov (.tmp 50)⟩, ⟨(some 52), (some (51, false)), .fieldA 9 (.tmp 1)⟩, ⟨(some 53), (some (51, false)), .load false 1 (.tmp 52)⟩, ⟨(some 54), (some (51, false)), .len false (.tmp 53)⟩, ⟨(some 55), (some (51, false)), .bin .gtr (.tmp 54) (.const (.int .i64 20))⟩, ⟨(some 56), none, .pick (.tmp 51) (.const (.bool true)) (.tmp 55)⟩, ⟨(some 57), none, .mov (.tmp 56)⟩, ⟨(some 58), (some (57, false)), .fieldA 10 (.tmp 1)⟩, ⟨(some 59), (some (57, false)), .load false 1 (.tmp 58)⟩, ⟨(some 60), (some (57, false)), .len false (.tmp 59)⟩, ⟨(some 61), (some (57, false)), .bin .gtr (.tmp 60) (.const (.int .i64 20))⟩, ⟨(some 62), none, .pick (.tmp 57) (.const (.bool true)) (.tmp 61)⟩])
 (.cond (.tmp 62) (.seq (.ops [⟨(some 2), none, .eff .set [.const (.bool false)]⟩])
 .ret) .skip))
 (.seq (.ops [⟨(some 63), none, .fieldA 0 (.tmp 1)⟩, ⟨(some 64), none, .load true 2 (.tmp 63)⟩, ⟨(some 65), none, .call 34 [.tmp 64]⟩, ⟨(some 66), none, .mov (.tmp 65)⟩, ⟨(some 67), (some (66, true)), .fieldA 2 (.tmp 1)⟩, ⟨(some 68), (some (66, true)), .load true 2 (.tmp 67)⟩, ⟨(some 69), (some (66, true)), .call 34 [.tmp 68]⟩, ⟨(some 70), none, .pick (.tmp 66) (.tmp 69) (.const (.bool false))⟩, ⟨(some 71), none, .mov (.tmp 70)⟩, ⟨(some 72), (some (71, true)), .fieldA 4 (.tmp 1)⟩, ⟨(some 73), (some (71, true)), .load false 1 (.tmp 72)⟩, ⟨(some 74), (some (71, true)), .bin .geq (.tmp 73) (.const (.int .i64 0))⟩, ⟨(some 75), none, .pick (.tmp 71) (.tmp 74) (.const (.bool false))⟩, ⟨(some 76), none, .mov (.tmp 75)⟩, ⟨(some 77), (some (76, true)), .fieldA 4 (.tmp 1)⟩, ⟨(some 78), (some (76, true)), .load false 1 (.tmp 77)⟩, ⟨(some 79), (some (76, true)), .bin .leq (.tmp 78) (.const (.int .i64 65535))⟩, ⟨(some 80), none, .pick (.tmp 76) (.tmp 79) (.const (.bool false))⟩, ⟨(some 81), none, .mov (.tmp 80)⟩, ⟨(some 82), (some (81, true)), .fieldA 9 (.tmp 1)⟩, ⟨(some 83), (some (81, true)), .load false 1 (.tmp 82)⟩, ⟨(some 84), (some (81, true)), .call 35 [.tmp 83, .func 36]⟩, ⟨(some 85), (some (81, true)), .un .not (.tmp 84)⟩, ⟨(some 86), none, .pick (.tmp 81) (.tmp 85) (.const (.bool false))⟩, ⟨(some 87), none, .mov (.tmp 86)⟩, ⟨(some 88), (some (87, true)), .fieldA 10 (.tmp 1)⟩, ⟨(some 89), (some (87, true)), .load false 1 (.tmp 88)⟩, ⟨(some 90), (some (87, true)), .call 38 [.tmp 89, .func 39]⟩, ⟨(some 91), (some (87, true)), .un .not (.tmp 90)⟩, ⟨(some 92), none, .pick (.tmp 87) (.tmp 91) (.const (.bool false))⟩, ⟨(some 2), none, .eff .set [.tmp 92]⟩])
 .ret))))⟩
theorem x11_ok : yfunc Tryd.prog Tryd.f11 = some x11 := by kernel_rfl

/-- switchyard/lldp.caps -/
def x33 : YF := ⟨29, [.tmp 2],
 (.seq (.ops [⟨(some 1), none, .box 111 (.tmp 0)⟩, ⟨(some 2), none, .eff .set [.const (.bool false)]⟩])
 (.seq (.ops [⟨(some 3), none, .fieldA 0 (.tmp 1)⟩, ⟨(some 4), none, .load false 1 (.tmp 3)⟩, ⟨(some 5), none, .bin .geq (.tmp 4) (.const (.int .i64 0))⟩, ⟨(some 6), none, .mov (.tmp 5)⟩, ⟨(some 7), (some (6, true)), .fieldA 0 (.tmp 1)⟩, ⟨(some 8), (some (6, true)), .load false 1 (.tmp 7)⟩, ⟨(some 9), (some (6, true)), .bin .leq (.tmp 8) (.const (.int .i64 65535))⟩, ⟨(some 10), none, .pick (.tmp 6) (.tmp 9) (.const (.bool false))⟩, ⟨(some 11), none, .mov (.tmp 10)⟩, ⟨(some 12), (some (11, true)), .fieldA 1 (.tmp 1)⟩, ⟨(some 13), (some (11, true)), .load false 1 (.tmp 12)⟩, ⟨(some 14), (some (11, true)), .bin .geq (.tmp 13) (.const (.int .i64 0))⟩, ⟨(some 15), none, .pick (.tmp 11) (.tmp 14) (.const (.bool false))⟩, ⟨(some 16), none, .mov (.tmp 15)⟩, ⟨(some 17), (some (16, true)), .fieldA 1 (.tmp 1)⟩, ⟨(some 18), (some (16, true)), .load false 1 (.tmp 17)⟩, ⟨(some 19), (some (16, true)), .bin .leq (.tmp 18) (.const (.int .i64 65535))⟩, ⟨(some 20), none, .pick (.tmp 16) (.tmp 19) (.const (.bool false))⟩, ⟨(some 21), none, .mov (.tmp 20)⟩, ⟨(some 22), (some (21, true)), .fieldA 1 (.tmp 1)⟩, ⟨(some 23), (some (21, true)), .load false 1 (.tmp 22)⟩, ⟨(some 24), (some (21, true)), .fieldA 0 (.tmp 1)⟩, ⟨(some 25), (some (21, true)), .load false 1 (.tmp 24)⟩, ⟨(some 26), (some (21, true)), .bin .andNot (.tmp 23) (.tmp 25)⟩, ⟨(some 27), (some (21, true)), .bin .eql (.tmp 26) (.const (.int .i64 0))⟩, ⟨(some 28), none, .pick (.tmp 21) (.tmp 27) (.const (.bool false))⟩, ⟨(some 2), none, .eff .set [.tmp 28]⟩])
 .ret))⟩
theorem x33_ok : yfunc Tryd.prog Tryd.f33 = some x33 := by kernel_rfl

/-- switchyard/lldp.name -/
def x34 : YF := ⟨23, [.tmp 2],
 (.seq (.ops [⟨(some 1), none, .box 23 (.tmp 0)⟩, ⟨(some 2), none, .eff .set [.const (.bool false)]⟩])
 (.seq (.ops [⟨(some 3), none, .fieldA 0 (.tmp 1)⟩, ⟨(some 4), none, .load false 1 (.tmp 3)⟩, ⟨(some 5), none, .bin .geq (.tmp 4) (.const (.int .i64 1))⟩, ⟨(some 6), none, .mov (.tmp 5)⟩, ⟨(some 7), (some (6, true)), .fieldA 0 (.tmp 1)⟩, ⟨(some 8), (some (6, true)), .load false 1 (.tmp 7)⟩, ⟨(some 9), (some (6, true)), .bin .leq (.tmp 8) (.const (.int .i64 7))⟩, ⟨(some 10), none, .pick (.tmp 6) (.tmp 9) (.const (.bool false))⟩, ⟨(some 11), none, .mov (.tmp 10)⟩, ⟨(some 12), (some (11, true)), .fieldA 1 (.tmp 1)⟩, ⟨(some 13), (some (11, true)), .load false 1 (.tmp 12)⟩, ⟨(some 14), (some (11, true)), .len true (.tmp 13)⟩, ⟨(some 15), (some (11, true)), .bin .geq (.tmp 14) (.const (.int .i64 1))⟩, ⟨(some 16), none, .pick (.tmp 11) (.tmp 15) (.const (.bool false))⟩, ⟨(some 17), none, .mov (.tmp 16)⟩, ⟨(some 18), (some (17, true)), .fieldA 1 (.tmp 1)⟩, ⟨(some 19), (some (17, true)), .load false 1 (.tmp 18)⟩, ⟨(some 20), (some (17, true)), .len true (.tmp 19)⟩, ⟨(some 21), (some (17, true)), .bin .leq (.tmp 20) (.const (.int .i64 255))⟩, ⟨(some 22), none, .pick (.tmp 17) (.tmp 21) (.const (.bool false))⟩, ⟨(some 2), none, .eff .set [.tmp 22]⟩])
 .ret))⟩
theorem x34_ok : yfunc Tryd.prog Tryd.f34 = some x34 := by kernel_rfl

/-- slices.ContainsFunc[[]switchyard/api.Manage,switchyard/api.Manage] -/
def x35 : YF := ⟨9, [.tmp 4],
 (.seq (.ops [⟨(some 4), none, .eff .set [.const (.bool false)]⟩])
 (.seq (.ops [⟨(some 5), none, .mov (.tmp 0)⟩, ⟨(some 6), none, .mov (.tmp 1)⟩, ⟨(some 7), none, .call 87 [.tmp 5, .tmp 6]⟩, ⟨(some 8), none, .bin .geq (.tmp 7) (.const (.int .i64 0))⟩, ⟨(some 4), none, .eff .set [.tmp 8]⟩])
 .ret))⟩
theorem x35_ok : yfunc Tryd.prog Tryd.f35 = some x35 := by kernel_rfl

/-- switchyard/lldp.Right$1 -/
def x36 : YF := ⟨6, [.tmp 2],
 (.seq (.ops [⟨(some 1), none, .box 113 (.tmp 0)⟩, ⟨(some 2), none, .eff .set [.const (.bool false)]⟩])
 (.seq (.ops [⟨(some 3), none, .load true 5 (.tmp 1)⟩, ⟨(some 4), none, .call 37 [.tmp 3]⟩, ⟨(some 5), none, .un .not (.tmp 4)⟩, ⟨(some 2), none, .eff .set [.tmp 5]⟩])
 .ret))⟩
theorem x36_ok : yfunc Tryd.prog Tryd.f36 = some x36 := by kernel_rfl

/-- switchyard/lldp.manage -/
def x37 : YF := ⟨53, [.tmp 2],
 (.seq (.ops [⟨(some 1), none, .box 113 (.tmp 0)⟩, ⟨(some 2), none, .eff .set [.const (.bool false)]⟩])
 (.seq (.ops [⟨(some 3), none, .fieldA 0 (.tmp 1)⟩, ⟨(some 4), none, .fieldA 0 (.tmp 3)⟩, ⟨(some 5), none, .load false 1 (.tmp 4)⟩, ⟨(some 6), none, .bin .geq (.tmp 5) (.const (.int .i64 0))⟩, ⟨(some 7), none, .mov (.tmp 6)⟩, ⟨(some 8), (some (7, true)), .fieldA 0 (.tmp 1)⟩, ⟨(some 9), (some (7, true)), .fieldA 0 (.tmp 8)⟩, ⟨(some 10), (some (7, true)), .load false 1 (.tmp 9)⟩, ⟨(some 11), (some (7, true)), .bin .leq (.tmp 10) (.const (.int .i64 255))⟩, ⟨(some 12), none, .pick (.tmp 7) (.tmp 11) (.const (.bool false))⟩, ⟨(some 13), none, .mov (.tmp 12)⟩, ⟨(some 14), (some (13, true)), .fieldA 0 (.tmp 1)⟩, ⟨(some 15), (some (13, true)), .fieldA 1 (.tmp 14)⟩, ⟨(some 16), (some (13, true)), .load false 1 (.tmp 15)⟩, ⟨(some 17), (some (13, true)), .len true (.tmp 16)⟩, ⟨(some 18), (some (13, true)), .bin .geq (.tmp 17) (.const (.int .i64 1))⟩, ⟨(some 19), none, .pick (.tmp 13) (.tmp 18) (.const (.bool false))⟩, ⟨(some 20), none, .mov (.tmp 19)⟩, ⟨(some 21), (some (20, true)), .fieldA 0 (.tmp 1)⟩, ⟨(some 22), (some (20, true)), .fieldA 1 (.tmp 21)⟩, ⟨(some 23), (some (20, true)), .load false 1 (.tmp 22)⟩, ⟨(some 24), (some (20, true)), .len true (.tmp 23)⟩, ⟨(some 25), (some (20, true)), .bin .leq (.tmp 24) (.const (.int .i64 31))⟩, ⟨(some 26), none, .pick (.tmp 20) (.tmp 25) (.const (.bool false))⟩, ⟨(some 27), none, .mov (.tmp 26)⟩, ⟨(some 28), (some (27, true)), .fieldA 2 (.tmp 1)⟩, ⟨(some 29), (some (27, true)), .load false 1 (.tmp 28)⟩, ⟨(some 30), (some (27, true)), .bin .geq (.tmp 29) (.const (.int .i64 1))⟩, ⟨(some 31), none, .pick (.tmp 27) (.tmp 30) (.const (.bool false))⟩, ⟨(some 32), none, .mov (.tmp 31)⟩, ⟨(some 33), (some (32, true)), .fieldA 2 (.tmp 1)⟩, ⟨(some 34), (some (32, true)), .load false 1 (.tmp 33)⟩, ⟨(some 35), (some (32, true)), .bin .leq (.tmp 34) (.const (.int .i64 3))⟩, ⟨(some 36), none, .pick (.tmp 32) (.tmp 35) (.const (.bool false))⟩, ⟨(some 37), none, .mov (.tmp 36)⟩, ⟨(some 38), (some (37, true)), .fieldA 3 (.tmp 1)⟩, ⟨(some 39), (some (37, true)), .load false 1 (.tmp 38)⟩, ⟨(some 40), (some (37, true)), .bin .geq (.tmp 39) (.const (.int .i64 0))⟩, ⟨(some 41), none, .pick (.tmp 37) (.tmp 40) (.const (.bool false))⟩, ⟨(some 42), none, .mov (.tmp 41)⟩, ⟨(some 43), (some (42, true)), .fieldA 3 (.tmp 1)⟩, ⟨(some 44), (some (42, true)), .load false 1 (.tmp 43)⟩, ⟨(some 45), (some (42, true)), .bin .lss (.tmp 44) (.const (.int .i64 4294967296))⟩, ⟨(some 46), none, .pick (.tmp 42) (.tmp 45) (.const (.bool false))⟩, ⟨(some 47), none, .mov (.tmp 46)⟩, ⟨(some 48), (some (47, true)), .fieldA 4 (.tmp 1)⟩, ⟨(some 49), (some (47, true)), .load false 1 (.tmp 48)⟩, ⟨(some 50), (some (47, true)), .len true (.tmp 49)⟩, ⟨(some 51), (some (47, true)), .bin .leq (.tmp 50) (.const (.int .i64 128))⟩, ⟨(some 52), none, .pick (.tmp 47) (.tmp 51) (.const (.bool false))⟩, ⟨(some 2), none, .eff .set [.tmp 52]⟩])
 .ret))⟩
theorem x37_ok : yfunc Tryd.prog Tryd.f37 = some x37 := by kernel_rfl

/-- slices.ContainsFunc[[]switchyard/api.Org,switchyard/api.Org] -/
def x38 : YF := ⟨9, [.tmp 4],
 (.seq (.ops [⟨(some 4), none, .eff .set [.const (.bool false)]⟩])
 (.seq (.ops [⟨(some 5), none, .mov (.tmp 0)⟩, ⟨(some 6), none, .mov (.tmp 1)⟩, ⟨(some 7), none, .call 88 [.tmp 5, .tmp 6]⟩, ⟨(some 8), none, .bin .geq (.tmp 7) (.const (.int .i64 0))⟩, ⟨(some 4), none, .eff .set [.tmp 8]⟩])
 .ret))⟩
theorem x38_ok : yfunc Tryd.prog Tryd.f38 = some x38 := by kernel_rfl

/-- switchyard/lldp.Right$2 -/
def x39 : YF := ⟨6, [.tmp 2],
 (.seq (.ops [⟨(some 1), none, .box 100 (.tmp 0)⟩, ⟨(some 2), none, .eff .set [.const (.bool false)]⟩])
 (.seq (.ops [⟨(some 3), none, .load true 3 (.tmp 1)⟩, ⟨(some 4), none, .call 40 [.tmp 3]⟩, ⟨(some 5), none, .un .not (.tmp 4)⟩, ⟨(some 2), none, .eff .set [.tmp 5]⟩])
 .ret))⟩
theorem x39_ok : yfunc Tryd.prog Tryd.f39 = some x39 := by kernel_rfl

/-- switchyard/lldp.org -/
def x40 : YF := ⟨27, [.tmp 2],
 (.seq (.ops [⟨(some 1), none, .box 100 (.tmp 0)⟩, ⟨(some 2), none, .eff .set [.const (.bool false)]⟩])
 (.seq (.ops [⟨(some 3), none, .fieldA 0 (.tmp 1)⟩, ⟨(some 4), none, .load false 1 (.tmp 3)⟩, ⟨(some 5), none, .bin .geq (.tmp 4) (.const (.int .i64 0))⟩, ⟨(some 6), none, .mov (.tmp 5)⟩, ⟨(some 7), (some (6, true)), .fieldA 0 (.tmp 1)⟩, ⟨(some 8), (some (6, true)), .load false 1 (.tmp 7)⟩, ⟨(some 9), (some (6, true)), .bin .lss (.tmp 8) (.const (.int .i64 16777216))⟩, ⟨(some 10), none, .pick (.tmp 6) (.tmp 9) (.const (.bool false))⟩, ⟨(some 11), none, .mov (.tmp 10)⟩, ⟨(some 12), (some (11, true)), .fieldA 1 (.tmp 1)⟩, ⟨(some 13), (some (11, true)), .load false 1 (.tmp 12)⟩, ⟨(some 14), (some (11, true)), .bin .geq (.tmp 13) (.const (.int .i64 0))⟩, ⟨(some 15), none, .pick (.tmp 11) (.tmp 14) (.const (.bool false))⟩, ⟨(some 16), none, .mov (.tmp 15)⟩, ⟨(some 17), (some (16, true)), .fieldA 1 (.tmp 1)⟩, ⟨(some 18), (some (16, true)), .load false 1 (.tmp 17)⟩, ⟨(some 19), (some (16, true)), .bin .leq (.tmp 18) (.const (.int .i64 255))⟩, ⟨(some 20), none, .pick (.tmp 16) (.tmp 19) (.const (.bool false))⟩, ⟨(some 21), none, .mov (.tmp 20)⟩, ⟨(some 22), (some (21, true)), .fieldA 2 (.tmp 1)⟩, ⟨(some 23), (some (21, true)), .load false 1 (.tmp 22)⟩, ⟨(some 24), (some (21, true)), .len true (.tmp 23)⟩, ⟨(some 25), (some (21, true)), .bin .leq (.tmp 24) (.const (.int .i64 507))⟩, ⟨(some 26), none, .pick (.tmp 21) (.tmp 25) (.const (.bool false))⟩, ⟨(some 2), none, .eff .set [.tmp 26]⟩])
 .ret))⟩
theorem x40_ok : yfunc Tryd.prog Tryd.f40 = some x40 := by kernel_rfl

/-- switchyard/switchyardref.nameRight -/
def x44 : YF := ⟨12, [.tmp 2],
 (.seq (.ops [⟨(some 1), none, .box 23 (.tmp 0)⟩, ⟨(some 2), none, .eff .set [.const (.bool false)]⟩])
 (.seq (.ops [⟨(some 3), none, .fieldA 0 (.tmp 1)⟩, ⟨(some 4), none, .load false 1 (.tmp 3)⟩, ⟨(some 5), none, .call 47 [.tmp 4, .const (.int .i64 1), .const (.int .i64 7)]⟩, ⟨(some 6), none, .mov (.tmp 5)⟩, ⟨(some 7), (some (6, true)), .fieldA 1 (.tmp 1)⟩, ⟨(some 8), (some (6, true)), .load false 1 (.tmp 7)⟩, ⟨(some 9), (some (6, true)), .len true (.tmp 8)⟩, ⟨(some 10), (some (6, true)), .call 47 [.tmp 9, .const (.int .i64 1), .const (.int .i64 255)]⟩, ⟨(some 11), none, .pick (.tmp 6) (.tmp 10) (.const (.bool false))⟩, ⟨(some 2), none, .eff .set [.tmp 11]⟩])
 .ret))⟩
theorem x44_ok : yfunc Tryd.prog Tryd.f44 = some x44 := by kernel_rfl

/-- switchyard/switchyardref.capsRight -/
def x45 : YF := ⟨32, [.tmp 2],
 (.seq (.ops [⟨(some 1), none, .box 111 (.tmp 0)⟩, ⟨(some 2), none, .eff .set [.const (.bool false)]⟩])
 (.seq (.seq (.ops [⟨(some 4), none, .fieldA 0 (.tmp 1)⟩, ⟨(some 5), none, .load false 1 (.tmp 4)⟩, ⟨(some 6), none, .call 47 [.tmp 5, .const (.int .i64 0), .const (.int .i64 65535)]⟩, ⟨(some 7), none, .un .not (.tmp 6)⟩, ⟨(some 8), none, .mov (.tmp 7)⟩, ⟨(some 9), (some (8, false)), .fieldA 1 (.tmp 1)⟩, ⟨(some 10), (some (8, false)), .load false 1 (.tmp 9)⟩, ⟨(some 11), (some (8, false)), .call 47 [.tmp 10, .const (.int .i64 0), .const (.int .i64 65535)]⟩, ⟨(some 12), (some (8, false)), .un .not (.tmp 11)⟩, ⟨(some 13), none, .pick (.tmp 8) (.const (.bool true)) (.tmp 12)⟩])
 (.cond (.tmp 13) (.seq (.ops [⟨(some 2), none, .eff .set [.const (.bool false)]⟩])
 .ret) .skip))
 (.seq (.seq (.ops [⟨(some 3), none, .eff .set [.const (.int .i64 1)]⟩])
 (.block 0 (.loop [false, false, true, true, false, false, false, false, false, false, false, false, false, false, true, true, true, true, true, true, true, true, true, true, true, true, true, true, true, true, true, true] (.seq (.seq (.ops [⟨(some 14), none, .mov (.tmp 3)⟩, ⟨(some 15), none, .bin .lss (.tmp 14) (.const (.int .i64 65536))⟩])
 (.cond (.tmp 15) .skip (.exit 0)))
 (.seq (.block 1 (.seq (.ops [⟨(some 18), none, .fieldA 1 (.tmp 1)⟩, ⟨(some 19), none, .load false 1 (.tmp 18)⟩, ⟨(some 20), none, .mov (.tmp 3)⟩, ⟨(some 21), none, .bin .quo (.tmp 19) (.tmp 20)⟩, ⟨(some 22), none, .bin .rem (.tmp 21) (.const (.int .i64 2))⟩, ⟨(some 23), none, .bin .eql (.tmp 22) (.const (.int .i64 1))⟩, ⟨(some 24), none, .mov (.tmp 23)⟩, ⟨(some 25), (some (24, true)), .fieldA 0 (.tmp 1)⟩, ⟨(some 26), (some (24, true)), .load false 1 (.tmp 25)⟩, ⟨(some 27), (some (24, true)), .mov (.tmp 3)⟩, ⟨(some 28), (some (24, true)), .bin .quo (.tmp 26) (.tmp 27)⟩, ⟨(some 29), (some (24, true)), .bin .rem (.tmp 28) (.const (.int .i64 2))⟩, ⟨(some 30), (some (24, true)), .bin .eql (.tmp 29) (.const (.int .i64 0))⟩, ⟨(some 31), none, .pick (.tmp 24) (.tmp 30) (.const (.bool false))⟩])
 (.cond (.tmp 31) (.seq (.ops [⟨(some 2), none, .eff .set [.const (.bool false)]⟩])
 .ret) .skip)))
 (.ops [⟨(some 16), none, .mov (.tmp 3)⟩, ⟨(some 17), none, .bin .mul (.tmp 16) (.const (.int .i64 2))⟩, ⟨(some 3), none, .eff .set [.tmp 17]⟩]))))))
 (.seq (.ops [⟨(some 2), none, .eff .set [.const (.bool true)]⟩])
 .ret))))⟩
theorem x45_ok : yfunc Tryd.prog Tryd.f45 = some x45 := by kernel_rfl

/-- switchyard/switchyardref.manageRight -/
def x46 : YF := ⟨30, [.tmp 2],
 (.seq (.ops [⟨(some 1), none, .box 113 (.tmp 0)⟩, ⟨(some 2), none, .eff .set [.const (.bool false)]⟩])
 (.seq (.ops [⟨(some 3), none, .fieldA 0 (.tmp 1)⟩, ⟨(some 4), none, .fieldA 0 (.tmp 3)⟩, ⟨(some 5), none, .load false 1 (.tmp 4)⟩, ⟨(some 6), none, .call 47 [.tmp 5, .const (.int .i64 0), .const (.int .i64 255)]⟩, ⟨(some 7), none, .mov (.tmp 6)⟩, ⟨(some 8), (some (7, true)), .fieldA 0 (.tmp 1)⟩, ⟨(some 9), (some (7, true)), .fieldA 1 (.tmp 8)⟩, ⟨(some 10), (some (7, true)), .load false 1 (.tmp 9)⟩, ⟨(some 11), (some (7, true)), .len true (.tmp 10)⟩, ⟨(some 12), (some (7, true)), .call 47 [.tmp 11, .const (.int .i64 1), .const (.int .i64 31)]⟩, ⟨(some 13), none, .pick (.tmp 7) (.tmp 12) (.const (.bool false))⟩, ⟨(some 14), none, .mov (.tmp 13)⟩, ⟨(some 15), (some (14, true)), .fieldA 2 (.tmp 1)⟩, ⟨(some 16), (some (14, true)), .load false 1 (.tmp 15)⟩, ⟨(some 17), (some (14, true)), .call 47 [.tmp 16, .const (.int .i64 1), .const (.int .i64 3)]⟩, ⟨(some 18), none, .pick (.tmp 14) (.tmp 17) (.const (.bool false))⟩, ⟨(some 19), none, .mov (.tmp 18)⟩, ⟨(some 20), (some (19, true)), .fieldA 3 (.tmp 1)⟩, ⟨(some 21), (some (19, true)), .load false 1 (.tmp 20)⟩, ⟨(some 22), (some (19, true)), .call 47 [.tmp 21, .const (.int .i64 0), .const (.int .i64 4294967295)]⟩, ⟨(some 23), none, .pick (.tmp 19) (.tmp 22) (.const (.bool false))⟩, ⟨(some 24), none, .mov (.tmp 23)⟩, ⟨(some 25), (some (24, true)), .fieldA 4 (.tmp 1)⟩, ⟨(some 26), (some (24, true)), .load false 1 (.tmp 25)⟩, ⟨(some 27), (some (24, true)), .len true (.tmp 26)⟩, ⟨(some 28), (some (24, true)), .bin .leq (.tmp 27) (.const (.int .i64 128))⟩, ⟨(some 29), none, .pick (.tmp 24) (.tmp 28) (.const (.bool false))⟩, ⟨(some 2), none, .eff .set [.tmp 29]⟩])
 .ret))⟩
theorem x46_ok : yfunc Tryd.prog Tryd.f46 = some x46 := by kernel_rfl

/-- switchyard/switchyardref.orgRight -/
def x80 : YF := ⟨17, [.tmp 2],
 (.seq (.ops [⟨(some 1), none, .box 100 (.tmp 0)⟩, ⟨(some 2), none, .eff .set [.const (.bool false)]⟩])
 (.seq (.ops [⟨(some 3), none, .fieldA 0 (.tmp 1)⟩, ⟨(some 4), none, .load false 1 (.tmp 3)⟩, ⟨(some 5), none, .call 47 [.tmp 4, .const (.int .i64 0), .const (.int .i64 16777215)]⟩, ⟨(some 6), none, .mov (.tmp 5)⟩, ⟨(some 7), (some (6, true)), .fieldA 1 (.tmp 1)⟩, ⟨(some 8), (some (6, true)), .load false 1 (.tmp 7)⟩, ⟨(some 9), (some (6, true)), .call 47 [.tmp 8, .const (.int .i64 0), .const (.int .i64 255)]⟩, ⟨(some 10), none, .pick (.tmp 6) (.tmp 9) (.const (.bool false))⟩, ⟨(some 11), none, .mov (.tmp 10)⟩, ⟨(some 12), (some (11, true)), .fieldA 2 (.tmp 1)⟩, ⟨(some 13), (some (11, true)), .load false 1 (.tmp 12)⟩, ⟨(some 14), (some (11, true)), .len true (.tmp 13)⟩, ⟨(some 15), (some (11, true)), .bin .leq (.tmp 14) (.const (.int .i64 507))⟩, ⟨(some 16), none, .pick (.tmp 11) (.tmp 15) (.const (.bool false))⟩, ⟨(some 2), none, .eff .set [.tmp 16]⟩])
 .ret))⟩
theorem x80_ok : yfunc Tryd.prog Tryd.f80 = some x80 := by kernel_rfl

/-- slices.IndexFunc[[]switchyard/api.Manage,switchyard/api.Manage] -/
def x87 : YF := ⟨19, [.tmp 4],
 (.seq (.ops [⟨(some 4), none, .eff .set [.const (.int .i64 0)]⟩])
 (.seq (.seq (.ops [⟨(some 6), none, .mov (.tmp 0)⟩, ⟨(some 7), none, .len false (.tmp 6)⟩, ⟨(some 8), none, .mov (.const (.int .i64 0))⟩])
 (.block 0 (.loop [false, false, false, false, true, true, false, false, true, true, true, true, true, true, true, true, true, true, true] (.seq (.ops [⟨(some 9), none, .bin .lss (.tmp 8) (.tmp 7)⟩])
 (.seq (.cond (.tmp 9) .skip (.exit 0))
 (.seq (.block 1 (.seq (.ops [⟨(some 10), none, .mov (.tmp 8)⟩, ⟨(some 5), none, .eff .set [.tmp 10]⟩])
 (.seq (.ops [⟨(some 11), none, .mov (.tmp 1)⟩, ⟨(some 12), none, .mov (.tmp 0)⟩, ⟨(some 13), none, .mov (.tmp 5)⟩, ⟨(some 14), none, .indexS 5 (.tmp 12) (.tmp 13)⟩, ⟨(some 15), none, .load true 5 (.tmp 14)⟩, ⟨(some 16), none, .callv (.tmp 11) [.tmp 15]⟩])
 (.cond (.tmp 16) (.seq (.ops [⟨(some 17), none, .mov (.tmp 5)⟩, ⟨(some 4), none, .eff .set [.tmp 17]⟩])
 .ret) .skip))))
 (.ops [⟨(some 18), none, .bin .add (.tmp 8) (.const (.int .i64 1))⟩, ⟨(some 8), none, .mov (.tmp 18)⟩])))))))
 (.seq (.ops [⟨(some 4), none, .eff .set [.const (.int .i64 (-1))]⟩])
 .ret)))⟩
theorem x87_ok : yfunc Tryd.prog Tryd.f87 = some x87 := by kernel_rfl

/-- slices.IndexFunc[[]switchyard/api.Org,switchyard/api.Org] -/
def x88 : YF := ⟨19, [.tmp 4],
 (.seq (.ops [⟨(some 4), none, .eff .set [.const (.int .i64 0)]⟩])
 (.seq (.seq (.ops [⟨(some 6), none, .mov (.tmp 0)⟩, ⟨(some 7), none, .len false (.tmp 6)⟩, ⟨(some 8), none, .mov (.const (.int .i64 0))⟩])
 (.block 0 (.loop [false, false, false, false, true, true, false, false, true, true, true, true, true, true, true, true, true, true, true] (.seq (.ops [⟨(some 9), none, .bin .lss (.tmp 8) (.tmp 7)⟩])
 (.seq (.cond (.tmp 9) .skip (.exit 0))
 (.seq (.block 1 (.seq (.ops [⟨(some 10), none, .mov (.tmp 8)⟩, ⟨(some 5), none, .eff .set [.tmp 10]⟩])
 (.seq (.ops [⟨(some 11), none, .mov (.tmp 1)⟩, ⟨(some 12), none, .mov (.tmp 0)⟩, ⟨(some 13), none, .mov (.tmp 5)⟩, ⟨(some 14), none, .indexS 3 (.tmp 12) (.tmp 13)⟩, ⟨(some 15), none, .load true 3 (.tmp 14)⟩, ⟨(some 16), none, .callv (.tmp 11) [.tmp 15]⟩])
 (.cond (.tmp 16) (.seq (.ops [⟨(some 17), none, .mov (.tmp 5)⟩, ⟨(some 4), none, .eff .set [.tmp 17]⟩])
 .ret) .skip))))
 (.ops [⟨(some 18), none, .bin .add (.tmp 8) (.const (.int .i64 1))⟩, ⟨(some 8), none, .mov (.tmp 18)⟩])))))))
 (.seq (.ops [⟨(some 4), none, .eff .set [.const (.int .i64 (-1))]⟩])
 .ret)))⟩
theorem x88_ok : yfunc Tryd.prog Tryd.f88 = some x88 := by kernel_rfl
end Go.Proofs.YtfianfpmnglfnaaDoor
