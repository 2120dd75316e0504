/- Functions of this seat with the type tables looked up; each checked by the kernel. Conditions: none. -/
import Derived.Test.YtdbkceojpeboeaaDoorProg
import Derived.Test.YtdbkceojpeboeaaDoorBaseC
namespace Go.Proofs.YtdbkceojpeboeaaDoor
open Go.Sx
set_option maxRecDepth 100000
/-- switchyard/switchyardref.sine -/
def x17 : YF := ⟨17, [.tmp 2],
 (.seq (.ops [⟨(some 2), none, .eff .set [.const (.int .u32 0)]⟩])
 (.seq (.ops [⟨(some 6), none, .mov (.tmp 0)⟩, ⟨(some 7), none, .bin .mul (.const (.int .i64 8)) (.tmp 6)⟩, ⟨(some 8), none, .mov (.tmp 0)⟩, ⟨(some 9), none, .bin .mul (.const (.int .i64 8)) (.tmp 8)⟩, ⟨(some 10), none, .bin .add (.tmp 9) (.const (.int .i64 8))⟩, ⟨(some 11), none, .more (.slcT true true) [.const (.string ⟨#[100, 55, 54, 97, 97, 52, 55, 56, 101, 56, 99, 55, 98, 55, 53, 54, 50, 52, 50, 48, 55, 48, 100, 98, 99, 49, 98, 100, 99, 101, 101, 101, 102, 53, 55, 99, 48, 102, 97, 102, 52, 55, 56, 55, 99, 54, 50, 97, 97, 56, 51, 48, 52, 54, 49, 51, 102, 100, 52, 54, 57, 53, 48, 49, 54, 57, 56, 48, 57, 56, 100, 56, 56, 98, 52, 52, 102, 55, 97, 102, 102, 102, 102, 102, 53, 98, 98, 49, 56, 57, 53, 99, 100, 55, 98, 101, 54, 98, 57, 48, 49, 49, 50, 50, 102, 100, 57, 56, 55, 49, 57, 51, 97, 54, 55, 57, 52, 51, 56, 101, 52, 57, 98, 52, 48, 56, 50, 49, 102, 54, 49, 101, 50, 53, 54, 50, 99, 48, 52, 48, 98, 51, 52, 48, 50, 54, 53, 101, 53, 97, 53, 49, 101, 57, 98, 54, 99, 55, 97, 97, 100, 54, 50, 102, 49, 48, 53, 100, 48, 50, 52, 52, 49, 52, 53, 51, 100, 56, 97, 49, 101, 54, 56, 49, 101, 55, 100, 51, 102, 98, 99, 56, 50, 49, 101, 49, 99, 100, 101, 54, 99, 51, 51, 55, 48, 55, 100, 54, 102, 52, 100, 53, 48, 100, 56, 55, 52, 53, 53, 97, 49, 52, 101, 100, 97, 57, 101, 51, 101, 57, 48, 53, 102, 99, 101, 102, 97, 51, 102, 56, 54, 55, 54, 102, 48, 50, 100, 57, 56, 100, 50, 97, 52, 99, 56, 97, 102, 102, 102, 97, 51, 57, 52, 50, 56, 55, 55, 49, 102, 54, 56, 49, 54, 100, 57, 100, 54, 49, 50, 50, 102, 100, 101, 53, 51, 56, 48, 99, 97, 52, 98, 101, 101, 97, 52, 52, 52, 98, 100, 101, 99, 102, 97, 57, 102, 54, 98, 98, 52, 98, 54, 48, 98, 101, 98, 102, 98, 99, 55, 48, 50, 56, 57, 98, 55, 101, 99, 54, 101, 97, 97, 49, 50, 55, 102, 97, 100, 52, 101, 102, 51, 48, 56, 53, 48, 52, 56, 56, 49, 100, 48, 53, 100, 57, 100, 52, 100, 48, 51, 57, 101, 54, 100, 98, 57, 57, 101, 53, 49, 102, 97, 50, 55, 99, 102, 56, 99, 52, 97, 99, 53, 54, 54, 53, 102, 52, 50, 57, 50, 50, 52, 52, 52, 51, 50, 97, 102, 102, 57, 55, 97, 98, 57, 52, 50, 51, 97, 55, 102, 99, 57, 51, 97, 48, 51, 57, 54, 53, 53, 98, 53, 57, 99, 51, 56, 102, 48, 99, 99, 99, 57, 50, 102, 102, 101, 102, 102, 52, 55, 100, 56, 53, 56, 52, 53, 100, 100, 49, 54, 102, 97, 56, 55, 101, 52, 102, 102, 101, 50, 99, 101, 54, 101, 48, 97, 51, 48, 49, 52, 51, 49, 52, 52, 101, 48, 56, 49, 49, 97, 49, 102, 55, 53, 51, 55, 101, 56, 50, 98, 100, 51, 97, 102, 50, 51, 53, 50, 97, 100, 55, 100, 50, 98, 98, 101, 98, 56, 54, 100, 51, 57, 49]⟩), .tmp 7, .tmp 10]⟩, ⟨(some 12), none, .call 33 [.tmp 11, .const (.int .i64 16), .const (.int .i64 32)]⟩, ⟨(some 5), none, .mov (.tmp 12)⟩, ⟨(some 13), none, .ext (.tmp 5) 0⟩, ⟨(some 14), none, .ext (.tmp 5) 1⟩, ⟨(some 3), none, .eff .set [.tmp 13]⟩, ⟨(some 4), none, .eff .set [.tmp 14]⟩])
 (.seq (.ops [⟨(some 15), none, .mov (.tmp 3)⟩, ⟨(some 16), none, .conv .u32 (.tmp 15)⟩, ⟨(some 2), none, .eff .set [.tmp 16]⟩])
 .ret)))⟩
theorem x17_ok : yfunc Tryd.prog Tryd.f17 = some x17 := by kernel_rfl

/-- strconv.ParseUint -/
def x33 : YF := ⟨26, [.tmp 6, .tmp 7],
 (.seq (.ops [⟨(some 6), none, .eff .set [.const (.int .u64 0)]⟩, ⟨(some 7), none, .eff .set [.const (.nilIface)]⟩])
 (.seq (.ops [⟨(some 11), none, .mov (.tmp 0)⟩, ⟨(some 12), none, .mov (.tmp 1)⟩, ⟨(some 13), none, .mov (.tmp 2)⟩, ⟨(some 14), none, .call 42 [.tmp 11, .tmp 12, .tmp 13]⟩, ⟨(some 10), none, .mov (.tmp 14)⟩, ⟨(some 15), none, .ext (.tmp 10) 0⟩, ⟨(some 16), none, .ext (.tmp 10) 1⟩, ⟨(some 8), none, .eff .set [.tmp 15]⟩, ⟨(some 9), none, .eff .set [.tmp 16]⟩])
 (.seq (.seq (.ops [⟨(some 17), none, .mov (.tmp 9)⟩, ⟨(some 18), none, .more (.nilI true) [.tmp 17]⟩])
 (.cond (.tmp 18) (.seq (.ops [⟨(some 19), none, .mov (.tmp 8)⟩, ⟨(some 20), none, .mov (.tmp 0)⟩, ⟨(some 21), none, .mov (.tmp 1)⟩, ⟨(some 22), none, .mov (.tmp 2)⟩, ⟨(some 23), none, .mov (.tmp 9)⟩, ⟨(some 24), none, .call 43 [.const (.string ⟨#[80, 97, 114, 115, 101, 85, 105, 110, 116]⟩), .tmp 20, .tmp 21, .tmp 22, .tmp 23]⟩, ⟨(some 6), none, .eff .set [.tmp 19]⟩, ⟨(some 7), none, .eff .set [.tmp 24]⟩])
 .ret) .skip))
 (.seq (.ops [⟨(some 25), none, .mov (.tmp 8)⟩, ⟨(some 6), none, .eff .set [.tmp 25]⟩, ⟨(some 7), none, .eff .set [.const (.nilIface)]⟩])
 .ret))))⟩
theorem x33_ok : yfunc Tryd.prog Tryd.f33 = some x33 := by kernel_rfl

/-- internal/strconv.ParseUint -/
def x42 : YF := ⟨172, [.tmp 6, .tmp 7],
 (.seq (.ops [⟨(some 6), none, .eff .set [.const (.int .u64 0)]⟩, ⟨(some 7), none, .eff .set [.const (.nilIface)]⟩])
 (.seq (.seq (.ops [⟨(some 18), none, .mov (.tmp 0)⟩, ⟨(some 19), none, .bin .eql (.tmp 18) (.const (.string ⟨#[]⟩))⟩])
 (.cond (.tmp 19) (.seq (.ops [⟨(some 20), none, .mkI 92 (.const (.int .i64 2))⟩, ⟨(some 6), none, .eff .set [.const (.int .u64 0)]⟩, ⟨(some 7), none, .eff .set [.tmp 20]⟩])
 .ret) .skip))
 (.seq (.ops [⟨(some 21), none, .mov (.tmp 1)⟩, ⟨(some 22), none, .bin .eql (.tmp 21) (.const (.int .i64 0))⟩, ⟨(some 8), none, .eff .set [.tmp 22]⟩])
 (.seq (.ops [⟨(some 23), none, .mov (.tmp 0)⟩, ⟨(some 9), none, .eff .set [.tmp 23]⟩])
 (.seq (.block 0 (.seq (.ops [⟨(some 26), none, .mov (.tmp 1)⟩, ⟨(some 27), none, .bin .leq (.const (.int .i64 2)) (.tmp 26)⟩, ⟨(some 28), none, .mov (.tmp 27)⟩, ⟨(some 29), (some (28, true)), .mov (.tmp 1)⟩, ⟨(some 30), (some (28, true)), .bin .leq (.tmp 29) (.const (.int .i64 36))⟩, ⟨(some 31), none, .pick (.tmp 28) (.tmp 30) (.const (.bool false))⟩, ⟨(some 25), none, .eff .set [.tmp 31]⟩])
 (.cond (.tmp 25) .skip (.seq (.ops [⟨(some 33), none, .mov (.tmp 1)⟩, ⟨(some 34), none, .bin .eql (.tmp 33) (.const (.int .i64 0))⟩, ⟨(some 32), none, .eff .set [.tmp 34]⟩])
 (.cond (.tmp 32) (.seq (.ops [⟨(some 1), none, .eff .set [.const (.int .i64 10)]⟩])
 (.seq (.ops [⟨(some 35), none, .mov (.tmp 0)⟩, ⟨(some 36), none, .indexStr (.tmp 35) (.const (.int .i64 0))⟩, ⟨(some 37), none, .bin .eql (.tmp 36) (.const (.int .u8 48))⟩])
 (.cond (.tmp 37) (.block 1 (.seq (.ops [⟨(some 41), none, .mov (.tmp 0)⟩, ⟨(some 42), none, .len true (.tmp 41)⟩, ⟨(some 43), none, .bin .geq (.tmp 42) (.const (.int .i64 3))⟩, ⟨(some 44), none, .mov (.tmp 43)⟩, ⟨(some 45), (some (44, true)), .mov (.tmp 0)⟩, ⟨(some 46), (some (44, true)), .indexStr (.tmp 45) (.const (.int .i64 1))⟩, ⟨(some 47), (some (44, true)), .call 47 [.tmp 46]⟩, ⟨(some 48), (some (44, true)), .bin .eql (.tmp 47) (.const (.int .u8 98))⟩, ⟨(some 49), none, .pick (.tmp 44) (.tmp 48) (.const (.bool false))⟩, ⟨(some 40), none, .eff .set [.tmp 49]⟩])
 (.cond (.tmp 40) (.seq (.ops [⟨(some 1), none, .eff .set [.const (.int .i64 2)]⟩])
 (.ops [⟨(some 50), none, .mov (.tmp 0)⟩, ⟨(some 51), none, .more (.slcT true false) [.tmp 50, .const (.int .i64 2)]⟩, ⟨(some 0), none, .eff .set [.tmp 51]⟩])) (.seq (.ops [⟨(some 53), none, .mov (.tmp 0)⟩, ⟨(some 54), none, .len true (.tmp 53)⟩, ⟨(some 55), none, .bin .geq (.tmp 54) (.const (.int .i64 3))⟩, ⟨(some 56), none, .mov (.tmp 55)⟩, ⟨(some 57), (some (56, true)), .mov (.tmp 0)⟩, ⟨(some 58), (some (56, true)), .indexStr (.tmp 57) (.const (.int .i64 1))⟩, ⟨(some 59), (some (56, true)), .call 47 [.tmp 58]⟩, ⟨(some 60), (some (56, true)), .bin .eql (.tmp 59) (.const (.int .u8 111))⟩, ⟨(some 61), none, .pick (.tmp 56) (.tmp 60) (.const (.bool false))⟩, ⟨(some 52), none, .eff .set [.tmp 61]⟩])
 (.cond (.tmp 52) (.seq (.ops [⟨(some 1), none, .eff .set [.const (.int .i64 8)]⟩])
 (.ops [⟨(some 62), none, .mov (.tmp 0)⟩, ⟨(some 63), none, .more (.slcT true false) [.tmp 62, .const (.int .i64 2)]⟩, ⟨(some 0), none, .eff .set [.tmp 63]⟩])) (.seq (.ops [⟨(some 65), none, .mov (.tmp 0)⟩, ⟨(some 66), none, .len true (.tmp 65)⟩, ⟨(some 67), none, .bin .geq (.tmp 66) (.const (.int .i64 3))⟩, ⟨(some 68), none, .mov (.tmp 67)⟩, ⟨(some 69), (some (68, true)), .mov (.tmp 0)⟩, ⟨(some 70), (some (68, true)), .indexStr (.tmp 69) (.const (.int .i64 1))⟩, ⟨(some 71), (some (68, true)), .call 47 [.tmp 70]⟩, ⟨(some 72), (some (68, true)), .bin .eql (.tmp 71) (.const (.int .u8 120))⟩, ⟨(some 73), none, .pick (.tmp 68) (.tmp 72) (.const (.bool false))⟩, ⟨(some 64), none, .eff .set [.tmp 73]⟩])
 (.cond (.tmp 64) (.seq (.ops [⟨(some 1), none, .eff .set [.const (.int .i64 16)]⟩])
 (.ops [⟨(some 74), none, .mov (.tmp 0)⟩, ⟨(some 75), none, .more (.slcT true false) [.tmp 74, .const (.int .i64 2)]⟩, ⟨(some 0), none, .eff .set [.tmp 75]⟩])) (.seq (.ops [⟨(some 1), none, .eff .set [.const (.int .i64 8)]⟩])
 (.ops [⟨(some 38), none, .mov (.tmp 0)⟩, ⟨(some 39), none, .more (.slcT true false) [.tmp 38, .const (.int .i64 1)]⟩, ⟨(some 0), none, .eff .set [.tmp 39]⟩]))))))))) .skip))) (.seq (.ops [⟨(some 24), none, .mkI 92 (.const (.int .i64 3))⟩, ⟨(some 6), none, .eff .set [.const (.int .u64 0)]⟩, ⟨(some 7), none, .eff .set [.tmp 24]⟩])
 .ret))))))
 (.seq (.seq (.ops [⟨(some 76), none, .mov (.tmp 2)⟩, ⟨(some 77), none, .bin .eql (.tmp 76) (.const (.int .i64 0))⟩])
 (.cond (.tmp 77) (.ops [⟨(some 2), none, .eff .set [.const (.int .i64 64)]⟩]) (.seq (.ops [⟨(some 78), none, .mov (.tmp 2)⟩, ⟨(some 79), none, .bin .lss (.tmp 78) (.const (.int .i64 0))⟩, ⟨(some 80), none, .mov (.tmp 79)⟩, ⟨(some 81), (some (80, false)), .mov (.tmp 2)⟩, ⟨(some 82), (some (80, false)), .bin .gtr (.tmp 81) (.const (.int .i64 64))⟩, ⟨(some 83), none, .pick (.tmp 80) (.const (.bool true)) (.tmp 82)⟩])
 (.cond (.tmp 83) (.seq (.ops [⟨(some 84), none, .mkI 92 (.const (.int .i64 4))⟩, ⟨(some 6), none, .eff .set [.const (.int .u64 0)]⟩, ⟨(some 7), none, .eff .set [.tmp 84]⟩])
 .ret) .skip))))
 (.seq (.ops [⟨(some 10), none, .eff .set [.const (.int .u64 0)]⟩])
 (.seq (.seq (.ops [⟨(some 85), none, .mov (.tmp 1)⟩])
 (.block 2 (.seq (.ops [⟨(some 91), none, .bin .eql (.tmp 85) (.const (.int .i64 10))⟩, ⟨(some 90), none, .eff .set [.tmp 91]⟩])
 (.cond (.tmp 90) (.ops [⟨(some 10), none, .eff .set [.const (.int .u64 1844674407370955162)]⟩]) (.seq (.ops [⟨(some 93), none, .bin .eql (.tmp 85) (.const (.int .i64 16))⟩, ⟨(some 92), none, .eff .set [.tmp 93]⟩])
 (.cond (.tmp 92) (.ops [⟨(some 10), none, .eff .set [.const (.int .u64 1152921504606846976)]⟩]) (.ops [⟨(some 86), none, .mov (.tmp 1)⟩, ⟨(some 87), none, .conv .u64 (.tmp 86)⟩, ⟨(some 88), none, .bin .quo (.const (.int .u64 18446744073709551615)) (.tmp 87)⟩, ⟨(some 89), none, .bin .add (.tmp 88) (.const (.int .u64 1))⟩, ⟨(some 10), none, .eff .set [.tmp 89]⟩])))))))
 (.seq (.ops [⟨(some 94), none, .mov (.tmp 2)⟩, ⟨(some 95), none, .conv .u64 (.tmp 94)⟩, ⟨(some 96), none, .bin .shl (.const (.int .u64 1)) (.tmp 95)⟩, ⟨(some 97), none, .bin .sub (.tmp 96) (.const (.int .u64 1))⟩, ⟨(some 11), none, .eff .set [.tmp 97]⟩])
 (.seq (.ops [⟨(some 12), none, .eff .set [.const (.bool false)]⟩])
 (.seq (.ops [⟨(some 13), none, .eff .set [.const (.int .u64 0)]⟩])
 (.seq (.seq (.ops [⟨(some 98), none, .mov (.tmp 0)⟩, ⟨(some 99), none, .prim (.convert 9 38 (.tmp 98)) [.tmp 98]⟩, ⟨(some 100), none, .len false (.tmp 99)⟩, ⟨(some 101), none, .mov (.const (.int .i64 0))⟩])
 (.block 3 (.loop [false, false, false, false, false, false, true, true, false, false, false, false, true, true, false, true, true, true, false, false, false, false, false, false, false, false, false, false, false, false, false, false, false, false, false, false, false, false, false, false, false, false, false, false, false, false, false, false, false, false, false, false, false, false, false, false, false, false, false, false, false, false, false, false, false, false, false, false, false, false, false, false, false, false, false, false, false, false, false, false, false, false, false, false, false, false, false, false, false, false, false, false, false, false, false, false, false, false, false, false, false, true, true, true, true, true, true, true, true, true, true, true, true, true, true, true, true, true, true, true, true, true, true, true, true, true, true, true, true, true, true, true, true, true, true, true, true, true, true, true, true, true, true, true, true, true, true, true, true, true, true, true, true, true, true, true, true, true, true, true, true, true, true, true] (.seq (.ops [⟨(some 102), none, .bin .lss (.tmp 101) (.tmp 100)⟩])
 (.seq (.cond (.tmp 102) .skip (.exit 3))
 (.seq (.block 4 (.seq (.ops [⟨(some 103), none, .indexS 1 (.tmp 99) (.tmp 101)⟩, ⟨(some 104), none, .load false 1 (.tmp 103)⟩, ⟨(some 15), none, .eff .set [.tmp 104]⟩])
 (.seq (.ops [⟨(some 16), none, .eff .set [.const (.int .u8 0)]⟩])
 (.seq (.block 5 (.seq (.ops [⟨(some 107), none, .mov (.tmp 15)⟩, ⟨(some 108), none, .bin .eql (.tmp 107) (.const (.int .u8 95))⟩, ⟨(some 109), none, .mov (.tmp 108)⟩, ⟨(some 110), (some (109, true)), .mov (.tmp 8)⟩, ⟨(some 111), none, .pick (.tmp 109) (.tmp 110) (.const (.bool false))⟩, ⟨(some 106), none, .eff .set [.tmp 111]⟩])
 (.cond (.tmp 106) (.seq (.ops [⟨(some 12), none, .eff .set [.const (.bool true)]⟩])
 (.exit 4)) (.seq (.ops [⟨(some 113), none, .mov (.tmp 15)⟩, ⟨(some 114), none, .bin .leq (.const (.int .u8 48)) (.tmp 113)⟩, ⟨(some 115), none, .mov (.tmp 114)⟩, ⟨(some 116), (some (115, true)), .mov (.tmp 15)⟩, ⟨(some 117), (some (115, true)), .bin .leq (.tmp 116) (.const (.int .u8 57))⟩, ⟨(some 118), none, .pick (.tmp 115) (.tmp 117) (.const (.bool false))⟩, ⟨(some 112), none, .eff .set [.tmp 118]⟩])
 (.cond (.tmp 112) (.ops [⟨(some 119), none, .mov (.tmp 15)⟩, ⟨(some 120), none, .bin .sub (.tmp 119) (.const (.int .u8 48))⟩, ⟨(some 16), none, .eff .set [.tmp 120]⟩]) (.seq (.ops [⟨(some 122), none, .mov (.tmp 15)⟩, ⟨(some 123), none, .call 47 [.tmp 122]⟩, ⟨(some 124), none, .bin .leq (.const (.int .u8 97)) (.tmp 123)⟩, ⟨(some 125), none, .mov (.tmp 124)⟩, ⟨(some 126), (some (125, true)), .mov (.tmp 15)⟩, ⟨(some 127), (some (125, true)), .call 47 [.tmp 126]⟩, ⟨(some 128), (some (125, true)), .bin .leq (.tmp 127) (.const (.int .u8 122))⟩, ⟨(some 129), none, .pick (.tmp 125) (.tmp 128) (.const (.bool false))⟩, ⟨(some 121), none, .eff .set [.tmp 129]⟩])
 (.cond (.tmp 121) (.ops [⟨(some 130), none, .mov (.tmp 15)⟩, ⟨(some 131), none, .call 47 [.tmp 130]⟩, ⟨(some 132), none, .bin .sub (.tmp 131) (.const (.int .u8 97))⟩, ⟨(some 133), none, .bin .add (.tmp 132) (.const (.int .u8 10))⟩, ⟨(some 16), none, .eff .set [.tmp 133]⟩]) (.seq (.ops [⟨(some 105), none, .mkI 92 (.const (.int .i64 2))⟩, ⟨(some 6), none, .eff .set [.const (.int .u64 0)]⟩, ⟨(some 7), none, .eff .set [.tmp 105]⟩])
 .ret))))))))
 (.seq (.seq (.ops [⟨(some 134), none, .mov (.tmp 16)⟩, ⟨(some 135), none, .mov (.tmp 1)⟩, ⟨(some 136), none, .conv .u8 (.tmp 135)⟩, ⟨(some 137), none, .bin .geq (.tmp 134) (.tmp 136)⟩])
 (.cond (.tmp 137) (.seq (.ops [⟨(some 138), none, .mkI 92 (.const (.int .i64 2))⟩, ⟨(some 6), none, .eff .set [.const (.int .u64 0)]⟩, ⟨(some 7), none, .eff .set [.tmp 138]⟩])
 .ret) .skip))
 (.seq (.seq (.ops [⟨(some 139), none, .mov (.tmp 13)⟩, ⟨(some 140), none, .mov (.tmp 10)⟩, ⟨(some 141), none, .bin .geq (.tmp 139) (.tmp 140)⟩])
 (.cond (.tmp 141) (.seq (.ops [⟨(some 142), none, .mov (.tmp 11)⟩, ⟨(some 143), none, .mkI 92 (.const (.int .i64 1))⟩, ⟨(some 6), none, .eff .set [.tmp 142]⟩, ⟨(some 7), none, .eff .set [.tmp 143]⟩])
 .ret) .skip))
 (.seq (.ops [⟨(some 144), none, .mov (.tmp 13)⟩, ⟨(some 145), none, .mov (.tmp 1)⟩, ⟨(some 146), none, .conv .u64 (.tmp 145)⟩, ⟨(some 147), none, .bin .mul (.tmp 144) (.tmp 146)⟩, ⟨(some 13), none, .eff .set [.tmp 147]⟩])
 (.seq (.ops [⟨(some 148), none, .mov (.tmp 13)⟩, ⟨(some 149), none, .mov (.tmp 16)⟩, ⟨(some 150), none, .conv .u64 (.tmp 149)⟩, ⟨(some 151), none, .bin .add (.tmp 148) (.tmp 150)⟩, ⟨(some 17), none, .eff .set [.tmp 151]⟩])
 (.seq (.seq (.ops [⟨(some 152), none, .mov (.tmp 17)⟩, ⟨(some 153), none, .mov (.tmp 13)⟩, ⟨(some 154), none, .bin .lss (.tmp 152) (.tmp 153)⟩, ⟨(some 155), none, .mov (.tmp 154)⟩, ⟨(some 156), (some (155, false)), .mov (.tmp 17)⟩, ⟨(some 157), (some (155, false)), .mov (.tmp 11)⟩, ⟨(some 158), (some (155, false)), .bin .gtr (.tmp 156) (.tmp 157)⟩, ⟨(some 159), none, .pick (.tmp 155) (.const (.bool true)) (.tmp 158)⟩])
 (.cond (.tmp 159) (.seq (.ops [⟨(some 160), none, .mov (.tmp 11)⟩, ⟨(some 161), none, .mkI 92 (.const (.int .i64 1))⟩, ⟨(some 6), none, .eff .set [.tmp 160]⟩, ⟨(some 7), none, .eff .set [.tmp 161]⟩])
 .ret) .skip))
 (.ops [⟨(some 162), none, .mov (.tmp 17)⟩, ⟨(some 13), none, .eff .set [.tmp 162]⟩]))))))))))
 (.ops [⟨(some 163), none, .bin .add (.tmp 101) (.const (.int .i64 1))⟩, ⟨(some 101), none, .mov (.tmp 163)⟩])))))))
 (.seq (.seq (.ops [⟨(some 164), none, .mov (.tmp 12)⟩, ⟨(some 165), none, .mov (.tmp 164)⟩, ⟨(some 166), (some (165, true)), .mov (.tmp 9)⟩, ⟨(some 167), (some (165, true)), .call 48 [.tmp 166]⟩, ⟨(some 168), (some (165, true)), .un .not (.tmp 167)⟩, ⟨(some 169), none, .pick (.tmp 165) (.tmp 168) (.const (.bool false))⟩])
 (.cond (.tmp 169) (.seq (.ops [⟨(some 170), none, .mkI 92 (.const (.int .i64 2))⟩, ⟨(some 6), none, .eff .set [.const (.int .u64 0)]⟩, ⟨(some 7), none, .eff .set [.tmp 170]⟩])
 .ret) .skip))
 (.seq (.ops [⟨(some 171), none, .mov (.tmp 13)⟩, ⟨(some 6), none, .eff .set [.tmp 171]⟩, ⟨(some 7), none, .eff .set [.const (.nilIface)]⟩])
 .ret))))))))))))))⟩
theorem x42_ok : yfunc Tryd.prog Tryd.f42 = some x42 := by kernel_rfl

/-- internal/strconv.lower -/
def x47 : YF := ⟨5, [.tmp 2],
 (.seq (.ops [⟨(some 2), none, .eff .set [.const (.int .u8 0)]⟩])
 (.seq (.ops [⟨(some 3), none, .mov (.tmp 0)⟩, ⟨(some 4), none, .bin .or (.tmp 3) (.const (.int .u8 32))⟩, ⟨(some 2), none, .eff .set [.tmp 4]⟩])
 .ret))⟩
theorem x47_ok : yfunc Tryd.prog Tryd.f47 = some x47 := by kernel_rfl
end Go.Proofs.YtdbkceojpeboeaaDoor
