/- Functions of this seat with the type tables looked up; each checked by the kernel. Conditions: none. -/
import Derived.Test.YthajjbcnemdacaaDoorProg
import Derived.Test.YthajjbcnemdacaaDoorBaseC
namespace Go.Proofs.YthajjbcnemdacaaDoor
open Go.Sx
set_option maxRecDepth 100000
/-- switchyard/switchyardlaw.CrcSums -/
def x3 : YF := ⟨42, [.tmp 2],
 (.seq (.ops [⟨(some 2), none, .eff .set [.const (.bool false)]⟩])
 (.seq (.seq (.ops [⟨(some 7), none, .mov (.tmp 0)⟩, ⟨(some 8), none, .len true (.tmp 7)⟩, ⟨(some 9), none, .bin .gtr (.tmp 8) (.const (.int .i64 300))⟩])
 (.cond (.tmp 9) (.seq (.ops [⟨(some 2), none, .eff .set [.const (.bool true)]⟩])
 .ret) .skip))
 (.seq (.ops [⟨(some 11), none, .mov (.tmp 0)⟩, ⟨(some 12), none, .call 7 [.tmp 11]⟩, ⟨(some 10), none, .mov (.tmp 12)⟩, ⟨(some 13), none, .ext (.tmp 10) 0⟩, ⟨(some 14), none, .ext (.tmp 10) 1⟩, ⟨(some 3), none, .eff .set [.tmp 13]⟩, ⟨(some 4), none, .eff .set [.tmp 14]⟩])
 (.seq (.ops [⟨(some 16), none, .mov (.tmp 0)⟩, ⟨(some 17), none, .call 8 [.tmp 16]⟩, ⟨(some 15), none, .mov (.tmp 17)⟩, ⟨(some 18), none, .ext (.tmp 15) 0⟩, ⟨(some 19), none, .ext (.tmp 15) 1⟩, ⟨(some 5), none, .eff .set [.tmp 18]⟩, ⟨(some 6), none, .eff .set [.tmp 19]⟩])
 (.seq (.ops [⟨(some 20), none, .mov (.tmp 0)⟩, ⟨(some 21), none, .call 9 [.tmp 20]⟩, ⟨(some 22), none, .mov (.tmp 0)⟩, ⟨(some 23), none, .call 10 [.tmp 22]⟩, ⟨(some 24), none, .bin .eql (.tmp 21) (.tmp 23)⟩, ⟨(some 25), none, .mov (.tmp 24)⟩, ⟨(some 26), (some (25, true)), .mov (.tmp 0)⟩, ⟨(some 27), (some (25, true)), .call 11 [.tmp 26]⟩, ⟨(some 28), (some (25, true)), .mov (.tmp 0)⟩, ⟨(some 29), (some (25, true)), .call 12 [.tmp 28]⟩, ⟨(some 30), (some (25, true)), .bin .eql (.tmp 27) (.tmp 29)⟩, ⟨(some 31), none, .pick (.tmp 25) (.tmp 30) (.const (.bool false))⟩, ⟨(some 32), none, .mov (.tmp 31)⟩, ⟨(some 33), (some (32, true)), .mov (.tmp 6)⟩, ⟨(some 34), (some (32, true)), .mov (.tmp 4)⟩, ⟨(some 35), (some (32, true)), .call 13 [.tmp 33, .tmp 34]⟩, ⟨(some 36), none, .pick (.tmp 32) (.tmp 35) (.const (.bool false))⟩, ⟨(some 37), none, .mov (.tmp 36)⟩, ⟨(some 38), (some (37, true)), .mov (.tmp 3)⟩, ⟨(some 39), (some (37, true)), .mov (.tmp 5)⟩, ⟨(some 40), (some (37, true)), .bin .eql (.tmp 38) (.tmp 39)⟩, ⟨(some 41), none, .pick (.tmp 37) (.tmp 40) (.const (.bool false))⟩, ⟨(some 2), none, .eff .set [.tmp 41]⟩])
 .ret)))))⟩
theorem x3_ok : yfunc Tryd.prog Tryd.f3 = some x3 := by kernel_rfl

/-- switchyard/switchyardref.Open -/
def x7 : YF := ⟨18, [.tmp 2, .tmp 3],
 (.seq (.ops [⟨(some 2), none, .eff .set [.const (.string ⟨#[]⟩)]⟩, ⟨(some 3), none, .eff .set [.const (.int .i64 0)]⟩])
 (.seq (.seq (.ops [⟨(some 5), none, .mov (.tmp 0)⟩, ⟨(some 6), none, .len true (.tmp 5)⟩, ⟨(some 7), none, .bin .lss (.tmp 6) (.const (.int .i64 4))⟩])
 (.cond (.tmp 7) (.seq (.ops [⟨(some 2), none, .eff .set [.const (.string ⟨#[]⟩)]⟩, ⟨(some 3), none, .eff .set [.const (.int .i64 7)]⟩])
 .ret) .skip))
 (.seq (.seq (.ops [⟨(some 8), none, .mov (.tmp 0)⟩, ⟨(some 9), none, .mov (.tmp 0)⟩, ⟨(some 10), none, .len true (.tmp 9)⟩, ⟨(some 11), none, .bin .sub (.tmp 10) (.const (.int .i64 4))⟩, ⟨(some 12), none, .more (.slcT false true) [.tmp 8, .tmp 11]⟩, ⟨(some 4), none, .eff .set [.tmp 12]⟩])
 (.seq (.ops [⟨(some 13), none, .mov (.tmp 4)⟩, ⟨(some 14), none, .call 12 [.tmp 13]⟩, ⟨(some 15), none, .mov (.tmp 0)⟩, ⟨(some 16), none, .bin .eql (.tmp 14) (.tmp 15)⟩])
 (.cond (.tmp 16) (.seq (.ops [⟨(some 17), none, .mov (.tmp 4)⟩, ⟨(some 2), none, .eff .set [.tmp 17]⟩, ⟨(some 3), none, .eff .set [.const (.int .i64 0)]⟩])
 .ret) .skip)))
 (.seq (.ops [⟨(some 2), none, .eff .set [.const (.string ⟨#[]⟩)]⟩, ⟨(some 3), none, .eff .set [.const (.int .i64 15)]⟩])
 .ret))))⟩
theorem x7_ok : yfunc Tryd.prog Tryd.f7 = some x7 := by kernel_rfl

/-- switchyard/crc.Open -/
def x8 : YF := ⟨20, [.tmp 2, .tmp 3],
 (.seq (.ops [⟨(some 2), none, .eff .set [.const (.string ⟨#[]⟩)]⟩, ⟨(some 3), none, .eff .set [.const (.nilIface)]⟩])
 (.seq (.seq (.ops [⟨(some 5), none, .mov (.tmp 0)⟩, ⟨(some 6), none, .len true (.tmp 5)⟩, ⟨(some 7), none, .bin .lss (.tmp 6) (.const (.int .i64 4))⟩])
 (.cond (.tmp 7) (.seq (.ops [⟨(some 8), none, .mkI 22 (.const (.int .i64 7))⟩, ⟨(some 2), none, .eff .set [.const (.string ⟨#[]⟩)]⟩, ⟨(some 3), none, .eff .set [.tmp 8]⟩])
 .ret) .skip))
 (.seq (.ops [⟨(some 9), none, .mov (.tmp 0)⟩, ⟨(some 10), none, .mov (.tmp 0)⟩, ⟨(some 11), none, .len true (.tmp 10)⟩, ⟨(some 12), none, .bin .sub (.tmp 11) (.const (.int .i64 4))⟩, ⟨(some 13), none, .more (.slcT false true) [.tmp 9, .tmp 12]⟩, ⟨(some 4), none, .eff .set [.tmp 13]⟩])
 (.seq (.seq (.ops [⟨(some 14), none, .mov (.tmp 4)⟩, ⟨(some 15), none, .call 11 [.tmp 14]⟩, ⟨(some 16), none, .mov (.tmp 0)⟩, ⟨(some 17), none, .bin .neq (.tmp 15) (.tmp 16)⟩])
 (.cond (.tmp 17) (.seq (.ops [⟨(some 18), none, .mkI 22 (.const (.int .i64 15))⟩, ⟨(some 2), none, .eff .set [.const (.string ⟨#[]⟩)]⟩, ⟨(some 3), none, .eff .set [.tmp 18]⟩])
 .ret) .skip))
 (.seq (.ops [⟨(some 19), none, .mov (.tmp 4)⟩, ⟨(some 2), none, .eff .set [.tmp 19]⟩, ⟨(some 3), none, .eff .set [.const (.nilIface)]⟩])
 .ret)))))⟩
theorem x8_ok : yfunc Tryd.prog Tryd.f8 = some x8 := by kernel_rfl

/-- switchyard/crc.Sum -/
def x9 : YF := ⟨32, [.tmp 2],
 (.seq (.ops [⟨(some 2), none, .eff .set [.const (.int .u32 0)]⟩])
 (.seq (.ops [⟨(some 3), none, .eff .set [.const (.int .u32 4294967295)]⟩])
 (.seq (.seq (.ops [⟨(some 7), none, .mov (.tmp 0)⟩, ⟨(some 8), none, .prim (.convert 9 61 (.tmp 7)) [.tmp 7]⟩, ⟨(some 9), none, .len false (.tmp 8)⟩, ⟨(some 10), none, .mov (.const (.int .i64 0))⟩])
 (.block 0 (.loop [false, false, false, true, false, true, true, false, false, false, true, true, true, true, true, true, true, true, true, true, true, true, true, true, true, true, true, true, true, true] (.seq (.ops [⟨(some 11), none, .bin .lss (.tmp 10) (.tmp 9)⟩])
 (.seq (.cond (.tmp 11) .skip (.exit 0))
 (.seq (.block 1 (.seq (.ops [⟨(some 12), none, .indexS 1 (.tmp 8) (.tmp 10)⟩, ⟨(some 13), none, .load false 1 (.tmp 12)⟩, ⟨(some 5), none, .eff .set [.tmp 13]⟩])
 (.seq (.ops [⟨(some 14), none, .mov (.tmp 3)⟩, ⟨(some 15), none, .mov (.tmp 5)⟩, ⟨(some 16), none, .conv .u32 (.tmp 15)⟩, ⟨(some 17), none, .bin .xor (.tmp 14) (.tmp 16)⟩, ⟨(some 3), none, .eff .set [.tmp 17]⟩])
 (.seq (.ops [⟨(some 18), none, .mov (.const (.int .i64 0))⟩])
 (.block 2 (.loop [false, false, false, true, false, false, true, false, false, false, false, false, false, false, false, false, false, false, true, true, true, true, true, true, true, true, true, true, true] (.seq (.ops [⟨(some 19), none, .bin .lss (.tmp 18) (.const (.int .i64 8))⟩])
 (.seq (.cond (.tmp 19) .skip (.exit 2))
 (.seq (.block 3 (.seq (.ops [⟨(some 20), none, .mov (.tmp 3)⟩, ⟨(some 21), none, .bin .and (.tmp 20) (.const (.int .u32 1))⟩, ⟨(some 22), none, .bin .eql (.tmp 21) (.const (.int .u32 1))⟩, ⟨(some 6), none, .eff .set [.tmp 22]⟩])
 (.seq (.ops [⟨(some 23), none, .mov (.tmp 3)⟩, ⟨(some 24), none, .bin .shr (.tmp 23) (.const (.int .u64 1))⟩, ⟨(some 3), none, .eff .set [.tmp 24]⟩])
 (.seq (.ops [⟨(some 25), none, .mov (.tmp 6)⟩])
 (.cond (.tmp 25) (.ops [⟨(some 26), none, .mov (.tmp 3)⟩, ⟨(some 27), none, .bin .xor (.tmp 26) (.const (.int .u32 3988292384))⟩, ⟨(some 3), none, .eff .set [.tmp 27]⟩]) .skip)))))
 (.ops [⟨(some 28), none, .bin .add (.tmp 18) (.const (.int .i64 1))⟩, ⟨(some 18), none, .mov (.tmp 28)⟩]))))))))))
 (.ops [⟨(some 29), none, .bin .add (.tmp 10) (.const (.int .i64 1))⟩, ⟨(some 10), none, .mov (.tmp 29)⟩])))))))
 (.seq (.ops [⟨(some 30), none, .mov (.tmp 3)⟩, ⟨(some 31), none, .un .xor (.tmp 30)⟩, ⟨(some 2), none, .eff .set [.tmp 31]⟩])
 .ret))))⟩
theorem x9_ok : yfunc Tryd.prog Tryd.f9 = some x9 := by kernel_rfl

/-- switchyard/switchyardref.Crc -/
def x10 : YF := ⟨94, [.tmp 2],
 (.seq (.ops [⟨(some 2), none, .eff .set [.const (.int .u32 0)]⟩])
 (.seq (.ops [⟨(some 3), none, .eff .set [.const (.slice none 0 0)]⟩])
 (.seq (.seq (.ops [⟨(some 13), none, .mov (.tmp 0)⟩, ⟨(some 14), none, .prim (.convert 9 61 (.tmp 13)) [.tmp 13]⟩, ⟨(some 15), none, .len false (.tmp 14)⟩, ⟨(some 16), none, .mov (.const (.int .i64 0))⟩])
 (.block 0 (.loop [false, false, false, true, false, true, true, false, false, false, false, false, false, false, false, false, true, true, true, true, true, true, true, true, true, true, true, true, true, true, true, true, true] (.seq (.ops [⟨(some 17), none, .bin .lss (.tmp 16) (.tmp 15)⟩])
 (.seq (.cond (.tmp 17) .skip (.exit 0))
 (.seq (.block 1 (.seq (.ops [⟨(some 18), none, .indexS 1 (.tmp 14) (.tmp 16)⟩, ⟨(some 19), none, .load false 1 (.tmp 18)⟩, ⟨(some 5), none, .eff .set [.tmp 19]⟩])
 (.seq (.ops [⟨(some 20), none, .mov (.const (.int .i64 0))⟩])
 (.block 2 (.loop [false, false, false, true, false, false, true, false, false, false, false, false, false, false, false, false, false, false, false, false, true, true, true, true, true, true, true, true, true, true, true, true] (.seq (.ops [⟨(some 21), none, .bin .lss (.tmp 20) (.const (.int .i64 8))⟩])
 (.seq (.cond (.tmp 21) .skip (.exit 2))
 (.seq (.block 3 (.seq (.ops [⟨(some 22), none, .mov (.tmp 20)⟩, ⟨(some 6), none, .eff .set [.tmp 22]⟩])
 (.ops [⟨(some 23), none, .mov (.tmp 3)⟩, ⟨(some 24), none, .mov (.tmp 5)⟩, ⟨(some 25), none, .mov (.tmp 6)⟩, ⟨(some 26), none, .bin .shr (.tmp 24) (.tmp 25)⟩, ⟨(some 27), none, .bin .and (.tmp 26) (.const (.int .u8 1))⟩, ⟨(some 28), none, .conv .i64 (.tmp 27)⟩, ⟨(some 29), none, .bslice 3 1 [.int .i64 0] [(0, 1, .tmp 28)]⟩, ⟨(some 30), none, .eff (.app 3 1 8 [.int .i64 0]) [.tmp 23, .tmp 29]⟩, ⟨(some 3), none, .eff .set [.tmp 30]⟩])))
 (.ops [⟨(some 31), none, .bin .add (.tmp 20) (.const (.int .i64 1))⟩, ⟨(some 20), none, .mov (.tmp 31)⟩])))))))))
 (.ops [⟨(some 32), none, .bin .add (.tmp 16) (.const (.int .i64 1))⟩, ⟨(some 16), none, .mov (.tmp 32)⟩])))))))
 (.seq (.ops [⟨(some 33), none, .mov (.tmp 3)⟩, ⟨(some 34), none, .prim (.call ⟨.builtin .append, #[.tmp 33, .const (.int .i64 32)], #[63, 3]⟩) [.tmp 33, .const (.int .i64 32)]⟩, ⟨(some 3), none, .eff .set [.tmp 34]⟩])
 (.seq (.seq (.ops [⟨(some 35), none, .mov (.const (.int .i64 0))⟩])
 (.block 4 (.loop [false, false, false, false, false, false, false, true, false, false, false, false, false, false, false, false, false, false, false, false, false, false, false, false, false, false, false, false, false, false, false, false, false, false, false, true, true, true, true, true, true, true, true, true, true, true, true] (.seq (.ops [⟨(some 36), none, .bin .lss (.tmp 35) (.const (.int .i64 32))⟩])
 (.seq (.cond (.tmp 36) .skip (.exit 4))
 (.seq (.block 5 (.seq (.ops [⟨(some 37), none, .mov (.tmp 35)⟩, ⟨(some 7), none, .eff .set [.tmp 37]⟩])
 (.ops [⟨(some 38), none, .mov (.tmp 3)⟩, ⟨(some 39), none, .mov (.tmp 7)⟩, ⟨(some 40), none, .mov (.tmp 3)⟩, ⟨(some 41), none, .mov (.tmp 7)⟩, ⟨(some 42), none, .indexS 1 (.tmp 40) (.tmp 41)⟩, ⟨(some 43), none, .load false 1 (.tmp 42)⟩, ⟨(some 44), none, .bin .sub (.const (.int .i64 1)) (.tmp 43)⟩, ⟨(some 45), none, .indexS 1 (.tmp 38) (.tmp 39)⟩, ⟨none, none, .store 1 (.tmp 45) (.tmp 44)⟩])))
 (.ops [⟨(some 46), none, .bin .add (.tmp 35) (.const (.int .i64 1))⟩, ⟨(some 35), none, .mov (.tmp 46)⟩])))))))
 (.seq (.seq (.ops [⟨(some 8), none, .eff .set [.const (.int .i64 0)]⟩])
 (.block 6 (.loop [false, false, false, false, false, false, false, false, true, true, false, false, false, false, false, false, false, false, false, false, false, false, false, false, false, false, false, false, false, false, false, false, false, false, false, false, false, false, false, false, false, false, false, false, false, false, false, true, true, true, true, true, true, true, true, true, true, true, true, true, true, true, true, true, true, true, true, true, true, true, true, true, true, true, true] (.seq (.seq (.ops [⟨(some 47), none, .mov (.tmp 8)⟩, ⟨(some 48), none, .bin .add (.tmp 47) (.const (.int .i64 32))⟩, ⟨(some 49), none, .mov (.tmp 3)⟩, ⟨(some 50), none, .len false (.tmp 49)⟩, ⟨(some 51), none, .bin .lss (.tmp 48) (.tmp 50)⟩])
 (.cond (.tmp 51) .skip (.exit 6)))
 (.seq (.block 7 (.seq (.ops [⟨(some 54), none, .mov (.tmp 3)⟩, ⟨(some 55), none, .mov (.tmp 8)⟩, ⟨(some 56), none, .indexS 1 (.tmp 54) (.tmp 55)⟩, ⟨(some 57), none, .load false 1 (.tmp 56)⟩, ⟨(some 58), none, .bin .eql (.tmp 57) (.const (.int .i64 1))⟩])
 (.cond (.tmp 58) (.seq (.ops [⟨(some 59), none, .prim (.range 9 (.const (.string ⟨#[49, 48, 48, 48, 48, 48, 49, 48, 48, 49, 49, 48, 48, 48, 48, 48, 49, 48, 48, 48, 49, 49, 49, 48, 49, 49, 48, 49, 49, 48, 49, 49, 49]⟩))) [.const (.string ⟨#[49, 48, 48, 48, 48, 48, 49, 48, 48, 49, 49, 48, 48, 48, 48, 48, 49, 48, 48, 48, 49, 49, 49, 48, 49, 49, 48, 49, 49, 48, 49, 49, 49]⟩)]⟩])
 (.block 8 (.loop [false, false, false, false, false, false, false, false, false, true, false, false, false, false, false, false, false, false, false, false, false, false, false, false, false, false, false, false, false, false, false, false, false, false, false, false, false, false, false, false, false, false, false, false, false, false, false, false, false, false, false, false, false, false, false, false, false, false, false, false, true, true, true, true, true, true, true, true, true, true, true, true, true, true, true] (.seq (.ops [⟨(some 60), none, .prim (.next (.tmp 59) true) [.tmp 59]⟩, ⟨(some 61), none, .ext (.tmp 60) 0⟩])
 (.seq (.cond (.tmp 61) .skip (.exit 8))
 (.block 9 (.seq (.ops [⟨(some 62), none, .ext (.tmp 60) 1⟩, ⟨(some 9), none, .eff .set [.tmp 62]⟩])
 (.draw [63, 64, 65, 66, 67, 68, 69, 70, 71, 72, 73, 74] [⟨0, [], ⟨(some 63), none, .mov (.tmp 3)⟩⟩, ⟨1, [], ⟨(some 64), none, .mov (.tmp 8)⟩⟩, ⟨2, [], ⟨(some 65), none, .mov (.tmp 9)⟩⟩, ⟨3, [1, 2], ⟨(some 66), none, .bin .add (.tmp 64) (.tmp 65)⟩⟩, ⟨4, [0, 3, 1, 2], ⟨(some 67), none, .indexS 1 (.tmp 63) (.tmp 66)⟩⟩, ⟨5, [4, 0, 3, 1, 2], ⟨(some 68), none, .load false 1 (.tmp 67)⟩⟩, ⟨6, [], ⟨(some 69), none, .mov (.tmp 9)⟩⟩, ⟨7, [6], ⟨(some 70), none, .indexStr (.const (.string ⟨#[49, 48, 48, 48, 48, 48, 49, 48, 48, 49, 49, 48, 48, 48, 48, 48, 49, 48, 48, 48, 49, 49, 49, 48, 49, 49, 48, 49, 49, 48, 49, 49, 49]⟩)) (.tmp 69)⟩⟩, ⟨8, [7, 6], ⟨(some 71), none, .bin .sub (.tmp 70) (.const (.int .u8 48))⟩⟩, ⟨9, [8, 7, 6], ⟨(some 72), none, .conv .i64 (.tmp 71)⟩⟩, ⟨10, [5, 4, 0, 3, 1, 2, 9, 8, 7, 6], ⟨(some 73), none, .bin .xor (.tmp 68) (.tmp 72)⟩⟩, ⟨11, [10, 5, 4, 0, 3, 1, 2, 9, 8, 7, 6], ⟨(some 74), none, .indexS 1 (.tmp 63) (.tmp 66)⟩⟩, ⟨12, [11, 10, 5, 4, 0, 3, 1, 2, 9, 8, 7, 6], ⟨none, none, .store 1 (.tmp 74) (.tmp 73)⟩⟩])))))))) .skip)))
 (.ops [⟨(some 52), none, .mov (.tmp 8)⟩, ⟨(some 53), none, .bin .add (.tmp 52) (.const (.int .i64 1))⟩, ⟨(some 8), none, .eff .set [.tmp 53]⟩]))))))
 (.seq (.ops [⟨(some 10), none, .eff .set [.const (.int .u32 0)]⟩])
 (.seq (.seq (.ops [⟨(some 75), none, .mov (.tmp 3)⟩, ⟨(some 76), none, .mov (.tmp 3)⟩, ⟨(some 77), none, .len false (.tmp 76)⟩, ⟨(some 78), none, .bin .sub (.tmp 77) (.const (.int .i64 32))⟩, ⟨(some 79), none, .more (.slcS 1 true false) [.tmp 75, .tmp 78]⟩, ⟨(some 80), none, .len false (.tmp 79)⟩, ⟨(some 81), none, .mov (.const (.int .i64 0))⟩])
 (.block 10 (.loop [false, false, false, false, false, false, false, false, false, false, true, true, true, false, false, false, false, false, false, false, false, false, false, false, false, false, false, false, false, false, false, false, false, false, false, false, false, false, false, false, false, false, false, false, false, false, false, false, false, false, false, false, false, false, false, false, false, false, false, false, false, false, false, false, false, false, false, false, false, false, false, false, false, false, false, false, false, false, false, false, false, true, true, true, true, true, true, true, true, true, true, true, true] (.seq (.ops [⟨(some 82), none, .bin .lss (.tmp 81) (.tmp 80)⟩])
 (.seq (.cond (.tmp 82) .skip (.exit 10))
 (.seq (.block 11 (.seq (.ops [⟨(some 83), none, .mov (.tmp 81)⟩, ⟨(some 84), none, .indexS 1 (.tmp 79) (.tmp 81)⟩, ⟨(some 85), none, .load false 1 (.tmp 84)⟩, ⟨(some 11), none, .eff .set [.tmp 83]⟩, ⟨(some 12), none, .eff .set [.tmp 85]⟩])
 (.seq (.ops [⟨(some 86), none, .mov (.tmp 12)⟩, ⟨(some 87), none, .bin .eql (.tmp 86) (.const (.int .i64 0))⟩])
 (.cond (.tmp 87) (.ops [⟨(some 88), none, .mov (.tmp 10)⟩, ⟨(some 89), none, .mov (.tmp 11)⟩, ⟨(some 90), none, .bin .shl (.const (.int .u32 1)) (.tmp 89)⟩, ⟨(some 91), none, .bin .or (.tmp 88) (.tmp 90)⟩, ⟨(some 10), none, .eff .set [.tmp 91]⟩]) .skip))))
 (.ops [⟨(some 92), none, .bin .add (.tmp 81) (.const (.int .i64 1))⟩, ⟨(some 81), none, .mov (.tmp 92)⟩])))))))
 (.seq (.ops [⟨(some 93), none, .mov (.tmp 10)⟩, ⟨(some 2), none, .eff .set [.tmp 93]⟩])
 .ret)))))))))⟩
theorem x10_ok : yfunc Tryd.prog Tryd.f10 = some x10 := by kernel_rfl

/-- switchyard/crc.Seal -/
def x11 : YF := ⟨21, [.tmp 2],
 (.seq (.ops [⟨(some 2), none, .eff .set [.const (.string ⟨#[]⟩)]⟩])
 (.seq (.ops [⟨(some 4), none, .mov (.tmp 0)⟩, ⟨(some 5), none, .call 9 [.tmp 4]⟩, ⟨(some 3), none, .eff .set [.tmp 5]⟩])
 (.seq (.ops [⟨(some 6), none, .mov (.tmp 0)⟩, ⟨(some 7), none, .mov (.tmp 3)⟩, ⟨(some 8), none, .conv .u8 (.tmp 7)⟩, ⟨(some 9), none, .mov (.tmp 3)⟩, ⟨(some 10), none, .bin .shr (.tmp 9) (.const (.int .u64 8))⟩, ⟨(some 11), none, .conv .u8 (.tmp 10)⟩, ⟨(some 12), none, .mov (.tmp 3)⟩, ⟨(some 13), none, .bin .shr (.tmp 12) (.const (.int .u64 16))⟩, ⟨(some 14), none, .conv .u8 (.tmp 13)⟩, ⟨(some 15), none, .mov (.tmp 3)⟩, ⟨(some 16), none, .bin .shr (.tmp 15) (.const (.int .u64 24))⟩, ⟨(some 17), none, .conv .u8 (.tmp 16)⟩, ⟨(some 18), none, .bslice 5 4 [.int .u8 0, .int .u8 0, .int .u8 0, .int .u8 0] [(0, 1, .tmp 8), (1, 1, .tmp 11), (2, 1, .tmp 14), (3, 1, .tmp 17)]⟩, ⟨(some 19), none, .more .b2s [.tmp 18]⟩, ⟨(some 20), none, .bin .add (.tmp 6) (.tmp 19)⟩, ⟨(some 2), none, .eff .set [.tmp 20]⟩])
 .ret)))⟩
theorem x11_ok : yfunc Tryd.prog Tryd.f11 = some x11 := by kernel_rfl

/-- switchyard/switchyardref.Seal -/
def x12 : YF := ⟨25, [.tmp 2],
 (.seq (.ops [⟨(some 2), none, .eff .set [.const (.string ⟨#[]⟩)]⟩])
 (.seq (.ops [⟨(some 4), none, .mov (.tmp 0)⟩, ⟨(some 5), none, .call 10 [.tmp 4]⟩, ⟨(some 3), none, .eff .set [.tmp 5]⟩])
 (.seq (.ops [⟨(some 6), none, .mov (.tmp 0)⟩, ⟨(some 7), none, .mov (.tmp 3)⟩, ⟨(some 8), none, .bin .rem (.tmp 7) (.const (.int .u32 256))⟩, ⟨(some 9), none, .conv .u8 (.tmp 8)⟩, ⟨(some 10), none, .mov (.tmp 3)⟩, ⟨(some 11), none, .bin .quo (.tmp 10) (.const (.int .u32 256))⟩, ⟨(some 12), none, .bin .rem (.tmp 11) (.const (.int .u32 256))⟩, ⟨(some 13), none, .conv .u8 (.tmp 12)⟩, ⟨(some 14), none, .mov (.tmp 3)⟩, ⟨(some 15), none, .bin .quo (.tmp 14) (.const (.int .u32 65536))⟩, ⟨(some 16), none, .bin .rem (.tmp 15) (.const (.int .u32 256))⟩, ⟨(some 17), none, .conv .u8 (.tmp 16)⟩, ⟨(some 18), none, .mov (.tmp 3)⟩, ⟨(some 19), none, .bin .quo (.tmp 18) (.const (.int .u32 65536))⟩, ⟨(some 20), none, .bin .quo (.tmp 19) (.const (.int .u32 256))⟩, ⟨(some 21), none, .conv .u8 (.tmp 20)⟩, ⟨(some 22), none, .bslice 5 4 [.int .u8 0, .int .u8 0, .int .u8 0, .int .u8 0] [(0, 1, .tmp 9), (1, 1, .tmp 13), (2, 1, .tmp 17), (3, 1, .tmp 21)]⟩, ⟨(some 23), none, .more .b2s [.tmp 22]⟩, ⟨(some 24), none, .bin .add (.tmp 6) (.tmp 23)⟩, ⟨(some 2), none, .eff .set [.tmp 24]⟩])
 .ret)))⟩
theorem x12_ok : yfunc Tryd.prog Tryd.f12 = some x12 := by kernel_rfl
end Go.Proofs.YthajjbcnemdacaaDoor
