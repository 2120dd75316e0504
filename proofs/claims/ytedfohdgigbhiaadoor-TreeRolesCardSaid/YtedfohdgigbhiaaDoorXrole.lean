/- Functions of this seat with the type tables looked up; each checked by the kernel. Conditions: none. -/
import Derived.Test.YtedfohdgigbhiaaDoorProg
import Derived.Test.YtedfohdgigbhiaaDoorBaseC
namespace Go.Proofs.YtedfohdgigbhiaaDoor
open Go.Sx
set_option maxRecDepth 100000
/-- switchyard/switchyardlaw.TreeRoles -/
def x4 : YF := ⟨29, [.tmp 2],
 (.seq (.ops [⟨(some 2), none, .eff .set [.const (.bool false)]⟩])
 (.seq (.seq (.ops [⟨(some 6), none, .mov (.tmp 0)⟩, ⟨(some 7), none, .call 10 [.tmp 6]⟩])
 (.cond (.tmp 7) (.seq (.ops [⟨(some 2), none, .eff .set [.const (.bool true)]⟩])
 .ret) .skip))
 (.seq (.ops [⟨(some 9), none, .mov (.tmp 0)⟩, ⟨(some 10), none, .call 16 [.tmp 9]⟩, ⟨(some 8), none, .mov (.tmp 10)⟩, ⟨(some 11), none, .ext (.tmp 8) 0⟩, ⟨(some 12), none, .ext (.tmp 8) 1⟩, ⟨(some 3), none, .eff .set [.tmp 11]⟩, ⟨(some 4), none, .eff .set [.tmp 12]⟩])
 (.seq (.ops [⟨(some 13), none, .mov (.tmp 0)⟩, ⟨(some 14), none, .call 12 [.tmp 13]⟩, ⟨(some 5), none, .alloc 31 [.int .i64 0, .int .i64 0]⟩, ⟨none, none, .store 2 (.tmp 5) (.tmp 14)⟩])
 (.seq (.seq (.ops [⟨(some 15), none, .mov (.tmp 4)⟩, ⟨(some 16), none, .load true 2 (.tmp 5)⟩, ⟨(some 17), none, .call 13 [.tmp 15, .tmp 16]⟩, ⟨(some 18), none, .un .not (.tmp 17)⟩])
 (.cond (.tmp 18) (.seq (.ops [⟨(some 2), none, .eff .set [.const (.bool false)]⟩])
 .ret) .skip))
 (.seq (.seq (.ops [⟨(some 19), none, .load true 2 (.tmp 5)⟩, ⟨(some 20), none, .call 14 [.tmp 19]⟩, ⟨(some 21), none, .un .not (.tmp 20)⟩])
 (.cond (.tmp 21) (.seq (.ops [⟨(some 22), none, .mov (.tmp 3)⟩, ⟨(some 23), none, .len false (.tmp 22)⟩, ⟨(some 24), none, .bin .eql (.tmp 23) (.const (.int .i64 0))⟩, ⟨(some 2), none, .eff .set [.tmp 24]⟩])
 .ret) .skip))
 (.seq (.ops [⟨(some 25), none, .mov (.tmp 3)⟩, ⟨(some 26), none, .mov (.tmp 0)⟩, ⟨(some 27), none, .call 18 [.tmp 26]⟩, ⟨(some 28), none, .call 17 [.tmp 25, .tmp 27]⟩, ⟨(some 2), none, .eff .set [.tmp 28]⟩])
 .ret)))))))⟩
theorem x4_ok : yfunc Tryd.prog Tryd.f4 = some x4 := by kernel_rfl

/-- switchyard/tree.Roles -/
def x16 : YF := ⟨59, [.tmp 2, .tmp 3],
 (.seq (.ops [⟨(some 2), none, .eff .set [.const (.slice none 0 0)]⟩, ⟨(some 3), none, .eff .set [.const (.nilIface)]⟩])
 (.seq (.ops [⟨(some 13), none, .mov (.tmp 0)⟩, ⟨(some 14), none, .call 11 [.tmp 13]⟩, ⟨(some 12), none, .mov (.tmp 14)⟩, ⟨(some 15), none, .ext (.tmp 12) 0⟩, ⟨(some 16), none, .ext (.tmp 12) 1⟩, ⟨(some 4), none, .alloc 24 [.slice none 0 0]⟩, ⟨none, none, .store 1 (.tmp 4) (.tmp 15)⟩, ⟨(some 5), none, .eff .set [.tmp 16]⟩])
 (.seq (.seq (.ops [⟨(some 17), none, .mov (.tmp 5)⟩, ⟨(some 18), none, .more (.nilI true) [.tmp 17]⟩])
 (.cond (.tmp 18) (.seq (.ops [⟨(some 19), none, .mov (.tmp 5)⟩, ⟨(some 2), none, .eff .set [.const (.slice none 0 0)]⟩, ⟨(some 3), none, .eff .set [.tmp 19]⟩])
 .ret) .skip))
 (.seq (.ops [⟨(some 6), none, .eff .set [.const (.slice none 0 0)]⟩])
 (.seq (.seq (.ops [⟨(some 20), none, .mov (.tmp 0)⟩, ⟨(some 21), none, .len false (.tmp 20)⟩, ⟨(some 22), none, .mov (.const (.int .i64 0))⟩])
 (.block 0 (.loop [false, false, false, false, false, false, true, true, true, true, true, true, false, false, false, false, false, false, false, false, false, false, true, true, true, true, true, true, true, true, true, true, true, true, true, true, true, true, true, true, true, true, true, true, true, true, true, true, true, true, true, true, true, true, true, true, true, true] (.seq (.ops [⟨(some 23), none, .bin .lss (.tmp 22) (.tmp 21)⟩])
 (.seq (.cond (.tmp 23) .skip (.exit 0))
 (.seq (.block 1 (.seq (.ops [⟨(some 24), none, .mov (.tmp 22)⟩, ⟨(some 25), none, .indexS 9 (.tmp 20) (.tmp 22)⟩, ⟨(some 26), none, .load true 9 (.tmp 25)⟩, ⟨(some 7), none, .alloc 3 [.int .i64 0]⟩, ⟨(some 8), none, .alloc 148 [.int .i64 0, .int .i64 0, .int .u8 0, .int .u8 0, .int .u8 0, .int .u8 0, .int .u8 0, .int .u8 0, .slice none 0 0]⟩, ⟨none, none, .store 1 (.tmp 7) (.tmp 24)⟩, ⟨none, none, .store 9 (.tmp 8) (.tmp 26)⟩])
 (.seq (.ops [⟨(some 9), none, .eff .set [.const (.slice none 0 0)]⟩])
 (.seq (.seq (.ops [⟨(some 27), none, .fieldA 8 (.tmp 8)⟩, ⟨(some 28), none, .load false 1 (.tmp 27)⟩, ⟨(some 29), none, .len false (.tmp 28)⟩, ⟨(some 30), none, .mov (.const (.int .i64 0))⟩])
 (.block 2 (.loop [false, false, false, false, false, false, false, false, false, true, true, true, false, false, false, false, false, false, false, false, false, false, false, false, false, false, false, false, false, false, true, true, true, true, true, true, true, true, true, true, true, true, true, true, true, true, true, true, true, true, true, true, true] (.seq (.ops [⟨(some 31), none, .bin .lss (.tmp 30) (.tmp 29)⟩])
 (.seq (.cond (.tmp 31) .skip (.exit 2))
 (.seq (.block 3 (.seq (.ops [⟨(some 32), none, .mov (.tmp 30)⟩, ⟨(some 10), none, .alloc 3 [.int .i64 0]⟩, ⟨none, none, .store 1 (.tmp 10) (.tmp 32)⟩])
 (.seq (.ops [⟨(some 33), none, .mov (.tmp 0)⟩, ⟨(some 34), none, .load false 1 (.tmp 4)⟩, ⟨(some 35), none, .load false 1 (.tmp 7)⟩, ⟨(some 36), none, .load false 1 (.tmp 10)⟩, ⟨(some 37), none, .call 54 [.tmp 33, .tmp 34, .tmp 35, .tmp 36]⟩, ⟨(some 38), none, .mkF 67 [] [.tmp 8, .tmp 4, .tmp 7, .tmp 10]⟩, ⟨(some 39), none, .call 66 [.tmp 37, .tmp 38]⟩, ⟨(some 40), none, .un .not (.tmp 39)⟩, ⟨(some 11), none, .eff .set [.tmp 40]⟩])
 (.draw [41, 42, 43, 44, 45, 46, 47, 48, 49, 50, 51, 9] [⟨0, [], ⟨(some 41), none, .mov (.tmp 9)⟩⟩, ⟨1, [], ⟨(some 42), none, .load true 9 (.tmp 8)⟩⟩, ⟨2, [], ⟨(some 43), none, .load false 1 (.tmp 4)⟩⟩, ⟨3, [], ⟨(some 44), none, .load false 1 (.tmp 7)⟩⟩, ⟨4, [2, 3], ⟨(some 45), none, .indexS 21 (.tmp 43) (.tmp 44)⟩⟩, ⟨5, [4, 2, 3], ⟨(some 46), none, .load true 21 (.tmp 45)⟩⟩, ⟨6, [], ⟨(some 47), none, .load false 1 (.tmp 10)⟩⟩, ⟨7, [], ⟨(some 48), none, .mov (.tmp 11)⟩⟩, ⟨8, [1, 5, 4, 2, 3, 6, 7], ⟨(some 49), none, .call 69 [.tmp 42, .tmp 46, .tmp 47, .tmp 48]⟩⟩, ⟨9, [8, 1, 5, 4, 2, 3, 6, 7], ⟨(some 50), none, .bslice 3 1 [.int .i64 0] [(0, 1, .tmp 49)]⟩⟩, ⟨10, [0, 9, 8, 1, 5, 4, 2, 3, 6, 7], ⟨(some 51), none, .eff (.app 3 1 8 [.int .i64 0]) [.tmp 41, .tmp 50]⟩⟩, ⟨11, [10, 0, 9, 8, 1, 5, 4, 2, 3, 6, 7], ⟨(some 9), none, .eff .set [.tmp 51]⟩⟩]))))
 (.ops [⟨(some 52), none, .bin .add (.tmp 30) (.const (.int .i64 1))⟩, ⟨(some 30), none, .mov (.tmp 52)⟩])))))))
 (.fz (.ops [⟨(some 53), none, .mov (.tmp 6)⟩, ⟨(some 54), none, .mov (.tmp 9)⟩, ⟨(some 55), none, .bslice 137 1 [.slice none 0 0] [(0, 1, .tmp 54)]⟩, ⟨(some 56), none, .eff (.app 137 1 24 [.slice none 0 0]) [.tmp 53, .tmp 55]⟩, ⟨(some 6), none, .eff .set [.tmp 56]⟩]))))))
 (.ops [⟨(some 57), none, .bin .add (.tmp 22) (.const (.int .i64 1))⟩, ⟨(some 22), none, .mov (.tmp 57)⟩])))))))
 (.seq (.fz (.ops [⟨(some 58), none, .mov (.tmp 6)⟩, ⟨(some 2), none, .eff .set [.tmp 58]⟩, ⟨(some 3), none, .eff .set [.const (.nilIface)]⟩]))
 .ret))))))⟩
theorem x16_ok : yfunc Tryd.prog Tryd.f16 = some (unjF x16) := by kernel_rfl

/-- switchyard/switchyardlaw.sameRoles -/
def x17 : YF := ⟨53, [.tmp 4],
 (.seq (.ops [⟨(some 4), none, .eff .set [.const (.bool false)]⟩])
 (.seq (.seq (.ops [⟨(some 7), none, .mov (.tmp 0)⟩, ⟨(some 8), none, .len false (.tmp 7)⟩, ⟨(some 9), none, .mov (.tmp 1)⟩, ⟨(some 10), none, .len false (.tmp 9)⟩, ⟨(some 11), none, .bin .neq (.tmp 8) (.tmp 10)⟩])
 (.cond (.tmp 11) (.seq (.ops [⟨(some 4), none, .eff .set [.const (.bool false)]⟩])
 .ret) .skip))
 (.seq (.seq (.ops [⟨(some 12), none, .mov (.tmp 0)⟩, ⟨(some 13), none, .len false (.tmp 12)⟩, ⟨(some 14), none, .mov (.const (.int .i64 0))⟩])
 (.block 0 (.loop [false, false, false, false, true, true, true, false, false, false, false, false, false, false, true, true, true, true, true, true, true, true, true, true, true, true, true, true, true, true, true, true, true, true, true, true, true, true, true, true, true, true, true, true, true, true, true, true, true, true, true, true, true] (.seq (.ops [⟨(some 15), none, .bin .lss (.tmp 14) (.tmp 13)⟩])
 (.seq (.cond (.tmp 15) .skip (.exit 0))
 (.seq (.block 1 (.seq (.ops [⟨(some 16), none, .mov (.tmp 14)⟩, ⟨(some 5), none, .eff .set [.tmp 16]⟩])
 (.seq (.seq (.draw [17, 18, 19, 20, 21, 22, 23, 24, 25, 26, 27] [⟨0, [], ⟨(some 17), none, .mov (.tmp 0)⟩⟩, ⟨1, [], ⟨(some 18), none, .mov (.tmp 5)⟩⟩, ⟨2, [0, 1], ⟨(some 19), none, .indexS 1 (.tmp 17) (.tmp 18)⟩⟩, ⟨3, [2, 0, 1], ⟨(some 20), none, .load false 1 (.tmp 19)⟩⟩, ⟨4, [3, 2, 0, 1], ⟨(some 21), none, .len false (.tmp 20)⟩⟩, ⟨5, [], ⟨(some 22), none, .mov (.tmp 1)⟩⟩, ⟨6, [], ⟨(some 23), none, .mov (.tmp 5)⟩⟩, ⟨7, [5, 6], ⟨(some 24), none, .indexS 1 (.tmp 22) (.tmp 23)⟩⟩, ⟨8, [7, 5, 6], ⟨(some 25), none, .load false 1 (.tmp 24)⟩⟩, ⟨9, [8, 7, 5, 6], ⟨(some 26), none, .len false (.tmp 25)⟩⟩, ⟨10, [4, 3, 2, 0, 1, 9, 8, 7, 5, 6], ⟨(some 27), none, .bin .neq (.tmp 21) (.tmp 26)⟩⟩])
 (.cond (.tmp 27) (.seq (.ops [⟨(some 4), none, .eff .set [.const (.bool false)]⟩])
 .ret) .skip))
 (.seq (.ops [⟨(some 28), none, .mov (.tmp 0)⟩, ⟨(some 29), none, .mov (.tmp 5)⟩, ⟨(some 30), none, .indexS 1 (.tmp 28) (.tmp 29)⟩, ⟨(some 31), none, .load false 1 (.tmp 30)⟩, ⟨(some 32), none, .len false (.tmp 31)⟩, ⟨(some 33), none, .mov (.const (.int .i64 0))⟩])
 (.block 2 (.loop [false, false, false, false, true, false, true, false, false, false, false, false, false, false, false, false, false, false, false, false, false, false, false, false, false, false, false, false, false, false, false, false, false, true, true, true, true, true, true, true, true, true, true, true, true, true, true, true, true, true, true, true] (.seq (.ops [⟨(some 34), none, .bin .lss (.tmp 33) (.tmp 32)⟩])
 (.seq (.cond (.tmp 34) .skip (.exit 2))
 (.seq (.block 3 (.seq (.ops [⟨(some 35), none, .mov (.tmp 33)⟩, ⟨(some 6), none, .eff .set [.tmp 35]⟩])
 (.seq (.draw [36, 37, 38, 39, 40, 41, 42, 43, 44, 45, 46, 47, 48, 49, 50] [⟨0, [], ⟨(some 36), none, .mov (.tmp 0)⟩⟩, ⟨1, [], ⟨(some 37), none, .mov (.tmp 5)⟩⟩, ⟨2, [0, 1], ⟨(some 38), none, .indexS 1 (.tmp 36) (.tmp 37)⟩⟩, ⟨3, [2, 0, 1], ⟨(some 39), none, .load false 1 (.tmp 38)⟩⟩, ⟨4, [], ⟨(some 40), none, .mov (.tmp 6)⟩⟩, ⟨5, [3, 2, 0, 1, 4], ⟨(some 41), none, .indexS 1 (.tmp 39) (.tmp 40)⟩⟩, ⟨6, [5, 3, 2, 0, 1, 4], ⟨(some 42), none, .load false 1 (.tmp 41)⟩⟩, ⟨7, [], ⟨(some 43), none, .mov (.tmp 1)⟩⟩, ⟨8, [], ⟨(some 44), none, .mov (.tmp 5)⟩⟩, ⟨9, [7, 8], ⟨(some 45), none, .indexS 1 (.tmp 43) (.tmp 44)⟩⟩, ⟨10, [9, 7, 8], ⟨(some 46), none, .load false 1 (.tmp 45)⟩⟩, ⟨11, [], ⟨(some 47), none, .mov (.tmp 6)⟩⟩, ⟨12, [10, 9, 7, 8, 11], ⟨(some 48), none, .indexS 1 (.tmp 46) (.tmp 47)⟩⟩, ⟨13, [12, 10, 9, 7, 8, 11], ⟨(some 49), none, .load false 1 (.tmp 48)⟩⟩, ⟨14, [6, 5, 3, 2, 0, 1, 4, 13, 12, 10, 9, 7, 8, 11], ⟨(some 50), none, .bin .neq (.tmp 42) (.tmp 49)⟩⟩])
 (.cond (.tmp 50) (.seq (.ops [⟨(some 4), none, .eff .set [.const (.bool false)]⟩])
 .ret) .skip))))
 (.ops [⟨(some 51), none, .bin .add (.tmp 33) (.const (.int .i64 1))⟩, ⟨(some 33), none, .mov (.tmp 51)⟩]))))))))))
 (.ops [⟨(some 52), none, .bin .add (.tmp 14) (.const (.int .i64 1))⟩, ⟨(some 14), none, .mov (.tmp 52)⟩])))))))
 (.seq (.ops [⟨(some 4), none, .eff .set [.const (.bool true)]⟩])
 .ret))))⟩
theorem x17_ok : yfunc Tryd.prog Tryd.f17 = some x17 := by kernel_rfl

/-- switchyard/switchyardref.Roles -/
def x18 : YF := ⟨99, [.tmp 2],
 (.seq (.ops [⟨(some 2), none, .eff .set [.const (.slice none 0 0)]⟩])
 (.seq (.ops [⟨(some 15), none, .mov (.tmp 0)⟩, ⟨(some 16), none, .call 15 [.tmp 15]⟩, ⟨(some 3), none, .eff .set [.tmp 16]⟩])
 (.seq (.ops [⟨(some 4), none, .eff .set [.const (.slice none 0 0)]⟩])
 (.seq (.seq (.ops [⟨(some 17), none, .mov (.tmp 0)⟩, ⟨(some 18), none, .len false (.tmp 17)⟩, ⟨(some 19), none, .mov (.const (.int .i64 0))⟩])
 (.block 0 (.loop [false, false, false, false, true, true, true, true, true, true, true, true, true, true, true, false, false, false, false, true, true, true, true, true, true, true, true, true, true, true, true, true, true, true, true, true, true, true, true, true, true, true, true, true, true, true, true, true, true, true, true, true, true, true, true, true, true, true, true, true, true, true, true, true, true, true, true, true, true, true, true, true, true, true, true, true, true, true, true, true, true, true, true, true, true, true, true, true, true, true, true, true, true, true, true, true, true, true] (.seq (.ops [⟨(some 20), none, .bin .lss (.tmp 19) (.tmp 18)⟩])
 (.seq (.cond (.tmp 20) .skip (.exit 0))
 (.seq (.block 1 (.seq (.ops [⟨(some 21), none, .mov (.tmp 19)⟩, ⟨(some 22), none, .indexS 9 (.tmp 17) (.tmp 19)⟩, ⟨(some 23), none, .load true 9 (.tmp 22)⟩, ⟨(some 6), none, .alloc 148 [.int .i64 0, .int .i64 0, .int .u8 0, .int .u8 0, .int .u8 0, .int .u8 0, .int .u8 0, .int .u8 0, .slice none 0 0]⟩, ⟨(some 5), none, .eff .set [.tmp 21]⟩, ⟨none, none, .store 9 (.tmp 6) (.tmp 23)⟩])
 (.seq (.ops [⟨(some 7), none, .eff .set [.const (.slice none 0 0)]⟩])
 (.seq (.seq (.ops [⟨(some 24), none, .fieldA 8 (.tmp 6)⟩, ⟨(some 25), none, .load false 1 (.tmp 24)⟩, ⟨(some 26), none, .len false (.tmp 25)⟩, ⟨(some 27), none, .mov (.const (.int .i64 0))⟩])
 (.block 2 (.loop [false, false, false, false, false, false, false, true, true, true, true, true, true, true, true, false, false, false, false, false, false, false, false, false, false, false, false, true, true, true, true, true, true, true, true, true, true, true, true, true, true, true, true, true, true, true, true, true, true, true, true, true, true, true, true, true, true, true, true, true, true, true, true, true, true, true, true, true, true, true, true, true, true, true, true, true, true, true, true, true, true, true, true, true, true, true, true, true, true, true, true, true, true] (.seq (.ops [⟨(some 28), none, .bin .lss (.tmp 27) (.tmp 26)⟩])
 (.seq (.cond (.tmp 28) .skip (.exit 2))
 (.seq (.block 3 (.seq (.ops [⟨(some 29), none, .mov (.tmp 27)⟩, ⟨(some 30), none, .indexS 4 (.tmp 25) (.tmp 27)⟩, ⟨(some 31), none, .load true 4 (.tmp 30)⟩, ⟨(some 9), none, .alloc 159 [.int .i64 0, .int .i64 0, .int .i64 0, .int .i64 0]⟩, ⟨(some 8), none, .eff .set [.tmp 29]⟩, ⟨none, none, .store 4 (.tmp 9) (.tmp 31)⟩])
 (.seq (.ops [⟨(some 10), none, .eff .set [.const (.bool true)]⟩])
 (.seq (.seq (.ops [⟨(some 32), none, .mov (.tmp 0)⟩, ⟨(some 33), none, .len false (.tmp 32)⟩, ⟨(some 34), none, .mov (.const (.int .i64 0))⟩])
 (.block 4 (.loop [false, false, false, false, false, false, false, false, false, false, true, true, true, true, true, false, false, false, false, false, false, false, false, false, false, false, false, false, false, false, false, false, false, false, true, true, true, true, true, true, true, true, true, true, true, true, true, true, true, true, true, true, true, true, true, true, true, true, true, true, true, true, true, true, true, true, true, true, true, true, true, true, true, true, true, true, true, true, true, true, true] (.seq (.ops [⟨(some 35), none, .bin .lss (.tmp 34) (.tmp 33)⟩])
 (.seq (.cond (.tmp 35) .skip (.exit 4))
 (.seq (.block 5 (.seq (.ops [⟨(some 36), none, .mov (.tmp 34)⟩, ⟨(some 37), none, .indexS 9 (.tmp 32) (.tmp 34)⟩, ⟨(some 38), none, .load true 9 (.tmp 37)⟩, ⟨(some 12), none, .alloc 148 [.int .i64 0, .int .i64 0, .int .u8 0, .int .u8 0, .int .u8 0, .int .u8 0, .int .u8 0, .int .u8 0, .slice none 0 0]⟩, ⟨(some 11), none, .eff .set [.tmp 36]⟩, ⟨none, none, .store 9 (.tmp 12) (.tmp 38)⟩])
 (.seq (.ops [⟨(some 39), none, .fieldA 8 (.tmp 12)⟩, ⟨(some 40), none, .load false 1 (.tmp 39)⟩, ⟨(some 41), none, .len false (.tmp 40)⟩, ⟨(some 42), none, .mov (.const (.int .i64 0))⟩])
 (.block 6 (.loop [false, false, false, false, false, false, false, false, false, false, true, false, false, true, true, false, false, false, false, false, false, false, false, false, false, false, false, false, false, false, false, false, false, false, false, false, false, false, false, false, false, false, true, true, true, true, true, true, true, true, true, true, true, true, true, true, true, true, true, true, true, true, true, true, true, true, true, true, true, true, true, true, true, true, true, true, true, true, true, true] (.seq (.ops [⟨(some 43), none, .bin .lss (.tmp 42) (.tmp 41)⟩])
 (.seq (.cond (.tmp 43) .skip (.exit 6))
 (.seq (.block 7 (.seq (.ops [⟨(some 44), none, .mov (.tmp 42)⟩, ⟨(some 45), none, .indexS 4 (.tmp 40) (.tmp 42)⟩, ⟨(some 46), none, .load true 4 (.tmp 45)⟩, ⟨(some 14), none, .alloc 159 [.int .i64 0, .int .i64 0, .int .i64 0, .int .i64 0]⟩, ⟨(some 13), none, .eff .set [.tmp 44]⟩, ⟨none, none, .store 4 (.tmp 14) (.tmp 46)⟩])
 (.seq (.draw [47, 48, 49, 50, 51, 52, 53, 54, 55, 56, 57, 58, 59, 60, 61, 62, 63, 64, 65, 66, 67, 68, 70, 71, 72, 73, 74, 75, 69, 76, 77, 78] [⟨0, [], ⟨(some 47), none, .fieldA 3 (.tmp 14)⟩⟩, ⟨1, [0], ⟨(some 48), none, .load false 1 (.tmp 47)⟩⟩, ⟨2, [], ⟨(some 49), none, .fieldA 3 (.tmp 9)⟩⟩, ⟨3, [2], ⟨(some 50), none, .load false 1 (.tmp 49)⟩⟩, ⟨4, [1, 0, 3, 2], ⟨(some 51), none, .bin .eql (.tmp 48) (.tmp 50)⟩⟩, ⟨5, [4, 1, 0, 3, 2], ⟨(some 52), none, .mov (.tmp 51)⟩⟩, ⟨6, [5, 4, 1, 0, 3, 2], ⟨(some 53), (some (52, true)), .mov (.tmp 11)⟩⟩, ⟨7, [5, 4, 1, 0, 3, 2], ⟨(some 54), (some (52, true)), .mov (.tmp 5)⟩⟩, ⟨8, [6, 7, 5, 4, 1, 0, 3, 2], ⟨(some 55), (some (52, true)), .bin .neq (.tmp 53) (.tmp 54)⟩⟩, ⟨9, [8, 6, 7, 5, 4, 1, 0, 3, 2], ⟨(some 56), (some (52, true)), .mov (.tmp 55)⟩⟩, ⟨10, [9, 8, 6, 7, 5, 4, 1, 0, 3, 2], ⟨(some 57), (some (56, false)), .mov (.tmp 13)⟩⟩, ⟨11, [9, 8, 6, 7, 5, 4, 1, 0, 3, 2], ⟨(some 58), (some (56, false)), .mov (.tmp 8)⟩⟩, ⟨12, [10, 11, 9, 8, 6, 7, 5, 4, 1, 0, 3, 2], ⟨(some 59), (some (56, false)), .bin .neq (.tmp 57) (.tmp 58)⟩⟩, ⟨13, [12, 10, 11, 9, 8, 6, 7, 5, 4, 1, 0, 3, 2], ⟨(some 60), (some (52, true)), .pick (.tmp 56) (.const (.bool true)) (.tmp 59)⟩⟩, ⟨14, [13, 12, 10, 11, 9, 8, 6, 7, 5, 4, 1, 0, 3, 2], ⟨(some 61), none, .pick (.tmp 52) (.tmp 60) (.const (.bool false))⟩⟩, ⟨15, [14, 13, 12, 10, 11, 9, 8, 6, 7, 5, 4, 1, 0, 3, 2], ⟨(some 62), none, .mov (.tmp 61)⟩⟩, ⟨16, [15, 14, 13, 12, 10, 11, 9, 8, 6, 7, 5, 4, 1, 0, 3, 2], ⟨(some 63), (some (62, true)), .load true 9 (.tmp 12)⟩⟩, ⟨17, [15, 14, 13, 12, 10, 11, 9, 8, 6, 7, 5, 4, 1, 0, 3, 2], ⟨(some 64), (some (62, true)), .mov (.tmp 3)⟩⟩, ⟨18, [15, 14, 13, 12, 10, 11, 9, 8, 6, 7, 5, 4, 1, 0, 3, 2], ⟨(some 65), (some (62, true)), .mov (.tmp 11)⟩⟩, ⟨19, [17, 18, 15, 14, 13, 12, 10, 11, 9, 8, 6, 7, 5, 4, 1, 0, 3, 2], ⟨(some 66), (some (62, true)), .indexS 21 (.tmp 64) (.tmp 65)⟩⟩, ⟨20, [19, 17, 18, 15, 14, 13, 12, 10, 11, 9, 8, 6, 7, 5, 4, 1, 0, 3, 2], ⟨(some 67), (some (62, true)), .load true 21 (.tmp 66)⟩⟩, ⟨21, [15, 14, 13, 12, 10, 11, 9, 8, 6, 7, 5, 4, 1, 0, 3, 2], ⟨(some 68), (some (62, true)), .mov (.tmp 13)⟩⟩, ⟨23, [15, 14, 13, 12, 10, 11, 9, 8, 6, 7, 5, 4, 1, 0, 3, 2], ⟨(some 70), (some (62, true)), .load true 9 (.tmp 6)⟩⟩, ⟨24, [15, 14, 13, 12, 10, 11, 9, 8, 6, 7, 5, 4, 1, 0, 3, 2], ⟨(some 71), (some (62, true)), .mov (.tmp 3)⟩⟩, ⟨25, [15, 14, 13, 12, 10, 11, 9, 8, 6, 7, 5, 4, 1, 0, 3, 2], ⟨(some 72), (some (62, true)), .mov (.tmp 5)⟩⟩, ⟨26, [24, 25, 15, 14, 13, 12, 10, 11, 9, 8, 6, 7, 5, 4, 1, 0, 3, 2], ⟨(some 73), (some (62, true)), .indexS 21 (.tmp 71) (.tmp 72)⟩⟩, ⟨27, [26, 24, 25, 15, 14, 13, 12, 10, 11, 9, 8, 6, 7, 5, 4, 1, 0, 3, 2], ⟨(some 74), (some (62, true)), .load true 21 (.tmp 73)⟩⟩, ⟨28, [15, 14, 13, 12, 10, 11, 9, 8, 6, 7, 5, 4, 1, 0, 3, 2], ⟨(some 75), (some (62, true)), .mov (.tmp 8)⟩⟩, ⟨22, [16, 20, 19, 17, 18, 21, 15, 14, 13, 12, 10, 11, 9, 8, 6, 7, 5, 4, 1, 0, 3, 2], ⟨(some 69), (some (62, true)), .call 70 [.tmp 63, .tmp 67, .tmp 68]⟩⟩, ⟨29, [23, 27, 26, 24, 25, 28, 22, 16, 20, 19, 17, 18, 21, 15, 14, 13, 12, 10, 11, 9, 8, 6, 7, 5, 4, 1, 0, 3, 2], ⟨(some 76), (some (62, true)), .call 70 [.tmp 70, .tmp 74, .tmp 75]⟩⟩, ⟨30, [29, 23, 27, 26, 24, 25, 28, 22, 16, 20, 19, 17, 18, 21, 15, 14, 13, 12, 10, 11, 9, 8, 6, 7, 5, 4, 1, 0, 3, 2], ⟨(some 77), (some (62, true)), .call 65 [.tmp 69, .tmp 76]⟩⟩, ⟨31, [30, 29, 23, 27, 26, 24, 25, 28, 22, 16, 20, 19, 17, 18, 21, 15, 14, 13, 12, 10, 11, 9, 8, 6, 7, 5, 4, 1, 0, 3, 2], ⟨(some 78), none, .pick (.tmp 62) (.tmp 77) (.const (.bool false))⟩⟩])
 (.cond (.tmp 78) (.ops [⟨(some 10), none, .eff .set [.const (.bool false)]⟩]) .skip))))
 (.ops [⟨(some 79), none, .bin .add (.tmp 42) (.const (.int .i64 1))⟩, ⟨(some 42), none, .mov (.tmp 79)⟩])))))))))
 (.ops [⟨(some 80), none, .bin .add (.tmp 34) (.const (.int .i64 1))⟩, ⟨(some 34), none, .mov (.tmp 80)⟩])))))))
 (.draw [81, 82, 83, 84, 85, 86, 87, 88, 89, 90, 91, 7] [⟨0, [], ⟨(some 81), none, .mov (.tmp 7)⟩⟩, ⟨1, [], ⟨(some 82), none, .load true 9 (.tmp 6)⟩⟩, ⟨2, [], ⟨(some 83), none, .mov (.tmp 3)⟩⟩, ⟨3, [], ⟨(some 84), none, .mov (.tmp 5)⟩⟩, ⟨4, [2, 3], ⟨(some 85), none, .indexS 21 (.tmp 83) (.tmp 84)⟩⟩, ⟨5, [4, 2, 3], ⟨(some 86), none, .load true 21 (.tmp 85)⟩⟩, ⟨6, [], ⟨(some 87), none, .mov (.tmp 8)⟩⟩, ⟨7, [], ⟨(some 88), none, .mov (.tmp 10)⟩⟩, ⟨8, [1, 5, 4, 2, 3, 6, 7], ⟨(some 89), none, .call 71 [.tmp 82, .tmp 86, .tmp 87, .tmp 88]⟩⟩, ⟨9, [8, 1, 5, 4, 2, 3, 6, 7], ⟨(some 90), none, .bslice 3 1 [.int .i64 0] [(0, 1, .tmp 89)]⟩⟩, ⟨10, [0, 9, 8, 1, 5, 4, 2, 3, 6, 7], ⟨(some 91), none, .eff (.app 3 1 8 [.int .i64 0]) [.tmp 81, .tmp 90]⟩⟩, ⟨11, [10, 0, 9, 8, 1, 5, 4, 2, 3, 6, 7], ⟨(some 7), none, .eff .set [.tmp 91]⟩⟩])))))
 (.ops [⟨(some 92), none, .bin .add (.tmp 27) (.const (.int .i64 1))⟩, ⟨(some 27), none, .mov (.tmp 92)⟩])))))))
 (.fz (.ops [⟨(some 93), none, .mov (.tmp 4)⟩, ⟨(some 94), none, .mov (.tmp 7)⟩, ⟨(some 95), none, .bslice 137 1 [.slice none 0 0] [(0, 1, .tmp 94)]⟩, ⟨(some 96), none, .eff (.app 137 1 24 [.slice none 0 0]) [.tmp 93, .tmp 95]⟩, ⟨(some 4), none, .eff .set [.tmp 96]⟩]))))))
 (.ops [⟨(some 97), none, .bin .add (.tmp 19) (.const (.int .i64 1))⟩, ⟨(some 19), none, .mov (.tmp 97)⟩])))))))
 (.seq (.fz (.ops [⟨(some 98), none, .mov (.tmp 4)⟩, ⟨(some 2), none, .eff .set [.tmp 98]⟩]))
 .ret)))))⟩
theorem x18_ok : yfunc Tryd.prog Tryd.f18 = some (unjF x18) := by kernel_rfl

/-- slices.ContainsFunc[[]switchyard/api.Vector,switchyard/api.Vector] -/
def x66 : YF := ⟨9, [.tmp 4],
 (.seq (.ops [⟨(some 4), none, .eff .set [.const (.bool false)]⟩])
 (.seq (.ops [⟨(some 5), none, .mov (.tmp 0)⟩, ⟨(some 6), none, .mov (.tmp 1)⟩, ⟨(some 7), none, .call 118 [.tmp 5, .tmp 6]⟩, ⟨(some 8), none, .bin .geq (.tmp 7) (.const (.int .i64 0))⟩, ⟨(some 4), none, .eff .set [.tmp 8]⟩])
 .ret))⟩
theorem x66_ok : yfunc Tryd.prog Tryd.f66 = some x66 := by kernel_rfl

/-- switchyard/tree.Roles$1 -/
def x67 : YF := ⟨16, [.tmp 6],
 (.seq (.ops [⟨(some 5), none, .box 43 (.tmp 0)⟩, ⟨(some 6), none, .eff .set [.const (.bool false)]⟩])
 (.seq (.draw [7, 8, 9, 10, 11, 12, 13, 14, 15, 6] [⟨0, [], ⟨(some 7), none, .load true 21 (.tmp 5)⟩⟩, ⟨1, [], ⟨(some 8), none, .load true 9 (.tmp 1)⟩⟩, ⟨2, [], ⟨(some 9), none, .load false 1 (.tmp 2)⟩⟩, ⟨3, [], ⟨(some 10), none, .load false 1 (.tmp 3)⟩⟩, ⟨4, [2, 3], ⟨(some 11), none, .indexS 21 (.tmp 9) (.tmp 10)⟩⟩, ⟨5, [4, 2, 3], ⟨(some 12), none, .load true 21 (.tmp 11)⟩⟩, ⟨6, [], ⟨(some 13), none, .load false 1 (.tmp 4)⟩⟩, ⟨7, [1, 5, 4, 2, 3, 6], ⟨(some 14), none, .call 68 [.tmp 8, .tmp 12, .tmp 13]⟩⟩, ⟨8, [0, 7, 1, 5, 4, 2, 3, 6], ⟨(some 15), none, .call 56 [.tmp 7, .tmp 14]⟩⟩, ⟨9, [8, 0, 7, 1, 5, 4, 2, 3, 6], ⟨(some 6), none, .eff .set [.tmp 15]⟩⟩])
 .ret))⟩
theorem x67_ok : yfunc Tryd.prog Tryd.f67 = some x67 := by kernel_rfl

/-- slices.IndexFunc[[]switchyard/api.Vector,switchyard/api.Vector] -/
def x118 : YF := ⟨19, [.tmp 4],
 (.seq (.ops [⟨(some 4), none, .eff .set [.const (.int .i64 0)]⟩])
 (.seq (.seq (.ops [⟨(some 6), none, .mov (.tmp 0)⟩, ⟨(some 7), none, .len false (.tmp 6)⟩, ⟨(some 8), none, .mov (.const (.int .i64 0))⟩])
 (.block 0 (.loop [false, false, false, false, true, true, false, false, true, true, true, true, true, true, true, true, true, true, true] (.seq (.ops [⟨(some 9), none, .bin .lss (.tmp 8) (.tmp 7)⟩])
 (.seq (.cond (.tmp 9) .skip (.exit 0))
 (.seq (.block 1 (.seq (.ops [⟨(some 10), none, .mov (.tmp 8)⟩, ⟨(some 5), none, .eff .set [.tmp 10]⟩])
 (.seq (.ops [⟨(some 11), none, .mov (.tmp 1)⟩, ⟨(some 12), none, .mov (.tmp 0)⟩, ⟨(some 13), none, .mov (.tmp 5)⟩, ⟨(some 14), none, .indexS 21 (.tmp 12) (.tmp 13)⟩, ⟨(some 15), none, .load true 21 (.tmp 14)⟩, ⟨(some 16), none, .callv (.tmp 11) [.tmp 15]⟩])
 (.cond (.tmp 16) (.seq (.ops [⟨(some 17), none, .mov (.tmp 5)⟩, ⟨(some 4), none, .eff .set [.tmp 17]⟩])
 .ret) .skip))))
 (.ops [⟨(some 18), none, .bin .add (.tmp 8) (.const (.int .i64 1))⟩, ⟨(some 8), none, .mov (.tmp 18)⟩])))))))
 (.seq (.ops [⟨(some 4), none, .eff .set [.const (.int .i64 (-1))]⟩])
 .ret)))⟩
theorem x118_ok : yfunc Tryd.prog Tryd.f118 = some x118 := by kernel_rfl
end Go.Proofs.YtedfohdgigbhiaaDoor
