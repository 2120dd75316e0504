/- Functions of this seat with the type tables looked up; each checked by the kernel. Conditions: none. -/
import Derived.Test.YtfagdcpfebghoaaDoorProg
import Derived.Test.YtfagdcpfebghoaaDoorBaseC
namespace Go.Proofs.YtfagdcpfebghoaaDoor
open Go.Sx
set_option maxRecDepth 100000
/-- switchyard/switchyardlaw.TlvReads -/
def x13 : YF := ⟨78, [.tmp 2],
 (.seq (.ops [⟨(some 2), none, .eff .set [.const (.bool false)]⟩])
 (.seq (.seq (.ops [⟨(some 12), none, .mov (.tmp 0)⟩, ⟨(some 13), none, .len true (.tmp 12)⟩, ⟨(some 14), none, .bin .gtr (.tmp 13) (.const (.int .i64 3000))⟩])
 (.cond (.tmp 14) (.seq (.ops [⟨(some 2), none, .eff .set [.const (.bool true)]⟩])
 .ret) .skip))
 (.seq (.ops [⟨(some 16), none, .mov (.tmp 0)⟩, ⟨(some 17), none, .call 63 [.tmp 16]⟩, ⟨(some 15), none, .mov (.tmp 17)⟩, ⟨(some 18), none, .ext (.tmp 15) 0⟩, ⟨(some 19), none, .ext (.tmp 15) 1⟩, ⟨(some 20), none, .ext (.tmp 15) 2⟩, ⟨(some 21), none, .ext (.tmp 15) 3⟩, ⟨(some 6), none, .alloc 83 [.int .i64 0, .int .i64 0]⟩, ⟨(some 3), none, .eff .set [.tmp 18]⟩, ⟨(some 4), none, .eff .set [.tmp 19]⟩, ⟨(some 5), none, .eff .set [.tmp 20]⟩, ⟨none, none, .store 2 (.tmp 6) (.tmp 21)⟩])
 (.seq (.ops [⟨(some 23), none, .mov (.tmp 0)⟩, ⟨(some 24), none, .call 64 [.tmp 23]⟩, ⟨(some 22), none, .mov (.tmp 24)⟩, ⟨(some 25), none, .ext (.tmp 22) 0⟩, ⟨(some 26), none, .ext (.tmp 22) 1⟩, ⟨(some 27), none, .ext (.tmp 22) 2⟩, ⟨(some 28), none, .ext (.tmp 22) 3⟩, ⟨(some 7), none, .eff .set [.tmp 25]⟩, ⟨(some 8), none, .eff .set [.tmp 26]⟩, ⟨(some 9), none, .eff .set [.tmp 27]⟩, ⟨(some 10), none, .eff .set [.tmp 28]⟩])
 (.seq (.seq (.ops [⟨(some 29), none, .mov (.tmp 10)⟩, ⟨(some 30), none, .load true 2 (.tmp 6)⟩, ⟨(some 31), none, .call 54 [.tmp 29, .tmp 30]⟩, ⟨(some 32), none, .un .not (.tmp 31)⟩, ⟨(some 33), none, .mov (.tmp 32)⟩, ⟨(some 34), (some (33, false)), .mov (.tmp 3)⟩, ⟨(some 35), (some (33, false)), .len false (.tmp 34)⟩, ⟨(some 36), (some (33, false)), .mov (.tmp 7)⟩, ⟨(some 37), (some (33, false)), .len false (.tmp 36)⟩, ⟨(some 38), (some (33, false)), .bin .neq (.tmp 35) (.tmp 37)⟩, ⟨(some 39), none, .pick (.tmp 33) (.const (.bool true)) (.tmp 38)⟩, ⟨(some 40), none, .mov (.tmp 39)⟩, ⟨(some 41), (some (40, false)), .mov (.tmp 4)⟩, ⟨(some 42), (some (40, false)), .len false (.tmp 41)⟩, ⟨(some 43), (some (40, false)), .mov (.tmp 8)⟩, ⟨(some 44), (some (40, false)), .len false (.tmp 43)⟩, ⟨(some 45), (some (40, false)), .bin .neq (.tmp 42) (.tmp 44)⟩, ⟨(some 46), none, .pick (.tmp 40) (.const (.bool true)) (.tmp 45)⟩, ⟨(some 47), none, .mov (.tmp 46)⟩, ⟨(some 48), (some (47, false)), .mov (.tmp 5)⟩, ⟨(some 49), (some (47, false)), .mov (.tmp 9)⟩, ⟨(some 50), (some (47, false)), .bin .neq (.tmp 48) (.tmp 49)⟩, ⟨(some 51), none, .pick (.tmp 47) (.const (.bool true)) (.tmp 50)⟩])
 (.cond (.tmp 51) (.seq (.ops [⟨(some 2), none, .eff .set [.const (.bool false)]⟩])
 .ret) .skip))
 (.seq (.seq (.ops [⟨(some 52), none, .mov (.tmp 3)⟩, ⟨(some 53), none, .len false (.tmp 52)⟩, ⟨(some 54), none, .mov (.const (.int .i64 0))⟩])
 (.block 0 (.loop [false, false, true, false, false, false, false, false, false, false, false, true, false, false, false, false, false, false, false, false, false, false, false, false, false, false, false, false, false, false, false, false, false, false, false, false, false, false, false, false, false, false, false, false, false, false, false, false, false, false, false, false, false, false, true, true, true, true, true, true, true, true, true, true, true, true, true, true, true, true, true, true, true, true, true, true, true, true] (.seq (.ops [⟨(some 55), none, .bin .lss (.tmp 54) (.tmp 53)⟩])
 (.seq (.cond (.tmp 55) .skip (.exit 0))
 (.seq (.block 1 (.seq (.ops [⟨(some 56), none, .mov (.tmp 54)⟩, ⟨(some 11), none, .eff .set [.tmp 56]⟩])
 (.seq (.draw [57, 58, 59, 60, 61, 62, 63, 64, 65, 66, 67, 68, 69, 70, 71, 72, 73, 74, 75, 76] [⟨0, [], ⟨(some 57), none, .mov (.tmp 3)⟩⟩, ⟨1, [], ⟨(some 58), none, .mov (.tmp 11)⟩⟩, ⟨2, [0, 1], ⟨(some 59), none, .indexS 2 (.tmp 57) (.tmp 58)⟩⟩, ⟨3, [2, 0, 1], ⟨(some 60), none, .load true 2 (.tmp 59)⟩⟩, ⟨4, [], ⟨(some 61), none, .mov (.tmp 7)⟩⟩, ⟨5, [], ⟨(some 62), none, .mov (.tmp 11)⟩⟩, ⟨6, [4, 5], ⟨(some 63), none, .indexS 2 (.tmp 61) (.tmp 62)⟩⟩, ⟨7, [6, 4, 5], ⟨(some 64), none, .load true 2 (.tmp 63)⟩⟩, ⟨8, [3, 2, 0, 1, 7, 6, 4, 5], ⟨(some 65), none, .eqAgg true [0, 2] (.tmp 60) (.tmp 64)⟩⟩, ⟨9, [8, 3, 2, 0, 1, 7, 6, 4, 5], ⟨(some 66), none, .mov (.tmp 65)⟩⟩, ⟨10, [9, 8, 3, 2, 0, 1, 7, 6, 4, 5], ⟨(some 67), (some (66, false)), .mov (.tmp 4)⟩⟩, ⟨11, [9, 8, 3, 2, 0, 1, 7, 6, 4, 5], ⟨(some 68), (some (66, false)), .mov (.tmp 11)⟩⟩, ⟨12, [10, 11, 9, 8, 3, 2, 0, 1, 7, 6, 4, 5], ⟨(some 69), (some (66, false)), .indexS 1 (.tmp 67) (.tmp 68)⟩⟩, ⟨13, [12, 10, 11, 9, 8, 3, 2, 0, 1, 7, 6, 4, 5], ⟨(some 70), (some (66, false)), .load false 1 (.tmp 69)⟩⟩, ⟨14, [9, 8, 3, 2, 0, 1, 7, 6, 4, 5], ⟨(some 71), (some (66, false)), .mov (.tmp 8)⟩⟩, ⟨15, [9, 8, 3, 2, 0, 1, 7, 6, 4, 5], ⟨(some 72), (some (66, false)), .mov (.tmp 11)⟩⟩, ⟨16, [14, 15, 9, 8, 3, 2, 0, 1, 7, 6, 4, 5], ⟨(some 73), (some (66, false)), .indexS 1 (.tmp 71) (.tmp 72)⟩⟩, ⟨17, [16, 14, 15, 9, 8, 3, 2, 0, 1, 7, 6, 4, 5], ⟨(some 74), (some (66, false)), .load false 1 (.tmp 73)⟩⟩, ⟨18, [13, 12, 10, 11, 17, 16, 14, 15, 9, 8, 3, 2, 0, 1, 7, 6, 4, 5], ⟨(some 75), (some (66, false)), .bin .neq (.tmp 70) (.tmp 74)⟩⟩, ⟨19, [18, 13, 12, 10, 11, 17, 16, 14, 15, 9, 8, 3, 2, 0, 1, 7, 6, 4, 5], ⟨(some 76), none, .pick (.tmp 66) (.const (.bool true)) (.tmp 75)⟩⟩])
 (.cond (.tmp 76) (.seq (.ops [⟨(some 2), none, .eff .set [.const (.bool false)]⟩])
 .ret) .skip))))
 (.ops [⟨(some 77), none, .bin .add (.tmp 54) (.const (.int .i64 1))⟩, ⟨(some 54), none, .mov (.tmp 77)⟩])))))))
 (.seq (.ops [⟨(some 2), none, .eff .set [.const (.bool true)]⟩])
 .ret)))))))⟩
theorem x13_ok : yfunc Tryd.prog Tryd.f13 = some x13 := by kernel_rfl

/-- switchyard/switchyardref.TlvRead -/
def x63 : YFD := ⟨47, [.cell 2 false 1, .cell 3 false 1, .cell 4 false 1, .cell 5 true 2],
 [.code (.ops [⟨(some 2), none, .alloc 100 [.slice none 0 0]⟩, ⟨(some 3), none, .alloc 107 [.slice none 0 0]⟩, ⟨(some 4), none, .alloc 3 [.int .i64 0]⟩, ⟨(some 5), none, .alloc 83 [.int .i64 0, .int .i64 0]⟩]),
  .code (.ops [⟨(some 9), none, .call 69 []⟩, ⟨none, none, .store 2 (.tmp 5) (.tmp 9)⟩]),
  .dfr [⟨(some 10), none, .mkF 90 [] [.tmp 5, .tmp 2, .tmp 3, .tmp 4]⟩] (.tmp 10) [],
  .dfr [] (.func 70) [.tmp 5]],
 (.seq (.ops [⟨(some 11), none, .mov (.tmp 0)⟩, ⟨(some 12), none, .build [.string ⟨#[]⟩, .int .i64 0, .int .i64 0] [(0, 1, .tmp 11)]⟩, ⟨(some 13), none, .box 125 (.tmp 12)⟩, ⟨(some 6), none, .eff .set [.tmp 13]⟩])
 (.block 0 (.loop [false, false, false, false, false, false, false, true, true, false, false, false, false, false, true, true, true, true, true, true, true, true, true, true, true, true, true, true, true, true, true, true, true, true, true, true, true, true, true, true, true, true, true, true, true, true, true] (.block 1 (.seq (.ops [⟨(some 14), none, .mov (.tmp 6)⟩, ⟨(some 15), none, .more .nilC [.tmp 14]⟩, ⟨(some 16), none, .fieldA 1 (.tmp 15)⟩, ⟨(some 17), none, .load false 1 (.tmp 16)⟩, ⟨(some 7), none, .eff .set [.tmp 17]⟩])
 (.seq (.ops [⟨(some 18), none, .mov (.tmp 6)⟩, ⟨(some 19), none, .call 79 [.tmp 18, .const (.int .i64 2)]⟩, ⟨(some 8), none, .eff .set [.tmp 19]⟩])
 (.seq (.seq (.ops [⟨(some 20), none, .mov (.tmp 8)⟩, ⟨(some 21), none, .bin .lss (.tmp 20) (.const (.int .i64 512))⟩])
 (.cond (.tmp 21) (.seq (.seq (.ops [⟨(some 22), none, .mov (.tmp 8)⟩, ⟨(some 23), none, .bin .gtr (.tmp 22) (.const (.int .i64 0))⟩])
 (.cond (.tmp 23) (.ops [⟨(some 24), none, .mov (.tmp 6)⟩, ⟨(some 25), none, .mov (.tmp 7)⟩, ⟨(some 26), none, .call 80 [.tmp 24, .const (.int .i64 3), .tmp 25]⟩]) .skip))
 (.seq (.ops [⟨(some 27), none, .mov (.tmp 6)⟩, ⟨(some 28), none, .call 83 [.tmp 27]⟩])
 (.seq (.draw [29, 30, 31, 32] [⟨0, [], ⟨(some 29), none, .load false 1 (.tmp 2)⟩⟩, ⟨1, [], ⟨(some 30), none, .load false 1 (.tmp 3)⟩⟩, ⟨2, [], ⟨(some 31), none, .mov (.tmp 7)⟩⟩, ⟨3, [], ⟨(some 32), none, .load true 2 (.tmp 5)⟩⟩, ⟨4, [0], ⟨none, none, .store 1 (.tmp 2) (.tmp 29)⟩⟩, ⟨5, [1, 4, 0], ⟨none, none, .store 1 (.tmp 3) (.tmp 30)⟩⟩, ⟨6, [2, 5, 1, 4, 0], ⟨none, none, .store 1 (.tmp 4) (.tmp 31)⟩⟩, ⟨7, [3, 6, 2, 5, 1, 4, 0], ⟨none, none, .store 2 (.tmp 5) (.tmp 32)⟩⟩])
 .ret))) .skip))
 (.seq (.draw [33, 34, 35, 36, 37, 38, 39, 40, 41, 42] [⟨0, [], ⟨(some 33), none, .load false 1 (.tmp 2)⟩⟩, ⟨1, [], ⟨(some 34), none, .mov (.tmp 8)⟩⟩, ⟨2, [1], ⟨(some 35), none, .bin .quo (.tmp 34) (.const (.int .i64 512))⟩⟩, ⟨3, [], ⟨(some 36), none, .mov (.tmp 6)⟩⟩, ⟨4, [], ⟨(some 37), none, .mov (.tmp 8)⟩⟩, ⟨5, [4], ⟨(some 38), none, .bin .rem (.tmp 37) (.const (.int .i64 512))⟩⟩, ⟨6, [3, 5, 4], ⟨(some 39), none, .call 82 [.tmp 36, .tmp 38]⟩⟩, ⟨7, [2, 1, 6, 3, 5, 4], ⟨(some 40), none, .build [.int .i64 0, .string ⟨#[]⟩] [(0, 1, .tmp 35), (1, 1, .tmp 39)]⟩⟩, ⟨8, [7, 2, 1, 6, 3, 5, 4], ⟨(some 41), none, .bslice 102 1 [.int .i64 0, .string ⟨#[]⟩] [(0, 2, .tmp 40)]⟩⟩, ⟨9, [0, 8, 7, 2, 1, 6, 3, 5, 4], ⟨(some 42), none, .eff (.app 102 2 24 [.int .i64 0, .string ⟨#[]⟩]) [.tmp 33, .tmp 41]⟩⟩, ⟨10, [9, 0, 8, 7, 2, 1, 6, 3, 5, 4], ⟨none, none, .store 1 (.tmp 2) (.tmp 42)⟩⟩])
 (.ops [⟨(some 43), none, .load false 1 (.tmp 3)⟩, ⟨(some 44), none, .mov (.tmp 7)⟩, ⟨(some 45), none, .bslice 3 1 [.int .i64 0] [(0, 1, .tmp 44)]⟩, ⟨(some 46), none, .eff (.app 3 1 8 [.int .i64 0]) [.tmp 43, .tmp 45]⟩, ⟨none, none, .store 1 (.tmp 3) (.tmp 46)⟩])))))))))⟩
theorem x63_ok : yfuncD Tryd.prog Tryd.f63 4 = some x63 := by kernel_rfl

/-- switchyard/tlv.Read -/
def x64 : YF := ⟨56, [.tmp 2, .tmp 3, .tmp 4, .tmp 5],
 (.seq (.ops [⟨(some 2), none, .eff .set [.const (.slice none 0 0)]⟩, ⟨(some 3), none, .eff .set [.const (.slice none 0 0)]⟩, ⟨(some 4), none, .eff .set [.const (.int .i64 0)]⟩, ⟨(some 5), none, .eff .set [.const (.nilIface)]⟩])
 (.seq (.ops [⟨(some 12), none, .mov (.tmp 0)⟩, ⟨(some 13), none, .call 51 [.tmp 12, .const (.int .i64 0)]⟩, ⟨(some 6), none, .eff .set [.tmp 13]⟩])
 (.seq (.ops [⟨(some 7), none, .eff .set [.const (.slice none 0 0)]⟩])
 (.seq (.ops [⟨(some 8), none, .eff .set [.const (.slice none 0 0)]⟩])
 (.seq (.block 0 (.loop [false, false, true, true, true, true, false, true, true, true, true, true, false, false, true, true, true, true, true, true, true, true, true, true, true, true, true, true, true, true, true, true, true, true, true, true, true, true, true, true, true, true, true, true, true, true, true, true, true, true, true, true, true, true] (.seq (.seq (.ops [⟨(some 14), none, .mov (.tmp 6)⟩, ⟨(some 15), none, .call 55 [.tmp 14]⟩, ⟨(some 16), none, .more (.nilI false) [.tmp 15]⟩])
 (.cond (.tmp 16) .skip (.exit 0)))
 (.block 1 (.seq (.ops [⟨(some 17), none, .mov (.tmp 6)⟩, ⟨(some 18), none, .call 75 [.tmp 17]⟩, ⟨(some 9), none, .eff .set [.tmp 18]⟩])
 (.seq (.ops [⟨(some 19), none, .mov (.tmp 6)⟩, ⟨(some 20), none, .call 73 [.tmp 19, .const (.int .i64 2)]⟩, ⟨(some 10), none, .eff .set [.tmp 20]⟩])
 (.seq (.seq (.ops [⟨(some 21), none, .mov (.tmp 6)⟩, ⟨(some 22), none, .call 55 [.tmp 21]⟩, ⟨(some 23), none, .more (.nilI false) [.tmp 22]⟩, ⟨(some 24), none, .mov (.tmp 23)⟩, ⟨(some 25), (some (24, true)), .mov (.tmp 10)⟩, ⟨(some 26), (some (24, true)), .bin .shr (.tmp 25) (.const (.int .u64 9))⟩, ⟨(some 27), (some (24, true)), .bin .eql (.tmp 26) (.const (.int .i64 0))⟩, ⟨(some 28), none, .pick (.tmp 24) (.tmp 27) (.const (.bool false))⟩])
 (.cond (.tmp 28) (.seq (.seq (.ops [⟨(some 29), none, .mov (.tmp 10)⟩, ⟨(some 30), none, .bin .neq (.tmp 29) (.const (.int .i64 0))⟩])
 (.cond (.tmp 30) (.ops [⟨(some 31), none, .mov (.tmp 6)⟩, ⟨(some 32), none, .mov (.tmp 9)⟩, ⟨(some 33), none, .call 76 [.tmp 31, .const (.int .i64 3), .tmp 32]⟩]) .skip))
 (.seq (.seq (.ops [⟨(some 34), none, .mov (.tmp 6)⟩, ⟨(some 35), none, .call 84 [.tmp 34]⟩])
 (.cond (.tmp 35) (.seq (.ops [⟨(some 36), none, .mov (.tmp 7)⟩, ⟨(some 37), none, .mov (.tmp 8)⟩, ⟨(some 38), none, .mov (.tmp 9)⟩, ⟨(some 2), none, .eff .set [.tmp 36]⟩, ⟨(some 3), none, .eff .set [.tmp 37]⟩, ⟨(some 4), none, .eff .set [.tmp 38]⟩, ⟨(some 5), none, .eff .set [.const (.nilIface)]⟩])
 .ret) .skip))
 (.exit 0))) .skip))
 (.seq (.ops [⟨(some 39), none, .mov (.tmp 10)⟩, ⟨(some 40), none, .bin .shr (.tmp 39) (.const (.int .u64 9))⟩, ⟨(some 41), none, .mov (.tmp 6)⟩, ⟨(some 42), none, .mov (.tmp 10)⟩, ⟨(some 43), none, .bin .and (.tmp 42) (.const (.int .i64 511))⟩, ⟨(some 44), none, .call 74 [.tmp 41, .tmp 43]⟩, ⟨(some 45), none, .build [.int .i64 0, .string ⟨#[]⟩] [(0, 1, .tmp 40), (1, 1, .tmp 44)]⟩, ⟨(some 11), none, .alloc 102 [.int .i64 0, .string ⟨#[]⟩]⟩, ⟨none, none, .store 2 (.tmp 11) (.tmp 45)⟩])
 (.ops [⟨(some 46), none, .mov (.tmp 7)⟩, ⟨(some 47), none, .load true 2 (.tmp 11)⟩, ⟨(some 48), none, .bslice 102 1 [.int .i64 0, .string ⟨#[]⟩] [(0, 2, .tmp 47)]⟩, ⟨(some 49), none, .eff (.app 102 2 24 [.int .i64 0, .string ⟨#[]⟩]) [.tmp 46, .tmp 48]⟩, ⟨(some 50), none, .mov (.tmp 8)⟩, ⟨(some 51), none, .mov (.tmp 9)⟩, ⟨(some 52), none, .bslice 3 1 [.int .i64 0] [(0, 1, .tmp 51)]⟩, ⟨(some 53), none, .eff (.app 3 1 8 [.int .i64 0]) [.tmp 50, .tmp 52]⟩, ⟨(some 7), none, .eff .set [.tmp 49]⟩, ⟨(some 8), none, .eff .set [.tmp 53]⟩])))))))))
 (.seq (.ops [⟨(some 54), none, .mov (.tmp 6)⟩, ⟨(some 55), none, .call 55 [.tmp 54]⟩, ⟨(some 2), none, .eff .set [.const (.slice none 0 0)]⟩, ⟨(some 3), none, .eff .set [.const (.slice none 0 0)]⟩, ⟨(some 4), none, .eff .set [.const (.int .i64 0)]⟩, ⟨(some 5), none, .eff .set [.tmp 55]⟩])
 .ret))))))⟩
theorem x64_ok : yfunc Tryd.prog Tryd.f64 = some x64 := by kernel_rfl

/-- switchyard/switchyardref.TlvRead$1 -/
def x90 : YF := ⟨7, [],
 (.seq (.ops [⟨(some 4), none, .load true 2 (.tmp 0)⟩, ⟨(some 5), none, .call 56 [.tmp 4]⟩, ⟨(some 6), none, .un .not (.tmp 5)⟩])
 (.cond (.tmp 6) (.ops [⟨none, none, .store 1 (.tmp 1) (.const (.slice none 0 0))⟩, ⟨none, none, .store 1 (.tmp 2) (.const (.slice none 0 0))⟩, ⟨none, none, .store 1 (.tmp 3) (.const (.int .i64 0))⟩]) .skip))⟩
theorem x90_ok : yfunc Tryd.prog Tryd.f90 = some x90 := by kernel_rfl
end Go.Proofs.YtfagdcpfebghoaaDoor
