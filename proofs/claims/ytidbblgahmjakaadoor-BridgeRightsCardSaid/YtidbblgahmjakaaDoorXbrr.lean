/- Functions of this seat with the type tables looked up; each checked by the kernel. Conditions: none. -/
import Derived.Test.YtidbblgahmjakaaDoorProg
import Derived.Test.YtidbblgahmjakaaDoorBaseC
namespace Go.Proofs.YtidbblgahmjakaaDoor
open Go.Sx
set_option maxRecDepth 100000
/-- switchyard/switchyardlaw.BridgeRights -/
def x5 : YF := ⟨56, [.tmp 4],
 (.seq (.ops [⟨(some 4), none, .eff .set [.const (.bool false)]⟩])
 (.seq (.seq (.ops [⟨(some 11), none, .mov (.tmp 0)⟩, ⟨(some 12), none, .len false (.tmp 11)⟩, ⟨(some 13), none, .bin .gtr (.tmp 12) (.const (.int .i64 12))⟩])
 (.cond (.tmp 13) (.seq (.ops [⟨(some 4), none, .eff .set [.const (.bool true)]⟩])
 .ret) .skip))
 (.seq (.seq (.ops [⟨(some 14), none, .mov (.tmp 0)⟩, ⟨(some 15), none, .len false (.tmp 14)⟩, ⟨(some 16), none, .mov (.const (.int .i64 0))⟩])
 (.block 0 (.loop [false, false, false, false, true, false, true, false, false, false, false, false, false, false, false, false, true, true, true, true, true, true, true, true, true, true, true, true, true, true, true, true, true, true] (.seq (.ops [⟨(some 17), none, .bin .lss (.tmp 16) (.tmp 15)⟩])
 (.seq (.cond (.tmp 17) .skip (.exit 0))
 (.seq (.block 1 (.seq (.ops [⟨(some 18), none, .indexS 4 (.tmp 14) (.tmp 16)⟩, ⟨(some 19), none, .load true 4 (.tmp 18)⟩, ⟨(some 6), none, .alloc 48 [.int .i64 0, .slice none 0 0, .slice none 0 0, .int .i64 0]⟩, ⟨none, none, .store 4 (.tmp 6) (.tmp 19)⟩])
 (.seq (.seq (.ops [⟨(some 20), none, .fieldA 1 (.tmp 6)⟩, ⟨(some 21), none, .load false 1 (.tmp 20)⟩, ⟨(some 22), none, .len false (.tmp 21)⟩, ⟨(some 23), none, .fieldA 2 (.tmp 6)⟩, ⟨(some 24), none, .load false 1 (.tmp 23)⟩, ⟨(some 25), none, .len false (.tmp 24)⟩, ⟨(some 26), none, .bin .add (.tmp 22) (.tmp 25)⟩, ⟨(some 27), none, .bin .gtr (.tmp 26) (.const (.int .i64 200))⟩])
 (.cond (.tmp 27) (.seq (.ops [⟨(some 4), none, .eff .set [.const (.bool true)]⟩])
 .ret) .skip))
 (.seq (.draw [28, 30, 29, 31, 32] [⟨0, [], ⟨(some 28), none, .load true 4 (.tmp 6)⟩⟩, ⟨2, [], ⟨(some 30), none, .load true 4 (.tmp 6)⟩⟩, ⟨1, [0], ⟨(some 29), none, .call 23 [.tmp 28]⟩⟩, ⟨3, [2, 1, 0], ⟨(some 31), none, .call 24 [.tmp 30]⟩⟩, ⟨4, [3, 2, 1, 0], ⟨(some 32), none, .eqB true (.tmp 29) (.tmp 31)⟩⟩])
 (.cond (.tmp 32) (.seq (.ops [⟨(some 4), none, .eff .set [.const (.bool false)]⟩])
 .ret) .skip)))))
 (.ops [⟨(some 33), none, .bin .add (.tmp 16) (.const (.int .i64 1))⟩, ⟨(some 16), none, .mov (.tmp 33)⟩])))))))
 (.seq (.ops [⟨(some 35), none, .mov (.tmp 0)⟩, ⟨(some 36), none, .mov (.tmp 1)⟩, ⟨(some 37), none, .call 25 [.tmp 35, .tmp 36]⟩, ⟨(some 34), none, .mov (.tmp 37)⟩, ⟨(some 38), none, .ext (.tmp 34) 0⟩, ⟨(some 39), none, .ext (.tmp 34) 1⟩, ⟨(some 8), none, .alloc 42 [.int .i64 0, .int .i64 0]⟩, ⟨(some 7), none, .eff .set [.tmp 38]⟩, ⟨none, none, .store 2 (.tmp 8) (.tmp 39)⟩])
 (.seq (.ops [⟨(some 41), none, .mov (.tmp 0)⟩, ⟨(some 42), none, .mov (.tmp 1)⟩, ⟨(some 43), none, .call 26 [.tmp 41, .tmp 42]⟩, ⟨(some 40), none, .mov (.tmp 43)⟩, ⟨(some 44), none, .ext (.tmp 40) 0⟩, ⟨(some 45), none, .ext (.tmp 40) 1⟩, ⟨(some 9), none, .eff .set [.tmp 44]⟩, ⟨(some 10), none, .eff .set [.tmp 45]⟩])
 (.seq (.ops [⟨(some 46), none, .mov (.tmp 10)⟩, ⟨(some 47), none, .load true 2 (.tmp 8)⟩, ⟨(some 48), none, .call 19 [.tmp 46, .tmp 47]⟩, ⟨(some 49), none, .mov (.tmp 48)⟩, ⟨(some 50), (some (49, true)), .mov (.tmp 9)⟩, ⟨(some 51), (some (49, true)), .more (.nilP true) [.tmp 50]⟩, ⟨(some 52), (some (49, true)), .load true 2 (.tmp 8)⟩, ⟨(some 53), (some (49, true)), .call 27 [.tmp 52]⟩, ⟨(some 54), (some (49, true)), .eqB false (.tmp 51) (.tmp 53)⟩, ⟨(some 55), none, .pick (.tmp 49) (.tmp 54) (.const (.bool false))⟩, ⟨(some 4), none, .eff .set [.tmp 55]⟩])
 .ret))))))⟩
theorem x5_ok : yfunc Tryd.prog Tryd.f5 = some x5 := by kernel_rfl

/-- switchyard/bridge.Right -/
def x23 : YF := ⟨44, [.tmp 2],
 (.seq (.ops [⟨(some 1), none, .box 48 (.tmp 0)⟩, ⟨(some 2), none, .eff .set [.const (.bool false)]⟩])
 (.seq (.ops [⟨(some 3), none, .fieldA 0 (.tmp 1)⟩, ⟨(some 4), none, .load false 1 (.tmp 3)⟩, ⟨(some 5), none, .bin .geq (.tmp 4) (.const (.int .i64 1))⟩, ⟨(some 6), none, .mov (.tmp 5)⟩, ⟨(some 7), (some (6, true)), .fieldA 0 (.tmp 1)⟩, ⟨(some 8), (some (6, true)), .load false 1 (.tmp 7)⟩, ⟨(some 9), (some (6, true)), .bin .leq (.tmp 8) (.const (.int .i64 4094))⟩, ⟨(some 10), none, .pick (.tmp 6) (.tmp 9) (.const (.bool false))⟩, ⟨(some 11), none, .mov (.tmp 10)⟩, ⟨(some 12), (some (11, true)), .fieldA 3 (.tmp 1)⟩, ⟨(some 13), (some (11, true)), .load false 1 (.tmp 12)⟩, ⟨(some 14), (some (11, true)), .bin .geq (.tmp 13) (.const (.int .i64 1))⟩, ⟨(some 15), none, .pick (.tmp 11) (.tmp 14) (.const (.bool false))⟩, ⟨(some 16), none, .mov (.tmp 15)⟩, ⟨(some 17), (some (16, true)), .fieldA 3 (.tmp 1)⟩, ⟨(some 18), (some (16, true)), .load false 1 (.tmp 17)⟩, ⟨(some 19), (some (16, true)), .bin .leq (.tmp 18) (.const (.int .i64 3))⟩, ⟨(some 20), none, .pick (.tmp 16) (.tmp 19) (.const (.bool false))⟩, ⟨(some 21), none, .mov (.tmp 20)⟩, ⟨(some 22), (some (21, true)), .fieldA 1 (.tmp 1)⟩, ⟨(some 23), (some (21, true)), .load false 1 (.tmp 22)⟩, ⟨(some 24), (some (21, true)), .len false (.tmp 23)⟩, ⟨(some 25), (some (21, true)), .bin .leq (.tmp 24) (.const (.int .i64 64))⟩, ⟨(some 26), none, .pick (.tmp 21) (.tmp 25) (.const (.bool false))⟩, ⟨(some 27), none, .mov (.tmp 26)⟩, ⟨(some 28), (some (27, true)), .fieldA 1 (.tmp 1)⟩, ⟨(some 29), (some (27, true)), .load false 1 (.tmp 28)⟩, ⟨(some 30), (some (27, true)), .call 73 [.tmp 29]⟩, ⟨(some 31), none, .pick (.tmp 27) (.tmp 30) (.const (.bool false))⟩, ⟨(some 32), none, .mov (.tmp 31)⟩, ⟨(some 33), (some (32, true)), .fieldA 2 (.tmp 1)⟩, ⟨(some 34), (some (32, true)), .load false 1 (.tmp 33)⟩, ⟨(some 35), (some (32, true)), .call 73 [.tmp 34]⟩, ⟨(some 36), none, .pick (.tmp 32) (.tmp 35) (.const (.bool false))⟩, ⟨(some 37), none, .mov (.tmp 36)⟩, ⟨(some 38), (some (37, true)), .fieldA 2 (.tmp 1)⟩, ⟨(some 39), (some (37, true)), .load false 1 (.tmp 38)⟩, ⟨(some 40), (some (37, true)), .mkF 75 [] [.tmp 1]⟩, ⟨(some 41), (some (37, true)), .call 74 [.tmp 39, .tmp 40]⟩, ⟨(some 42), (some (37, true)), .un .not (.tmp 41)⟩, ⟨(some 43), none, .pick (.tmp 37) (.tmp 42) (.const (.bool false))⟩, ⟨(some 2), none, .eff .set [.tmp 43]⟩])
 .ret))⟩
theorem x23_ok : yfunc Tryd.prog Tryd.f23 = some x23 := by kernel_rfl

/-- switchyard/switchyardref.PortSetRight -/
def x24 : YF := ⟨42, [.tmp 2],
 (.seq (.ops [⟨(some 1), none, .box 48 (.tmp 0)⟩, ⟨(some 2), none, .eff .set [.const (.bool false)]⟩])
 (.seq (.seq (.ops [⟨(some 5), none, .fieldA 2 (.tmp 1)⟩, ⟨(some 6), none, .load false 1 (.tmp 5)⟩, ⟨(some 7), none, .len false (.tmp 6)⟩, ⟨(some 8), none, .mov (.const (.int .i64 0))⟩])
 (.block 0 (.loop [false, false, true, false, true, false, false, false, true, true, true, true, true, true, true, true, true, true] (.seq (.ops [⟨(some 9), none, .bin .lss (.tmp 8) (.tmp 7)⟩])
 (.seq (.cond (.tmp 9) .skip (.exit 0))
 (.seq (.block 1 (.seq (.ops [⟨(some 10), none, .indexS 1 (.tmp 6) (.tmp 8)⟩, ⟨(some 11), none, .load false 1 (.tmp 10)⟩, ⟨(some 4), none, .eff .set [.tmp 11]⟩])
 (.seq (.ops [⟨(some 12), none, .fieldA 1 (.tmp 1)⟩, ⟨(some 13), none, .load false 1 (.tmp 12)⟩, ⟨(some 14), none, .mov (.tmp 4)⟩, ⟨(some 15), none, .call 77 [.tmp 13, .tmp 14]⟩, ⟨(some 16), none, .un .not (.tmp 15)⟩])
 (.cond (.tmp 16) (.seq (.ops [⟨(some 2), none, .eff .set [.const (.bool false)]⟩])
 .ret) .skip))))
 (.ops [⟨(some 17), none, .bin .add (.tmp 8) (.const (.int .i64 1))⟩, ⟨(some 8), none, .mov (.tmp 17)⟩])))))))
 (.seq (.ops [⟨(some 18), none, .fieldA 0 (.tmp 1)⟩, ⟨(some 19), none, .load false 1 (.tmp 18)⟩, ⟨(some 20), none, .call 71 [.tmp 19, .const (.int .i64 1), .const (.int .i64 4094)]⟩, ⟨(some 21), none, .mov (.tmp 20)⟩, ⟨(some 22), (some (21, true)), .fieldA 3 (.tmp 1)⟩, ⟨(some 23), (some (21, true)), .load false 1 (.tmp 22)⟩, ⟨(some 24), (some (21, true)), .call 71 [.tmp 23, .const (.int .i64 1), .const (.int .i64 3)]⟩, ⟨(some 25), none, .pick (.tmp 21) (.tmp 24) (.const (.bool false))⟩, ⟨(some 26), none, .mov (.tmp 25)⟩, ⟨(some 27), (some (26, true)), .fieldA 1 (.tmp 1)⟩, ⟨(some 28), (some (26, true)), .load false 1 (.tmp 27)⟩, ⟨(some 29), (some (26, true)), .len false (.tmp 28)⟩, ⟨(some 30), (some (26, true)), .bin .leq (.tmp 29) (.const (.int .i64 64))⟩, ⟨(some 31), none, .pick (.tmp 26) (.tmp 30) (.const (.bool false))⟩, ⟨(some 32), none, .mov (.tmp 31)⟩, ⟨(some 33), (some (32, true)), .fieldA 1 (.tmp 1)⟩, ⟨(some 34), (some (32, true)), .load false 1 (.tmp 33)⟩, ⟨(some 35), (some (32, true)), .call 78 [.tmp 34]⟩, ⟨(some 36), none, .pick (.tmp 32) (.tmp 35) (.const (.bool false))⟩, ⟨(some 37), none, .mov (.tmp 36)⟩, ⟨(some 38), (some (37, true)), .fieldA 2 (.tmp 1)⟩, ⟨(some 39), (some (37, true)), .load false 1 (.tmp 38)⟩, ⟨(some 40), (some (37, true)), .call 78 [.tmp 39]⟩, ⟨(some 41), none, .pick (.tmp 37) (.tmp 40) (.const (.bool false))⟩, ⟨(some 2), none, .eff .set [.tmp 41]⟩])
 .ret)))⟩
theorem x24_ok : yfunc Tryd.prog Tryd.f24 = some x24 := by kernel_rfl

/-- switchyard/switchyardref.NewBridge -/
def x25 : YF := ⟨37, [.tmp 4, .cell 5 true 2],
 (.seq (.ops [⟨(some 4), none, .eff .set [.const (.pointer none)]⟩, ⟨(some 5), none, .alloc 42 [.int .i64 0, .int .i64 0]⟩])
 (.seq (.seq (.ops [⟨(some 8), none, .mov (.tmp 0)⟩, ⟨(some 9), none, .len false (.tmp 8)⟩, ⟨(some 10), none, .bin .gtr (.tmp 9) (.const (.int .i64 8))⟩])
 (.cond (.tmp 10) (.seq (.ops [⟨(some 11), none, .call 68 [.const (.int .i64 4)]⟩, ⟨(some 4), none, .eff .set [.const (.pointer none)]⟩, ⟨none, none, .store 2 (.tmp 5) (.tmp 11)⟩])
 .ret) .skip))
 (.seq (.seq (.ops [⟨(some 12), none, .mov (.tmp 0)⟩, ⟨(some 13), none, .len false (.tmp 12)⟩, ⟨(some 14), none, .mov (.const (.int .i64 0))⟩])
 (.block 0 (.loop [false, false, false, false, true, false, true, true, false, false, false, false, false, false, true, true, true, true, true, true, true, true, true, true, true] (.seq (.ops [⟨(some 15), none, .bin .lss (.tmp 14) (.tmp 13)⟩])
 (.seq (.cond (.tmp 15) .skip (.exit 0))
 (.seq (.block 1 (.seq (.ops [⟨(some 16), none, .mov (.tmp 14)⟩, ⟨(some 17), none, .indexS 4 (.tmp 12) (.tmp 14)⟩, ⟨(some 18), none, .load true 4 (.tmp 17)⟩, ⟨(some 7), none, .alloc 48 [.int .i64 0, .slice none 0 0, .slice none 0 0, .int .i64 0]⟩, ⟨(some 6), none, .eff .set [.tmp 16]⟩, ⟨none, none, .store 4 (.tmp 7) (.tmp 18)⟩])
 (.seq (.ops [⟨(some 19), none, .load true 4 (.tmp 7)⟩, ⟨(some 20), none, .call 24 [.tmp 19]⟩, ⟨(some 21), none, .un .not (.tmp 20)⟩])
 (.cond (.tmp 21) (.seq (.ops [⟨(some 22), none, .mov (.tmp 6)⟩, ⟨(some 23), none, .build [.int .i64 0, .int .i64 0] [(0, 1, .const (.int .i64 1)), (1, 1, .tmp 22)]⟩, ⟨(some 4), none, .eff .set [.const (.pointer none)]⟩, ⟨none, none, .store 2 (.tmp 5) (.tmp 23)⟩])
 .ret) .skip))))
 (.ops [⟨(some 24), none, .bin .add (.tmp 14) (.const (.int .i64 1))⟩, ⟨(some 14), none, .mov (.tmp 24)⟩])))))))
 (.seq (.seq (.ops [⟨(some 25), none, .mov (.tmp 1)⟩, ⟨(some 26), none, .call 71 [.tmp 25, .const (.int .i64 1), .const (.int .i64 300)]⟩, ⟨(some 27), none, .un .not (.tmp 26)⟩])
 (.cond (.tmp 27) (.seq (.ops [⟨(some 28), none, .call 68 [.const (.int .i64 2)]⟩, ⟨(some 4), none, .eff .set [.const (.pointer none)]⟩, ⟨none, none, .store 2 (.tmp 5) (.tmp 28)⟩])
 .ret) .skip))
 (.seq (.ops [⟨(some 29), none, .mov (.tmp 0)⟩, ⟨(some 30), none, .eff (.app 48 4 64 [.int .i64 0, .slice none 0 0, .slice none 0 0, .int .i64 0]) [.const (.slice none 0 0), .tmp 29]⟩, ⟨(some 31), none, .mov (.tmp 1)⟩, ⟨(some 32), none, .build [.int .i64 0, .int .i64 0, .slice none 0 0] [(0, 1, .tmp 31)]⟩, ⟨(some 33), none, .box 115 (.tmp 32)⟩, ⟨(some 34), none, .build [.slice none 0 0, .pointer none] [(0, 1, .tmp 30), (1, 1, .tmp 33)]⟩, ⟨(some 35), none, .box 168 (.tmp 34)⟩, ⟨(some 36), none, .call 72 []⟩, ⟨(some 4), none, .eff .set [.tmp 35]⟩, ⟨none, none, .store 2 (.tmp 5) (.tmp 36)⟩])
 .ret)))))⟩
theorem x25_ok : yfunc Tryd.prog Tryd.f25 = some x25 := by kernel_rfl

/-- switchyard/bridge.New -/
def x26 : YF := ⟨63, [.tmp 4, .tmp 5],
 (.seq (.ops [⟨(some 4), none, .eff .set [.const (.pointer none)]⟩, ⟨(some 5), none, .eff .set [.const (.nilIface)]⟩])
 (.seq (.seq (.ops [⟨(some 11), none, .mov (.tmp 0)⟩, ⟨(some 12), none, .len false (.tmp 11)⟩, ⟨(some 13), none, .bin .gtr (.tmp 12) (.const (.int .i64 8))⟩])
 (.cond (.tmp 13) (.seq (.ops [⟨(some 14), none, .mkI 40 (.const (.int .i64 4))⟩, ⟨(some 4), none, .eff .set [.const (.pointer none)]⟩, ⟨(some 5), none, .eff .set [.tmp 14]⟩])
 .ret) .skip))
 (.seq (.ops [⟨(some 15), none, .build [.slice none 0 0, .pointer none] []⟩, ⟨(some 16), none, .box 170 (.tmp 15)⟩, ⟨(some 6), none, .eff .set [.tmp 16]⟩])
 (.seq (.seq (.ops [⟨(some 17), none, .mov (.tmp 0)⟩, ⟨(some 18), none, .len false (.tmp 17)⟩, ⟨(some 19), none, .mov (.const (.int .i64 0))⟩])
 (.block 0 (.loop [false, false, false, false, true, true, false, true, true, false, false, false, false, false, false, false, false, false, false, true, true, true, true, true, true, true, true, true, true, true, true, true, true, true, true, true, true, true, true, true, true, true, true, true, true, true, true, true, true, true] (.seq (.ops [⟨(some 20), none, .bin .lss (.tmp 19) (.tmp 18)⟩])
 (.seq (.cond (.tmp 20) .skip (.exit 0))
 (.seq (.block 1 (.seq (.ops [⟨(some 21), none, .mov (.tmp 19)⟩, ⟨(some 22), none, .indexS 4 (.tmp 17) (.tmp 19)⟩, ⟨(some 23), none, .load true 4 (.tmp 22)⟩, ⟨(some 8), none, .alloc 48 [.int .i64 0, .slice none 0 0, .slice none 0 0, .int .i64 0]⟩, ⟨(some 7), none, .eff .set [.tmp 21]⟩, ⟨none, none, .store 4 (.tmp 8) (.tmp 23)⟩])
 (.seq (.seq (.ops [⟨(some 24), none, .load true 4 (.tmp 8)⟩, ⟨(some 25), none, .call 23 [.tmp 24]⟩, ⟨(some 26), none, .un .not (.tmp 25)⟩])
 (.cond (.tmp 26) (.seq (.ops [⟨(some 27), none, .mov (.tmp 7)⟩, ⟨(some 28), none, .build [.int .i64 0, .int .i64 0] [(0, 1, .const (.int .i64 1)), (1, 1, .tmp 27)]⟩, ⟨(some 29), none, .box 158 (.tmp 28)⟩, ⟨(some 30), none, .mkI 156 (.tmp 29)⟩, ⟨(some 4), none, .eff .set [.const (.pointer none)]⟩, ⟨(some 5), none, .eff .set [.tmp 30]⟩])
 .ret) .skip))
 (.seq (.draw [31, 32, 34, 35, 33, 37, 36, 38] [⟨0, [], ⟨(some 31), none, .fieldA 1 (.tmp 8)⟩⟩, ⟨1, [0], ⟨(some 32), none, .load false 1 (.tmp 31)⟩⟩, ⟨3, [], ⟨(some 34), none, .fieldA 2 (.tmp 8)⟩⟩, ⟨4, [3], ⟨(some 35), none, .load false 1 (.tmp 34)⟩⟩, ⟨2, [1, 0], ⟨(some 33), none, .call 79 [.tmp 32]⟩⟩, ⟨6, [2, 1, 0, 4, 3], ⟨(some 37), none, .fieldA 1 (.tmp 8)⟩⟩, ⟨5, [4, 3, 2, 1, 0], ⟨(some 36), none, .call 79 [.tmp 35]⟩⟩, ⟨7, [6, 5, 2, 1, 0, 4, 3], ⟨none, none, .store 1 (.tmp 37) (.tmp 33)⟩⟩, ⟨8, [7, 6, 5, 2, 1, 0, 4, 3], ⟨(some 38), none, .fieldA 2 (.tmp 8)⟩⟩, ⟨9, [8, 7, 6, 5, 2, 1, 0, 4, 3], ⟨none, none, .store 1 (.tmp 38) (.tmp 36)⟩⟩])
 (.draw [39, 40, 41, 42, 43, 44, 45, 46, 47, 48] [⟨0, [], ⟨(some 39), none, .mov (.tmp 6)⟩⟩, ⟨1, [], ⟨(some 40), none, .mov (.tmp 6)⟩⟩, ⟨2, [1], ⟨(some 41), none, .more .nilC [.tmp 40]⟩⟩, ⟨3, [2, 1], ⟨(some 42), none, .fieldA 0 (.tmp 41)⟩⟩, ⟨4, [3, 2, 1], ⟨(some 43), none, .load false 1 (.tmp 42)⟩⟩, ⟨5, [], ⟨(some 44), none, .load true 4 (.tmp 8)⟩⟩, ⟨6, [5], ⟨(some 45), none, .bslice 48 1 [.int .i64 0, .slice none 0 0, .slice none 0 0, .int .i64 0] [(0, 4, .tmp 44)]⟩⟩, ⟨7, [4, 3, 2, 1, 6, 5], ⟨(some 46), none, .eff (.app 48 4 64 [.int .i64 0, .slice none 0 0, .slice none 0 0, .int .i64 0]) [.tmp 43, .tmp 45]⟩⟩, ⟨8, [0, 7, 4, 3, 2, 1, 6, 5], ⟨(some 47), none, .more .nilC [.tmp 39]⟩⟩, ⟨9, [8, 0, 7, 4, 3, 2, 1, 6, 5], ⟨(some 48), none, .fieldA 0 (.tmp 47)⟩⟩, ⟨10, [9, 8, 0, 7, 4, 3, 2, 1, 6, 5], ⟨none, none, .store 1 (.tmp 48) (.tmp 46)⟩⟩])))))
 (.ops [⟨(some 49), none, .bin .add (.tmp 19) (.const (.int .i64 1))⟩, ⟨(some 19), none, .mov (.tmp 49)⟩])))))))
 (.seq (.ops [⟨(some 51), none, .mov (.tmp 1)⟩, ⟨(some 52), none, .call 34 [.tmp 51]⟩, ⟨(some 50), none, .mov (.tmp 52)⟩, ⟨(some 53), none, .ext (.tmp 50) 0⟩, ⟨(some 54), none, .ext (.tmp 50) 1⟩, ⟨(some 9), none, .eff .set [.tmp 53]⟩, ⟨(some 10), none, .eff .set [.tmp 54]⟩])
 (.seq (.seq (.ops [⟨(some 55), none, .mov (.tmp 10)⟩, ⟨(some 56), none, .more (.nilI true) [.tmp 55]⟩])
 (.cond (.tmp 56) (.seq (.ops [⟨(some 57), none, .mov (.tmp 10)⟩, ⟨(some 4), none, .eff .set [.const (.pointer none)]⟩, ⟨(some 5), none, .eff .set [.tmp 57]⟩])
 .ret) .skip))
 (.seq (.ops [⟨(some 58), none, .mov (.tmp 6)⟩, ⟨(some 59), none, .mov (.tmp 9)⟩, ⟨(some 60), none, .more .nilC [.tmp 58]⟩, ⟨(some 61), none, .fieldA 1 (.tmp 60)⟩, ⟨none, none, .store 1 (.tmp 61) (.tmp 59)⟩])
 (.seq (.ops [⟨(some 62), none, .mov (.tmp 6)⟩, ⟨(some 4), none, .eff .set [.tmp 62]⟩, ⟨(some 5), none, .eff .set [.const (.nilIface)]⟩])
 .ret))))))))⟩
theorem x26_ok : yfunc Tryd.prog Tryd.f26 = some x26 := by kernel_rfl

/-- (switchyard/switchyardref.Fault).Is -/
def x27 : YF := ⟨6, [.tmp 2],
 (.seq (.ops [⟨(some 1), none, .box 42 (.tmp 0)⟩, ⟨(some 2), none, .eff .set [.const (.bool false)]⟩])
 (.seq (.ops [⟨(some 3), none, .fieldA 0 (.tmp 1)⟩, ⟨(some 4), none, .load false 1 (.tmp 3)⟩, ⟨(some 5), none, .bin .eql (.tmp 4) (.const (.int .i64 0))⟩, ⟨(some 2), none, .eff .set [.tmp 5]⟩])
 .ret))⟩
theorem x27_ok : yfunc Tryd.prog Tryd.f27 = some x27 := by kernel_rfl

/-- switchyard/learn.New -/
def x34 : YF := ⟨14, [.tmp 2, .tmp 3],
 (.seq (.ops [⟨(some 2), none, .eff .set [.const (.pointer none)]⟩, ⟨(some 3), none, .eff .set [.const (.nilIface)]⟩])
 (.seq (.seq (.ops [⟨(some 4), none, .mov (.tmp 0)⟩, ⟨(some 5), none, .bin .lss (.tmp 4) (.const (.int .i64 1))⟩, ⟨(some 6), none, .mov (.tmp 5)⟩, ⟨(some 7), (some (6, false)), .mov (.tmp 0)⟩, ⟨(some 8), (some (6, false)), .bin .gtr (.tmp 7) (.const (.int .i64 300))⟩, ⟨(some 9), none, .pick (.tmp 6) (.const (.bool true)) (.tmp 8)⟩])
 (.cond (.tmp 9) (.seq (.ops [⟨(some 10), none, .mkI 40 (.const (.int .i64 2))⟩, ⟨(some 2), none, .eff .set [.const (.pointer none)]⟩, ⟨(some 3), none, .eff .set [.tmp 10]⟩])
 .ret) .skip))
 (.seq (.ops [⟨(some 11), none, .mov (.tmp 0)⟩, ⟨(some 12), none, .build [.int .i64 0, .int .i64 0, .slice none 0 0] [(0, 1, .tmp 11)]⟩, ⟨(some 13), none, .box 189 (.tmp 12)⟩, ⟨(some 2), none, .eff .set [.tmp 13]⟩, ⟨(some 3), none, .eff .set [.const (.nilIface)]⟩])
 .ret)))⟩
theorem x34_ok : yfunc Tryd.prog Tryd.f34 = some x34 := by kernel_rfl

/-- switchyard/switchyardref.Bare -/
def x68 : YF := ⟨5, [.cell 2 true 2],
 (.seq (.ops [⟨(some 2), none, .alloc 42 [.int .i64 0, .int .i64 0]⟩])
 (.seq (.ops [⟨(some 3), none, .mov (.tmp 0)⟩, ⟨(some 4), none, .build [.int .i64 0, .int .i64 0] [(0, 1, .tmp 3), (1, 1, .const (.int .i64 (-1)))]⟩, ⟨none, none, .store 2 (.tmp 2) (.tmp 4)⟩])
 .ret))⟩
theorem x68_ok : yfunc Tryd.prog Tryd.f68 = some x68 := by kernel_rfl

/-- switchyard/switchyardref.Good -/
def x72 : YF := ⟨2, [.cell 0 true 2],
 (.seq (.ops [⟨(some 0), none, .alloc 42 [.int .i64 0, .int .i64 0]⟩])
 (.seq (.ops [⟨(some 1), none, .build [.int .i64 0, .int .i64 0] [(0, 1, .const (.int .i64 0)), (1, 1, .const (.int .i64 (-1)))]⟩, ⟨none, none, .store 2 (.tmp 0) (.tmp 1)⟩])
 .ret))⟩
theorem x72_ok : yfunc Tryd.prog Tryd.f72 = some x72 := by kernel_rfl

/-- switchyard/bridge.vids -/
def x73 : YF := ⟨32, [.tmp 2],
 (.seq (.ops [⟨(some 2), none, .eff .set [.const (.bool false)]⟩])
 (.seq (.seq (.ops [⟨(some 5), none, .mov (.tmp 0)⟩, ⟨(some 6), none, .len false (.tmp 5)⟩, ⟨(some 7), none, .mov (.const (.int .i64 0))⟩])
 (.block 0 (.loop [false, false, true, true, true, false, false, true, true, true, true, true, true, true, true, true, true, true, true, true, true, true, true, true, true, true, true, true, true, true, true, true] (.seq (.ops [⟨(some 8), none, .bin .lss (.tmp 7) (.tmp 6)⟩])
 (.seq (.cond (.tmp 8) .skip (.exit 0))
 (.seq (.block 1 (.seq (.ops [⟨(some 9), none, .mov (.tmp 7)⟩, ⟨(some 10), none, .indexS 1 (.tmp 5) (.tmp 7)⟩, ⟨(some 11), none, .load false 1 (.tmp 10)⟩, ⟨(some 3), none, .eff .set [.tmp 9]⟩, ⟨(some 4), none, .eff .set [.tmp 11]⟩])
 (.seq (.ops [⟨(some 12), none, .mov (.tmp 4)⟩, ⟨(some 13), none, .bin .lss (.tmp 12) (.const (.int .i64 1))⟩, ⟨(some 14), none, .mov (.tmp 13)⟩, ⟨(some 15), (some (14, false)), .mov (.tmp 4)⟩, ⟨(some 16), (some (14, false)), .bin .gtr (.tmp 15) (.const (.int .i64 4094))⟩, ⟨(some 17), none, .pick (.tmp 14) (.const (.bool true)) (.tmp 16)⟩, ⟨(some 18), none, .mov (.tmp 17)⟩, ⟨(some 19), (some (18, false)), .mov (.tmp 3)⟩, ⟨(some 20), (some (18, false)), .bin .gtr (.tmp 19) (.const (.int .i64 0))⟩, ⟨(some 21), (some (18, false)), .mov (.tmp 20)⟩, ⟨(some 22), (some (21, true)), .mov (.tmp 4)⟩, ⟨(some 23), (some (21, true)), .mov (.tmp 0)⟩, ⟨(some 24), (some (21, true)), .mov (.tmp 3)⟩, ⟨(some 25), (some (21, true)), .bin .sub (.tmp 24) (.const (.int .i64 1))⟩, ⟨(some 26), (some (21, true)), .indexS 1 (.tmp 23) (.tmp 25)⟩, ⟨(some 27), (some (21, true)), .load false 1 (.tmp 26)⟩, ⟨(some 28), (some (21, true)), .bin .leq (.tmp 22) (.tmp 27)⟩, ⟨(some 29), (some (18, false)), .pick (.tmp 21) (.tmp 28) (.const (.bool false))⟩, ⟨(some 30), none, .pick (.tmp 18) (.const (.bool true)) (.tmp 29)⟩])
 (.cond (.tmp 30) (.seq (.ops [⟨(some 2), none, .eff .set [.const (.bool false)]⟩])
 .ret) .skip))))
 (.ops [⟨(some 31), none, .bin .add (.tmp 7) (.const (.int .i64 1))⟩, ⟨(some 7), none, .mov (.tmp 31)⟩])))))))
 (.seq (.ops [⟨(some 2), none, .eff .set [.const (.bool true)]⟩])
 .ret)))⟩
theorem x73_ok : yfunc Tryd.prog Tryd.f73 = some x73 := by kernel_rfl

/-- slices.ContainsFunc[[]int,int] -/
def x74 : YF := ⟨9, [.tmp 4],
 (.seq (.ops [⟨(some 4), none, .eff .set [.const (.bool false)]⟩])
 (.seq (.ops [⟨(some 5), none, .mov (.tmp 0)⟩, ⟨(some 6), none, .mov (.tmp 1)⟩, ⟨(some 7), none, .call 139 [.tmp 5, .tmp 6]⟩, ⟨(some 8), none, .bin .geq (.tmp 7) (.const (.int .i64 0))⟩, ⟨(some 4), none, .eff .set [.tmp 8]⟩])
 .ret))⟩
theorem x74_ok : yfunc Tryd.prog Tryd.f74 = some x74 := by kernel_rfl

/-- switchyard/bridge.Right$1 -/
def x75 : YF := ⟨9, [.tmp 3],
 (.seq (.ops [⟨(some 3), none, .eff .set [.const (.bool false)]⟩])
 (.seq (.ops [⟨(some 4), none, .fieldA 1 (.tmp 1)⟩, ⟨(some 5), none, .load false 1 (.tmp 4)⟩, ⟨(some 6), none, .mov (.tmp 0)⟩, ⟨(some 7), none, .call 76 [.tmp 5, .tmp 6]⟩, ⟨(some 8), none, .un .not (.tmp 7)⟩, ⟨(some 3), none, .eff .set [.tmp 8]⟩])
 .ret))⟩
theorem x75_ok : yfunc Tryd.prog Tryd.f75 = some x75 := by kernel_rfl

/-- slices.Contains[[]int,int] -/
def x76 : YF := ⟨9, [.tmp 4],
 (.seq (.ops [⟨(some 4), none, .eff .set [.const (.bool false)]⟩])
 (.seq (.ops [⟨(some 5), none, .mov (.tmp 0)⟩, ⟨(some 6), none, .mov (.tmp 1)⟩, ⟨(some 7), none, .call 140 [.tmp 5, .tmp 6]⟩, ⟨(some 8), none, .bin .geq (.tmp 7) (.const (.int .i64 0))⟩, ⟨(some 4), none, .eff .set [.tmp 8]⟩])
 .ret))⟩
theorem x76_ok : yfunc Tryd.prog Tryd.f76 = some x76 := by kernel_rfl

/-- switchyard/switchyardref.has -/
def x77 : YF := ⟨17, [.tmp 4],
 (.seq (.ops [⟨(some 4), none, .eff .set [.const (.bool false)]⟩])
 (.seq (.seq (.ops [⟨(some 7), none, .mov (.tmp 0)⟩, ⟨(some 8), none, .len false (.tmp 7)⟩, ⟨(some 9), none, .mov (.const (.int .i64 0))⟩])
 (.block 0 (.loop [false, false, false, false, true, false, true, false, false, true, true, true, true, true, true, true, true] (.seq (.ops [⟨(some 10), none, .bin .lss (.tmp 9) (.tmp 8)⟩])
 (.seq (.cond (.tmp 10) .skip (.exit 0))
 (.seq (.block 1 (.seq (.ops [⟨(some 11), none, .indexS 1 (.tmp 7) (.tmp 9)⟩, ⟨(some 12), none, .load false 1 (.tmp 11)⟩, ⟨(some 6), none, .eff .set [.tmp 12]⟩])
 (.seq (.ops [⟨(some 13), none, .mov (.tmp 6)⟩, ⟨(some 14), none, .mov (.tmp 1)⟩, ⟨(some 15), none, .bin .eql (.tmp 13) (.tmp 14)⟩])
 (.cond (.tmp 15) (.seq (.ops [⟨(some 4), none, .eff .set [.const (.bool true)]⟩])
 .ret) .skip))))
 (.ops [⟨(some 16), none, .bin .add (.tmp 9) (.const (.int .i64 1))⟩, ⟨(some 9), none, .mov (.tmp 16)⟩])))))))
 (.seq (.ops [⟨(some 4), none, .eff .set [.const (.bool false)]⟩])
 .ret)))⟩
theorem x77_ok : yfunc Tryd.prog Tryd.f77 = some x77 := by kernel_rfl

/-- switchyard/switchyardref.rises -/
def x78 : YF := ⟨29, [.tmp 2],
 (.seq (.ops [⟨(some 2), none, .eff .set [.const (.bool false)]⟩])
 (.seq (.seq (.ops [⟨(some 5), none, .mov (.tmp 0)⟩, ⟨(some 6), none, .len false (.tmp 5)⟩, ⟨(some 7), none, .mov (.const (.int .i64 0))⟩])
 (.block 0 (.loop [false, false, true, true, true, false, false, true, true, true, true, true, true, true, true, true, true, true, true, true, true, true, true, true, true, true, true, true, true] (.seq (.ops [⟨(some 8), none, .bin .lss (.tmp 7) (.tmp 6)⟩])
 (.seq (.cond (.tmp 8) .skip (.exit 0))
 (.seq (.block 1 (.seq (.ops [⟨(some 9), none, .mov (.tmp 7)⟩, ⟨(some 10), none, .indexS 1 (.tmp 5) (.tmp 7)⟩, ⟨(some 11), none, .load false 1 (.tmp 10)⟩, ⟨(some 3), none, .eff .set [.tmp 9]⟩, ⟨(some 4), none, .eff .set [.tmp 11]⟩])
 (.seq (.ops [⟨(some 12), none, .mov (.tmp 4)⟩, ⟨(some 13), none, .call 71 [.tmp 12, .const (.int .i64 1), .const (.int .i64 4094)]⟩, ⟨(some 14), none, .un .not (.tmp 13)⟩, ⟨(some 15), none, .mov (.tmp 14)⟩, ⟨(some 16), (some (15, false)), .mov (.tmp 3)⟩, ⟨(some 17), (some (15, false)), .bin .gtr (.tmp 16) (.const (.int .i64 0))⟩, ⟨(some 18), (some (15, false)), .mov (.tmp 17)⟩, ⟨(some 19), (some (18, true)), .mov (.tmp 4)⟩, ⟨(some 20), (some (18, true)), .mov (.tmp 0)⟩, ⟨(some 21), (some (18, true)), .mov (.tmp 3)⟩, ⟨(some 22), (some (18, true)), .bin .sub (.tmp 21) (.const (.int .i64 1))⟩, ⟨(some 23), (some (18, true)), .indexS 1 (.tmp 20) (.tmp 22)⟩, ⟨(some 24), (some (18, true)), .load false 1 (.tmp 23)⟩, ⟨(some 25), (some (18, true)), .bin .leq (.tmp 19) (.tmp 24)⟩, ⟨(some 26), (some (15, false)), .pick (.tmp 18) (.tmp 25) (.const (.bool false))⟩, ⟨(some 27), none, .pick (.tmp 15) (.const (.bool true)) (.tmp 26)⟩])
 (.cond (.tmp 27) (.seq (.ops [⟨(some 2), none, .eff .set [.const (.bool false)]⟩])
 .ret) .skip))))
 (.ops [⟨(some 28), none, .bin .add (.tmp 7) (.const (.int .i64 1))⟩, ⟨(some 7), none, .mov (.tmp 28)⟩])))))))
 (.seq (.ops [⟨(some 2), none, .eff .set [.const (.bool true)]⟩])
 .ret)))⟩
theorem x78_ok : yfunc Tryd.prog Tryd.f78 = some x78 := by kernel_rfl

/-- slices.Clone[[]int,int] -/
def x79 : YF := ⟨8, [.tmp 2],
 (.seq (.ops [⟨(some 2), none, .eff .set [.const (.slice none 0 0)]⟩])
 (.seq (.seq (.ops [⟨(some 3), none, .mov (.tmp 0)⟩, ⟨(some 4), none, .prim (.binOp .eql 46 (.tmp 3) (.const (.slice none 0 0)) 46) [.tmp 3, .const (.slice none 0 0)]⟩])
 (.cond (.tmp 4) (.seq (.ops [⟨(some 2), none, .eff .set [.const (.slice none 0 0)]⟩])
 .ret) .skip))
 (.seq (.ops [⟨(some 5), none, .prim (.buildSlice 46 0 #[]) []⟩, ⟨(some 6), none, .mov (.tmp 0)⟩, ⟨(some 7), none, .eff (.app 3 1 8 [.int .i64 0]) [.tmp 5, .tmp 6]⟩, ⟨(some 2), none, .eff .set [.tmp 7]⟩])
 .ret)))⟩
theorem x79_ok : yfunc Tryd.prog Tryd.f79 = some x79 := by kernel_rfl

/-- slices.IndexFunc[[]int,int] -/
def x139 : YF := ⟨19, [.tmp 4],
 (.seq (.ops [⟨(some 4), none, .eff .set [.const (.int .i64 0)]⟩])
 (.seq (.seq (.ops [⟨(some 6), none, .mov (.tmp 0)⟩, ⟨(some 7), none, .len false (.tmp 6)⟩, ⟨(some 8), none, .mov (.const (.int .i64 0))⟩])
 (.block 0 (.loop [false, false, false, false, true, true, false, false, true, true, true, true, true, true, true, true, true, true, true] (.seq (.ops [⟨(some 9), none, .bin .lss (.tmp 8) (.tmp 7)⟩])
 (.seq (.cond (.tmp 9) .skip (.exit 0))
 (.seq (.block 1 (.seq (.ops [⟨(some 10), none, .mov (.tmp 8)⟩, ⟨(some 5), none, .eff .set [.tmp 10]⟩])
 (.seq (.ops [⟨(some 11), none, .mov (.tmp 1)⟩, ⟨(some 12), none, .mov (.tmp 0)⟩, ⟨(some 13), none, .mov (.tmp 5)⟩, ⟨(some 14), none, .indexS 1 (.tmp 12) (.tmp 13)⟩, ⟨(some 15), none, .load false 1 (.tmp 14)⟩, ⟨(some 16), none, .callv (.tmp 11) [.tmp 15]⟩])
 (.cond (.tmp 16) (.seq (.ops [⟨(some 17), none, .mov (.tmp 5)⟩, ⟨(some 4), none, .eff .set [.tmp 17]⟩])
 .ret) .skip))))
 (.ops [⟨(some 18), none, .bin .add (.tmp 8) (.const (.int .i64 1))⟩, ⟨(some 8), none, .mov (.tmp 18)⟩])))))))
 (.seq (.ops [⟨(some 4), none, .eff .set [.const (.int .i64 (-1))]⟩])
 .ret)))⟩
theorem x139_ok : yfunc Tryd.prog Tryd.f139 = some x139 := by kernel_rfl

/-- slices.Index[[]int,int] -/
def x140 : YF := ⟨19, [.tmp 4],
 (.seq (.ops [⟨(some 4), none, .eff .set [.const (.int .i64 0)]⟩])
 (.seq (.seq (.ops [⟨(some 6), none, .mov (.tmp 0)⟩, ⟨(some 7), none, .len false (.tmp 6)⟩, ⟨(some 8), none, .mov (.const (.int .i64 0))⟩])
 (.block 0 (.loop [false, false, false, false, true, true, false, false, true, true, true, true, true, true, true, true, true, true, true] (.seq (.ops [⟨(some 9), none, .bin .lss (.tmp 8) (.tmp 7)⟩])
 (.seq (.cond (.tmp 9) .skip (.exit 0))
 (.seq (.block 1 (.seq (.ops [⟨(some 10), none, .mov (.tmp 8)⟩, ⟨(some 5), none, .eff .set [.tmp 10]⟩])
 (.seq (.ops [⟨(some 11), none, .mov (.tmp 1)⟩, ⟨(some 12), none, .mov (.tmp 0)⟩, ⟨(some 13), none, .mov (.tmp 5)⟩, ⟨(some 14), none, .indexS 1 (.tmp 12) (.tmp 13)⟩, ⟨(some 15), none, .load false 1 (.tmp 14)⟩, ⟨(some 16), none, .bin .eql (.tmp 11) (.tmp 15)⟩])
 (.cond (.tmp 16) (.seq (.ops [⟨(some 17), none, .mov (.tmp 5)⟩, ⟨(some 4), none, .eff .set [.tmp 17]⟩])
 .ret) .skip))))
 (.ops [⟨(some 18), none, .bin .add (.tmp 8) (.const (.int .i64 1))⟩, ⟨(some 8), none, .mov (.tmp 18)⟩])))))))
 (.seq (.ops [⟨(some 4), none, .eff .set [.const (.int .i64 (-1))]⟩])
 .ret)))⟩
theorem x140_ok : yfunc Tryd.prog Tryd.f140 = some x140 := by kernel_rfl
end Go.Proofs.YtidbblgahmjakaaDoor
