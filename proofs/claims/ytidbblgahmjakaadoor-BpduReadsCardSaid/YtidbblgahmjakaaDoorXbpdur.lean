/- Functions of this seat with the type tables looked up; each checked by the kernel. Conditions: none. -/
import Derived.Test.YtidbblgahmjakaaDoorProg
import Derived.Test.YtidbblgahmjakaaDoorBaseC
namespace Go.Proofs.YtidbblgahmjakaaDoor
open Go.Sx
set_option maxRecDepth 100000
/-- switchyard/switchyardlaw.BpduReads -/
def x8 : YF := ⟨28, [.tmp 2],
 (.seq (.ops [⟨(some 2), none, .eff .set [.const (.bool false)]⟩])
 (.seq (.seq (.ops [⟨(some 7), none, .mov (.tmp 0)⟩, ⟨(some 8), none, .len true (.tmp 7)⟩, ⟨(some 9), none, .bin .gtr (.tmp 8) (.const (.int .i64 300))⟩])
 (.cond (.tmp 9) (.seq (.ops [⟨(some 2), none, .eff .set [.const (.bool true)]⟩])
 .ret) .skip))
 (.seq (.ops [⟨(some 11), none, .mov (.tmp 0)⟩, ⟨(some 12), none, .call 44 [.tmp 11]⟩, ⟨(some 10), none, .mov (.tmp 12)⟩, ⟨(some 13), none, .ext (.tmp 10) 0⟩, ⟨(some 14), none, .ext (.tmp 10) 1⟩, ⟨(some 3), none, .alloc 86 [.int .i64 0, .bool false, .bool false, .int .i64 0, .bool false, .bool false, .bool false, .bool false, .int .i64 0, .int .i64 0, .int .u8 0, .int .u8 0, .int .u8 0, .int .u8 0, .int .u8 0, .int .u8 0, .int .i64 0, .int .i64 0, .int .i64 0, .int .u8 0, .int .u8 0, .int .u8 0, .int .u8 0, .int .u8 0, .int .u8 0, .int .i64 0, .int .i64 0, .int .i64 0, .int .i64 0, .int .i64 0, .int .i64 0]⟩, ⟨(some 4), none, .alloc 42 [.int .i64 0, .int .i64 0]⟩, ⟨none, none, .store 31 (.tmp 3) (.tmp 13)⟩, ⟨none, none, .store 2 (.tmp 4) (.tmp 14)⟩])
 (.seq (.ops [⟨(some 16), none, .mov (.tmp 0)⟩, ⟨(some 17), none, .call 45 [.tmp 16]⟩, ⟨(some 15), none, .mov (.tmp 17)⟩, ⟨(some 18), none, .ext (.tmp 15) 0⟩, ⟨(some 19), none, .ext (.tmp 15) 1⟩, ⟨(some 5), none, .alloc 86 [.int .i64 0, .bool false, .bool false, .int .i64 0, .bool false, .bool false, .bool false, .bool false, .int .i64 0, .int .i64 0, .int .u8 0, .int .u8 0, .int .u8 0, .int .u8 0, .int .u8 0, .int .u8 0, .int .i64 0, .int .i64 0, .int .i64 0, .int .u8 0, .int .u8 0, .int .u8 0, .int .u8 0, .int .u8 0, .int .u8 0, .int .i64 0, .int .i64 0, .int .i64 0, .int .i64 0, .int .i64 0, .int .i64 0]⟩, ⟨none, none, .store 31 (.tmp 5) (.tmp 18)⟩, ⟨(some 6), none, .eff .set [.tmp 19]⟩])
 (.seq (.ops [⟨(some 20), none, .mov (.tmp 6)⟩, ⟨(some 21), none, .load true 2 (.tmp 4)⟩, ⟨(some 22), none, .call 19 [.tmp 20, .tmp 21]⟩, ⟨(some 23), none, .mov (.tmp 22)⟩, ⟨(some 24), (some (23, true)), .load true 31 (.tmp 3)⟩, ⟨(some 25), (some (23, true)), .load true 31 (.tmp 5)⟩, ⟨(some 26), (some (23, true)), .eqAgg false [0, 1, 1, 0, 1, 1, 1, 1, 0, 0, 0, 0, 0, 0, 0, 0, 0, 0, 0, 0, 0, 0, 0, 0, 0, 0, 0, 0, 0, 0, 0] (.tmp 24) (.tmp 25)⟩, ⟨(some 27), none, .pick (.tmp 23) (.tmp 26) (.const (.bool false))⟩, ⟨(some 2), none, .eff .set [.tmp 27]⟩])
 .ret)))))⟩
theorem x8_ok : yfunc Tryd.prog Tryd.f8 = some x8 := by kernel_rfl

/-- switchyard/switchyardref.BpduRead -/
def x44 : YFD := ⟨37, [.cell 2 true 31, .cell 3 true 2],
 [.code (.ops [⟨(some 2), none, .alloc 86 [.int .i64 0, .bool false, .bool false, .int .i64 0, .bool false, .bool false, .bool false, .bool false, .int .i64 0, .int .i64 0, .int .u8 0, .int .u8 0, .int .u8 0, .int .u8 0, .int .u8 0, .int .u8 0, .int .i64 0, .int .i64 0, .int .i64 0, .int .u8 0, .int .u8 0, .int .u8 0, .int .u8 0, .int .u8 0, .int .u8 0, .int .i64 0, .int .i64 0, .int .i64 0, .int .i64 0, .int .i64 0, .int .i64 0]⟩, ⟨(some 3), none, .alloc 42 [.int .i64 0, .int .i64 0]⟩]),
  .code (.ops [⟨(some 5), none, .call 72 []⟩, ⟨none, none, .store 2 (.tmp 3) (.tmp 5)⟩]),
  .dfr [⟨(some 6), none, .mkF 93 [] [.tmp 3, .tmp 2]⟩] (.tmp 6) [],
  .dfr [] (.func 94) [.tmp 3]],
 (.seq (.ops [⟨(some 7), none, .mov (.tmp 0)⟩, ⟨(some 8), none, .build [.string ⟨#[]⟩, .int .i64 0, .int .i64 0] [(0, 1, .tmp 7)]⟩, ⟨(some 9), none, .box 202 (.tmp 8)⟩, ⟨(some 4), none, .eff .set [.tmp 9]⟩])
 (.seq (.seq (.ops [⟨(some 10), none, .mov (.tmp 4)⟩, ⟨(some 11), none, .call 95 [.tmp 10, .const (.int .i64 4)]⟩])
 (.block 0 (.seq (.ops [⟨(some 15), none, .bin .eql (.tmp 11) (.const (.string ⟨#[0, 0, 0, 0]⟩))⟩, ⟨(some 14), none, .eff .set [.tmp 15]⟩])
 (.cond (.tmp 14) (.seq (.ops [⟨(some 16), none, .mov (.tmp 4)⟩, ⟨(some 17), none, .call 96 [.tmp 16, .const (.int .i64 1)]⟩, ⟨none, none, .store 31 (.tmp 2) (.tmp 17)⟩])
 (.ops [⟨(some 18), none, .fieldA 1 (.tmp 2)⟩, ⟨(some 19), none, .fieldA 0 (.tmp 18)⟩, ⟨(some 20), none, .load false 1 (.tmp 19)⟩, ⟨(some 21), none, .fieldA 1 (.tmp 2)⟩, ⟨(some 22), none, .fieldA 6 (.tmp 21)⟩, ⟨(some 23), none, .load false 1 (.tmp 22)⟩, ⟨(some 24), none, .build [.bool false, .bool false, .int .i64 0, .bool false, .bool false, .bool false, .bool false] [(0, 1, .tmp 20), (6, 1, .tmp 23)]⟩, ⟨(some 25), none, .fieldA 1 (.tmp 2)⟩, ⟨none, none, .store 7 (.tmp 25) (.tmp 24)⟩])) (.seq (.ops [⟨(some 27), none, .bin .eql (.tmp 11) (.const (.string ⟨#[0, 0, 0, 128]⟩))⟩, ⟨(some 26), none, .eff .set [.tmp 27]⟩])
 (.cond (.tmp 26) (.ops [⟨(some 28), none, .fieldA 0 (.tmp 2)⟩, ⟨none, none, .store 1 (.tmp 28) (.const (.int .i64 2))⟩]) (.seq (.ops [⟨(some 30), none, .bin .eql (.tmp 11) (.const (.string ⟨#[0, 0, 2, 2]⟩))⟩, ⟨(some 29), none, .eff .set [.tmp 30]⟩])
 (.cond (.tmp 29) (.seq (.ops [⟨(some 31), none, .mov (.tmp 4)⟩, ⟨(some 32), none, .call 96 [.tmp 31, .const (.int .i64 3)]⟩, ⟨none, none, .store 31 (.tmp 2) (.tmp 32)⟩])
 (.ops [⟨(some 33), none, .mov (.tmp 4)⟩, ⟨(some 34), none, .call 97 [.tmp 33, .const (.string ⟨#[0]⟩)]⟩])) (.ops [⟨(some 12), none, .mov (.tmp 4)⟩, ⟨(some 13), none, .call 98 [.tmp 12, .const (.int .i64 3), .const (.int .i64 0)]⟩])))))))))
 (.seq (.draw [35, 36] [⟨0, [], ⟨(some 35), none, .load true 31 (.tmp 2)⟩⟩, ⟨1, [], ⟨(some 36), none, .load true 2 (.tmp 3)⟩⟩, ⟨2, [0], ⟨none, none, .store 31 (.tmp 2) (.tmp 35)⟩⟩, ⟨3, [1, 2, 0], ⟨none, none, .store 2 (.tmp 3) (.tmp 36)⟩⟩])
 .ret)))⟩
theorem x44_ok : yfuncD Tryd.prog Tryd.f44 4 = some x44 := by kernel_rfl

/-- switchyard/bpdu.Read -/
def x45 : YF := ⟨71, [.cell 2 true 31, .tmp 3],
 (.seq (.ops [⟨(some 2), none, .alloc 86 [.int .i64 0, .bool false, .bool false, .int .i64 0, .bool false, .bool false, .bool false, .bool false, .int .i64 0, .int .i64 0, .int .u8 0, .int .u8 0, .int .u8 0, .int .u8 0, .int .u8 0, .int .u8 0, .int .i64 0, .int .i64 0, .int .i64 0, .int .u8 0, .int .u8 0, .int .u8 0, .int .u8 0, .int .u8 0, .int .u8 0, .int .i64 0, .int .i64 0, .int .i64 0, .int .i64 0, .int .i64 0, .int .i64 0]⟩, ⟨(some 3), none, .eff .set [.const (.nilIface)]⟩])
 (.seq (.ops [⟨(some 10), none, .mov (.tmp 0)⟩, ⟨(some 11), none, .call 99 [.tmp 10, .const (.int .i64 0)]⟩, ⟨(some 4), none, .eff .set [.tmp 11]⟩])
 (.seq (.ops [⟨(some 12), none, .mov (.tmp 4)⟩, ⟨(some 13), none, .call 100 [.tmp 12, .const (.int .i64 4)]⟩, ⟨(some 5), none, .eff .set [.tmp 13]⟩])
 (.seq (.ops [⟨(some 6), none, .alloc 86 [.int .i64 0, .bool false, .bool false, .int .i64 0, .bool false, .bool false, .bool false, .bool false, .int .i64 0, .int .i64 0, .int .u8 0, .int .u8 0, .int .u8 0, .int .u8 0, .int .u8 0, .int .u8 0, .int .i64 0, .int .i64 0, .int .i64 0, .int .u8 0, .int .u8 0, .int .u8 0, .int .u8 0, .int .u8 0, .int .u8 0, .int .i64 0, .int .i64 0, .int .i64 0, .int .i64 0, .int .i64 0, .int .i64 0]⟩])
 (.seq (.seq (.ops [⟨(some 7), none, .eff .set [.const (.int .i64 1)]⟩])
 (.block 0 (.loop [false, false, false, false, false, false, false, true, false, false, false, false, false, false, true, true, true, true, true, true, true, true, true, true, true, true, true, true, true] (.seq (.seq (.ops [⟨(some 14), none, .mov (.tmp 7)⟩, ⟨(some 15), none, .bin .leq (.tmp 14) (.const (.int .i64 3))⟩])
 (.cond (.tmp 15) .skip (.exit 0)))
 (.seq (.block 1 (.seq (.ops [⟨(some 18), none, .mov (.tmp 4)⟩, ⟨(some 19), none, .call 101 [.tmp 18]⟩, ⟨(some 20), none, .more (.nilI false) [.tmp 19]⟩, ⟨(some 21), none, .mov (.tmp 20)⟩, ⟨(some 22), (some (21, true)), .mov (.tmp 5)⟩, ⟨(some 23), (some (21, true)), .mov (.tmp 7)⟩, ⟨(some 24), (some (21, true)), .call 102 [.tmp 23]⟩, ⟨(some 25), (some (21, true)), .bin .eql (.tmp 22) (.tmp 24)⟩, ⟨(some 26), none, .pick (.tmp 21) (.tmp 25) (.const (.bool false))⟩])
 (.cond (.tmp 26) (.ops [⟨(some 27), none, .mov (.tmp 7)⟩, ⟨(some 28), none, .fieldA 0 (.tmp 6)⟩, ⟨none, none, .store 1 (.tmp 28) (.tmp 27)⟩]) .skip)))
 (.ops [⟨(some 16), none, .mov (.tmp 7)⟩, ⟨(some 17), none, .bin .add (.tmp 16) (.const (.int .i64 1))⟩, ⟨(some 7), none, .eff .set [.tmp 17]⟩]))))))
 (.seq (.seq (.ops [⟨(some 29), none, .fieldA 0 (.tmp 6)⟩, ⟨(some 30), none, .load false 1 (.tmp 29)⟩])
 (.block 2 (.seq (.ops [⟨(some 32), none, .bin .eql (.tmp 30) (.const (.int .i64 1))⟩, ⟨(some 31), none, .eff .set [.tmp 32]⟩])
 (.cond (.tmp 31) (.seq (.ops [⟨(some 33), none, .mov (.tmp 4)⟩, ⟨(some 34), none, .fieldA 0 (.tmp 6)⟩, ⟨(some 35), none, .load false 1 (.tmp 34)⟩, ⟨(some 36), none, .call 103 [.tmp 33, .tmp 35]⟩, ⟨none, none, .store 31 (.tmp 6) (.tmp 36)⟩])
 (.ops [⟨(some 37), none, .fieldA 1 (.tmp 6)⟩, ⟨(some 38), none, .fieldA 0 (.tmp 37)⟩, ⟨(some 39), none, .load false 1 (.tmp 38)⟩, ⟨(some 40), none, .fieldA 1 (.tmp 6)⟩, ⟨(some 41), none, .fieldA 6 (.tmp 40)⟩, ⟨(some 42), none, .load false 1 (.tmp 41)⟩, ⟨(some 43), none, .build [.bool false, .bool false, .int .i64 0, .bool false, .bool false, .bool false, .bool false] [(0, 1, .tmp 39), (6, 1, .tmp 42)]⟩, ⟨(some 44), none, .fieldA 1 (.tmp 6)⟩, ⟨none, none, .store 7 (.tmp 44) (.tmp 43)⟩])) (.seq (.ops [⟨(some 46), none, .bin .eql (.tmp 30) (.const (.int .i64 3))⟩, ⟨(some 45), none, .eff .set [.tmp 46]⟩])
 (.cond (.tmp 45) (.seq (.ops [⟨(some 47), none, .mov (.tmp 4)⟩, ⟨(some 48), none, .fieldA 0 (.tmp 6)⟩, ⟨(some 49), none, .load false 1 (.tmp 48)⟩, ⟨(some 50), none, .call 103 [.tmp 47, .tmp 49]⟩, ⟨none, none, .store 31 (.tmp 6) (.tmp 50)⟩])
 (.seq (.ops [⟨(some 51), none, .mov (.tmp 4)⟩, ⟨(some 52), none, .call 104 [.tmp 51]⟩, ⟨(some 8), none, .eff .set [.tmp 52]⟩])
 (.seq (.ops [⟨(some 53), none, .mov (.tmp 4)⟩, ⟨(some 54), none, .call 105 [.tmp 53, .const (.int .i64 1)]⟩, ⟨(some 9), none, .eff .set [.tmp 54]⟩])
 (.seq (.ops [⟨(some 55), none, .mov (.tmp 9)⟩, ⟨(some 56), none, .bin .neq (.tmp 55) (.const (.int .i64 0))⟩])
 (.cond (.tmp 56) (.ops [⟨(some 57), none, .mov (.tmp 4)⟩, ⟨(some 58), none, .mov (.tmp 8)⟩, ⟨(some 59), none, .call 106 [.tmp 57, .const (.int .i64 3), .tmp 58]⟩]) .skip))))) (.seq (.ops [⟨(some 61), none, .bin .eql (.tmp 30) (.const (.int .i64 0))⟩, ⟨(some 60), none, .eff .set [.tmp 61]⟩])
 (.cond (.tmp 60) (.ops [⟨(some 62), none, .mov (.tmp 4)⟩, ⟨(some 63), none, .call 106 [.tmp 62, .const (.int .i64 3), .const (.int .i64 0)]⟩]) .skip))))))))
 (.seq (.seq (.ops [⟨(some 64), none, .mov (.tmp 4)⟩, ⟨(some 65), none, .call 101 [.tmp 64]⟩, ⟨(some 66), none, .more (.nilI true) [.tmp 65]⟩])
 (.cond (.tmp 66) (.seq (.ops [⟨(some 67), none, .build [.int .i64 0, .bool false, .bool false, .int .i64 0, .bool false, .bool false, .bool false, .bool false, .int .i64 0, .int .i64 0, .int .u8 0, .int .u8 0, .int .u8 0, .int .u8 0, .int .u8 0, .int .u8 0, .int .i64 0, .int .i64 0, .int .i64 0, .int .u8 0, .int .u8 0, .int .u8 0, .int .u8 0, .int .u8 0, .int .u8 0, .int .i64 0, .int .i64 0, .int .i64 0, .int .i64 0, .int .i64 0, .int .i64 0] []⟩, ⟨(some 68), none, .mov (.tmp 4)⟩, ⟨(some 69), none, .call 101 [.tmp 68]⟩, ⟨none, none, .store 31 (.tmp 2) (.tmp 67)⟩, ⟨(some 3), none, .eff .set [.tmp 69]⟩])
 .ret) .skip))
 (.seq (.ops [⟨(some 70), none, .load true 31 (.tmp 6)⟩, ⟨none, none, .store 31 (.tmp 2) (.tmp 70)⟩, ⟨(some 3), none, .eff .set [.const (.nilIface)]⟩])
 .ret))))))))⟩
theorem x45_ok : yfunc Tryd.prog Tryd.f45 = some x45 := by kernel_rfl

/-- switchyard/switchyardref.BpduRead$1 -/
def x93 : YF := ⟨6, [],
 (.seq (.ops [⟨(some 2), none, .load true 2 (.tmp 0)⟩, ⟨(some 3), none, .call 27 [.tmp 2]⟩, ⟨(some 4), none, .un .not (.tmp 3)⟩])
 (.cond (.tmp 4) (.ops [⟨(some 5), none, .build [.int .i64 0, .bool false, .bool false, .int .i64 0, .bool false, .bool false, .bool false, .bool false, .int .i64 0, .int .i64 0, .int .u8 0, .int .u8 0, .int .u8 0, .int .u8 0, .int .u8 0, .int .u8 0, .int .i64 0, .int .i64 0, .int .i64 0, .int .u8 0, .int .u8 0, .int .u8 0, .int .u8 0, .int .u8 0, .int .u8 0, .int .i64 0, .int .i64 0, .int .i64 0, .int .i64 0, .int .i64 0, .int .i64 0] []⟩, ⟨none, none, .store 31 (.tmp 1) (.tmp 5)⟩]) .skip))⟩
theorem x93_ok : yfunc Tryd.prog Tryd.f93 = some x93 := by kernel_rfl

/-- (*switchyard/switchyardref.cursor).body -/
def x96 : YF := ⟨36, [.cell 4 true 31],
 (.seq (.ops [⟨(some 4), none, .alloc 86 [.int .i64 0, .bool false, .bool false, .int .i64 0, .bool false, .bool false, .bool false, .bool false, .int .i64 0, .int .i64 0, .int .u8 0, .int .u8 0, .int .u8 0, .int .u8 0, .int .u8 0, .int .u8 0, .int .i64 0, .int .i64 0, .int .i64 0, .int .u8 0, .int .u8 0, .int .u8 0, .int .u8 0, .int .u8 0, .int .u8 0, .int .i64 0, .int .i64 0, .int .i64 0, .int .i64 0, .int .i64 0, .int .i64 0]⟩])
 (.seq (.ops [⟨(some 5), none, .mov (.tmp 1)⟩, ⟨(some 6), none, .fieldA 0 (.tmp 4)⟩, ⟨none, none, .store 1 (.tmp 6) (.tmp 5)⟩])
 (.seq (.ops [⟨(some 7), none, .mov (.tmp 0)⟩, ⟨(some 8), none, .call 129 [.tmp 7, .const (.int .i64 1)]⟩, ⟨(some 9), none, .call 146 [.tmp 8]⟩, ⟨(some 10), none, .fieldA 1 (.tmp 4)⟩, ⟨none, none, .store 7 (.tmp 10) (.tmp 9)⟩])
 (.seq (.ops [⟨(some 11), none, .mov (.tmp 0)⟩, ⟨(some 12), none, .call 147 [.tmp 11]⟩, ⟨(some 13), none, .fieldA 8 (.tmp 4)⟩, ⟨none, none, .store 8 (.tmp 13) (.tmp 12)⟩])
 (.seq (.ops [⟨(some 14), none, .mov (.tmp 0)⟩, ⟨(some 15), none, .call 129 [.tmp 14, .const (.int .i64 4)]⟩, ⟨(some 16), none, .fieldA 16 (.tmp 4)⟩, ⟨none, none, .store 1 (.tmp 16) (.tmp 15)⟩])
 (.seq (.ops [⟨(some 17), none, .mov (.tmp 0)⟩, ⟨(some 18), none, .call 147 [.tmp 17]⟩, ⟨(some 19), none, .fieldA 17 (.tmp 4)⟩, ⟨none, none, .store 8 (.tmp 19) (.tmp 18)⟩])
 (.seq (.ops [⟨(some 20), none, .mov (.tmp 0)⟩, ⟨(some 21), none, .call 148 [.tmp 20]⟩, ⟨(some 22), none, .fieldA 25 (.tmp 4)⟩, ⟨none, none, .store 2 (.tmp 22) (.tmp 21)⟩])
 (.seq (.ops [⟨(some 23), none, .mov (.tmp 0)⟩, ⟨(some 24), none, .call 129 [.tmp 23, .const (.int .i64 2)]⟩, ⟨(some 25), none, .mov (.tmp 0)⟩, ⟨(some 26), none, .call 129 [.tmp 25, .const (.int .i64 2)]⟩, ⟨(some 27), none, .mov (.tmp 0)⟩, ⟨(some 28), none, .call 129 [.tmp 27, .const (.int .i64 2)]⟩, ⟨(some 29), none, .mov (.tmp 0)⟩, ⟨(some 30), none, .call 129 [.tmp 29, .const (.int .i64 2)]⟩, ⟨(some 31), none, .fieldA 27 (.tmp 4)⟩, ⟨none, none, .store 1 (.tmp 31) (.tmp 24)⟩, ⟨(some 32), none, .fieldA 28 (.tmp 4)⟩, ⟨none, none, .store 1 (.tmp 32) (.tmp 26)⟩, ⟨(some 33), none, .fieldA 29 (.tmp 4)⟩, ⟨none, none, .store 1 (.tmp 33) (.tmp 28)⟩, ⟨(some 34), none, .fieldA 30 (.tmp 4)⟩, ⟨none, none, .store 1 (.tmp 34) (.tmp 30)⟩])
 (.seq (.ops [⟨(some 35), none, .load true 31 (.tmp 4)⟩, ⟨none, none, .store 31 (.tmp 4) (.tmp 35)⟩])
 .ret)))))))))⟩
theorem x96_ok : yfunc Tryd.prog Tryd.f96 = some x96 := by kernel_rfl

/-- switchyard/bpdu.ReadBody -/
def x103 : YF := ⟨37, [.cell 4 true 31],
 (.seq (.ops [⟨(some 4), none, .alloc 86 [.int .i64 0, .bool false, .bool false, .int .i64 0, .bool false, .bool false, .bool false, .bool false, .int .i64 0, .int .i64 0, .int .u8 0, .int .u8 0, .int .u8 0, .int .u8 0, .int .u8 0, .int .u8 0, .int .i64 0, .int .i64 0, .int .i64 0, .int .u8 0, .int .u8 0, .int .u8 0, .int .u8 0, .int .u8 0, .int .u8 0, .int .i64 0, .int .i64 0, .int .i64 0, .int .i64 0, .int .i64 0, .int .i64 0]⟩])
 (.seq (.ops [⟨(some 6), none, .mov (.tmp 1)⟩, ⟨(some 7), none, .build [.int .i64 0, .bool false, .bool false, .int .i64 0, .bool false, .bool false, .bool false, .bool false, .int .i64 0, .int .i64 0, .int .u8 0, .int .u8 0, .int .u8 0, .int .u8 0, .int .u8 0, .int .u8 0, .int .i64 0, .int .i64 0, .int .i64 0, .int .u8 0, .int .u8 0, .int .u8 0, .int .u8 0, .int .u8 0, .int .u8 0, .int .i64 0, .int .i64 0, .int .i64 0, .int .i64 0, .int .i64 0, .int .i64 0] [(0, 1, .tmp 6)]⟩, ⟨(some 5), none, .alloc 86 [.int .i64 0, .bool false, .bool false, .int .i64 0, .bool false, .bool false, .bool false, .bool false, .int .i64 0, .int .i64 0, .int .u8 0, .int .u8 0, .int .u8 0, .int .u8 0, .int .u8 0, .int .u8 0, .int .i64 0, .int .i64 0, .int .i64 0, .int .u8 0, .int .u8 0, .int .u8 0, .int .u8 0, .int .u8 0, .int .u8 0, .int .i64 0, .int .i64 0, .int .i64 0, .int .i64 0, .int .i64 0, .int .i64 0]⟩, ⟨none, none, .store 31 (.tmp 5) (.tmp 7)⟩])
 (.seq (.ops [⟨(some 8), none, .mov (.tmp 0)⟩, ⟨(some 9), none, .call 105 [.tmp 8, .const (.int .i64 1)]⟩, ⟨(some 10), none, .call 150 [.tmp 9]⟩, ⟨(some 11), none, .fieldA 1 (.tmp 5)⟩, ⟨none, none, .store 7 (.tmp 11) (.tmp 10)⟩])
 (.seq (.ops [⟨(some 12), none, .mov (.tmp 0)⟩, ⟨(some 13), none, .call 151 [.tmp 12]⟩, ⟨(some 14), none, .fieldA 8 (.tmp 5)⟩, ⟨none, none, .store 8 (.tmp 14) (.tmp 13)⟩])
 (.seq (.ops [⟨(some 15), none, .mov (.tmp 0)⟩, ⟨(some 16), none, .call 105 [.tmp 15, .const (.int .i64 4)]⟩, ⟨(some 17), none, .fieldA 16 (.tmp 5)⟩, ⟨none, none, .store 1 (.tmp 17) (.tmp 16)⟩])
 (.seq (.ops [⟨(some 18), none, .mov (.tmp 0)⟩, ⟨(some 19), none, .call 151 [.tmp 18]⟩, ⟨(some 20), none, .fieldA 17 (.tmp 5)⟩, ⟨none, none, .store 8 (.tmp 20) (.tmp 19)⟩])
 (.seq (.ops [⟨(some 21), none, .mov (.tmp 0)⟩, ⟨(some 22), none, .call 152 [.tmp 21]⟩, ⟨(some 23), none, .fieldA 25 (.tmp 5)⟩, ⟨none, none, .store 2 (.tmp 23) (.tmp 22)⟩])
 (.seq (.ops [⟨(some 24), none, .mov (.tmp 0)⟩, ⟨(some 25), none, .call 105 [.tmp 24, .const (.int .i64 2)]⟩, ⟨(some 26), none, .mov (.tmp 0)⟩, ⟨(some 27), none, .call 105 [.tmp 26, .const (.int .i64 2)]⟩, ⟨(some 28), none, .mov (.tmp 0)⟩, ⟨(some 29), none, .call 105 [.tmp 28, .const (.int .i64 2)]⟩, ⟨(some 30), none, .mov (.tmp 0)⟩, ⟨(some 31), none, .call 105 [.tmp 30, .const (.int .i64 2)]⟩, ⟨(some 32), none, .fieldA 27 (.tmp 5)⟩, ⟨none, none, .store 1 (.tmp 32) (.tmp 25)⟩, ⟨(some 33), none, .fieldA 28 (.tmp 5)⟩, ⟨none, none, .store 1 (.tmp 33) (.tmp 27)⟩, ⟨(some 34), none, .fieldA 29 (.tmp 5)⟩, ⟨none, none, .store 1 (.tmp 34) (.tmp 29)⟩, ⟨(some 35), none, .fieldA 30 (.tmp 5)⟩, ⟨none, none, .store 1 (.tmp 35) (.tmp 31)⟩])
 (.seq (.ops [⟨(some 36), none, .load true 31 (.tmp 5)⟩, ⟨none, none, .store 31 (.tmp 4) (.tmp 36)⟩])
 .ret)))))))))⟩
theorem x103_ok : yfunc Tryd.prog Tryd.f103 = some x103 := by kernel_rfl
end Go.Proofs.YtidbblgahmjakaaDoor
