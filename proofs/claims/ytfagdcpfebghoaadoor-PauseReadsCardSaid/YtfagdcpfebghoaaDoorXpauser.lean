/- Functions of this seat with the type tables looked up; each checked by the kernel. Conditions: none. -/
import Derived.Test.YtfagdcpfebghoaaDoorProg
import Derived.Test.YtfagdcpfebghoaaDoorTy26
namespace Go.Proofs.YtfagdcpfebghoaaDoor
open Go.Sx
set_option maxRecDepth 100000
/-- switchyard/switchyardlaw.PauseReads -/
def x11 : YF := ⟨28, [.tmp 2],
 (.seq (.ops [⟨(some 2), none, .eff .set [.const (.bool false)]⟩])
 (.seq (.seq (.ops [⟨(some 7), none, .mov (.tmp 0)⟩, ⟨(some 8), none, .len true (.tmp 7)⟩, ⟨(some 9), none, .bin .gtr (.tmp 8) (.const (.int .i64 300))⟩])
 (.cond (.tmp 9) (.seq (.ops [⟨(some 2), none, .eff .set [.const (.bool true)]⟩])
 .ret) .skip))
 (.seq (.ops [⟨(some 11), none, .mov (.tmp 0)⟩, ⟨(some 12), none, .call 59 [.tmp 11]⟩, ⟨(some 10), none, .mov (.tmp 12)⟩, ⟨(some 13), none, .ext (.tmp 10) 0⟩, ⟨(some 14), none, .ext (.tmp 10) 1⟩, ⟨(some 3), none, .alloc 78 [.bool false, .int .i64 0, .int .i64 0, .int .i64 0, .int .i64 0, .int .i64 0, .int .i64 0, .int .i64 0, .int .i64 0, .int .i64 0]⟩, ⟨(some 4), none, .alloc 83 [.int .i64 0, .int .i64 0]⟩, ⟨none, none, .store 10 (.tmp 3) (.tmp 13)⟩, ⟨none, none, .store 2 (.tmp 4) (.tmp 14)⟩])
 (.seq (.ops [⟨(some 16), none, .mov (.tmp 0)⟩, ⟨(some 17), none, .call 60 [.tmp 16]⟩, ⟨(some 15), none, .mov (.tmp 17)⟩, ⟨(some 18), none, .ext (.tmp 15) 0⟩, ⟨(some 19), none, .ext (.tmp 15) 1⟩, ⟨(some 5), none, .alloc 78 [.bool false, .int .i64 0, .int .i64 0, .int .i64 0, .int .i64 0, .int .i64 0, .int .i64 0, .int .i64 0, .int .i64 0, .int .i64 0]⟩, ⟨none, none, .store 10 (.tmp 5) (.tmp 18)⟩, ⟨(some 6), none, .eff .set [.tmp 19]⟩])
 (.seq (.ops [⟨(some 20), none, .mov (.tmp 6)⟩, ⟨(some 21), none, .load true 2 (.tmp 4)⟩, ⟨(some 22), none, .call 54 [.tmp 20, .tmp 21]⟩, ⟨(some 23), none, .mov (.tmp 22)⟩, ⟨(some 24), (some (23, true)), .load true 10 (.tmp 3)⟩, ⟨(some 25), (some (23, true)), .load true 10 (.tmp 5)⟩, ⟨(some 26), (some (23, true)), .eqAgg false [1, 0, 0, 0, 0, 0, 0, 0, 0, 0] (.tmp 24) (.tmp 25)⟩, ⟨(some 27), none, .pick (.tmp 23) (.tmp 26) (.const (.bool false))⟩, ⟨(some 2), none, .eff .set [.tmp 27]⟩])
 .ret)))))⟩
theorem x11_ok : yfunc Tryd.prog Tryd.f11 = some x11 := by kernel_rfl

/-- switchyard/switchyardref.PauseRead -/
def x59 : YFD := ⟨45, [.cell 2 true 10, .cell 3 true 2],
 [.code (.ops [⟨(some 2), none, .alloc 78 [.bool false, .int .i64 0, .int .i64 0, .int .i64 0, .int .i64 0, .int .i64 0, .int .i64 0, .int .i64 0, .int .i64 0, .int .i64 0]⟩, ⟨(some 3), none, .alloc 83 [.int .i64 0, .int .i64 0]⟩]),
  .code (.ops [⟨(some 6), none, .call 69 []⟩, ⟨none, none, .store 2 (.tmp 3) (.tmp 6)⟩]),
  .dfr [⟨(some 7), none, .mkF 85 [] [.tmp 3, .tmp 2]⟩] (.tmp 7) [],
  .dfr [] (.func 70) [.tmp 3]],
 (.seq (.ops [⟨(some 8), none, .mov (.tmp 0)⟩, ⟨(some 9), none, .build [.string ⟨#[]⟩, .int .i64 0, .int .i64 0] [(0, 1, .tmp 8)]⟩, ⟨(some 10), none, .box 125 (.tmp 9)⟩, ⟨(some 4), none, .eff .set [.tmp 10]⟩])
 (.seq (.seq (.ops [⟨(some 11), none, .mov (.tmp 4)⟩, ⟨(some 12), none, .call 79 [.tmp 11, .const (.int .i64 2)]⟩])
 (.block 0 (.seq (.ops [⟨(some 16), none, .bin .eql (.tmp 12) (.const (.int .i64 1))⟩, ⟨(some 15), none, .eff .set [.tmp 16]⟩])
 (.cond (.tmp 15) (.ops [⟨(some 17), none, .mov (.tmp 4)⟩, ⟨(some 18), none, .call 79 [.tmp 17, .const (.int .i64 2)]⟩, ⟨(some 19), none, .fieldA 2 (.tmp 2)⟩, ⟨(some 20), none, .indexP 8 1 (.tmp 19) (.const (.int .i64 0))⟩, ⟨none, none, .store 1 (.tmp 20) (.tmp 18)⟩]) (.seq (.ops [⟨(some 22), none, .bin .eql (.tmp 12) (.const (.int .i64 257))⟩, ⟨(some 21), none, .eff .set [.tmp 22]⟩])
 (.cond (.tmp 21) (.seq (.ops [⟨(some 23), none, .mov (.tmp 4)⟩, ⟨(some 24), none, .call 79 [.tmp 23, .const (.int .i64 2)]⟩, ⟨(some 25), none, .fieldA 0 (.tmp 2)⟩, ⟨none, none, .store 1 (.tmp 25) (.const (.bool true))⟩, ⟨(some 26), none, .fieldA 1 (.tmp 2)⟩, ⟨none, none, .store 1 (.tmp 26) (.tmp 24)⟩])
 (.seq (.seq (.ops [⟨(some 27), none, .fieldA 1 (.tmp 2)⟩, ⟨(some 28), none, .load false 1 (.tmp 27)⟩, ⟨(some 29), none, .bin .gtr (.tmp 28) (.const (.int .i64 255))⟩])
 (.cond (.tmp 29) (.ops [⟨(some 30), none, .mov (.tmp 4)⟩, ⟨(some 31), none, .call 80 [.tmp 30, .const (.int .i64 2), .const (.int .i64 2)]⟩]) .skip))
 (.seq (.ops [⟨(some 32), none, .mov (.const (.int .i64 0))⟩])
 (.block 1 (.loop [false, false, false, false, false, true, false, false, false, false, false, false, false, false, false, false, false, false, false, false, false, false, false, false, false, false, false, false, false, false, false, false, true, true, true, true, true, true, true, true, true] (.seq (.ops [⟨(some 33), none, .bin .lss (.tmp 32) (.const (.int .i64 8))⟩])
 (.seq (.cond (.tmp 33) .skip (.exit 1))
 (.seq (.block 2 (.seq (.ops [⟨(some 34), none, .mov (.tmp 32)⟩, ⟨(some 5), none, .eff .set [.tmp 34]⟩])
 (.ops [⟨(some 35), none, .mov (.tmp 5)⟩, ⟨(some 36), none, .mov (.tmp 4)⟩, ⟨(some 37), none, .call 79 [.tmp 36, .const (.int .i64 2)]⟩, ⟨(some 38), none, .fieldA 2 (.tmp 2)⟩, ⟨(some 39), none, .indexP 8 1 (.tmp 38) (.tmp 35)⟩, ⟨none, none, .store 1 (.tmp 39) (.tmp 37)⟩])))
 (.ops [⟨(some 40), none, .bin .add (.tmp 32) (.const (.int .i64 1))⟩, ⟨(some 32), none, .mov (.tmp 40)⟩]))))))))) (.ops [⟨(some 13), none, .mov (.tmp 4)⟩, ⟨(some 14), none, .call 80 [.tmp 13, .const (.int .i64 3), .const (.int .i64 0)]⟩])))))))
 (.seq (.ops [⟨(some 41), none, .mov (.tmp 4)⟩, ⟨(some 42), none, .call 83 [.tmp 41]⟩])
 (.seq (.draw [43, 44] [⟨0, [], ⟨(some 43), none, .load true 10 (.tmp 2)⟩⟩, ⟨1, [], ⟨(some 44), none, .load true 2 (.tmp 3)⟩⟩, ⟨2, [0], ⟨none, none, .store 10 (.tmp 2) (.tmp 43)⟩⟩, ⟨3, [1, 2, 0], ⟨none, none, .store 2 (.tmp 3) (.tmp 44)⟩⟩])
 .ret))))⟩
theorem x59_ok : yfuncD Tryd.prog Tryd.f59 4 = some x59 := by kernel_rfl

/-- switchyard/pause.Read -/
def x60 : YF := ⟨53, [.cell 2 true 10, .tmp 3],
 (.seq (.ops [⟨(some 2), none, .alloc 78 [.bool false, .int .i64 0, .int .i64 0, .int .i64 0, .int .i64 0, .int .i64 0, .int .i64 0, .int .i64 0, .int .i64 0, .int .i64 0]⟩, ⟨(some 3), none, .eff .set [.const (.nilIface)]⟩])
 (.seq (.ops [⟨(some 8), none, .mov (.tmp 0)⟩, ⟨(some 9), none, .call 51 [.tmp 8, .const (.int .i64 0)]⟩, ⟨(some 4), none, .eff .set [.tmp 9]⟩])
 (.seq (.ops [⟨(some 5), none, .alloc 78 [.bool false, .int .i64 0, .int .i64 0, .int .i64 0, .int .i64 0, .int .i64 0, .int .i64 0, .int .i64 0, .int .i64 0, .int .i64 0]⟩])
 (.seq (.seq (.ops [⟨(some 10), none, .mov (.tmp 4)⟩, ⟨(some 11), none, .call 73 [.tmp 10, .const (.int .i64 2)]⟩, ⟨(some 6), none, .eff .set [.tmp 11]⟩])
 (.jn [false, false, false, false, false, false, false, true, false, false, false, false, true, true, true, true, true, true, true, true, true, true, true, true, true, true, true, true, true, true, true, true, true, true, true, true, true, true, true, true, true, true, true, true, true, true] (.block 0 (.seq (.ops [⟨(some 15), none, .mov (.tmp 4)⟩, ⟨(some 16), none, .call 55 [.tmp 15]⟩, ⟨(some 17), none, .more (.nilI true) [.tmp 16]⟩, ⟨(some 14), none, .eff .set [.tmp 17]⟩])
 (.cond (.tmp 14) .skip (.seq (.ops [⟨(some 19), none, .mov (.tmp 6)⟩, ⟨(some 20), none, .bin .eql (.tmp 19) (.const (.int .i64 1))⟩, ⟨(some 18), none, .eff .set [.tmp 20]⟩])
 (.cond (.tmp 18) (.ops [⟨(some 21), none, .mov (.tmp 4)⟩, ⟨(some 22), none, .call 73 [.tmp 21, .const (.int .i64 2)]⟩, ⟨(some 23), none, .fieldA 2 (.tmp 5)⟩, ⟨(some 24), none, .indexP 8 1 (.tmp 23) (.const (.int .i64 0))⟩, ⟨none, none, .store 1 (.tmp 24) (.tmp 22)⟩]) (.seq (.ops [⟨(some 26), none, .mov (.tmp 6)⟩, ⟨(some 27), none, .bin .eql (.tmp 26) (.const (.int .i64 257))⟩, ⟨(some 25), none, .eff .set [.tmp 27]⟩])
 (.cond (.tmp 25) (.seq (.ops [⟨(some 28), none, .fieldA 0 (.tmp 5)⟩, ⟨none, none, .store 1 (.tmp 28) (.const (.bool true))⟩])
 (.seq (.ops [⟨(some 29), none, .mov (.tmp 4)⟩, ⟨(some 30), none, .call 73 [.tmp 29, .const (.int .i64 2)]⟩, ⟨(some 31), none, .fieldA 1 (.tmp 5)⟩, ⟨none, none, .store 1 (.tmp 31) (.tmp 30)⟩])
 (.seq (.seq (.ops [⟨(some 32), none, .fieldA 1 (.tmp 5)⟩, ⟨(some 33), none, .load false 1 (.tmp 32)⟩, ⟨(some 34), none, .bin .gtr (.tmp 33) (.const (.int .i64 255))⟩])
 (.cond (.tmp 34) (.ops [⟨(some 35), none, .mov (.tmp 4)⟩, ⟨(some 36), none, .call 76 [.tmp 35, .const (.int .i64 2), .const (.int .i64 2)]⟩]) .skip))
 (.seq (.ops [⟨(some 37), none, .mov (.const (.int .i64 0))⟩])
 (.block 1 (.loop [false, false, false, false, false, false, false, true, false, false, false, false, false, false, false, false, false, false, false, false, false, false, false, false, false, false, false, false, false, false, false, false, false, false, false, false, false, true, true, true, true, true, true, true, true, true] (.seq (.ops [⟨(some 38), none, .bin .lss (.tmp 37) (.const (.int .i64 8))⟩])
 (.seq (.cond (.tmp 38) .skip (.exit 1))
 (.seq (.block 2 (.seq (.ops [⟨(some 39), none, .mov (.tmp 37)⟩, ⟨(some 7), none, .eff .set [.tmp 39]⟩])
 (.ops [⟨(some 40), none, .mov (.tmp 7)⟩, ⟨(some 41), none, .mov (.tmp 4)⟩, ⟨(some 42), none, .call 73 [.tmp 41, .const (.int .i64 2)]⟩, ⟨(some 43), none, .fieldA 2 (.tmp 5)⟩, ⟨(some 44), none, .indexP 8 1 (.tmp 43) (.tmp 40)⟩, ⟨none, none, .store 1 (.tmp 44) (.tmp 42)⟩])))
 (.ops [⟨(some 45), none, .bin .add (.tmp 37) (.const (.int .i64 1))⟩, ⟨(some 37), none, .mov (.tmp 45)⟩])))))))))) (.ops [⟨(some 12), none, .mov (.tmp 4)⟩, ⟨(some 13), none, .call 76 [.tmp 12, .const (.int .i64 3), .const (.int .i64 0)]⟩]))))))))))
 (.seq (.seq (.ops [⟨(some 46), none, .mov (.tmp 4)⟩, ⟨(some 47), none, .call 84 [.tmp 46]⟩, ⟨(some 48), none, .un .not (.tmp 47)⟩])
 (.cond (.tmp 48) (.seq (.ops [⟨(some 49), none, .build [.bool false, .int .i64 0, .int .i64 0, .int .i64 0, .int .i64 0, .int .i64 0, .int .i64 0, .int .i64 0, .int .i64 0, .int .i64 0] []⟩, ⟨(some 50), none, .mov (.tmp 4)⟩, ⟨(some 51), none, .call 55 [.tmp 50]⟩, ⟨none, none, .store 10 (.tmp 2) (.tmp 49)⟩, ⟨(some 3), none, .eff .set [.tmp 51]⟩])
 .ret) .skip))
 (.seq (.ops [⟨(some 52), none, .load true 10 (.tmp 5)⟩, ⟨none, none, .store 10 (.tmp 2) (.tmp 52)⟩, ⟨(some 3), none, .eff .set [.const (.nilIface)]⟩])
 .ret))))))⟩
theorem x60_ok : yfunc Tryd.prog Tryd.f60 = some (unjF x60) := by kernel_rfl

/-- switchyard/switchyardref.PauseRead$1 -/
def x85 : YF := ⟨6, [],
 (.seq (.ops [⟨(some 2), none, .load true 2 (.tmp 0)⟩, ⟨(some 3), none, .call 56 [.tmp 2]⟩, ⟨(some 4), none, .un .not (.tmp 3)⟩])
 (.cond (.tmp 4) (.ops [⟨(some 5), none, .build [.bool false, .int .i64 0, .int .i64 0, .int .i64 0, .int .i64 0, .int .i64 0, .int .i64 0, .int .i64 0, .int .i64 0, .int .i64 0] []⟩, ⟨none, none, .store 10 (.tmp 1) (.tmp 5)⟩]) .skip))⟩
theorem x85_ok : yfunc Tryd.prog Tryd.f85 = some x85 := by kernel_rfl
end Go.Proofs.YtfagdcpfebghoaaDoor
