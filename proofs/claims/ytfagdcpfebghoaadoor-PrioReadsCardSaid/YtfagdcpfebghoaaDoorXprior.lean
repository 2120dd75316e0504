/- Functions of this seat with the type tables looked up; each checked by the kernel. Conditions: none. -/
import Derived.Test.YtfagdcpfebghoaaDoorProg
import Derived.Test.YtfagdcpfebghoaaDoorTy26
namespace Go.Proofs.YtfagdcpfebghoaaDoor
open Go.Sx
set_option maxRecDepth 100000
/-- switchyard/switchyardlaw.PrioReads -/
def x9 : YF := ⟨45, [.tmp 2],
 (.seq (.ops [⟨(some 2), none, .eff .set [.const (.bool false)]⟩])
 (.seq (.seq (.ops [⟨(some 9), none, .mov (.tmp 0)⟩, ⟨(some 10), none, .len true (.tmp 9)⟩, ⟨(some 11), none, .bin .gtr (.tmp 10) (.const (.int .i64 100))⟩])
 (.cond (.tmp 11) (.seq (.ops [⟨(some 2), none, .eff .set [.const (.bool true)]⟩])
 .ret) .skip))
 (.seq (.ops [⟨(some 13), none, .mov (.tmp 0)⟩, ⟨(some 14), none, .call 50 [.tmp 13]⟩, ⟨(some 12), none, .mov (.tmp 14)⟩, ⟨(some 15), none, .ext (.tmp 12) 0⟩, ⟨(some 16), none, .ext (.tmp 12) 1⟩, ⟨(some 17), none, .ext (.tmp 12) 2⟩, ⟨(some 3), none, .alloc 58 [.int .i64 0, .int .i64 0, .int .u8 0, .int .u8 0, .int .u8 0, .int .u8 0, .int .u8 0, .int .u8 0]⟩, ⟨(some 4), none, .alloc 60 [.int .i64 0, .int .i64 0]⟩, ⟨(some 5), none, .alloc 83 [.int .i64 0, .int .i64 0]⟩, ⟨none, none, .store 8 (.tmp 3) (.tmp 15)⟩, ⟨none, none, .store 2 (.tmp 4) (.tmp 16)⟩, ⟨none, none, .store 2 (.tmp 5) (.tmp 17)⟩])
 (.seq (.ops [⟨(some 18), none, .mov (.tmp 0)⟩, ⟨(some 19), none, .call 51 [.tmp 18, .const (.int .i64 0)]⟩, ⟨(some 6), none, .eff .set [.tmp 19]⟩])
 (.seq (.seq (.ops [⟨(some 20), none, .mov (.tmp 6)⟩, ⟨(some 21), none, .more (.nilP false) [.tmp 20]⟩])
 (.cond (.tmp 21) (.seq (.ops [⟨(some 2), none, .eff .set [.const (.bool false)]⟩])
 .ret) .skip))
 (.seq (.ops [⟨(some 22), none, .mov (.tmp 6)⟩, ⟨(some 23), none, .call 52 [.tmp 22]⟩, ⟨(some 7), none, .alloc 58 [.int .i64 0, .int .i64 0, .int .u8 0, .int .u8 0, .int .u8 0, .int .u8 0, .int .u8 0, .int .u8 0]⟩, ⟨none, none, .store 8 (.tmp 7) (.tmp 23)⟩])
 (.seq (.ops [⟨(some 24), none, .mov (.tmp 6)⟩, ⟨(some 25), none, .call 53 [.tmp 24]⟩, ⟨(some 8), none, .alloc 60 [.int .i64 0, .int .i64 0]⟩, ⟨none, none, .store 2 (.tmp 8) (.tmp 25)⟩])
 (.seq (.draw [26, 28, 27, 29, 30, 31, 32, 33, 34, 35, 36, 37, 38, 39, 40, 41, 42, 43, 44, 2] [⟨0, [], ⟨(some 26), none, .mov (.tmp 6)⟩⟩, ⟨2, [], ⟨(some 28), none, .load true 2 (.tmp 5)⟩⟩, ⟨1, [0], ⟨(some 27), none, .call 55 [.tmp 26]⟩⟩, ⟨3, [2, 1, 0], ⟨(some 29), none, .call 54 [.tmp 27, .tmp 28]⟩⟩, ⟨4, [3, 2, 1, 0], ⟨(some 30), none, .mov (.tmp 29)⟩⟩, ⟨5, [4, 3, 2, 1, 0], ⟨(some 31), (some (30, true)), .load true 2 (.tmp 5)⟩⟩, ⟨6, [5, 4, 3, 2, 1, 0], ⟨(some 32), (some (30, true)), .call 56 [.tmp 31]⟩⟩, ⟨7, [6, 5, 4, 3, 2, 1, 0], ⟨(some 33), (some (30, true)), .un .not (.tmp 32)⟩⟩, ⟨8, [7, 6, 5, 4, 3, 2, 1, 0], ⟨(some 34), (some (30, true)), .mov (.tmp 33)⟩⟩, ⟨9, [8, 7, 6, 5, 4, 3, 2, 1, 0], ⟨(some 35), (some (34, false)), .load true 8 (.tmp 7)⟩⟩, ⟨10, [8, 7, 6, 5, 4, 3, 2, 1, 0], ⟨(some 36), (some (34, false)), .load true 8 (.tmp 3)⟩⟩, ⟨11, [9, 10, 8, 7, 6, 5, 4, 3, 2, 1, 0], ⟨(some 37), (some (34, false)), .eqAgg false [0, 0, 0, 0, 0, 0, 0, 0] (.tmp 35) (.tmp 36)⟩⟩, ⟨12, [11, 9, 10, 8, 7, 6, 5, 4, 3, 2, 1, 0], ⟨(some 38), (some (34, false)), .mov (.tmp 37)⟩⟩, ⟨13, [12, 11, 9, 10, 8, 7, 6, 5, 4, 3, 2, 1, 0], ⟨(some 39), (some (38, true)), .load true 2 (.tmp 8)⟩⟩, ⟨14, [12, 11, 9, 10, 8, 7, 6, 5, 4, 3, 2, 1, 0], ⟨(some 40), (some (38, true)), .load true 2 (.tmp 4)⟩⟩, ⟨15, [13, 14, 12, 11, 9, 10, 8, 7, 6, 5, 4, 3, 2, 1, 0], ⟨(some 41), (some (38, true)), .eqAgg false [0, 0] (.tmp 39) (.tmp 40)⟩⟩, ⟨16, [15, 13, 14, 12, 11, 9, 10, 8, 7, 6, 5, 4, 3, 2, 1, 0], ⟨(some 42), (some (34, false)), .pick (.tmp 38) (.tmp 41) (.const (.bool false))⟩⟩, ⟨17, [16, 15, 13, 14, 12, 11, 9, 10, 8, 7, 6, 5, 4, 3, 2, 1, 0], ⟨(some 43), (some (30, true)), .pick (.tmp 34) (.const (.bool true)) (.tmp 42)⟩⟩, ⟨18, [17, 16, 15, 13, 14, 12, 11, 9, 10, 8, 7, 6, 5, 4, 3, 2, 1, 0], ⟨(some 44), none, .pick (.tmp 30) (.tmp 43) (.const (.bool false))⟩⟩, ⟨19, [18, 17, 16, 15, 13, 14, 12, 11, 9, 10, 8, 7, 6, 5, 4, 3, 2, 1, 0], ⟨(some 2), none, .eff .set [.tmp 44]⟩⟩])
 .ret))))))))⟩
theorem x9_ok : yfunc Tryd.prog Tryd.f9 = some x9 := by kernel_rfl

/-- switchyard/switchyardref.BridgeRead -/
def x50 : YFD := ⟨17, [.cell 2 true 8, .cell 3 true 2, .cell 4 true 2],
 [.code (.ops [⟨(some 2), none, .alloc 58 [.int .i64 0, .int .i64 0, .int .u8 0, .int .u8 0, .int .u8 0, .int .u8 0, .int .u8 0, .int .u8 0]⟩, ⟨(some 3), none, .alloc 60 [.int .i64 0, .int .i64 0]⟩, ⟨(some 4), none, .alloc 83 [.int .i64 0, .int .i64 0]⟩]),
  .code (.ops [⟨(some 6), none, .call 69 []⟩, ⟨none, none, .store 2 (.tmp 4) (.tmp 6)⟩]),
  .dfr [] (.func 70) [.tmp 4]],
 (.seq (.ops [⟨(some 7), none, .mov (.tmp 0)⟩, ⟨(some 8), none, .build [.string ⟨#[]⟩, .int .i64 0, .int .i64 0] [(0, 1, .tmp 7)]⟩, ⟨(some 9), none, .box 125 (.tmp 8)⟩, ⟨(some 5), none, .eff .set [.tmp 9]⟩])
 (.seq (.ops [⟨(some 10), none, .mov (.tmp 5)⟩, ⟨(some 11), none, .call 71 [.tmp 10]⟩, ⟨none, none, .store 8 (.tmp 2) (.tmp 11)⟩])
 (.seq (.ops [⟨(some 12), none, .mov (.tmp 5)⟩, ⟨(some 13), none, .call 72 [.tmp 12]⟩, ⟨none, none, .store 2 (.tmp 3) (.tmp 13)⟩])
 (.seq (.draw [14, 15, 16] [⟨0, [], ⟨(some 14), none, .load true 8 (.tmp 2)⟩⟩, ⟨1, [], ⟨(some 15), none, .load true 2 (.tmp 3)⟩⟩, ⟨2, [], ⟨(some 16), none, .load true 2 (.tmp 4)⟩⟩, ⟨3, [0], ⟨none, none, .store 8 (.tmp 2) (.tmp 14)⟩⟩, ⟨4, [1, 3, 0], ⟨none, none, .store 2 (.tmp 3) (.tmp 15)⟩⟩, ⟨5, [2, 4, 1, 3, 0], ⟨none, none, .store 2 (.tmp 4) (.tmp 16)⟩⟩])
 .ret))))⟩
theorem x50_ok : yfuncD Tryd.prog Tryd.f50 3 = some x50 := by kernel_rfl

/-- switchyard/prio.Read -/
def x52 : YF := ⟨18, [.cell 2 true 8],
 (.seq (.ops [⟨(some 2), none, .alloc 58 [.int .i64 0, .int .i64 0, .int .u8 0, .int .u8 0, .int .u8 0, .int .u8 0, .int .u8 0, .int .u8 0]⟩])
 (.seq (.ops [⟨(some 5), none, .mov (.tmp 0)⟩, ⟨(some 6), none, .call 73 [.tmp 5, .const (.int .i64 2)]⟩, ⟨(some 3), none, .eff .set [.tmp 6]⟩])
 (.seq (.ops [⟨(some 7), none, .mov (.tmp 3)⟩, ⟨(some 8), none, .bin .andNot (.tmp 7) (.const (.int .i64 4095))⟩, ⟨(some 9), none, .mov (.tmp 3)⟩, ⟨(some 10), none, .bin .and (.tmp 9) (.const (.int .i64 4095))⟩, ⟨(some 11), none, .build [.int .i64 0, .int .i64 0, .int .u8 0, .int .u8 0, .int .u8 0, .int .u8 0, .int .u8 0, .int .u8 0] [(0, 1, .tmp 8), (1, 1, .tmp 10)]⟩, ⟨(some 4), none, .alloc 58 [.int .i64 0, .int .i64 0, .int .u8 0, .int .u8 0, .int .u8 0, .int .u8 0, .int .u8 0, .int .u8 0]⟩, ⟨none, none, .store 8 (.tmp 4) (.tmp 11)⟩])
 (.seq (.draw [12, 13, 14, 15, 16] [⟨0, [], ⟨(some 12), none, .fieldA 2 (.tmp 4)⟩⟩, ⟨1, [0], ⟨(some 13), none, .more (.slcA 6 1 false false) [.tmp 12]⟩⟩, ⟨2, [], ⟨(some 14), none, .mov (.tmp 0)⟩⟩, ⟨3, [2], ⟨(some 15), none, .call 74 [.tmp 14, .const (.int .i64 6)]⟩⟩, ⟨4, [1, 0, 3, 2], ⟨(some 16), none, .prim (.call ⟨.builtin .copy, #[.tmp 13, .tmp 15], #[116, 9]⟩) [.tmp 13, .tmp 15]⟩⟩])
 (.seq (.ops [⟨(some 17), none, .load true 8 (.tmp 4)⟩, ⟨none, none, .store 8 (.tmp 2) (.tmp 17)⟩])
 .ret)))))⟩
theorem x52_ok : yfunc Tryd.prog Tryd.f52 = some x52 := by kernel_rfl

/-- switchyard/prio.ReadPort -/
def x53 : YF := ⟨28, [.cell 2 true 2],
 (.seq (.ops [⟨(some 2), none, .alloc 60 [.int .i64 0, .int .i64 0]⟩])
 (.seq (.ops [⟨(some 6), none, .mov (.tmp 0)⟩, ⟨(some 7), none, .call 75 [.tmp 6]⟩, ⟨(some 3), none, .eff .set [.tmp 7]⟩])
 (.seq (.ops [⟨(some 8), none, .mov (.tmp 0)⟩, ⟨(some 9), none, .call 73 [.tmp 8, .const (.int .i64 2)]⟩, ⟨(some 4), none, .eff .set [.tmp 9]⟩])
 (.seq (.ops [⟨(some 10), none, .mov (.tmp 4)⟩, ⟨(some 11), none, .bin .shr (.tmp 10) (.const (.int .u64 8))⟩, ⟨(some 12), none, .bin .andNot (.tmp 11) (.const (.int .i64 15))⟩, ⟨(some 13), none, .mov (.tmp 4)⟩, ⟨(some 14), none, .bin .and (.tmp 13) (.const (.int .i64 4095))⟩, ⟨(some 15), none, .build [.int .i64 0, .int .i64 0] [(0, 1, .tmp 12), (1, 1, .tmp 14)]⟩, ⟨(some 5), none, .alloc 60 [.int .i64 0, .int .i64 0]⟩, ⟨none, none, .store 2 (.tmp 5) (.tmp 15)⟩])
 (.seq (.seq (.ops [⟨(some 16), none, .mov (.tmp 0)⟩, ⟨(some 17), none, .call 55 [.tmp 16]⟩, ⟨(some 18), none, .more (.nilI false) [.tmp 17]⟩, ⟨(some 19), none, .mov (.tmp 18)⟩, ⟨(some 20), (some (19, true)), .fieldA 1 (.tmp 5)⟩, ⟨(some 21), (some (19, true)), .load false 1 (.tmp 20)⟩, ⟨(some 22), (some (19, true)), .bin .eql (.tmp 21) (.const (.int .i64 0))⟩, ⟨(some 23), none, .pick (.tmp 19) (.tmp 22) (.const (.bool false))⟩])
 (.cond (.tmp 23) (.ops [⟨(some 24), none, .mov (.tmp 0)⟩, ⟨(some 25), none, .mov (.tmp 3)⟩, ⟨(some 26), none, .call 76 [.tmp 24, .const (.int .i64 2), .tmp 25]⟩]) .skip))
 (.seq (.ops [⟨(some 27), none, .load true 2 (.tmp 5)⟩, ⟨none, none, .store 2 (.tmp 2) (.tmp 27)⟩])
 .ret))))))⟩
theorem x53_ok : yfunc Tryd.prog Tryd.f53 = some x53 := by kernel_rfl

/-- (*switchyard/switchyardref.cursor).bridge -/
def x71 : YF := ⟨14, [.cell 2 true 8],
 (.seq (.ops [⟨(some 2), none, .alloc 58 [.int .i64 0, .int .i64 0, .int .u8 0, .int .u8 0, .int .u8 0, .int .u8 0, .int .u8 0, .int .u8 0]⟩])
 (.seq (.ops [⟨(some 4), none, .mov (.tmp 0)⟩, ⟨(some 5), none, .call 79 [.tmp 4, .const (.int .i64 2)]⟩, ⟨(some 3), none, .eff .set [.tmp 5]⟩])
 (.seq (.ops [⟨(some 6), none, .mov (.tmp 3)⟩, ⟨(some 7), none, .bin .quo (.tmp 6) (.const (.int .i64 4096))⟩, ⟨(some 8), none, .bin .mul (.tmp 7) (.const (.int .i64 4096))⟩, ⟨(some 9), none, .mov (.tmp 3)⟩, ⟨(some 10), none, .bin .rem (.tmp 9) (.const (.int .i64 4096))⟩, ⟨(some 11), none, .mov (.tmp 0)⟩, ⟨(some 12), none, .call 81 [.tmp 11]⟩, ⟨(some 13), none, .build [.int .i64 0, .int .i64 0, .int .u8 0, .int .u8 0, .int .u8 0, .int .u8 0, .int .u8 0, .int .u8 0] [(0, 1, .tmp 8), (1, 1, .tmp 10), (2, 6, .tmp 12)]⟩, ⟨none, none, .store 8 (.tmp 2) (.tmp 13)⟩])
 .ret)))⟩
theorem x71_ok : yfunc Tryd.prog Tryd.f71 = some x71 := by kernel_rfl

/-- (*switchyard/switchyardref.cursor).port -/
def x72 : YF := ⟨23, [.cell 2 true 2],
 (.seq (.ops [⟨(some 2), none, .alloc 60 [.int .i64 0, .int .i64 0]⟩])
 (.seq (.ops [⟨(some 5), none, .mov (.tmp 0)⟩, ⟨(some 6), none, .more .nilC [.tmp 5]⟩, ⟨(some 7), none, .fieldA 1 (.tmp 6)⟩, ⟨(some 8), none, .load false 1 (.tmp 7)⟩, ⟨(some 3), none, .eff .set [.tmp 8]⟩])
 (.seq (.ops [⟨(some 9), none, .mov (.tmp 0)⟩, ⟨(some 10), none, .call 79 [.tmp 9, .const (.int .i64 2)]⟩, ⟨(some 4), none, .eff .set [.tmp 10]⟩])
 (.seq (.seq (.ops [⟨(some 11), none, .mov (.tmp 4)⟩, ⟨(some 12), none, .bin .rem (.tmp 11) (.const (.int .i64 4096))⟩, ⟨(some 13), none, .bin .eql (.tmp 12) (.const (.int .i64 0))⟩])
 (.cond (.tmp 13) (.ops [⟨(some 14), none, .mov (.tmp 0)⟩, ⟨(some 15), none, .mov (.tmp 3)⟩, ⟨(some 16), none, .call 80 [.tmp 14, .const (.int .i64 2), .tmp 15]⟩]) .skip))
 (.seq (.ops [⟨(some 17), none, .mov (.tmp 4)⟩, ⟨(some 18), none, .bin .quo (.tmp 17) (.const (.int .i64 4096))⟩, ⟨(some 19), none, .bin .mul (.tmp 18) (.const (.int .i64 16))⟩, ⟨(some 20), none, .mov (.tmp 4)⟩, ⟨(some 21), none, .bin .rem (.tmp 20) (.const (.int .i64 4096))⟩, ⟨(some 22), none, .build [.int .i64 0, .int .i64 0] [(0, 1, .tmp 19), (1, 1, .tmp 21)]⟩, ⟨none, none, .store 2 (.tmp 2) (.tmp 22)⟩])
 .ret)))))⟩
theorem x72_ok : yfunc Tryd.prog Tryd.f72 = some x72 := by kernel_rfl
end Go.Proofs.YtfagdcpfebghoaaDoor
