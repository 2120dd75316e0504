/- Functions of this seat with the type tables looked up; each checked by the kernel. Conditions: none. -/
import Derived.Test.YtmeoalpmicndbaaDoorProg
import Derived.Test.YtmeoalpmicndbaaDoorBaseC
namespace Go.Proofs.YtmeoalpmicndbaaDoor
open Go.Sx
set_option maxRecDepth 100000
/-- switchyard/switchyardref.BridgePack -/
def x97 : YF := ⟨17, [.tmp 2, .tmp 3],
 (.seq (.ops [⟨(some 1), none, .box 61 (.tmp 0)⟩, ⟨(some 2), none, .eff .set [.const (.string ⟨#[]⟩)]⟩, ⟨(some 3), none, .eff .set [.const (.int .i64 0)]⟩])
 (.seq (.seq (.ops [⟨(some 4), none, .load true 8 (.tmp 1)⟩, ⟨(some 5), none, .call 111 [.tmp 4]⟩, ⟨(some 6), none, .un .not (.tmp 5)⟩])
 (.cond (.tmp 6) (.seq (.ops [⟨(some 2), none, .eff .set [.const (.string ⟨#[]⟩)]⟩, ⟨(some 3), none, .eff .set [.const (.int .i64 1)]⟩])
 .ret) .skip))
 (.seq (.draw [7, 8, 9, 10, 11, 13, 14, 15, 12, 16, 2, 3] [⟨0, [], ⟨(some 7), none, .fieldA 0 (.tmp 1)⟩⟩, ⟨1, [0], ⟨(some 8), none, .load false 1 (.tmp 7)⟩⟩, ⟨2, [], ⟨(some 9), none, .fieldA 1 (.tmp 1)⟩⟩, ⟨3, [2], ⟨(some 10), none, .load false 1 (.tmp 9)⟩⟩, ⟨4, [1, 0, 3, 2], ⟨(some 11), none, .bin .add (.tmp 8) (.tmp 10)⟩⟩, ⟨6, [], ⟨(some 13), none, .fieldA 2 (.tmp 1)⟩⟩, ⟨7, [6], ⟨(some 14), none, .more (.slcA 6 1 false false) [.tmp 13]⟩⟩, ⟨8, [7, 6], ⟨(some 15), none, .more .b2s [.tmp 14]⟩⟩, ⟨5, [4, 1, 0, 3, 2], ⟨(some 12), none, .call 78 [.tmp 11, .const (.int .i64 2)]⟩⟩, ⟨9, [5, 4, 1, 0, 3, 2, 8, 7, 6], ⟨(some 16), none, .bin .add (.tmp 12) (.tmp 15)⟩⟩, ⟨10, [9, 5, 4, 1, 0, 3, 2, 8, 7, 6], ⟨(some 2), none, .eff .set [.tmp 16]⟩⟩, ⟨11, [10, 9, 5, 4, 1, 0, 3, 2, 8, 7, 6], ⟨(some 3), none, .eff .set [.const (.int .i64 0)]⟩⟩])
 .ret)))⟩
theorem x97_ok : yfunc Tryd.prog Tryd.f97 = some x97 := by kernel_rfl

/-- switchyard/prio.Pack -/
def x100 : YF := ⟨18, [.tmp 2, .tmp 3],
 (.seq (.ops [⟨(some 1), none, .box 61 (.tmp 0)⟩, ⟨(some 2), none, .eff .set [.const (.string ⟨#[]⟩)]⟩, ⟨(some 3), none, .eff .set [.const (.nilIface)]⟩])
 (.seq (.seq (.ops [⟨(some 4), none, .load true 8 (.tmp 1)⟩, ⟨(some 5), none, .call 106 [.tmp 4]⟩, ⟨(some 6), none, .un .not (.tmp 5)⟩])
 (.cond (.tmp 6) (.seq (.ops [⟨(some 7), none, .mkI 31 (.const (.int .i64 1))⟩, ⟨(some 2), none, .eff .set [.const (.string ⟨#[]⟩)]⟩, ⟨(some 3), none, .eff .set [.tmp 7]⟩])
 .ret) .skip))
 (.seq (.draw [8, 9, 10, 11, 12, 14, 15, 16, 13, 17, 2, 3] [⟨0, [], ⟨(some 8), none, .fieldA 0 (.tmp 1)⟩⟩, ⟨1, [0], ⟨(some 9), none, .load false 1 (.tmp 8)⟩⟩, ⟨2, [], ⟨(some 10), none, .fieldA 1 (.tmp 1)⟩⟩, ⟨3, [2], ⟨(some 11), none, .load false 1 (.tmp 10)⟩⟩, ⟨4, [1, 0, 3, 2], ⟨(some 12), none, .bin .or (.tmp 9) (.tmp 11)⟩⟩, ⟨6, [], ⟨(some 14), none, .fieldA 2 (.tmp 1)⟩⟩, ⟨7, [6], ⟨(some 15), none, .more (.slcA 6 1 false false) [.tmp 14]⟩⟩, ⟨8, [7, 6], ⟨(some 16), none, .more .b2s [.tmp 15]⟩⟩, ⟨5, [4, 1, 0, 3, 2], ⟨(some 13), none, .call 49 [.tmp 12, .const (.int .i64 2)]⟩⟩, ⟨9, [5, 4, 1, 0, 3, 2, 8, 7, 6], ⟨(some 17), none, .bin .add (.tmp 13) (.tmp 16)⟩⟩, ⟨10, [9, 5, 4, 1, 0, 3, 2, 8, 7, 6], ⟨(some 2), none, .eff .set [.tmp 17]⟩⟩, ⟨11, [10, 9, 5, 4, 1, 0, 3, 2, 8, 7, 6], ⟨(some 3), none, .eff .set [.const (.nilIface)]⟩⟩])
 .ret)))⟩
theorem x100_ok : yfunc Tryd.prog Tryd.f100 = some x100 := by kernel_rfl

/-- switchyard/switchyardref.PortPack -/
def x148 : YF := ⟨14, [.tmp 2, .tmp 3],
 (.seq (.ops [⟨(some 1), none, .box 63 (.tmp 0)⟩, ⟨(some 2), none, .eff .set [.const (.string ⟨#[]⟩)]⟩, ⟨(some 3), none, .eff .set [.const (.int .i64 0)]⟩])
 (.seq (.seq (.ops [⟨(some 4), none, .load true 2 (.tmp 1)⟩, ⟨(some 5), none, .call 159 [.tmp 4]⟩, ⟨(some 6), none, .un .not (.tmp 5)⟩])
 (.cond (.tmp 6) (.seq (.ops [⟨(some 2), none, .eff .set [.const (.string ⟨#[]⟩)]⟩, ⟨(some 3), none, .eff .set [.const (.int .i64 1)]⟩])
 .ret) .skip))
 (.seq (.ops [⟨(some 7), none, .fieldA 0 (.tmp 1)⟩, ⟨(some 8), none, .load false 1 (.tmp 7)⟩, ⟨(some 9), none, .bin .mul (.tmp 8) (.const (.int .i64 256))⟩, ⟨(some 10), none, .fieldA 1 (.tmp 1)⟩, ⟨(some 11), none, .load false 1 (.tmp 10)⟩, ⟨(some 12), none, .bin .add (.tmp 9) (.tmp 11)⟩, ⟨(some 13), none, .call 78 [.tmp 12, .const (.int .i64 2)]⟩, ⟨(some 2), none, .eff .set [.tmp 13]⟩, ⟨(some 3), none, .eff .set [.const (.int .i64 0)]⟩])
 .ret)))⟩
theorem x148_ok : yfunc Tryd.prog Tryd.f148 = some x148 := by kernel_rfl

/-- switchyard/prio.PackPort -/
def x149 : YF := ⟨15, [.tmp 2, .tmp 3],
 (.seq (.ops [⟨(some 1), none, .box 63 (.tmp 0)⟩, ⟨(some 2), none, .eff .set [.const (.string ⟨#[]⟩)]⟩, ⟨(some 3), none, .eff .set [.const (.nilIface)]⟩])
 (.seq (.seq (.ops [⟨(some 4), none, .load true 2 (.tmp 1)⟩, ⟨(some 5), none, .call 155 [.tmp 4]⟩, ⟨(some 6), none, .un .not (.tmp 5)⟩])
 (.cond (.tmp 6) (.seq (.ops [⟨(some 7), none, .mkI 31 (.const (.int .i64 1))⟩, ⟨(some 2), none, .eff .set [.const (.string ⟨#[]⟩)]⟩, ⟨(some 3), none, .eff .set [.tmp 7]⟩])
 .ret) .skip))
 (.seq (.ops [⟨(some 8), none, .fieldA 0 (.tmp 1)⟩, ⟨(some 9), none, .load false 1 (.tmp 8)⟩, ⟨(some 10), none, .bin .shl (.tmp 9) (.const (.int .u64 8))⟩, ⟨(some 11), none, .fieldA 1 (.tmp 1)⟩, ⟨(some 12), none, .load false 1 (.tmp 11)⟩, ⟨(some 13), none, .bin .or (.tmp 10) (.tmp 12)⟩, ⟨(some 14), none, .call 49 [.tmp 13, .const (.int .i64 2)]⟩, ⟨(some 2), none, .eff .set [.tmp 14]⟩, ⟨(some 3), none, .eff .set [.const (.nilIface)]⟩])
 .ret)))⟩
theorem x149_ok : yfunc Tryd.prog Tryd.f149 = some x149 := by kernel_rfl
end Go.Proofs.YtmeoalpmicndbaaDoor
