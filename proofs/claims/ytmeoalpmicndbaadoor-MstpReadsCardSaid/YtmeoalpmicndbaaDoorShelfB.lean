/- Contracts of the library at this program, laid by the kit (lay-shelf, lay-plain). Conditions: those that stand at each. -/
import Derived.Shelf.Strings.Trim
import Derived.Test.YtmeoalpmicndbaaDoorProg
namespace Go.Proofs.YtmeoalpmicndbaaDoor
open Go.Shelf
def sh_lays162_ren : Go.Shelf.Ren := ⟨fun | 162 => 119 | 232 => 164 | 227 => 165 | 234 => 166 | 236 => 167 | 228 => 176 | 271 => 177 | 151 => 178 | 120 => 184 | 197 => 185 | 152 => 186 | 260 => 190 | 137 => 191 | 119 => 192 | 224 => 193 | 225 => 194 | 217 => 195 | 266 => 196 | n => n, fun | 9 => 9 | 4 => 4 | 3 => 3 | 5 => 5 | 117 => 271 | 116 => 270 | 0 => 0 | 124 => 274 | 21 => 21 | 105 => 286 | 46 => 203 | 119 => 317 | 139 => 320 | 138 => 319 | n => n, fun | 3 => 2 | 4 => 3 | n => n⟩
theorem sh_lays162 : Go.Proofs.Lays.n162 Tryd.prog sh_lays162_ren := {
  mixed := by kernel_rfl
  f119 := Tryd.func192.trans (congrArg some (by kernel_rfl))
  f120 := Tryd.func184.trans (congrArg some (by kernel_rfl))
  f137 := Tryd.func191.trans (congrArg some (by kernel_rfl))
  f151 := Tryd.func178.trans (congrArg some (by kernel_rfl))
  f152 := Tryd.func186.trans (congrArg some (by kernel_rfl))
  f162 := Tryd.func119.trans (congrArg some (by kernel_rfl))
  f197 := Tryd.func185.trans (congrArg some (by kernel_rfl))
  f217 := Tryd.func195.trans (congrArg some (by kernel_rfl))
  f224 := Tryd.func193.trans (congrArg some (by kernel_rfl))
  f225 := Tryd.func194.trans (congrArg some (by kernel_rfl))
  f227 := Tryd.func165.trans (congrArg some (by kernel_rfl))
  f228 := Tryd.func176.trans (congrArg some (by kernel_rfl))
  f232 := Tryd.func164.trans (congrArg some (by kernel_rfl))
  f234 := Tryd.func166.trans (congrArg some (by kernel_rfl))
  f236 := Tryd.func167.trans (congrArg some (by kernel_rfl))
  f260 := Tryd.func190.trans (congrArg some (by kernel_rfl))
  f266 := Tryd.func196.trans (congrArg some (by kernel_rfl))
  f271 := Tryd.func177.trans (congrArg some (by kernel_rfl))
  t0 := Tryd.underlying0
  a0 := Tryd.isAgg0
  z0 := Tryd.sizeOf0
  v0 := Tryd.zeroValue0
  t3 := Tryd.underlying3
  a3 := Tryd.isAgg3
  z3 := Tryd.sizeOf3
  v3 := Tryd.zeroValue3
  t4 := Tryd.underlying4
  a4 := Tryd.isAgg4
  z4 := Tryd.sizeOf4
  v4 := Tryd.zeroValue4
  t5 := Tryd.underlying5
  a5 := Tryd.isAgg5
  z5 := Tryd.sizeOf5
  v5 := Tryd.zeroValue5
  t9 := Tryd.underlying9
  a9 := Tryd.isAgg9
  z9 := Tryd.sizeOf9
  v9 := Tryd.zeroValue9
  t21 := Tryd.underlying21
  a21 := Tryd.isAgg21
  z21 := Tryd.sizeOf21
  v21 := Tryd.zeroValue21
  t46 := Tryd.underlying203
  a46 := Tryd.isAgg203
  z46 := Tryd.sizeOf203
  v46 := Tryd.zeroValue203
  t105 := Tryd.underlying286
  a105 := Tryd.isAgg286
  z105 := Tryd.sizeOf286
  v105 := Tryd.zeroValue286
  t116 := Tryd.underlying270
  a116 := Tryd.isAgg270
  z116 := Tryd.sizeOf270
  t117 := Tryd.underlying271
  a117 := Tryd.isAgg271
  z117 := Tryd.sizeOf271
  v117 := Tryd.zeroValue271
  t119 := Tryd.underlying317
  a119 := Tryd.isAgg317
  z119 := Tryd.sizeOf317
  t124 := Tryd.underlying274
  a124 := Tryd.isAgg274
  z124 := Tryd.sizeOf274
  v124 := Tryd.zeroValue274
  t138 := Tryd.underlying319
  a138 := Tryd.isAgg319
  z138 := Tryd.sizeOf319
  v138 := Tryd.zeroValue319
  t139 := Tryd.underlying320
  a139 := Tryd.isAgg320
  z139 := Tryd.sizeOf320
  v139 := Tryd.zeroValue320
  g3 := by kernel_rfl
  g4 := by kernel_rfl }
open Go.RowKit in
theorem sh_strings_TrimRight_one (s : ByteArray) (c : UInt8) (hc : c.toNat < 128) (w : World) (hs : s.size ≤ 9223372036854775807) :
    Calls Tryd.prog 119 #[.string s, .string ⟨#[c]⟩] w fun e w' => e = .returned (.string ⟨(Lib.trimRightB s.data.toList c).toArray⟩) ∧ w' = w := Any.strings_TrimRight_one sh_lays162 s c hc w hs
end Go.Proofs.YtmeoalpmicndbaaDoor
