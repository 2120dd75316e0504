/- Contracts of the library at this program, laid by the kit (lay-shelf, lay-plain). Conditions: those that stand at each. -/
import Derived.Shelf.Strings.Prefix
import Derived.Test.YtmeoalpmicndbaaDoorProg
namespace Go.Proofs.YtmeoalpmicndbaaDoor
open Go.Shelf
def sh_lays100_ren : Go.Shelf.Ren := ⟨fun | 100 => 105 | 207 => 157 | n => n, fun | 9 => 9 | 4 => 4 | 3 => 3 | n => n, fun | n => n⟩
theorem sh_lays100 : Go.Proofs.Lays.n100 Tryd.prog sh_lays100_ren := {
  mixed := by kernel_rfl
  f100 := Tryd.func105.trans (congrArg some (by kernel_rfl))
  f207 := Tryd.func157.trans (congrArg some (by kernel_rfl))
  t3 := Tryd.underlying3
  a3 := Tryd.isAgg3
  z3 := Tryd.sizeOf3
  v3 := Tryd.zeroValue3
  t4 := Tryd.underlying4
  a4 := Tryd.isAgg4
  z4 := Tryd.sizeOf4
  v4 := Tryd.zeroValue4
  t9 := Tryd.underlying9
  a9 := Tryd.isAgg9
  z9 := Tryd.sizeOf9
  v9 := Tryd.zeroValue9 }
open Go.RowKit Go.Lib in
theorem sh_strings_HasSuffix (s p : ByteArray) (w : World) (hs : s.size ≤ 9223372036854775807) :
    Calls Tryd.prog 105 #[.string s, .string p] w fun e w' => e = .returned (.bool (Lib.hasSuffix s.data.toList p.data.toList)) ∧ w' = w := Any.strings_HasSuffix sh_lays100 s p w hs
end Go.Proofs.YtmeoalpmicndbaaDoor
