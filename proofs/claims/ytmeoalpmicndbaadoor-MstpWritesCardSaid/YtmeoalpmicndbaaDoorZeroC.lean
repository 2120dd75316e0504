/- Rows of noughts. Conditions: none. -/
import Derived.Test.YtmeoalpmicndbaaDoorShelfR
import Derived.Test.YtmeoalpmicndbaaDoorWireC
import Derived.Test.YtmeoalpmicndbaaDoorTagRC
import Derived.Test.YtmeoalpmicndbaaDoorBaseD
namespace Go.Proofs.YtmeoalpmicndbaaDoor
open Go.Sx Go.Lib Go.RowKit
set_option maxRecDepth 100000
set_option maxHeartbeats 8000000
attribute [local irreducible] Meets

theorem sz1 (a : UInt8) : (⟨#[a]⟩ : ByteArray).size = 1 := rfl
theorem sz2 (a b : UInt8) : (⟨#[a, b]⟩ : ByteArray).size = 2 := rfl
theorem sz3 (a b c : UInt8) : (⟨#[a, b, c]⟩ : ByteArray).size = 3 := rfl
theorem szA (a b c d e f : Int) : (bytesOfInts [a, b, c, d, e, f]).size = 6 := rfl
theorem rts {a b : ByteArray} {e : SV} (h : a = b) : Out.ret (.tup [.v (.string a), e]) = .ret (.tup [.v (.string b), e]) := by rw [h]
def zeroS (n : Nat) : ByteArray := ⟨(repeatL [0] n).toArray⟩
theorem zeroS_size (n : Nat) : (zeroS n).size = n := by
  show (repeatL [0] n).toArray.size = n
  rw [List.size_toArray, repeatL_length]; simp
theorem zeroS_next (n : Nat) : zeroS n ++ ⟨#[0]⟩ = zeroS (n + 1) := by
  apply ByteArray.ext
  apply Array.ext'
  rw [ByteArray.data_append, Array.toList_append]
  show repeatL [0] n ++ [0] = repeatL [0] (n + 1)
  rw [repeatL_add, repeatL_one]
theorem zeroS_nil (s : ByteArray) : s = s ++ zeroS 0 := by
  have : zeroS 0 = ByteArray.empty := by unfold zeroS; rfl
  rw [this]; simp
end Go.Proofs.YtmeoalpmicndbaaDoor
