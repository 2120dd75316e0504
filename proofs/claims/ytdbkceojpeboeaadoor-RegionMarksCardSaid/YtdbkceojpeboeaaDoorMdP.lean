/- MD5 in plain Lean: what is put behind a text, its blocks, its mark. Conditions: none. -/
import Derived.Test.YtdbkceojpeboeaaDoorMdL
namespace Go.Proofs.YtdbkceojpeboeaaDoor
open Go.Sx
set_option maxRecDepth 100000

def ofL (l : List UInt8) : ByteArray := ⟨l.toArray⟩
theorem ofL_app (a b : List UInt8) : ofL a ++ ofL b = ofL (a ++ b) := by
  apply ByteArray.ext
  rw [ByteArray.data_append]
  simp [ofL]
theorem ofL_self (s : ByteArray) : ofL s.data.toList = s := by
  apply ByteArray.ext
  simp [ofL]
theorem ofL_size (l : List UInt8) : (ofL l).size = l.length := by simp [ofL, ByteArray.size]
theorem ofL_list (l : List UInt8) : (ofL l).data.toList = l := rfl
theorem ofL_take (l : List UInt8) (n : Nat) : (ofL l).extract 0 n = ofL (l.take n) := by
  apply ByteArray.ext
  rw [ByteArray.data_extract]
  simp [ofL]
theorem ofL_drop (l : List UInt8) (n m : Nat) (hm : m = l.length) : (ofL l).extract n m = ofL (l.drop n) := by
  subst hm
  apply ByteArray.ext
  rw [ByteArray.data_extract]
  simp [ofL]
  rw [List.take_of_length_le (by rw [List.length_drop]; omega)]
def mdZ (n : Nat) : Nat := (120 - (n + 1) % 64) % 64
def leB (n k : Nat) : UInt8 := UInt8.ofNat (n / 256 ^ k)
def mdHead (l : List UInt8) : List UInt8 := l ++ [128] ++ List.replicate (mdZ l.length) 0
def mdLen (l : List UInt8) (k : Nat) : List UInt8 := (List.range k).map (leB (8 * l.length))
def mdPad (l : List UInt8) : List UInt8 := mdHead l ++ mdLen l 8
def mdBlks (n : Nat) : Nat := (n + 9 + mdZ n) / 64
theorem mdLen_next (l : List UInt8) (k : Nat) : mdLen l (k + 1) = mdLen l k ++ [leB (8 * l.length) k] := by
  rw [mdLen, List.range_succ, List.map_append]; rfl
theorem mdLen_len (l : List UInt8) (k : Nat) : (mdLen l k).length = k := by simp [mdLen]
theorem mdHead_len (l : List UInt8) : (mdHead l).length = l.length + 1 + mdZ l.length := by simp [mdHead]; omega
theorem mdPad_len (l : List UInt8) : (mdPad l).length = 64 * mdBlks l.length := by
  rw [mdPad, List.length_append, mdHead_len, mdLen_len, mdBlks, mdZ]
  omega
theorem mdZ_lt (n : Nat) : mdZ n < 64 := by unfold mdZ; omega
def mdH0 : Md := ⟨0x67452301, 0xefcdab89, 0x98badcfe, 0x10325476⟩
def mdRun (P : List UInt8) : Nat → Md
  | 0 => mdH0
  | j + 1 => mdBlock (mdRun P j) (mdW ((P.drop (64 * j)).take 64))
def mdWord (h : Md) : Nat → BitVec 32
  | 0 => h.a
  | 1 => h.b
  | 2 => h.c
  | _ => h.d
def mdOutB (h : Md) (i : Nat) : UInt8 := UInt8.ofNat ((mdWord h (i / 4)).toNat / 256 ^ (i % 4))
def mdOut (h : Md) (n : Nat) : List UInt8 := (List.range n).map (mdOutB h)
def mdSum (s : ByteArray) : ByteArray := ofL (mdOut (mdRun (mdPad s.data.toList) (mdBlks s.size)) 16)
theorem mdSum_size (s : ByteArray) : (mdSum s).size = 16 := by rw [mdSum, ofL_size]; simp [mdOut]
/-- Cells in a row. -/
def vF (M : Nat) (F : Nat → Value) : List Value := (List.range M).map F
theorem vF_len (M : Nat) (F : Nat → Value) : (vF M F).length = M := by simp [vF]
theorem vF_get {M : Nat} {F : Nat → Value} {q : Nat} (h : q < M) : (vF M F)[q]? = some (F q) := by
  rw [vF, List.getElem?_map, List.getElem?_range h]; rfl
theorem vF_set {M : Nat} {F F' : Nat → Value} {p : Nat} (h : p < M) (hne : ∀ q, q ≠ p → F' q = F q) {v : Value} (hv : v = F' p) : (vF M F).take p ++ ([v] ++ (vF M F).drop (p + 1)) = vF M F' := by
  apply List.ext_getElem?
  intro i
  have hl : ((vF M F).take p).length = p := by rw [List.length_take, vF_len]; omega
  rcases Nat.lt_trichotomy i p with h1 | h1 | h1
  · rw [List.getElem?_append_left (by omega), List.getElem?_take_of_lt h1, vF_get (by omega), vF_get (by omega), hne i (by omega)]
  · subst h1
    rw [List.getElem?_append_right (by omega), hl, Nat.sub_self, vF_get h, hv]; rfl
  · rw [List.getElem?_append_right (by omega), hl, List.getElem?_append_right (by simp; omega), List.length_singleton, List.getElem?_drop, show p + 1 + (i - p - 1) = i by omega]
    by_cases h2 : i < M
    · rw [vF_get h2, vF_get h2, hne i (by omega)]
    · rw [List.getElem?_eq_none (by rw [vF_len]; omega), List.getElem?_eq_none (by rw [vF_len]; omega)]
/-- Hmac. -/
def hKey (key : ByteArray) : List UInt8 := if key.size > 64 then (mdSum key).data.toList else key.data.toList
def hPad (l : List UInt8) (x : UInt8) : List UInt8 := (List.range 64).map fun i => (l.getD i 0) ^^^ x
def mdHmac (key s : ByteArray) : ByteArray := mdSum (ofL (hPad (hKey key) 0x5c) ++ mdSum (ofL (hPad (hKey key) 0x36) ++ s))
end Go.Proofs.YtdbkceojpeboeaaDoor
