/- ref.Crc: what it returns. Conditions: none. -/
import Derived.Test.YthajjbcnemdacaaDoorCrcA
namespace Go.Proofs.YthajjbcnemdacaaDoor
open Go.Sx Go.Lib
set_option maxRecDepth 100000
set_option maxHeartbeats 8000000
attribute [local irreducible] Meets
attribute [local instance] Classical.propDecidable

def b2i : Bool → Int | true => 1 | false => 0
def vB (l : List Bool) : List Value := l.map fun b => Value.int .i64 (b2i b)
theorem vB_len (l : List Bool) : (vB l).length = l.length := by simp [vB]
/-- Cells by their place. -/
def cellF (M : Nat) (F : Nat → Bool) : List Value := (List.range M).map fun q => Value.int .i64 (b2i (F q))
theorem cellF_len (M : Nat) (F : Nat → Bool) : (cellF M F).length = M := by simp [cellF]
theorem cellF_get {M : Nat} {F : Nat → Bool} {q : Nat} (h : q < M) (sp : List Value) : (cellF M F ++ sp)[q]? = some (.int .i64 (b2i (F q))) := by
  rw [List.getElem?_append_left (by rw [cellF_len]; exact h), cellF, List.getElem?_map, List.getElem?_range h]; rfl
theorem cellF_set {M : Nat} {F F' : Nat → Bool} {p : Nat} (h : p < M) (hne : ∀ q, q ≠ p → F' q = F q) (sp : List Value) {v : Value} (hv : v = .int .i64 (b2i (F' p))) : (cellF M F ++ sp).take p ++ ([v] ++ (cellF M F ++ sp).drop (p + 1)) = cellF M F' ++ sp := by
  apply List.ext_getElem?
  intro i
  have hl : ((cellF M F ++ sp).take p).length = p := by rw [List.length_take, List.length_append, cellF_len]; omega
  rcases Nat.lt_trichotomy i p with h1 | h1 | h1
  · rw [List.getElem?_append_left (by omega), List.getElem?_take_of_lt h1, cellF_get (by omega), cellF_get (by omega), hne i (by omega)]
  · subst h1
    rw [List.getElem?_append_right (by omega), hl, Nat.sub_self, cellF_get h, hv]; rfl
  · rw [List.getElem?_append_right (by omega), hl, List.getElem?_append_right (by simp; omega), List.length_singleton, List.getElem?_drop, show p + 1 + (i - p - 1) = i by omega]
    by_cases h2 : i < M
    · rw [cellF_get h2, cellF_get h2, hne i (by omega)]
    · rw [List.getElem?_append_right (by rw [cellF_len]; omega), List.getElem?_append_right (by rw [cellF_len]; omega), cellF_len, cellF_len]
theorem vB_zeros (m : List Bool) (n : Nat) : vB m ++ List.replicate n (.int .i64 0) = cellF (m.length + n) (msg m) := by
  apply List.ext_getElem?
  intro i
  by_cases h : i < m.length
  · rw [List.getElem?_append_left (by rw [vB_len]; exact h), ← List.append_nil (cellF _ _), cellF_get (by omega), vB, List.getElem?_map, List.getElem?_eq_getElem h, msg, List.getD_eq_getElem?_getD, List.getElem?_eq_getElem h]; rfl
  · rw [List.getElem?_append_right (by rw [vB_len]; omega), vB_len]
    by_cases h2 : i < m.length + n
    · rw [← List.append_nil (cellF _ _), cellF_get h2, List.getElem?_replicate, if_pos (by omega), msg, List.getD_eq_getElem?_getD, List.getElem?_eq_none (by omega)]; rfl
    · rw [List.getElem?_replicate, if_neg (by omega), List.getElem?_eq_none (by rw [cellF_len]; omega)]
theorem bitI (b : UInt8) {i : Nat} (hi : i < 8) : IntKind.i64.wrap (IntKind.u8.wrap ((BitVec.ofInt IntKind.u8.bits ((b.toNat : Int).fdiv (2 ^ (min (i : Int).toNat IntKind.u8.bits))) &&& BitVec.ofInt IntKind.u8.bits 1).toNat : Int)) = b2i (b.toNat.testBit i) := by
  have h : ∀ n : Nat, n < 256 → ∀ i : Nat, i < 8 → IntKind.i64.wrap (IntKind.u8.wrap ((BitVec.ofInt IntKind.u8.bits ((n : Int).fdiv (2 ^ (min (i : Int).toNat IntKind.u8.bits))) &&& BitVec.ofInt IntKind.u8.bits 1).toNat : Int)) = b2i (n.testBit i) := by decide +kernel
  exact h b.toNat b.toNat_lt i hi
theorem byteBits_len (b : UInt8) : (byteBits b).length = 8 := by simp [byteBits]
theorem byteBits_take (b : UInt8) {i : Nat} (hi : i < 8) : (byteBits b).take (i + 1) = (byteBits b).take i ++ [b.toNat.testBit i] := by
  have : (byteBits b)[i]? = some (b.toNat.testBit i) := by rw [byteBits, List.getElem?_map, List.getElem?_range hi]; rfl
  exact take_snoc this
theorem textBits_len : ∀ l : List UInt8, (textBits l).length = 8 * l.length
  | [] => rfl
  | b :: l => by rw [textBits, List.flatMap_cons, List.length_append, byteBits_len, ← textBits, textBits_len l, List.length_cons]; omega
theorem textBits_snoc (l : List UInt8) (b : UInt8) : textBits (l ++ [b]) = textBits l ++ byteBits b := by simp [textBits]
def flipF (m : List Bool) (i q : Nat) : Bool := if q < i then !msg m q else msg m q
theorem flip_i (b : Bool) : IntKind.i64.wrap (1 - b2i b) = b2i (!b) := by cases b <;> decide
def partF (m : List Bool) (i k q : Nat) : Bool := divB m i q ^^ (decide (i ≤ q ∧ q < i + k) && polyB (q - i))
theorem xorI (a b : Bool) : IntKind.i64.wrap ((BitVec.ofInt IntKind.i64.bits (b2i a) ^^^ BitVec.ofInt IntKind.i64.bits (b2i b)).toNat : Int) = b2i (a ^^ b) := by cases a <;> cases b <;> decide
def polyS : ByteArray := ⟨#[49, 48, 48, 48, 48, 48, 49, 48, 48, 49, 49, 48, 48, 48, 48, 48, 49, 48, 48, 48, 49, 49, 49, 48, 49, 49, 48, 49, 49, 48, 49, 49, 49]⟩
theorem poly_i : ∀ k : Nat, k < 33 → IntKind.i64.wrap (IntKind.u8.wrap (((polyS.data.toList.getD k 0).toNat : Int) - 48)) = b2i (polyB k) := by decide +kernel
theorem poly_a : ∀ k : Nat, k < 33 → (polyS.data.toList.getD k 0).toNat < 128 := by decide +kernel
theorem poly_sz : polyS.size = 33 := rfl
theorem poly_get {k : Nat} (h : k < polyS.size) : (polyS[k]'h).toNat < 128 := by
  have := poly_a k h
  rw [List.getD_eq_getElem?_getD, List.getElem?_eq_getElem (by rw [Array.length_toList]; exact h)] at this
  exact this
theorem part_zero (m : List Bool) (i q : Nat) : partF m i 0 q = divB m i q := by
  rw [partF, decide_eq_false (by omega)]; simp
theorem part_next (m : List Bool) (i k : Nat) : partF m i (k + 1) (i + k) = (partF m i k (i + k) ^^ polyB k) := by
  rw [partF, partF, decide_eq_true (by omega), decide_eq_false (by omega), show i + k - i = k by omega]; simp
theorem part_same (m : List Bool) (i k q : Nat) (h : q ≠ i + k) : partF m i (k + 1) q = partF m i k q := by
  rw [partF, partF]
  congr 2
  rw [decide_eq_decide]
  omega
theorem part_end {m : List Bool} {i : Nat} (h : i < m.length) (hb : divB m i i = true) (q : Nat) : partF m i 33 q = divB m (i + 1) q := by
  rw [div_next h, hb, partF]
  have : decide (i ≤ q ∧ q < i + 33) = decide (i ≤ q ∧ q ≤ i + 32) := by rw [decide_eq_decide]; omega
  rw [this]; simp
/-- The bits that are 0, as a number. -/
def orB (f : Nat → Bool) : Nat → BitVec 32
  | 0 => 0#32
  | i + 1 => if f i then orB f i ||| (1#32 <<< i) else orB f i
theorem orB_get (f : Nat → Bool) : ∀ (i j : Nat), i ≤ 32 → (orB f i).getLsbD j = (decide (j < i) && f j)
  | 0, j, _ => by simp [orB]
  | i + 1, j, h => by
    have ih := orB_get f i j (by omega)
    rw [orB]
    split
    · rename_i hf
      rw [BitVec.getLsbD_or, ih]
      have e : (1#32 <<< i).getLsbD j = decide (j = i) := by
        rw [BitVec.getLsbD_shiftLeft, BitVec.getLsbD_one]
        by_cases hji : j = i
        · subst hji; simp; omega
        · simp [hji]
          omega
      rw [e]
      by_cases hji : j = i
      · subst hji; simp [hf]
      · have : decide (j < i + 1) = decide (j < i) := by rw [decide_eq_decide]; omega
        simp [hji, this]
    · rename_i hf
      rw [ih]
      by_cases hji : j = i
      · subst hji; simp [hf]
      · have : decide (j < i + 1) = decide (j < i) := by rw [decide_eq_decide]; omega
        rw [this]
theorem shl32 {i : Nat} (hi : i < 32) : IntKind.u32.wrap ((1 : Int) * 2 ^ (min (i : Int).toNat IntKind.u32.bits)) = u32I (1#32 <<< i) := by
  have h : ∀ i : Nat, i < 32 → IntKind.u32.wrap ((1 : Int) * 2 ^ (min (i : Int).toNat IntKind.u32.bits)) = u32I (1#32 <<< i) := by decide +kernel
  exact h i hi
end Go.Proofs.YthajjbcnemdacaaDoor
