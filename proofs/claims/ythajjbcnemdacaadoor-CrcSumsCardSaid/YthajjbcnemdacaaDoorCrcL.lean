/- The sum of a text, bit by bit: a register that is shifted, and a long division, are one. Conditions: none. -/
import Derived.Test.YthajjbcnemdacaaDoorBaseD
namespace Go.Sx

/-- The polynomial, as a register holds it. -/
def crcP : BitVec 32 := 0xedb88320#32
/-- One shift. -/
def crcSh (c : BitVec 32) : BitVec 32 := (c >>> 1) ^^^ (if c.getLsbD 0 then crcP else 0#32)
def b32 (b : Bool) : BitVec 32 := if b then 1#32 else 0#32
/-- One bit more. -/
def crcBit (c : BitVec 32) (b : Bool) : BitVec 32 := crcSh (c ^^^ b32 b)
theorem crcSh_bit (c b : BitVec 32) : crcSh (c ^^^ b) = crcBit c (b.getLsbD 0) ^^^ (b >>> 1) := by
  simp only [crcBit, crcSh, b32]
  apply BitVec.eq_of_getLsbD_eq
  intro i hi
  simp only [BitVec.getLsbD_xor, BitVec.getLsbD_ushiftRight]
  have e0 : ∀ x : Bool, (if x = true then 1#32 else 0#32).getLsbD (1 + i) = false := fun x => by
    cases x
    · simp
    · simp [BitVec.getLsbD_one]
  have e1 : ∀ x : Bool, (if x = true then 1#32 else 0#32).getLsbD 0 = x := fun x => by cases x <;> decide
  rw [e0, e1]
  cases c.getLsbD (1 + i) <;> cases b.getLsbD (1 + i) <;> simp
def crcShN : Nat → BitVec 32 → BitVec 32
  | 0, c => c
  | n + 1, c => crcShN n (crcSh c)
theorem crcShN_snoc : ∀ (n : Nat) (c : BitVec 32), crcShN (n + 1) c = crcSh (crcShN n c)
  | 0, _ => rfl
  | n + 1, c => crcShN_snoc n (crcSh c)
def bitsFrom (b : BitVec 32) : Nat → List Bool
  | 0 => []
  | n + 1 => b.getLsbD 0 :: bitsFrom (b >>> 1) n
theorem crcShN_bits : ∀ (n : Nat) (c b : BitVec 32), crcShN n (c ^^^ b) = (bitsFrom b n).foldl crcBit c ^^^ (b >>> n)
  | 0, c, b => by simp [crcShN, bitsFrom]
  | n + 1, c, b => by
    rw [crcShN, crcSh_bit, crcShN_bits n, bitsFrom, List.foldl_cons]
    congr 1
    apply BitVec.eq_of_getLsbD_eq
    intro i hi
    simp [BitVec.getLsbD_ushiftRight]
    congr 1; omega
/-- A byte's bits, the least first. -/
def byteBits (b : UInt8) : List Bool := (List.range 8).map fun i => b.toNat.testBit i
theorem bits_byte (b : UInt8) : bitsFrom (BitVec.ofNat 32 b.toNat) 8 = byteBits b := by
  have h : ∀ n : Nat, n < 256 → bitsFrom (BitVec.ofNat 32 n) 8 = (List.range 8).map fun i => n.testBit i := by decide +kernel
  exact h b.toNat b.toNat_lt
theorem byte_sh (b : UInt8) : (BitVec.ofNat 32 b.toNat) >>> 8 = 0#32 := by
  have h : ∀ n : Nat, n < 256 → (BitVec.ofNat 32 n) >>> 8 = 0#32 := by decide +kernel
  exact h b.toNat b.toNat_lt
/-- One byte more. -/
def crcByte (c : BitVec 32) (b : UInt8) : BitVec 32 := crcShN 8 (c ^^^ BitVec.ofNat 32 b.toNat)
theorem crcByte_bits (c : BitVec 32) (b : UInt8) : crcByte c b = (byteBits b).foldl crcBit c := by
  rw [crcByte, crcShN_bits, bits_byte, byte_sh]; simp
def crcR (l : List UInt8) : BitVec 32 := l.foldl crcByte 0xffffffff#32
theorem crcR_snoc (l : List UInt8) (b : UInt8) : crcR (l ++ [b]) = crcByte (crcR l) b := by simp [crcR]
def textBits (l : List UInt8) : List Bool := l.flatMap byteBits
theorem crcR_bits (l : List UInt8) : crcR l = (textBits l).foldl crcBit 0xffffffff#32 := by
  have key : ∀ (l : List UInt8) (c : BitVec 32), l.foldl crcByte c = (textBits l).foldl crcBit c := by
    intro l
    induction l with
    | nil => intro c; rfl
    | cons b l ih =>
      intro c
      rw [List.foldl_cons, ih, crcByte_bits, textBits, textBits, List.flatMap_cons, List.foldl_append]
  exact key l _

/-! ### The long division -/
/-- The message's bits, noughts behind them. -/
def msg (m : List Bool) (q : Nat) : Bool := m.getD q false
/-- The register before the i-th bit. -/
def regs (m : List Bool) (i : Nat) : BitVec 32 := (m.take i).foldl crcBit 0xffffffff#32
theorem regs_next {m : List Bool} {i : Nat} (h : i < m.length) : regs m (i + 1) = crcBit (regs m i) (msg m i) := by
  have e : m.take (i + 1) = m.take i ++ [m[i]] := by rw [List.take_add_one, List.getElem?_eq_getElem h]; rfl
  rw [regs, e, List.foldl_append, msg, List.getD_eq_getElem?_getD, List.getElem?_eq_getElem h]
  rfl
/-- What stands at each place when i bits have been divided. -/
def divB (m : List Bool) (i q : Nat) : Bool := if q < i then false else if q < i + 32 then (regs m i).getLsbD (q - i) ^^ msg m q else msg m q
theorem divB_zero (m : List Bool) (q : Nat) : divB m 0 q = if q < 32 then !msg m q else msg m q := by
  rw [divB, if_neg (by omega)]
  by_cases h : q < 32
  · rw [if_pos (by omega), if_pos h]
    have : (regs m 0).getLsbD (q - 0) = true := by
      have h2 : ∀ j : Nat, j < 32 → (regs [] 0).getLsbD j = true := by decide +kernel
      have e : regs m 0 = regs [] 0 := by simp [regs]
      rw [e]; exact h2 _ (by omega)
    rw [this]; simp
  · rw [if_neg (by omega), if_neg h]
/-- The divisor. -/
def polyB (k : Nat) : Bool := if k = 0 then true else crcP.getLsbD (k - 1)
/-- The bit that is divided by. -/
theorem div_head (m : List Bool) (i : Nat) : divB m i i = ((regs m i).getLsbD 0 ^^ msg m i) := by
  rw [divB, if_neg (by omega), if_pos (by omega), Nat.sub_self]
theorem crcBit_get (c : BitVec 32) (b : Bool) (j : Nat) : (crcBit c b).getLsbD j = (c.getLsbD (j + 1) ^^ ((c.getLsbD 0 ^^ b) && crcP.getLsbD j)) := by
  simp only [crcBit, crcSh, b32, BitVec.getLsbD_xor, BitVec.getLsbD_ushiftRight]
  have e0 : ∀ x : Bool, (if x = true then 1#32 else 0#32).getLsbD (1 + j) = false := fun x => by
    cases x
    · simp
    · simp [BitVec.getLsbD_one]
  have e1 : ∀ x : Bool, (if x = true then 1#32 else 0#32).getLsbD 0 = x := fun x => by cases x <;> decide
  rw [e0, e1, Nat.add_comm 1 j]
  cases (c.getLsbD 0 ^^ b) <;> simp
/-- One step of the division. -/
theorem div_next {m : List Bool} {i : Nat} (h : i < m.length) (q : Nat) : divB m (i + 1) q = (divB m i q ^^ (divB m i i && (decide (i ≤ q ∧ q ≤ i + 32) && polyB (q - i)))) := by
  rw [div_head]
  by_cases h1 : q < i
  · rw [divB, divB, if_pos (by omega), if_pos h1, decide_eq_false (by omega)]; simp
  by_cases h2 : q = i
  · subst h2
    rw [divB, if_pos (by omega), div_head, decide_eq_true (by omega), polyB, if_pos (by omega)]; simp
  by_cases h3 : q < i + 32
  · obtain ⟨j, rfl⟩ : ∃ j, q = i + 1 + j := ⟨q - i - 1, by omega⟩
    rw [divB, if_neg (by omega), if_pos (by omega), divB, if_neg h1, if_pos h3, decide_eq_true (by omega), polyB, if_neg (by omega), regs_next h, show i + 1 + j - (i + 1) = j by omega, crcBit_get, show i + 1 + j - i = j + 1 by omega, show j + 1 - 1 = j by omega]
    cases (regs m i).getLsbD (j + 1) <;> cases msg m (i + 1 + j) <;> cases ((regs m i).getLsbD 0 ^^ msg m i) <;> cases crcP.getLsbD j <;> rfl
  by_cases h4 : q = i + 32
  · subst h4
    rw [divB, if_neg (by omega), if_pos (by omega), divB, if_neg h1, if_neg h3, decide_eq_true (by omega), polyB, if_neg (by omega), regs_next h, show i + 32 - (i + 1) = 31 by omega, crcBit_get, show i + 32 - i - 1 = 31 by omega]
    have : (regs m i).getLsbD (31 + 1) = false := BitVec.getLsbD_of_ge _ _ (by omega)
    rw [this]
    cases msg m (i + 32) <;> cases ((regs m i).getLsbD 0 ^^ msg m i) <;> cases crcP.getLsbD 31 <;> rfl
  · rw [divB, if_neg (by omega), if_neg (by omega), divB, if_neg h1, if_neg (by omega), decide_eq_false (by omega)]; simp
/-- The rest. -/
theorem div_end (m : List Bool) (j : Nat) (hj : j < 32) : divB m m.length (m.length + j) = (m.foldl crcBit 0xffffffff#32).getLsbD j := by
  have e : msg m (m.length + j) = false := by rw [msg, List.getD_eq_getElem?_getD, List.getElem?_eq_none (by omega)]; rfl
  rw [divB, if_neg (by omega), if_pos (by omega), e, show m.length + j - m.length = j by omega, regs, List.take_length]; simp
end Go.Sx
