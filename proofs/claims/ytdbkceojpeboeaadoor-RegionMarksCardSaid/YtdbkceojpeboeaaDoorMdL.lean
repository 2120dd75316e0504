/- MD5 in plain Lean: words of 32 bits as the model has them, the rounds in two ways. Conditions: none. -/
import Derived.Test.YtdbkceojpeboeaaDoorBaseD
namespace Go.Proofs.YtdbkceojpeboeaaDoor
open Go.Sx
set_option maxRecDepth 100000

theorem u32_of (x : BitVec 32) : BitVec.ofInt IntKind.u32.bits (x.toNat : Int) = x := by
  show BitVec.ofInt 32 (x.toNat : Int) = x
  rw [BitVec.ofInt_natCast, BitVec.ofNat_toNat, BitVec.setWidth_eq]
theorem wrap32 {n : Nat} (h : n < 4294967296) : IntKind.u32.wrap (n : Int) = n := by
  simp only [IntKind.wrap, IntKind.signed, IntKind.bits]
  simp
  omega
theorem wrapN (n : Nat) : IntKind.u32.wrap (n : Int) = ((BitVec.ofNat 32 n).toNat : Int) := by
  simp only [IntKind.wrap, IntKind.signed, IntKind.bits]
  simp [BitVec.toNat_ofNat]
theorem wrapX (x : BitVec 32) : IntKind.u32.wrap (x.toNat : Int) = x.toNat := wrap32 x.isLt
def u32I (x : BitVec 32) : Int := (x.toNat : Int)
theorem xor32 (x y : BitVec 32) : IntKind.u32.wrap ((BitVec.ofInt IntKind.u32.bits (u32I x) ^^^ BitVec.ofInt IntKind.u32.bits (u32I y)).toNat : Int) = u32I (x ^^^ y) := by
  unfold u32I
  rw [u32_of, u32_of]; exact wrapX _
theorem or32 (x y : BitVec 32) : IntKind.u32.wrap ((BitVec.ofInt IntKind.u32.bits (u32I x) ||| BitVec.ofInt IntKind.u32.bits (u32I y)).toNat : Int) = u32I (x ||| y) := by
  unfold u32I
  rw [u32_of, u32_of]; exact wrapX _
theorem and32 (x y : BitVec 32) : IntKind.u32.wrap ((BitVec.ofInt IntKind.u32.bits (u32I x) &&& BitVec.ofInt IntKind.u32.bits (u32I y)).toNat : Int) = u32I (x &&& y) := by
  unfold u32I
  rw [u32_of, u32_of]; exact wrapX _
theorem add32 (x y : BitVec 32) : IntKind.u32.wrap (u32I x + u32I y) = u32I (x + y) := by
  unfold u32I
  rw [← Int.natCast_add, wrapN, BitVec.toNat_ofNat, BitVec.toNat_add]
theorem not32 (x : BitVec 32) : IntKind.u32.wrap ((BitVec.ofInt IntKind.u32.bits (if IntKind.u32.signed then -1 else IntKind.u32.max) ^^^ BitVec.ofInt IntKind.u32.bits (u32I x)).toNat : Int) = u32I (~~~ x) := by
  have ex : BitVec.ofInt IntKind.u32.bits (u32I x) = x := u32_of x
  have e : BitVec.ofInt IntKind.u32.bits (if IntKind.u32.signed then -1 else IntKind.u32.max) = (0xffffffff#32 : BitVec 32) := rfl
  rw [ex, e]
  have h : (0xffffffff#32 : BitVec 32) ^^^ x = ~~~ x := by
    apply BitVec.eq_of_getLsbD_eq
    intro i hi
    have : (0xffffffff#32 : BitVec 32).getLsbD i = true := by
      have k : ∀ j : Nat, j < 32 → (0xffffffff#32 : BitVec 32).getLsbD j = true := by decide +kernel
      exact k i hi
    rw [BitVec.getLsbD_xor, this, BitVec.getLsbD_not]
    simp [hi]
  refine Eq.trans (congrArg (fun z : BitVec 32 => IntKind.u32.wrap (z.toNat : Int)) h) (wrapX _)
theorem xorFF (x : BitVec 32) : (0xffffffff#32 : BitVec 32) ^^^ x = ~~~ x := by
  apply BitVec.eq_of_getLsbD_eq
  intro i hi
  have : (0xffffffff#32 : BitVec 32).getLsbD i = true := by
    have k : ∀ j : Nat, j < 32 → (0xffffffff#32 : BitVec 32).getLsbD j = true := by decide +kernel
    exact k i hi
  rw [BitVec.getLsbD_xor, this, BitVec.getLsbD_not]
  simp [hi]
theorem shl32 (x : BitVec 32) (k : Nat) (hk : k ≤ 32) : IntKind.u32.wrap (u32I x * 2 ^ (min (k : Int).toNat IntKind.u32.bits)) = u32I (x <<< k) := by
  have e : min (k : Int).toNat IntKind.u32.bits = k := by
    rw [Int.toNat_natCast]; exact Nat.min_eq_left hk
  rw [e]
  unfold u32I
  rw [show ((x.toNat : Int) * 2 ^ k) = ((x.toNat * 2 ^ k : Nat) : Int) from by push_cast; rfl, wrapN, BitVec.toNat_ofNat, BitVec.toNat_shiftLeft, Nat.shiftLeft_eq]
theorem shr32 (x : BitVec 32) (k : Nat) (hk : k ≤ 32) : (u32I x).fdiv (2 ^ (min (k : Int).toNat IntKind.u32.bits)) = u32I (x >>> k) := by
  have e : min (k : Int).toNat IntKind.u32.bits = k := by
    rw [Int.toNat_natCast]; exact Nat.min_eq_left hk
  rw [e]
  unfold u32I
  rw [BitVec.toNat_ushiftRight, Nat.shiftRight_eq_div_pow, show ((2 : Int) ^ k) = ((2 ^ k : Nat) : Int) from by push_cast; rfl, Int.fdiv_eq_ediv_of_nonneg _ (Int.natCast_nonneg _)]
  rfl
theorem conv32 (b : UInt8) : IntKind.u32.wrap (b.toNat : Int) = u32I (BitVec.ofNat 32 b.toNat) := wrapN _

/-! ### The rounds -/
structure Md where
  a : BitVec 32
  b : BitVec 32
  c : BitVec 32
  d : BitVec 32
def mdF (i : Nat) (b c d : BitVec 32) : BitVec 32 := if i < 16 then (b &&& c) ||| (~~~ b &&& d) else if i < 32 then (d &&& b) ||| (~~~ d &&& c) else if i < 48 then b ^^^ c ^^^ d else c ^^^ (b ||| ~~~ d)
def mdG (i : Nat) : Nat := if i < 16 then i else if i < 32 then (5 * i + 1) % 16 else if i < 48 then (3 * i + 5) % 16 else 7 * i % 16
theorem mdG_lt {i : Nat} (h : i < 64) : mdG i < 16 := by
  unfold mdG
  split
  · assumption
  · split
    · omega
    · split <;> omega
def mdTab : List (BitVec 32) := [
  0xd76aa478, 0xe8c7b756, 0x242070db, 0xc1bdceee, 0xf57c0faf, 0x4787c62a, 0xa8304613, 0xfd469501,
  0x698098d8, 0x8b44f7af, 0xffff5bb1, 0x895cd7be, 0x6b901122, 0xfd987193, 0xa679438e, 0x49b40821,
  0xf61e2562, 0xc040b340, 0x265e5a51, 0xe9b6c7aa, 0xd62f105d, 0x02441453, 0xd8a1e681, 0xe7d3fbc8,
  0x21e1cde6, 0xc33707d6, 0xf4d50d87, 0x455a14ed, 0xa9e3e905, 0xfcefa3f8, 0x676f02d9, 0x8d2a4c8a,
  0xfffa3942, 0x8771f681, 0x6d9d6122, 0xfde5380c, 0xa4beea44, 0x4bdecfa9, 0xf6bb4b60, 0xbebfbc70,
  0x289b7ec6, 0xeaa127fa, 0xd4ef3085, 0x04881d05, 0xd9d4d039, 0xe6db99e5, 0x1fa27cf8, 0xc4ac5665,
  0xf4292244, 0x432aff97, 0xab9423a7, 0xfc93a039, 0x655b59c3, 0x8f0ccc92, 0xffeff47d, 0x85845dd1,
  0x6fa87e4f, 0xfe2ce6e0, 0xa3014314, 0x4e0811a1, 0xf7537e82, 0xbd3af235, 0x2ad7d2bb, 0xeb86d391]
def mdT (i : Nat) : BitVec 32 := mdTab.getD i 0
def mdTurn : List Nat := [7, 12, 17, 22, 5, 9, 14, 20, 4, 11, 16, 23, 6, 10, 15, 21]
def mdR (i : Nat) : Nat := mdTurn.getD (i / 16 * 4 + i % 4) 0
theorem mdR_lt (i : Nat) (h : i < 64) : 0 < mdR i ∧ mdR i < 32 := by
  have k : ∀ i : Nat, i < 64 → 0 < mdR i ∧ mdR i < 32 := by decide +kernel
  exact k i h
def rotl (x : BitVec 32) (k : Nat) : BitVec 32 := (x <<< k) ||| (x >>> (32 - k))
def mdStep (w : Nat → BitVec 32) (i : Nat) (s : Md) : Md := ⟨s.d, s.b + rotl (mdF i s.b s.c s.d + ((s.a + mdT i) + w (mdG i))) (mdR i), s.b, s.c⟩
def mdN (w : Nat → BitVec 32) : Nat → Md → Md
  | 0, s => s
  | n + 1, s => mdStep w n (mdN w n s)
def mdBlock (h : Md) (w : Nat → BitVec 32) : Md := ⟨h.a + (mdN w 64 h).a, h.b + (mdN w 64 h).b, h.c + (mdN w 64 h).c, h.d + (mdN w 64 h).d⟩
/-- The reference's ways of choosing. -/
theorem sel1 (b c d : BitVec 32) : d ^^^ (b &&& (c ^^^ d)) = (b &&& c) ||| (~~~ b &&& d) := by
  apply BitVec.eq_of_getLsbD_eq
  intro i hi
  simp only [BitVec.getLsbD_xor, BitVec.getLsbD_and, BitVec.getLsbD_or, BitVec.getLsbD_not, hi, decide_true, Bool.true_and]
  cases b.getLsbD i <;> cases c.getLsbD i <;> cases d.getLsbD i <;> rfl
theorem sel2 (b c d : BitVec 32) : c ^^^ (d &&& (b ^^^ c)) = (d &&& b) ||| (~~~ d &&& c) := sel1 d b c
theorem mdF_ref (i : Nat) (b c d : BitVec 32) : mdF i b c d = if i < 16 then d ^^^ (b &&& (c ^^^ d)) else if i < 32 then c ^^^ (d &&& (b ^^^ c)) else if i < 48 then b ^^^ c ^^^ d else c ^^^ (b ||| ((0xffffffff#32 : BitVec 32) ^^^ d)) := by
  rw [sel1, sel2, xorFF]; rfl
theorem sum_ref (a f w t : BitVec 32) : f + ((a + t) + w) = ((a + f) + w) + t := by
  apply BitVec.eq_of_toNat_eq
  simp only [BitVec.toNat_add]
  omega
/-! ### Words of bytes, the last first -/
def bAt (l : List UInt8) (i : Nat) : Nat := (l.getD i 0).toNat
def mdWN (l : List UInt8) (i : Nat) : Nat := bAt l (4 * i) + bAt l (4 * i + 1) * 256 + bAt l (4 * i + 2) * 65536 + bAt l (4 * i + 3) * 16777216
def mdW (l : List UInt8) (i : Nat) : BitVec 32 := BitVec.ofNat 32 (mdWN l i)
/-- A word of so many of its bytes. -/
def mdWk (l : List UInt8) (i : Nat) : Nat → BitVec 32
  | 0 => 0
  | k + 1 => mdWk l i k ||| (BitVec.ofNat 32 (bAt l (4 * i + k)) <<< (8 * k))
def sumK (l : List UInt8) (i : Nat) : Nat → Nat
  | 0 => 0
  | k + 1 => sumK l i k + bAt l (4 * i + k) * 2 ^ (8 * k)
theorem bAt_lt (l : List UInt8) (i : Nat) : bAt l i < 256 := (l.getD i 0).toNat_lt
theorem sumK_lt (l : List UInt8) (i : Nat) : ∀ k, sumK l i k < 2 ^ (8 * k)
  | 0 => by simp [sumK]
  | k + 1 => by
    have h1 := sumK_lt l i k
    have h2 := bAt_lt l (4 * i + k)
    have e : 2 ^ (8 * (k + 1)) = 256 * 2 ^ (8 * k) := by rw [Nat.mul_add, Nat.pow_add, Nat.mul_comm]
    rw [sumK, e]
    have h3 : bAt l (4 * i + k) * 2 ^ (8 * k) ≤ 255 * 2 ^ (8 * k) := Nat.mul_le_mul_right _ (by omega)
    omega
theorem mdWk_eq (l : List UInt8) (i : Nat) : ∀ k, k ≤ 4 → mdWk l i k = BitVec.ofNat 32 (sumK l i k)
  | 0, _ => rfl
  | k + 1, hk => by
    rw [mdWk, mdWk_eq l i k (by omega), sumK]
    apply BitVec.eq_of_toNat_eq
    have h1 := sumK_lt l i k
    have h2 := sumK_lt l i (k + 1)
    have hb := bAt_lt l (4 * i + k)
    have hp : 2 ^ (8 * (k + 1)) ≤ 2 ^ 32 := Nat.pow_le_pow_right (by decide) (by omega)
    have hp1 : 2 ^ (8 * k) ≤ 2 ^ 32 := Nat.pow_le_pow_right (by decide) (by omega)
    rw [sumK] at h2
    rw [BitVec.toNat_or, BitVec.toNat_shiftLeft, BitVec.toNat_ofNat, BitVec.toNat_ofNat, BitVec.toNat_ofNat, Nat.mod_eq_of_lt (by omega), Nat.mod_eq_of_lt (a := bAt l (4 * i + k)) (by omega), Nat.shiftLeft_eq, Nat.mod_eq_of_lt (by omega), Nat.mod_eq_of_lt (by omega)]
    have := Nat.shiftLeft_add_eq_or_of_lt h1 (bAt l (4 * i + k))
    rw [Nat.shiftLeft_eq] at this
    rw [Nat.or_comm, ← this]; omega
theorem mdWk_four (l : List UInt8) (i : Nat) : mdWk l i 4 = mdW l i := by
  rw [mdWk_eq l i 4 (Nat.le_refl _), mdW]
  congr 1
  simp only [sumK, mdWN, Nat.add_zero]
  omega
end Go.Proofs.YtdbkceojpeboeaaDoor
