/- A symbolic executor of my own, part 21: bits of numbers, in plain Lean. Conditions: none. -/
import Derived.Test.YtfagdcpfebghoaaDoorTy20
import Derived.IntWalk
namespace Go.Sx

theorem bv_nat (k : IntKind) (n : Nat) (h : n < 2 ^ k.bits) : (BitVec.ofInt k.bits (n : Int)).toNat = n := by
  rw [BitVec.ofInt_natCast, BitVec.toNat_ofNat, Nat.mod_eq_of_lt h]
theorem wrap64_nat {n : Nat} (h : n < 2 ^ 63) : IntKind.i64.wrap (n : Int) = n := wrap_id (by omega) (by omega)

theorem or64 {a b : Nat} (ha : a < 2 ^ 63) (hb : b < 2 ^ 63) : IntKind.i64.wrap ((BitVec.ofInt IntKind.i64.bits (a : Int) ||| BitVec.ofInt IntKind.i64.bits (b : Int)).toNat : Int) = ((a ||| b : Nat) : Int) := by
  rw [BitVec.toNat_or, bv_nat .i64 a (by simp [IntKind.bits]; omega), bv_nat .i64 b (by simp [IntKind.bits]; omega), wrap64_nat (Nat.or_lt_two_pow ha hb)]
theorem and64 {a b : Nat} (ha : a < 2 ^ 63) (hb : b < 2 ^ 63) : IntKind.i64.wrap ((BitVec.ofInt IntKind.i64.bits (a : Int) &&& BitVec.ofInt IntKind.i64.bits (b : Int)).toNat : Int) = ((a &&& b : Nat) : Int) := by
  rw [BitVec.toNat_and, bv_nat .i64 a (by simp [IntKind.bits]; omega), bv_nat .i64 b (by simp [IntKind.bits]; omega), wrap64_nat (Nat.and_lt_two_pow a hb)]

/-- A multiple of 2^i, and what is below 2^i. -/
theorem or_add (i a b : Nat) (h : b < 2 ^ i) : 2 ^ i * a ||| b = 2 ^ i * a + b := (Nat.two_pow_add_eq_or_of_lt h a).symm
theorem and_mask (i a : Nat) : a &&& (2 ^ i - 1) = a % 2 ^ i := Nat.and_two_pow_sub_one_eq_mod a i

/-- The same of Ints: x is a multiple of m = 2^i. -/
theorem orI (i : Nat) {x y : Int} (q : Int) (hx : x = (2 ^ i : Nat) * q) (hq : 0 ≤ q) (h0 : 0 ≤ y) (h1 : y < (2 ^ i : Nat)) (hb : x < 9223372036854775808) (hi : i < 63) :
    IntKind.i64.wrap ((BitVec.ofInt IntKind.i64.bits x ||| BitVec.ofInt IntKind.i64.bits y).toNat : Int) = x + y := by
  obtain ⟨q, rfl⟩ := Int.eq_ofNat_of_zero_le hq
  obtain ⟨y, rfl⟩ := Int.eq_ofNat_of_zero_le h0
  subst hx
  have h1' : y < 2 ^ i := by exact_mod_cast h1
  have hb' : 2 ^ i * q < 2 ^ 63 := by
    have : ((2 ^ i * q : Nat) : Int) < 9223372036854775808 := by push_cast; push_cast at hb; exact hb
    omega
  have hy : y < 2 ^ 63 := Nat.lt_trans h1' (Nat.pow_lt_pow_right (by decide) hi)
  have := or64 hb' hy
  rw [or_add i q y h1'] at this
  push_cast at this ⊢
  exact this
theorem andI (i : Nat) {x m : Int} (hm : m = (2 ^ i : Nat) - 1) (h0 : 0 ≤ x) (hb : x < 9223372036854775808) (hi : i < 63) :
    IntKind.i64.wrap ((BitVec.ofInt IntKind.i64.bits x &&& BitVec.ofInt IntKind.i64.bits m).toNat : Int) = x % (2 ^ i : Nat) := by
  obtain ⟨x, rfl⟩ := Int.eq_ofNat_of_zero_le h0
  have hp : 0 < 2 ^ i := Nat.two_pow_pos i
  have hlt : 2 ^ i < 2 ^ 63 := Nat.pow_lt_pow_right (by decide) hi
  have hm' : m = ((2 ^ i - 1 : Nat) : Int) := by rw [hm]; omega
  rw [hm']
  rw [and64 (by omega) (by omega), and_mask]
  push_cast
  rfl

theorem shl64 {x : Int} {k : Nat} (hk : k ≤ 64) : IntKind.i64.wrap (x * 2 ^ (min k IntKind.i64.bits)) = IntKind.i64.wrap (x * 2 ^ k) := by
  rw [show min k IntKind.i64.bits = k from Nat.min_eq_left (by simpa [IntKind.bits] using hk)]
theorem shr64 {x : Int} {k : Nat} (hk : k ≤ 64) : x.fdiv (2 ^ (min k IntKind.i64.bits)) = x / (2 ^ k : Nat) := by
  rw [show min k IntKind.i64.bits = k from Nat.min_eq_left (by simpa [IntKind.bits] using hk)]
  rw [Int.fdiv_eq_ediv_of_nonneg _ (Int.pow_nonneg (by decide))]
  push_cast
  rfl
end Go.Sx
