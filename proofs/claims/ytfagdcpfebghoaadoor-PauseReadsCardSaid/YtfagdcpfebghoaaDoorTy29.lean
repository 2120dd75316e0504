/- A symbolic executor of my own, part 29: bytes copied over an array, told cell by cell; bits cleared. Conditions: none. -/
import Derived.Test.YtfagdcpfebghoaaDoorTy28
namespace Go.Sx

theorem prim_copyC {P : Program} {L : List Chunk} {g : G} {chk : List Nat → List Nat → Bool} {K : Out → List Chunk → G → Prop} {c : Call} {x y : Operand} {dT sT elem : TypeId} {b off n cap : Nat} {s : ByteArray} (ty : TypeId) (cur cells : List SV) (hcal : c.callee = .builtin .copy) (hargs : c.args.toList = [x, y]) (htys : c.argTypes = #[dT, sT]) (hu : P.underlying dT = some (.slice elem)) (hs : (P.info? elem).map (·.size) = some 1)
    (hL : L[b]? = some (.cells ty cur)) (hle : s.size ≤ n) (hfit : off + s.size ≤ cur.length) (hcs : scL L.length cur = true) (hc : chk [] [b] = true) (hcells : cur.take off ++ ((Go.Lib.strCells s).map SV.v ++ cur.drop (off + s.size)) = cells)
    (k : K (.ret (.v (.int .i64 s.size))) (L.set b (.cells ty cells)) g) :
    PrimX P (.call c) [x, y] [.slc b off n cap, .v (.string s)] L g chk K := by
  subst hcells
  exact prim_copyS ty cur hcal hargs htys hu hs hL hle hfit hcs hc k

theorem list6 {l : List UInt8} (h : l.length = 6) : l = [l.getD 0 0, l.getD 1 0, l.getD 2 0, l.getD 3 0, l.getD 4 0, l.getD 5 0] := by
  match l, h with
  | [a, b, c, d, e, f], _ => rfl
theorem list4 {l : List UInt8} (h : l.length = 4) : l = [l.getD 0 0, l.getD 1 0, l.getD 2 0, l.getD 3 0] := by
  match l, h with
  | [a, b, c, d], _ => rfl
/-- The i-th byte of a string. -/
def byteI (s : ByteArray) (i : Nat) : Int := ((s.data.toList.getD i 0).toNat : Int)
theorem byteI_rng (s : ByteArray) (i : Nat) : 0 ≤ byteI s i ∧ byteI s i ≤ 255 := by
  have := (s.data.toList.getD i 0).toNat_lt
  unfold byteI
  omega
theorem cells6 {s : ByteArray} (h : s.size = 6) : Go.Lib.strCells s = [.int .u8 (byteI s 0), .int .u8 (byteI s 1), .int .u8 (byteI s 2), .int .u8 (byteI s 3), .int .u8 (byteI s 4), .int .u8 (byteI s 5)] := by
  have hl : s.data.toList.length = 6 := by rw [Array.length_toList]; exact h
  rw [Go.Lib.strCells, list6 hl]
  rfl
theorem cells4 {s : ByteArray} (h : s.size = 4) : Go.Lib.strCells s = [.int .u8 (byteI s 0), .int .u8 (byteI s 1), .int .u8 (byteI s 2), .int .u8 (byteI s 3)] := by
  have hl : s.data.toList.length = 4 := by rw [Array.length_toList]; exact h
  rw [Go.Lib.strCells, list4 hl]
  rfl
theorem cells0 : Go.Lib.strCells ⟨#[]⟩ = [] := rfl

def CurV.numOf (c : CurV) (n : Nat) : Nat := numL (c.cut n).data.toList
def CurV.rest (c : CurV) : List UInt8 := c.s.data.toList.drop c.at_
/-- What comes behind, by a name: it makes the steps ahead of it cheap. -/
theorem absK {P : Program} {n0 : Nat} {c : YC} {fr : List SV} {L : List Chunk} {g : G} {K : KT} (h : ∀ K', K' = K → vC P n0 c fr L g K') : vC P n0 c fr L g K := h K rfl

/-- The low bits cleared. -/
theorem andNot_nat (i n : Nat) (hn : n < 2 ^ 63) (hi : i ≤ 62) : n &&& (2 ^ 64 - 1 - (2 ^ i - 1)) = n / 2 ^ i * 2 ^ i := by
  have e1 : 2 ^ 64 - 1 - (2 ^ i - 1) = (2 ^ (64 - i) - 1) * 2 ^ i := by
    rw [Nat.sub_mul, ← Nat.pow_add, show 64 - i + i = 64 by omega, Nat.one_mul]
    have := Nat.two_pow_pos i
    omega
  rw [e1, ← Nat.shiftLeft_eq, ← Nat.shiftLeft_eq, ← Nat.shiftRight_eq_div_pow]
  apply Nat.eq_of_testBit_eq
  intro j
  rw [Nat.testBit_and, Nat.testBit_shiftLeft, Nat.testBit_shiftLeft, Nat.testBit_shiftRight, Nat.testBit_two_pow_sub_one]
  by_cases hj : i ≤ j
  · rw [show i + (j - i) = j by omega]
    by_cases h64 : j < 64
    · simp [hj, show j - i < 64 - i by omega]
    · have : n.testBit j = false := Nat.testBit_lt_two_pow (Nat.lt_of_lt_of_le hn (Nat.pow_le_pow_right (by decide) (by omega)))
      simp [this]
  · simp [hj]
theorem andNotI (i : Nat) {x m : Int} (hm : m = (2 ^ i : Nat) - 1) (h0 : 0 ≤ x) (hb : x < 9223372036854775808) (hi : i ≤ 62) :
    IntKind.i64.wrap ((BitVec.ofInt IntKind.i64.bits x &&& ~~~ BitVec.ofInt IntKind.i64.bits m).toNat : Int) = x / (2 ^ i : Nat) * (2 ^ i : Nat) := by
  obtain ⟨n, rfl⟩ := Int.eq_ofNat_of_zero_le h0
  have hp := Nat.two_pow_pos i
  have hlt : 2 ^ i < 2 ^ 63 := Nat.pow_lt_pow_right (by decide) (by omega)
  have hm' : m = ((2 ^ i - 1 : Nat) : Int) := by rw [hm]; omega
  have hn : n < 2 ^ 63 := by omega
  rw [hm', BitVec.toNat_and, BitVec.toNat_not, bv_nat .i64 n (by simp [IntKind.bits]; omega), bv_nat .i64 (2 ^ i - 1) (by simp [IntKind.bits]; omega)]
  rw [show IntKind.i64.bits = 64 from rfl, andNot_nat i n hn hi]
  have : n / 2 ^ i * 2 ^ i ≤ n := Nat.div_mul_le_self _ _
  rw [wrap64_nat (by omega)]
  push_cast
  rfl

end Go.Sx
