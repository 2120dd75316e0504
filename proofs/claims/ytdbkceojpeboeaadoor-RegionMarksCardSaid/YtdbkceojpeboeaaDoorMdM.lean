/- The reference's MD5: bytes that grow, words of them, the table of turns; no walk. Conditions: none. -/
import Derived.Test.YtdbkceojpeboeaaDoorMdC
import Derived.Test.YtdbkceojpeboeaaDoorMdE
namespace Go.Proofs.YtdbkceojpeboeaaDoor
open Go.Sx
set_option maxRecDepth 100000

/-- Bytes that grow: how they lie. -/
structure BS where
  xs : List UInt8
  n : Nat
  cap : Nat
  cs : List Value
  fz : Nat × Nat
def BS.ok (y : BS) : Prop := y.n = y.xs.length ∧ (∃ sp, y.cs = y.xs.map bI ++ sp) ∧ y.cs.length = y.cap ∧ y.n ≤ y.cap ∧ y.cap ≤ 9223372036854775807 ∧ hzOk y.fz y.cs.length
theorem BS.push {xs : List UInt8} {n cap : Nat} {sp : List Value} {fz : Nat × Nat} {v : Int} {b : UInt8} (hn : n = xs.length) (hv : v = b.toNat) (h1 : n + 1 ≤ cap) (h2 : cap ≤ 9223372036854775807) (h3 : sp.length = (cap - (n + 1)) * 1) (h4 : hzOk fz (xs.map bI ++ ([Value.int .u8 v] ++ sp)).length) : BS.ok ⟨xs ++ [b], n + 1, cap, xs.map bI ++ ([Value.int .u8 v] ++ sp), fz⟩ := by
  subst hv
  refine ⟨by simp [hn], ⟨sp, by simp [bI]⟩, ?_, h1, h2, h4⟩
  show (xs.map bI ++ ([Value.int .u8 (b.toNat : Int)] ++ sp)).length = cap
  simp only [List.length_append, List.length_map, List.length_singleton, h3]
  omega
theorem BS.at {y : BS} (h : y.ok) {i : Nat} (hi : i < y.xs.length) : y.cs[i]? = some (bI (y.xs.getD i 0)) := by
  obtain ⟨sp, e⟩ := h.2.1
  rw [e, List.getElem?_append_left (by rw [List.length_map]; exact hi), List.getElem?_map, List.getElem?_eq_getElem hi, List.getD_eq_getElem?_getD, List.getElem?_eq_getElem hi]
  rfl
theorem low8 (n : Nat) : IntKind.u8.wrap ((n : Int).tmod 256) = ((UInt8.ofNat n).toNat : Int) := by
  rw [Int.tmod_eq_emod_of_nonneg (Int.natCast_nonneg _)]
  have e : ((n : Int) % 256) = ((n % 256 : Nat) : Int) := by omega
  rw [e, u8id (Nat.mod_lt _ (by decide))]
  simp
theorem shr8 (n k : Nat) (hn : n < 18446744073709551616) : IntKind.u64.wrap (((n / 256 ^ k : Nat) : Int).tdiv 256) = ((n / 256 ^ (k + 1) : Nat) : Int) := by
  have hle : n / 256 ^ k ≤ n := Nat.div_le_self _ _
  rw [show ((n / 256 ^ k : Nat) : Int).tdiv 256 = ((n / 256 ^ k / 256 : Nat) : Int) from by rw [Int.tdiv_eq_ediv_of_nonneg (Int.natCast_nonneg _)]; omega, u64id (Nat.lt_of_le_of_lt (Nat.div_le_self _ _) (by omega)), Nat.div_div_eq_div_mul, Nat.pow_succ]
theorem shr8w (n k : Nat) (hn : n < 4294967296) : IntKind.u32.wrap (((n / 256 ^ k : Nat) : Int).tdiv 256) = ((n / 256 ^ (k + 1) : Nat) : Int) := by
  have hle : n / 256 ^ k ≤ n := Nat.div_le_self _ _
  rw [show ((n / 256 ^ k : Nat) : Int).tdiv 256 = ((n / 256 ^ k / 256 : Nat) : Int) from by rw [Int.tdiv_eq_ediv_of_nonneg (Int.natCast_nonneg _)]; omega, wrap32 (Nat.lt_of_le_of_lt (Nat.div_le_self _ _) (by omega)), Nat.div_div_eq_div_mul, Nat.pow_succ]
theorem wsum (P : List UInt8) (j g : Nat) (hg : g < 16) :
    IntKind.u32.wrap (IntKind.u32.wrap (IntKind.u32.wrap (IntKind.u32.wrap (((P.getD (64 * j + 4 * g) 0).toNat : Nat) : Int) + IntKind.u32.wrap (IntKind.u32.wrap (((P.getD (64 * j + (4 * g + 1)) 0).toNat : Nat) : Int) * 256)) + IntKind.u32.wrap (IntKind.u32.wrap (((P.getD (64 * j + (4 * g + 2)) 0).toNat : Nat) : Int) * 65536)) + IntKind.u32.wrap (IntKind.u32.wrap (((P.getD (64 * j + (4 * g + 3)) 0).toNat : Nat) : Int) * 16777216)) = u32I (mdW ((P.drop (64 * j)).take 64) g) := by
  have hb : ∀ q, q < 64 → bAt ((P.drop (64 * j)).take 64) q = (P.getD (64 * j + q) 0).toNat := fun q hq => by
    rw [bAt, List.getD_eq_getElem?_getD, List.getD_eq_getElem?_getD, List.getElem?_take_of_lt hq, List.getElem?_drop]
  rw [mdW, mdWN, hb (4 * g) (by omega), hb (4 * g + 1) (by omega), hb (4 * g + 2) (by omega), hb (4 * g + 3) (by omega)]
  have l0 := (P.getD (64 * j + 4 * g) 0).toNat_lt
  have l1 := (P.getD (64 * j + (4 * g + 1)) 0).toNat_lt
  have l2 := (P.getD (64 * j + (4 * g + 2)) 0).toNat_lt
  have l3 := (P.getD (64 * j + (4 * g + 3)) 0).toNat_lt
  generalize (P.getD (64 * j + 4 * g) 0).toNat = b0 at *
  generalize (P.getD (64 * j + (4 * g + 1)) 0).toNat = b1 at *
  generalize (P.getD (64 * j + (4 * g + 2)) 0).toNat = b2 at *
  generalize (P.getD (64 * j + (4 * g + 3)) 0).toNat = b3 at *
  rw [wrap32 (n := b0) (by omega), wrap32 (n := b1) (by omega), wrap32 (n := b2) (by omega), wrap32 (n := b3) (by omega)]
  rw [show (b1 : Int) * 256 = ((b1 * 256 : Nat) : Int) by omega, show (b2 : Int) * 65536 = ((b2 * 65536 : Nat) : Int) by omega, show (b3 : Int) * 16777216 = ((b3 * 16777216 : Nat) : Int) by omega]
  rw [wrap32 (n := b1 * 256) (by omega), wrap32 (n := b2 * 65536) (by omega), wrap32 (n := b3 * 16777216) (by omega)]
  rw [show (b0 : Int) + ((b1 * 256 : Nat) : Int) = ((b0 + b1 * 256 : Nat) : Int) by omega, wrap32 (n := b0 + b1 * 256) (by omega)]
  rw [show ((b0 + b1 * 256 : Nat) : Int) + ((b2 * 65536 : Nat) : Int) = ((b0 + b1 * 256 + b2 * 65536 : Nat) : Int) by omega, wrap32 (n := b0 + b1 * 256 + b2 * 65536) (by omega)]
  rw [show ((b0 + b1 * 256 + b2 * 65536 : Nat) : Int) + ((b3 * 16777216 : Nat) : Int) = ((b0 + b1 * 256 + b2 * 65536 + b3 * 16777216 : Nat) : Int) by omega, wrapN]
  rfl
/-- The table of turns. -/
def mdEnt (k v : Int) (c : Nat) : MapEntry := { key := .int .i64 k, val := .int .i64 v, born := c }
def mdMap : Array MapEntry := #[mdEnt 0 7 0, mdEnt 1 12 1, mdEnt 2 17 2, mdEnt 3 22 3, mdEnt 16 5 4, mdEnt 17 9 5, mdEnt 18 14 6, mdEnt 19 20 7, mdEnt 32 4 8, mdEnt 33 11 9, mdEnt 34 16 10, mdEnt 35 23 11, mdEnt 48 6 12, mdEnt 49 10 13, mdEnt 50 15 14, mdEnt 51 21 15]
theorem mdLook : ∀ a b : Nat, a < 4 → b < 4 → Instr.findNow (.int .i64) (.int .i64 ((16 * a + b : Nat) : Int)) mdMap.toList 0 = some (some (4 * a + b, .int .i64 ((mdTurn.getD (4 * a + b) 0 : Nat) : Int)))
  | 0, 0, _, _ => rfl | 0, 1, _, _ => rfl | 0, 2, _, _ => rfl | 0, 3, _, _ => rfl
  | 1, 0, _, _ => rfl | 1, 1, _, _ => rfl | 1, 2, _, _ => rfl | 1, 3, _, _ => rfl
  | 2, 0, _, _ => rfl | 2, 1, _, _ => rfl | 2, 2, _, _ => rfl | 2, 3, _, _ => rfl
  | 3, 0, _, _ => rfl | 3, 1, _, _ => rfl | 3, 2, _, _ => rfl | 3, 3, _, _ => rfl
  | a + 4, _, h, _ => by omega
  | _, b + 4, _, h => by omega
def mdKey (i : Nat) : Int := IntKind.i64.wrap (IntKind.i64.wrap (IntKind.i64.wrap ((i : Int).tdiv 16) * 16) + (i : Int).tmod 4)
theorem mdKey_eq {i : Nat} (h : i < 64) : mdKey i = ((16 * (i / 16) + i % 4 : Nat) : Int) := by
  unfold mdKey
  rw [show (i : Int).tdiv 16 = ((i / 16 : Nat) : Int) from by rw [Int.tdiv_eq_ediv_of_nonneg (by omega)]; omega, show (i : Int).tmod 4 = ((i % 4 : Nat) : Int) from by rw [Int.tmod_eq_emod_of_nonneg (by omega)]; omega]
  rw [show IntKind.i64.wrap ((i / 16 : Nat) : Int) = ((i / 16 : Nat) : Int) from wrap_id (by omega) (by omega), show IntKind.i64.wrap (((i / 16 : Nat) : Int) * 16) = ((i / 16 : Nat) : Int) * 16 from wrap_id (by omega) (by omega), wrap_id (by omega) (by omega)]
  omega
theorem mdLook_at {i : Nat} (h : i < 64) : Instr.findNow (.int .i64) (.int .i64 (mdKey i)) mdMap.toList 0 = some (some (4 * (i / 16) + i % 4, .int .i64 (mdR i : Nat))) := by
  rw [mdKey_eq h, mdLook (i / 16) (i % 4) (by omega) (by omega), mdR, Nat.mul_comm 4]
theorem mdWord_add (H M : Md) (w : Nat → BitVec 32) (hM : mdN w 64 H = M) (q : Nat) : mdWord (mdBlock H w) q = mdWord H q + mdWord M q := by
  subst hM
  rcases q with _ | _ | _ | q <;> rfl
theorem mdOut_next (H : Md) (n : Nat) : mdOut H (n + 1) = mdOut H n ++ [mdOutB H n] := by
  rw [mdOut, List.range_succ, List.map_append]; rfl
/-- A round of the reference. -/
theorem refStep (w : Nat → BitVec 32) (i : Nat) (M : Md) (h : i < 64) :
    IntKind.u32.wrap (u32I M.b + IntKind.u32.wrap ((BitVec.ofInt IntKind.u32.bits (IntKind.u32.wrap (IntKind.u32.wrap (IntKind.u32.wrap (IntKind.u32.wrap (u32I M.a + u32I (mdF i M.b M.c M.d)) + u32I (w (mdG i))) + u32I (mdT i)) * 2 ^ (min (mdR i : Int).toNat IntKind.u32.bits))) ||| BitVec.ofInt IntKind.u32.bits ((IntKind.u32.wrap (IntKind.u32.wrap (IntKind.u32.wrap (u32I M.a + u32I (mdF i M.b M.c M.d)) + u32I (w (mdG i))) + u32I (mdT i))).fdiv (2 ^ (min (IntKind.i64.wrap (32 - (mdR i : Int))).toNat IntKind.u32.bits)))).toNat : Int)) = u32I (mdStep w i M).b := by
  have hr := mdR_lt i h
  rw [add32, add32, add32, show IntKind.i64.wrap (32 - (mdR i : Int)) = ((32 - mdR i : Nat) : Int) from by rw [wrap_id (by omega) (by omega)]; omega, shl32 _ (mdR i) (by omega), shr32 _ (32 - mdR i) (by omega), or32, add32, mdStep, sum_ref]
  rfl
end Go.Proofs.YtdbkceojpeboeaaDoor
