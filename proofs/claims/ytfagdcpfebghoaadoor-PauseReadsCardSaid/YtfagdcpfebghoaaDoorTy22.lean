/- A symbolic executor of my own, part 22: numbers as bytes, strings as rows of bytes, in plain Lean. Conditions: none. -/
import Derived.Test.YtfagdcpfebghoaaDoorTy21
import Derived.Laws.Strings
namespace Go.Sx

/-- The n low bytes of a number, the highest first. -/
def beI : Nat → Nat → List Int
  | 0, _ => []
  | n + 1, x => ((x / 256 ^ n % 256 : Nat) : Int) :: beI n x
def beS (n x : Nat) : ByteArray := bytesOfInts (beI n x)
theorem beI_length : ∀ n x, (beI n x).length = n
  | 0, _ => rfl
  | n + 1, x => by rw [beI, List.length_cons, beI_length n x]
theorem bytesOfInts_size (l : List Int) : (bytesOfInts l).size = l.length := by
  simp [bytesOfInts, ByteArray.size]
theorem beS_size (n x : Nat) : (beS n x).size = n := by rw [beS, bytesOfInts_size, beI_length]
theorem bytesOfInts_append (a b : List Int) : bytesOfInts (a ++ b) = bytesOfInts a ++ bytesOfInts b := by
  apply ByteArray.ext
  simp [bytesOfInts, ByteArray.data_append]
theorem bytesOfInts_list (l : List Int) : (bytesOfInts l).data.toList = l.map fun n => UInt8.ofNat n.toNat := rfl
theorem empty_eq : (ByteArray.mk #[]) = bytesOfInts [] := rfl
/-- Strings compared. -/
theorem str_beq {a b : ByteArray} : (a.toList == b.toList) = decide (a = b) := by
  rw [ByteArray.toList_eq, ByteArray.toList_eq]
  by_cases h : a = b
  · subst h; simp
  · rw [decide_eq_false h]
    refine beq_eq_false_iff_ne.2 fun e => h ?_
    exact ByteArray.ext (Array.toList_inj.1 e)
theorem str_beq_self (a : ByteArray) : (a.toList == a.toList) = true := by simp
theorem str_beq_of {a b : ByteArray} (h : a = b) : (a.toList == b.toList) = true := by rw [h]; simp
theorem vs {a b : ByteArray} (h : a = b) : SV.v (.string a) = .v (.string b) := by rw [h]
theorem rs {a b : ByteArray} (h : a = b) : Out.ret (.v (.string a)) = .ret (.v (.string b)) := by rw [h]

theorem u64_nat {n : Nat} (h : n < 2 ^ 64) : IntKind.u64.wrap (n : Int) = n := by rw [IntKind.wrap_u64]; omega
theorem u8_nat (n : Nat) : IntKind.u8.wrap (n : Int) = ((n % 256 : Nat) : Int) := by rw [IntKind.wrap_u8]; omega
theorem u32_nat {n : Nat} (h : n < 2 ^ 32) : IntKind.u32.wrap (n : Int) = n := by rw [IntKind.wrap_u32]; omega
theorem fdiv_nat (a b : Nat) : (a : Int).fdiv (b : Int) = ((a / b : Nat) : Int) := by
  rw [Int.fdiv_eq_ediv_of_nonneg _ (Int.natCast_nonneg b)]; rfl
theorem pow_cast (b k : Nat) : ((b : Int) ^ k) = ((b ^ k : Nat) : Int) := by push_cast; rfl
theorem two_pow_cast (k : Nat) : ((2 : Int) ^ k) = ((2 ^ k : Nat) : Int) := by push_cast; rfl
theorem pow256 (i : Nat) : 2 ^ (8 * i) = 256 ^ i := by rw [Nat.pow_mul]
/-- x >> 8 i, of 64 bits. -/
theorem shr8 (x i : Nat) (hi : i ≤ 8) (k : IntKind) (hk : k.bits = 64) : (x : Int).fdiv (2 ^ (min (8 * (i : Int)).toNat k.bits)) = ((x / 256 ^ i : Nat) : Int) := by
  have : min (8 * (i : Int)).toNat k.bits = 8 * i := by rw [hk]; omega
  rw [this, two_pow_cast, fdiv_nat, pow256]

/-- The byte string as told from its last end. -/
theorem beI_snoc : ∀ n x, beI (n + 1) x = beI n (x / 256) ++ [((x % 256 : Nat) : Int)]
  | 0, x => by simp [beI]
  | n + 1, x => by
    rw [beI, beI_snoc n x]
    have : x / 256 / 256 ^ n = x / 256 ^ (n + 1) := by
      rw [Nat.div_div_eq_div_mul]
      congr 1
      rw [Nat.pow_succ, Nat.mul_comm]
    rw [show beI (n + 1) (x / 256) = ((x / 256 / 256 ^ n % 256 : Nat) : Int) :: beI n (x / 256) from rfl, this]
    rfl
theorem u8s_vals : ∀ l : List Int, u8s (l.map fun n => SV.v (.int .u8 n)) = some l
  | [] => rfl
  | n :: l => by simp only [List.map_cons, u8s, u8s_vals l]

theorem beS_cons (n x : Nat) : beS (n + 1) x = bytesOfInts [((x / 256 ^ n % 256 : Nat) : Int)] ++ beS n x := by
  rw [beS, beI, beS, ← bytesOfInts_append]; rfl
theorem div_pow (x n : Nat) : x / 256 ^ n / 256 = x / 256 ^ (n + 1) := by rw [Nat.div_div_eq_div_mul, Nat.pow_succ]
theorem u64_rng (x : Int) : 0 ≤ IntKind.u64.wrap x ∧ IntKind.u64.wrap x < 18446744073709551616 := by rw [IntKind.wrap_u64]; omega
/-- A slice that is made, its cells told otherwise. -/
theorem prim_makeC {P : Program} {L : List Chunk} {g : G} {chk : List Nat → List Nat → Bool} {K : Out → List Chunk → G → Prop} {t e : TypeId} {i : TypeInfo} {z zv : Value} {lo co : Operand} {kl kc : IntKind} {n c : Int} (N : Nat) (hN : L.length = N) (ht : P.underlying t = some (.slice e)) (hi : P.info? e = some i) (hz : i.zero = some z) (hz1 : z.cells = #[zv]) (hsz : i.size = 1) (hc : chk [] [] = true)
    (h0 : 0 ≤ n ∧ n ≤ c ∧ (i.bytes : Int) * c ≤ 281474976710656 ∧ c ≤ 9223372036854775807) (cs : List Value) (hcs : List.replicate c.toNat zv = cs) (k : K (.ret (.slc N 0 n.toNat c.toNat)) (L ++ [.vals e cs]) g) :
    PrimX P (.makeSlice t lo co) [lo, co] [.v (.int kl n), .v (.int kc c)] L g chk K := by
  subst hcs
  exact prim_make N hN ht hi hz hz1 hsz hc h0 k
/-- A number stored in a block of plain cells. -/
theorem sv1 {T : TypeId} {c c' : List Value} {o o' : Nat} {k : IntKind} {a a' : Int} (ho : o = o') (ha : a = a') (h : c.take o' ++ ([Value.int k a'] ++ c.drop (o' + 1)) = c') : [Chunk.vals T (c.take o ++ ([Value.int k a] ++ c.drop (o + 1)))] = [Chunk.vals T c'] := by
  subst ho ha h; rfl
/-- What a slice that is made holds at first. -/
def cellsP (k x i : Nat) : List Value := (List.replicate (k - i) 0 ++ beI i x).map (Value.int .u8)
theorem cellsP_zero (k x : Nat) : List.replicate k (Value.int .u8 0) = cellsP k x 0 := by simp [cellsP, beI]
theorem cellsP_length (k x i : Nat) (h : i ≤ k) : (cellsP k x i).length = k := by simp [cellsP, beI_length]; omega
theorem cellsP_step (k x i : Nat) (h : i < k) : (cellsP k x i).take (k - 1 - i) ++ ([Value.int .u8 ((x / 256 ^ i % 256 : Nat) : Int)] ++ (cellsP k x i).drop (k - 1 - i + 1)) = cellsP k x (i + 1) := by
  have e : k - i = (k - 1 - i) + 1 := by omega
  have e2 : k - (i + 1) = k - 1 - i := by omega
  simp only [cellsP, e, e2, beI, List.map_append, List.map_replicate, List.map_cons]
  rw [List.take_append_of_le_length (by simp), List.drop_append_of_le_length (by simp)]
  simp [List.take_replicate, List.drop_replicate]
theorem cellsP_end (k x : Nat) : ((cellsP k x k).drop 0).take k = (beI k x).map (Value.int .u8) := by
  simp only [cellsP, Nat.sub_self, List.replicate_zero, List.nil_append, List.drop_zero]
  exact List.take_of_length_le (by simp [beI_length])

end Go.Sx
