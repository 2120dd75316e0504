/- md5.numbers, bits.RotateLeft32, md5.block: what each returns. Conditions: a block has 64 bytes. -/
import Derived.Test.YtdbkceojpeboeaaDoorXmda
import Derived.Test.YtdbkceojpeboeaaDoorMdL
import Derived.Test.YtdbkceojpeboeaaDoorBaseD
namespace Go.Proofs.YtdbkceojpeboeaaDoor
open Go.Sx
set_option maxRecDepth 100000
set_option maxHeartbeats 8000000
attribute [local irreducible] Meets

theorem mixedM : Tryd.prog.follows .mixedOrders = true := by kernel_rfl
theorem load1_cV {c : List Value} {c' : List SV} {off : Nat} {x : Value} {K : SV → Prop} (hc : c' = c.map SV.v) (h : c[off]? = some x) (k : K (.v x)) : ifle (off + 1) c'.length (val1 false (slice1 c' off 1) K) := by
  subst hc
  have h1 := load1_at h k
  have hle : Nat.ble (off + 1) (c.map SV.v).length = true := Nat.ble_eq_true_of_le (by rw [List.length_map]; exact h1.1)
  unfold ifle slice1
  rw [hle, ← List.map_drop, ← List.map_take]
  exact h1.2
theorem offN (i : Nat) : 0 + ((i : Int)).toNat * 1 = i := by simp
/-- Words in a row. -/
def wF (M : Nat) (F : Nat → BitVec 32) : List Value := (List.range M).map fun q => Value.int .u32 (u32I (F q))
theorem wF_len (M : Nat) (F : Nat → BitVec 32) : (wF M F).length = M := by simp [wF]
theorem wF_get {M : Nat} {F : Nat → BitVec 32} {q : Nat} (h : q < M) : (wF M F)[q]? = some (.int .u32 (u32I (F q))) := by
  rw [wF, List.getElem?_map, List.getElem?_range h]; rfl
theorem wF_set {M : Nat} {F F' : Nat → BitVec 32} {p : Nat} (h : p < M) (hne : ∀ q, q ≠ p → F' q = F q) {v : Value} (hv : v = .int .u32 (u32I (F' p))) : (wF M F).take p ++ ([v] ++ (wF M F).drop (p + 1)) = wF M F' := by
  apply List.ext_getElem?
  intro i
  have hl : ((wF M F).take p).length = p := by rw [List.length_take, wF_len]; omega
  rcases Nat.lt_trichotomy i p with h1 | h1 | h1
  · rw [List.getElem?_append_left (by omega), List.getElem?_take_of_lt h1, wF_get (by omega), wF_get (by omega), hne i (by omega)]
  · subst h1
    rw [List.getElem?_append_right (by omega), hl, Nat.sub_self, wF_get h, hv]; rfl
  · rw [List.getElem?_append_right (by omega), hl, List.getElem?_append_right (by simp; omega), List.length_singleton, List.getElem?_drop, show p + 1 + (i - p - 1) = i by omega]
    by_cases h2 : i < M
    · rw [wF_get h2, wF_get h2, hne i (by omega)]
    · rw [List.getElem?_eq_none (by rw [wF_len]; omega), List.getElem?_eq_none (by rw [wF_len]; omega)]

def numsV : List Value := mdTab.map fun x => Value.int .u32 (u32I x)
theorem numsV_get {i : Nat} (h : i < 64) : numsV[i]? = some (.int .u32 (u32I (mdT i))) := by
  have hl : mdTab.length = 64 := rfl
  rw [numsV, List.getElem?_map, mdT, List.getD_eq_getElem?_getD, List.getElem?_eq_getElem (by omega)]
  rfl
theorem numbers_c (g : G) : Tells Tryd.prog 31 [] g (.agg (numsV.map .v)) := by
  refine meets_of mixedM Tryd.func31 (by kernel_rfl) x31_ok (some []) ?_
  exact ⟨by kernel_rfl, rfl, rfl⟩
theorem rotRaw {n : Nat} (h : n < 32) : IntKind.u64.wrap ((BitVec.ofInt IntKind.u64.bits (IntKind.u64.wrap (n : Int)) &&& BitVec.ofInt IntKind.u64.bits 31).toNat : Int) = n := by
  have k : ∀ n : Nat, n < 32 → IntKind.u64.wrap ((BitVec.ofInt IntKind.u64.bits (IntKind.u64.wrap (n : Int)) &&& BitVec.ofInt IntKind.u64.bits 31).toNat : Int) = n := by decide +kernel
  exact k n h
theorem rotRaw2 {n : Nat} (h : n < 32) : IntKind.u64.wrap (32 - (n : Int)) = ((32 - n : Nat) : Int) := by
  have k : ∀ n : Nat, n < 32 → IntKind.u64.wrap (32 - (n : Int)) = ((32 - n : Nat) : Int) := by decide +kernel
  exact k n h
theorem rotl_c (v : Int) (x : BitVec 32) (hv : v = u32I x) (n : Nat) (hn : n < 32) (g : G) : Tells Tryd.prog 32 [.v (.int .u32 v), .v (.int .i64 n)] g (.v (.int .u32 (u32I (rotl x n)))) := by
  subst hv
  refine meets_of mixedM Tryd.func32 (by kernel_rfl) x32_ok (some []) ?_
  refine ⟨by rw [rotRaw hn]; omega, ?_⟩
  refine ⟨by rw [rotRaw hn, rotRaw2 hn]; omega, ?_⟩
  refine ⟨ri (k := .u32) ?_, rfl, rfl⟩
  rw [rotRaw hn, rotRaw2 hn, shl32 x n (by omega), shr32 x (32 - n) (by omega), or32]
  rfl

def mdS (h : Md) : SV := .agg [.v (.int .u32 (u32I h.a)), .v (.int .u32 (u32I h.b)), .v (.int .u32 (u32I h.c)), .v (.int .u32 (u32I h.d))]
def mdC (h : Md) : Chunk := .cells 35 [.v (.int .u32 (u32I h.a)), .v (.int .u32 (u32I h.b)), .v (.int .u32 (u32I h.c)), .v (.int .u32 (u32I h.d))]
def z4C : Chunk := .cells 35 [.v (.int .u32 0), .v (.int .u32 0), .v (.int .u32 0), .v (.int .u32 0)]
def wI (l : List UInt8) (i k : Nat) (j : Nat) : BitVec 32 := if j < i then mdW l j else if j = i then mdWk l i k else 0
theorem wI_next (l : List UInt8) (i : Nat) : wI l i 4 = wI l (i + 1) 0 := by
  funext j
  unfold wI
  by_cases h1 : j < i
  · rw [if_pos h1, if_pos (by omega)]
  · by_cases h2 : j = i
    · subst h2; rw [if_neg h1, if_pos rfl, if_pos (by omega), mdWk_four]
    · rw [if_neg h1, if_neg h2, if_neg (by omega)]
      split <;> rfl
def turnV : List Value := mdTurn.map fun n : Nat => Value.int .i64 (n : Int)
theorem turnV_get {i : Nat} (h : i < 64) : turnV[i / 16 * 4 + i % 4]? = some (.int .i64 (mdR i : Nat)) := by
  have hl : mdTurn.length = 16 := rfl
  rw [turnV, List.getElem?_map, mdR, List.getD_eq_getElem?_getD, List.getElem?_eq_getElem (by omega)]
  rfl
def gRaw (i : Nat) : Nat := if i < 16 then i else if i < 32 then 5 * i + 1 else if i < 48 then 3 * i + 5 else 7 * i
theorem gRaw_mod {i : Nat} : gRaw i % 16 = mdG i := by
  unfold gRaw mdG
  split
  · omega
  · split
    · rfl
    · split <;> rfl
theorem block_c (h : Md) (s : ByteArray) (hs : s.size = 64) (g : G) : Tells Tryd.prog 16 [mdS h, .v (.string s)] g (mdS (mdBlock h (mdW s.data.toList))) := by
  have hl : s.data.toList.length = 64 := by rw [Array.length_toList]; exact hs
  refine meets_ofJ mixedM Tryd.func16 (by kernel_rfl) x16_ok (some []) ?_
  change TurnW _ _ _ _ _ _ _
  refine turn_vals 2 63 (wF 16 (wI s.data.toList 0 0)) (by kernel_rfl) ?_
  change LoopW _ _ _ _ _ _ _ _ _ _
  apply loop_rule [] (α := Nat) (fun i => [(17, .v (.int .i64 i))]) (fun i => [mdC h, z4C, .vals 63 (wF 16 (wI s.data.toList i 0))]) (fun _ => g) (fun i => i ≤ 16) (fun i => 16 - i) 0
  · intro x; kernel_rfl
  · exact Nat.zero_le _
  · exact ⟨rfl, trivial⟩
  · rfl
  · rfl
  intro i hi
  refine bsplit_of (fun hlt => ?_) (fun hlt => ?_)
  · have hi16 : i < 16 := by have : ((i : Int) < 16) := of_decide_eq_true hlt; omega
    change LoopW _ _ _ _ _ _ _ _ _ _
    apply loop_rule [] (α := Nat) (fun k => [(20, .v (.int .i64 k))]) (fun k => [mdC h, z4C, .vals 63 (wF 16 (wI s.data.toList i k))]) (fun _ => g) (fun k => k ≤ 4) (fun k => 4 - k) 0
    · intro x; kernel_rfl
    · exact Nat.zero_le _
    · exact ⟨rfl, trivial⟩
    · rfl
    · rfl
    intro k hk
    refine bsplit_of (fun hlt2 => ?_) (fun hlt2 => ?_)
    · have hk4 : k < 4 := by have : ((k : Int) < 4) := of_decide_eq_true hlt2; omega
      have hB : (0 : Int) ≤ ((i : Nat) : Int) ∧ ((i : Nat) : Int) < 16 := ⟨by omega, by omega⟩
      have h4 : IntKind.i64.wrap (IntKind.i64.wrap (4 * (i : Int)) + (k : Int)) = ((4 * i + k : Nat) : Int) := by
        rw [show IntKind.i64.wrap (4 * (i : Int)) = 4 * (i : Int) from wrap_id (by omega) (by omega), wrap_id (by omega) (by omega)]; omega
      have h8 : IntKind.i64.wrap (8 * (k : Int)) = ((8 * k : Nat) : Int) := by rw [wrap_id (by omega) (by omega)]; omega
      refine ⟨hB, ?_⟩
      refine load1_at (x := .int .u32 (u32I (wI s.data.toList i k i))) (show (wF 16 (wI s.data.toList i k))[0 + ((i : Int)).toNat * 1]? = _ from by rw [offN]; exact wF_get hi16) ?_
      refine ⟨⟨show (0 : Int) ≤ IntKind.i64.wrap (IntKind.i64.wrap (4 * (i : Int)) + (k : Int)) from by rw [h4]; omega, show IntKind.i64.wrap (IntKind.i64.wrap (4 * (i : Int)) + (k : Int)) < (s.size : Int) from by rw [h4, hs]; omega⟩, ?_⟩
      refine ⟨show (0 : Int) ≤ IntKind.i64.wrap (8 * (k : Int)) from by rw [h8]; omega, ?_⟩
      refine ⟨hB, ?_⟩
      refine ⟨rfl, fun u hu => by simp [Value.cells] at hu; subst hu; rfl, show 0 + ((i : Int)).toNat * 1 + 1 ≤ (wF 16 (wI s.data.toList i k)).length from by rw [wF_len, offN]; omega, ?_⟩
      refine ⟨k + 1, by show k + 1 ≤ 4; omega, by show 4 - (k + 1) < 4 - k; omega, [0, 1, 2], rfl, ⟨vi (show IntKind.i64.wrap ((k : Int) + 1) = ((k + 1 : Nat) : Int) from by rw [wrap_id (by omega) (by omega)]; omega), trivial⟩, ?_, rfl, rfl, rfl⟩
      refine congrArg (fun c => [mdC h, z4C, .vals 63 c]) ?_
      rw [offN]
      refine wF_set (F := wI s.data.toList i k) (F' := wI s.data.toList i (k + 1)) hi16 (fun q hq => ?_) ?_
      · unfold wI; rw [if_neg hq, if_neg hq]
      · show Value.int .u32 (IntKind.u32.wrap ((BitVec.ofInt IntKind.u32.bits (u32I (wI s.data.toList i k i)) ||| BitVec.ofInt IntKind.u32.bits (IntKind.u32.wrap (IntKind.u32.wrap ((s.data.toList.getD (IntKind.i64.wrap (IntKind.i64.wrap (4 * (i : Int)) + (k : Int))).toNat 0).toNat : Int) * 2 ^ (min (IntKind.i64.wrap (8 * (k : Int))).toNat IntKind.u32.bits)))).toNat : Int)) = _
        rw [h4, h8, conv32, shl32 _ (8 * k) (by omega), or32]
        have e0 : wI s.data.toList i k i = mdWk s.data.toList i k := by unfold wI; rw [if_neg (by omega), if_pos rfl]
        have e1 : wI s.data.toList i (k + 1) i = mdWk s.data.toList i (k + 1) := by unfold wI; rw [if_neg (by omega), if_pos rfl]
        rw [e0, e1, Int.toNat_natCast]
        rfl
    · have hk4 : k = 4 := by have : ¬ ((k : Int) < 4) := of_decide_eq_false hlt2; omega
      subst hk4
      refine ⟨i + 1, by omega, by omega, [0, 1, 2], rfl, ⟨vi (show IntKind.i64.wrap ((i : Int) + 1) = ((i + 1 : Nat) : Int) from by rw [wrap_id (by omega) (by omega)]; omega), trivial⟩, ?_, rfl, rfl, rfl⟩
      rw [wI_next]
      rfl
  have hi16 : i = 16 := by have : ¬ ((i : Int) < 16) := of_decide_eq_false hlt; omega
  subst hi16
  refine ⟨⟨by decide, by decide⟩, ?_⟩
  refine ⟨⟨by decide, by decide⟩, ?_⟩
  refine ⟨⟨by decide, by decide⟩, ?_⟩
  refine ⟨⟨by decide, by decide⟩, ?_⟩
  refine (numbers_c g).call rfl rfl rfl ?_
  change LoopW _ _ _ _ _ _ _ _ _ _
  apply loop_rule [] (α := Nat) (fun i => [(54, .v (.int .i64 i)), (8, .v (.int .u32 (u32I (mdN (mdW s.data.toList) i h).a))), (9, .v (.int .u32 (u32I (mdN (mdW s.data.toList) i h).b))), (10, .v (.int .u32 (u32I (mdN (mdW s.data.toList) i h).c))), (11, .v (.int .u32 (u32I (mdN (mdW s.data.toList) i h).d)))]) (fun _ => [mdC h, z4C, .vals 63 (wF 16 (wI s.data.toList 16 0)), .cells 65 (turnV.map .v)]) (fun _ => g) (fun i => i ≤ 64) (fun i => 64 - i) 0
  · intro x; kernel_rfl
  · exact Nat.zero_le _
  · exact ⟨rfl, rfl, rfl, rfl, rfl, trivial⟩
  · rfl
  · rfl
  intro i hi
  obtain ⟨M, hM⟩ : ∃ M, mdN (mdW s.data.toList) i h = M := ⟨_, rfl⟩
  refine bsplit_of (fun hlt => ?_) (fun hlt => ?_)
  · have hi64 : i < 64 := by have : ((i : Int) < 64) := of_decide_eq_true hlt; omega
    refine ⟨⟨by show (0 : Int) ≤ ((i : Nat) : Int); omega, by show ((i : Nat) : Int) < 64; omega⟩, ?_⟩
    refine load1_cV (c := numsV) (x := .int .u32 (u32I (mdT i))) rfl (show numsV[((i : Int)).toNat * 1]? = _ from by rw [Int.toNat_natCast, Nat.mul_one]; exact numsV_get hi64) ?_
    refine ⟨by decide, ?_⟩
    change JoinW _ _ _ _ _ _ _ _ _ _
    refine join_rule [] (α := Unit) (fun _ => [(15, .v (.int .u32 (u32I (mdF i (mdN (mdW s.data.toList) i h).b (mdN (mdW s.data.toList) i h).c (mdN (mdW s.data.toList) i h).d)))), (16, .v (.int .i64 (gRaw i : Nat)))]) (fun _ => [mdC h, z4C, .vals 63 (wF 16 (wI s.data.toList 16 0)), .cells 65 (turnV.map .v)]) (fun _ => g) (fun _ => True) (fun y => by kernel_rfl) ?_ ?_
    · have hq : IntKind.i64.wrap ((i : Int).tdiv 16) = ((i / 16 : Nat) : Int) := by
        rw [show (i : Int).tdiv 16 = ((i / 16 : Nat) : Int) from by rw [Int.tdiv_eq_ediv_of_nonneg (by omega)]; omega, wrap_id (by omega) (by omega)]
      refine bsplit_of (fun (k0 : (IntKind.i64.wrap ((i : Int).tdiv 16) == 0) = true) => ?_) (fun (k0 : (IntKind.i64.wrap ((i : Int).tdiv 16) == 0) = false) => ?_)
      · have h1 : i < 16 := by rw [hq] at k0; have := eq_of_beq k0; omega
        exact ⟨(), trivial, [0, 1, 2, 3], rfl, ⟨vi (show (IntKind.u32.wrap ((BitVec.ofInt IntKind.u32.bits (IntKind.u32.wrap ((BitVec.ofInt IntKind.u32.bits (u32I (mdN (mdW s.data.toList) i h).b) &&& BitVec.ofInt IntKind.u32.bits (u32I (mdN (mdW s.data.toList) i h).c)).toNat : Int)) ||| BitVec.ofInt IntKind.u32.bits (IntKind.u32.wrap ((BitVec.ofInt IntKind.u32.bits (IntKind.u32.wrap ((BitVec.ofInt IntKind.u32.bits (if IntKind.u32.signed then -1 else IntKind.u32.max) ^^^ BitVec.ofInt IntKind.u32.bits (u32I (mdN (mdW s.data.toList) i h).b)).toNat : Int)) &&& BitVec.ofInt IntKind.u32.bits (u32I (mdN (mdW s.data.toList) i h).d)).toNat : Int))).toNat : Int)) = u32I (mdF i (mdN (mdW s.data.toList) i h).b (mdN (mdW s.data.toList) i h).c (mdN (mdW s.data.toList) i h).d) from by rw [not32, and32, and32, or32, mdF, if_pos h1]), vi (show (i : Int) = ((gRaw i : Nat) : Int) from by rw [gRaw, if_pos h1]), trivial⟩, rfl, rfl, rfl, rfl⟩
      have h1 : ¬ i < 16 := by rw [hq] at k0; have := ne_of_beq_false k0; omega
      refine bsplit_of (fun (k1 : (IntKind.i64.wrap ((i : Int).tdiv 16) == 1) = true) => ?_) (fun (k1 : (IntKind.i64.wrap ((i : Int).tdiv 16) == 1) = false) => ?_)
      · have h2 : i < 32 := by rw [hq] at k1; have := eq_of_beq k1; omega
        exact ⟨(), trivial, [0, 1, 2, 3], rfl, ⟨vi (show (IntKind.u32.wrap ((BitVec.ofInt IntKind.u32.bits (IntKind.u32.wrap ((BitVec.ofInt IntKind.u32.bits (u32I (mdN (mdW s.data.toList) i h).d) &&& BitVec.ofInt IntKind.u32.bits (u32I (mdN (mdW s.data.toList) i h).b)).toNat : Int)) ||| BitVec.ofInt IntKind.u32.bits (IntKind.u32.wrap ((BitVec.ofInt IntKind.u32.bits (IntKind.u32.wrap ((BitVec.ofInt IntKind.u32.bits (if IntKind.u32.signed then -1 else IntKind.u32.max) ^^^ BitVec.ofInt IntKind.u32.bits (u32I (mdN (mdW s.data.toList) i h).d)).toNat : Int)) &&& BitVec.ofInt IntKind.u32.bits (u32I (mdN (mdW s.data.toList) i h).c)).toNat : Int))).toNat : Int)) = u32I (mdF i (mdN (mdW s.data.toList) i h).b (mdN (mdW s.data.toList) i h).c (mdN (mdW s.data.toList) i h).d) from by rw [not32, and32, and32, or32, mdF, if_neg h1, if_pos h2]), vi (show IntKind.i64.wrap (IntKind.i64.wrap (5 * (i : Int)) + 1) = ((gRaw i : Nat) : Int) from by rw [gRaw, if_neg h1, if_pos h2]; rw [show IntKind.i64.wrap (5 * (i : Int)) = 5 * (i : Int) from wrap_id (by omega) (by omega), wrap_id (by omega) (by omega)]; omega), trivial⟩, rfl, rfl, rfl, rfl⟩
      have h2 : ¬ i < 32 := by rw [hq] at k1; have := ne_of_beq_false k1; omega
      refine bsplit_of (fun (k2 : (IntKind.i64.wrap ((i : Int).tdiv 16) == 2) = true) => ?_) (fun (k2 : (IntKind.i64.wrap ((i : Int).tdiv 16) == 2) = false) => ?_)
      · have h3 : i < 48 := by rw [hq] at k2; have := eq_of_beq k2; omega
        exact ⟨(), trivial, [0, 1, 2, 3], rfl, ⟨vi (show (IntKind.u32.wrap ((BitVec.ofInt IntKind.u32.bits (IntKind.u32.wrap ((BitVec.ofInt IntKind.u32.bits (u32I (mdN (mdW s.data.toList) i h).b) ^^^ BitVec.ofInt IntKind.u32.bits (u32I (mdN (mdW s.data.toList) i h).c)).toNat : Int)) ^^^ BitVec.ofInt IntKind.u32.bits (u32I (mdN (mdW s.data.toList) i h).d)).toNat : Int)) = u32I (mdF i (mdN (mdW s.data.toList) i h).b (mdN (mdW s.data.toList) i h).c (mdN (mdW s.data.toList) i h).d) from by rw [xor32, xor32, mdF, if_neg h1, if_neg h2, if_pos h3]), vi (show IntKind.i64.wrap (IntKind.i64.wrap (3 * (i : Int)) + 5) = ((gRaw i : Nat) : Int) from by rw [gRaw, if_neg h1, if_neg h2, if_pos h3]; rw [show IntKind.i64.wrap (3 * (i : Int)) = 3 * (i : Int) from wrap_id (by omega) (by omega), wrap_id (by omega) (by omega)]; omega), trivial⟩, rfl, rfl, rfl, rfl⟩
      have h3 : ¬ i < 48 := by rw [hq] at k2; have := ne_of_beq_false k2; omega
      exact ⟨(), trivial, [0, 1, 2, 3], rfl, ⟨vi (show (IntKind.u32.wrap ((BitVec.ofInt IntKind.u32.bits (u32I (mdN (mdW s.data.toList) i h).c) ^^^ BitVec.ofInt IntKind.u32.bits (IntKind.u32.wrap ((BitVec.ofInt IntKind.u32.bits (u32I (mdN (mdW s.data.toList) i h).b) ||| BitVec.ofInt IntKind.u32.bits (IntKind.u32.wrap ((BitVec.ofInt IntKind.u32.bits (if IntKind.u32.signed then -1 else IntKind.u32.max) ^^^ BitVec.ofInt IntKind.u32.bits (u32I (mdN (mdW s.data.toList) i h).d)).toNat : Int))).toNat : Int))).toNat : Int)) = u32I (mdF i (mdN (mdW s.data.toList) i h).b (mdN (mdW s.data.toList) i h).c (mdN (mdW s.data.toList) i h).d) from by rw [not32, or32, xor32, mdF, if_neg h1, if_neg h2, if_neg h3]), vi (show IntKind.i64.wrap (7 * (i : Int)) = ((gRaw i : Nat) : Int) from by rw [gRaw, if_neg h1, if_neg h2, if_neg h3]; rw [wrap_id (by omega) (by omega)]; omega), trivial⟩, rfl, rfl, rfl, rfl⟩
    intro _ _
    refine ⟨by decide, ?_⟩
    have hgm : ((gRaw i : Nat) : Int).tmod 16 = ((mdG i : Nat) : Int) := by rw [← gRaw_mod, Int.tmod_eq_emod_of_nonneg (by omega)]; omega
    have hg16 := mdG_lt hi64
    refine ⟨⟨show (0 : Int) ≤ ((gRaw i : Nat) : Int).tmod 16 from by rw [hgm]; omega, show ((gRaw i : Nat) : Int).tmod 16 < 16 from by rw [hgm]; omega⟩, ?_⟩
    refine load1_at (x := .int .u32 (u32I (wI s.data.toList 16 0 (mdG i)))) (show (wF 16 (wI s.data.toList 16 0))[0 + (((gRaw i : Nat) : Int).tmod 16).toNat * 1]? = _ from by rw [hgm, offN]; exact wF_get hg16) ?_
    have hq : IntKind.i64.wrap ((i : Int).tdiv 16) = ((i / 16 : Nat) : Int) := by
      rw [show (i : Int).tdiv 16 = ((i / 16 : Nat) : Int) from by rw [Int.tdiv_eq_ediv_of_nonneg (by omega)]; omega, wrap_id (by omega) (by omega)]
    have hr : (i : Int).tmod 4 = ((i % 4 : Nat) : Int) := by rw [Int.tmod_eq_emod_of_nonneg (by omega)]; omega
    refine ⟨by decide, ?_⟩
    refine ⟨by decide, ?_⟩
    refine ⟨⟨show (0 : Int) ≤ IntKind.i64.wrap ((i : Int).tdiv 16) from by rw [hq]; omega, show IntKind.i64.wrap ((i : Int).tdiv 16) < 4 from by rw [hq]; omega⟩, ?_⟩
    refine ⟨⟨show (0 : Int) ≤ (i : Int).tmod 4 from by rw [hr]; omega, show (i : Int).tmod 4 < 4 from by rw [hr]; omega⟩, ?_⟩
    refine load1_cV (c := turnV) (x := .int .i64 ((mdR i : Nat) : Int)) rfl (show turnV[0 + (IntKind.i64.wrap ((i : Int).tdiv 16)).toNat * 4 + ((i : Int).tmod 4).toNat * 1]? = _ from by rw [hq, hr, Int.toNat_natCast, Int.toNat_natCast, Nat.zero_add, Nat.mul_one]; exact turnV_get hi64) ?_
    have hw16 : wI s.data.toList 16 0 (mdG i) = mdW s.data.toList (mdG i) := by unfold wI; rw [if_pos hg16]
    have hv : IntKind.u32.wrap ((u32I (mdF i (mdN (mdW s.data.toList) i h).b (mdN (mdW s.data.toList) i h).c (mdN (mdW s.data.toList) i h).d)) + IntKind.u32.wrap (IntKind.u32.wrap ((u32I (mdN (mdW s.data.toList) i h).a) + u32I (mdT i)) + (u32I (wI s.data.toList 16 0 (mdG i))))) = u32I (mdF i (mdN (mdW s.data.toList) i h).b (mdN (mdW s.data.toList) i h).c (mdN (mdW s.data.toList) i h).d + (((mdN (mdW s.data.toList) i h).a + mdT i) + mdW s.data.toList (mdG i))) := by rw [hw16, add32, add32, add32]
    refine (rotl_c (IntKind.u32.wrap ((u32I (mdF i (mdN (mdW s.data.toList) i h).b (mdN (mdW s.data.toList) i h).c (mdN (mdW s.data.toList) i h).d)) + IntKind.u32.wrap (IntKind.u32.wrap ((u32I (mdN (mdW s.data.toList) i h).a) + u32I (mdT i)) + (u32I (wI s.data.toList 16 0 (mdG i)))))) _ hv (mdR i) (mdR_lt i hi64).2 g).call rfl rfl rfl ?_
    exact ⟨i + 1, by show i + 1 ≤ 64; omega, by show 64 - (i + 1) < 64 - i; omega, [0, 1, 2, 3], rfl, ⟨vi (show IntKind.i64.wrap ((i : Int) + 1) = ((i + 1 : Nat) : Int) from by rw [wrap_id (by omega) (by omega)]; omega), vi rfl, vi (add32 _ _), vi rfl, vi rfl, trivial⟩, rfl, rfl, rfl, rfl⟩
  · have hi64 : i = 64 := by have : ¬ ((i : Int) < 64) := of_decide_eq_false hlt; omega
    subst hi64
    refine ⟨⟨by decide, by decide⟩, ?_⟩
    refine ⟨⟨by decide, by decide⟩, ?_⟩
    refine ⟨⟨by decide, by decide⟩, ?_⟩
    refine ⟨⟨by decide, by decide⟩, ?_⟩
    refine ⟨?_, rfl, rfl⟩
    show Out.ret (SV.agg [.v (.int .u32 (IntKind.u32.wrap (u32I h.a + u32I (mdN (mdW s.data.toList) 64 h).a))), .v (.int .u32 (IntKind.u32.wrap (u32I h.b + u32I (mdN (mdW s.data.toList) 64 h).b))), .v (.int .u32 (IntKind.u32.wrap (u32I h.c + u32I (mdN (mdW s.data.toList) 64 h).c))), .v (.int .u32 (IntKind.u32.wrap (u32I h.d + u32I (mdN (mdW s.data.toList) 64 h).d)))]) = _
    rw [add32, add32, add32, add32]
    rfl
end Go.Proofs.YtdbkceojpeboeaaDoor
