/- md5.Sum: what it returns. Conditions: the text is not longer than 10000 bytes. -/
import Derived.Test.YtdbkceojpeboeaaDoorXmdb
import Derived.Test.YtdbkceojpeboeaaDoorMdA
import Derived.Test.YtdbkceojpeboeaaDoorMdP
import Derived.Test.YtdbkceojpeboeaaDoorShelfR
namespace Go.Proofs.YtdbkceojpeboeaaDoor
open Go.Sx Go.Lib Go.RowKit
set_option maxRecDepth 100000
set_option maxHeartbeats 8000000
attribute [local irreducible] Meets

theorem repZ_c (n : Nat) (hn : n ≤ 100) (v : Int) (hv : v = n) (g : G) : Tells Tryd.prog 15 [.v (.string ⟨#[0]⟩), .v (.int .i64 v)] g (.v (.string (ofL (List.replicate n 0)))) := by
  subst hv
  refine Tells.of_below (by kernel_rfl) rfl fun _ w _ => ?_
  have h := sh_strings_Repeat ⟨#[0]⟩ n w (by omega) (by show 1 * n ≤ _; omega)
  have e : repeatL (ByteArray.mk #[0]).data.toList n = List.replicate n 0 := by
    show repeatL [0] n = _
    have := repeatL_replicate 0 1 n
    rw [Nat.mul_one] at this
    exact this
  rw [e] at h
  exact h
theorem ofL_ne (l : List UInt8) : (!((ofL l).toList == (⟨#[]⟩ : ByteArray).toList)) = !(l == []) := by
  rw [str_beq]
  congr 1
  rw [Bool.eq_iff_iff]
  simp only [decide_eq_true_eq, beq_iff_eq]
  constructor
  · intro h
    have := congrArg (fun x : ByteArray => x.data.toList) h
    simpa [ofL] using this
  · intro h; subst h; rfl
theorem svS {a b : ByteArray} (h : a = b) : SV.v (.string a) = .v (.string b) := by rw [h]
theorem byteLow (n : Nat) : UInt8.ofNat (IntKind.u8.wrap (n : Int)).toNat = UInt8.ofNat n := by
  have e : IntKind.u8.wrap (n : Int) = ((n % 256 : Nat) : Int) := by
    simp only [IntKind.wrap, IntKind.signed, IntKind.bits]
    simp
  rw [e, Int.toNat_natCast]
  apply UInt8.toNat_inj.1
  simp
theorem lenRaw (n k : Nat) (hk : k < 8) : bytesOfInts [IntKind.u8.wrap ((n : Int).fdiv (2 ^ (min (IntKind.i64.wrap (8 * (k : Int))).toNat IntKind.u64.bits)))] = ofL [leB n k] := by
  have e8 : IntKind.i64.wrap (8 * (k : Int)) = ((8 * k : Nat) : Int) := by rw [wrap_id (by omega) (by omega)]; omega
  have em : min (((8 * k : Nat) : Int)).toNat IntKind.u64.bits = 8 * k := by
    rw [Int.toNat_natCast]; exact Nat.min_eq_left (by show 8 * k ≤ 64; omega)
  rw [e8, em, show ((2 : Int) ^ (8 * k)) = ((2 ^ (8 * k) : Nat) : Int) from by push_cast; rfl, Int.fdiv_eq_ediv_of_nonneg _ (Int.natCast_nonneg _)]
  show ofL [UInt8.ofNat (IntKind.u8.wrap (((n / 2 ^ (8 * k) : Nat)) : Int)).toNat] = _
  rw [byteLow, leB, Nat.pow_mul]
def wordV (h : Md) : List Value := [.int .u32 (u32I h.a), .int .u32 (u32I h.b), .int .u32 (u32I h.c), .int .u32 (u32I h.d)]
theorem wordV_get (h : Md) {q : Nat} (hq : q < 4) : (wordV h)[q]? = some (.int .u32 (u32I (mdWord h q))) := by
  rcases q with _ | _ | _ | _ | q
  · rfl
  · rfl
  · rfl
  · rfl
  · omega
theorem outRaw (w : BitVec 32) (r : Nat) (hr : r < 4) : IntKind.u8.wrap ((u32I w).fdiv (2 ^ (min (((8 * r : Nat) : Int)).toNat IntKind.u32.bits))) = ((UInt8.ofNat (w.toNat / 256 ^ r)).toNat : Int) := by
  have em : min (((8 * r : Nat) : Int)).toNat IntKind.u32.bits = 8 * r := by
    rw [Int.toNat_natCast]; exact Nat.min_eq_left (by show 8 * r ≤ 32; omega)
  rw [em, u32I, show ((2 : Int) ^ (8 * r)) = ((2 ^ (8 * r) : Nat) : Int) from by push_cast; rfl, Int.fdiv_eq_ediv_of_nonneg _ (Int.natCast_nonneg _), Nat.pow_mul]
  show IntKind.u8.wrap (((w.toNat / 256 ^ r : Nat)) : Int) = _
  simp only [IntKind.wrap, IntKind.signed, IntKind.bits]
  simp
theorem mdSum_c (s : ByteArray) (hs : s.size ≤ 10000) (g : G) : Meets Tryd.prog 5 [.v (.string s)] [] g (fun o L' g' => o = .ret (.v (.string (mdSum s))) ∧ L' = [] ∧ G.le g g') := by
  have hl : s.data.toList.length = s.size := by rw [Array.length_toList]; rfl
  obtain ⟨l, hL⟩ : ∃ l, s.data.toList = l := ⟨_, rfl⟩
  have hll : l.length = s.size := by rw [← hL]; exact hl
  have hsz1 : (s ++ (⟨#[128]⟩ : ByteArray)).size = s.size + 1 := by rw [ByteArray.size_append]; rfl
  have hz := mdZ_lt s.size
  have hrep : (IntKind.i64.wrap (120 - (((s ++ (⟨#[128]⟩ : ByteArray)).size : Nat) : Int).tmod 64)).tmod 64 = ((mdZ s.size : Nat) : Int) := by
    rw [hsz1, Int.tmod_eq_emod_of_nonneg (a := ((s.size + 1 : Nat) : Int)) (by omega), wrap_id (by omega) (by omega), Int.tmod_eq_emod_of_nonneg (by omega)]
    unfold mdZ; omega
  have hn : IntKind.u64.wrap (IntKind.u64.wrap (s.size : Int) * 8) = ((8 * s.size : Nat) : Int) := by
    have e : ∀ n : Nat, n < 1000000 → IntKind.u64.wrap (n : Int) = n := fun n hn => by
      simp only [IntKind.wrap, IntKind.signed, IntKind.bits]
      simp
      omega
    rw [e s.size (by omega), show (s.size : Int) * 8 = ((8 * s.size : Nat) : Int) by omega, e _ (by omega)]
  have hP := mdPad_len l
  have hhead : (s ++ (⟨#[128]⟩ : ByteArray)) ++ ofL (List.replicate (mdZ s.size) 0) = ofL (mdHead l ++ mdLen l 0) := by
    rw [← ofL_self s, hL, show (⟨#[128]⟩ : ByteArray) = ofL [128] from rfl, ofL_app, ofL_app, ofL_size]
    simp [mdHead, mdLen]
  refine meets_of mixedM Tryd.func5 (by kernel_rfl) x5_ok (some []) ?_
  refine ⟨by show s.size + 1 ≤ _; omega, ?_⟩
  refine ⟨by decide, ?_⟩
  refine ⟨by decide, ?_⟩
  refine (repZ_c (mdZ s.size) (by omega) _ hrep g).call rfl rfl rfl ?_
  refine ⟨by show (s ++ (⟨#[128]⟩ : ByteArray)).size + (ofL (List.replicate (mdZ s.size) 0)).size ≤ _; rw [hsz1, ofL_size, List.length_replicate]; omega, ?_⟩
  change LoopW _ _ _ _ _ _ _ _ _ _
  apply loop_rule [] (α := Nat) (fun k => [(0, .v (.string (ofL (mdHead l ++ mdLen l k)))), (23, .v (.int .i64 k))]) (fun _ => [mdC mdH0]) (fun _ => g) (fun k => k ≤ 8) (fun k => 8 - k) 0
  · intro x; kernel_rfl
  · exact Nat.zero_le _
  · exact ⟨svS hhead, rfl, trivial⟩
  · kernel_rfl
  · rfl
  intro k hk
  refine bsplit_of (fun hlt => ?_) (fun hlt => ?_)
  · have hk8 : k < 8 := by have : ((k : Int) < 8) := of_decide_eq_true hlt; omega
    refine ⟨show (0 : Int) ≤ IntKind.i64.wrap (8 * (k : Int)) from by rw [wrap_id (by omega) (by omega)]; omega, ?_⟩
    refine ⟨by show (ofL (mdHead l ++ mdLen l k)).size + 1 ≤ _; rw [ofL_size, List.length_append, mdHead_len, mdLen_len, hll]; omega, ?_⟩
    refine ⟨k + 1, by show k + 1 ≤ 8; omega, by show 8 - (k + 1) < 8 - k; omega, [0], rfl, ⟨svS ?_, vi (show IntKind.i64.wrap ((k : Int) + 1) = ((k + 1 : Nat) : Int) from by rw [wrap_id (by omega) (by omega)]; omega), trivial⟩, rfl, rfl, rfl, rfl⟩
    show ofL (mdHead l ++ mdLen l k) ++ bytesOfInts [IntKind.u8.wrap ((IntKind.u64.wrap (IntKind.u64.wrap (s.size : Int) * 8)).fdiv (2 ^ (min (IntKind.i64.wrap (8 * (k : Int))).toNat IntKind.u64.bits)))] = _
    rw [hn, lenRaw _ k hk8, ofL_app, List.append_assoc, mdLen_next, hll]
  have hk8 : k = 8 := by have : ¬ ((k : Int) < 8) := of_decide_eq_false hlt; omega
  subst hk8
  change LoopW _ _ _ _ _ _ _ _ _ _
  apply loop_rule [] (α := Nat) (fun j => [(0, .v (.string (ofL ((mdPad l).drop (64 * j)))))]) (fun j => [mdC (mdRun (mdPad l) j)]) (fun _ => g) (fun j => j ≤ mdBlks l.length) (fun j => mdBlks l.length - j) 0
  · intro x; kernel_rfl
  · exact Nat.zero_le _
  · exact ⟨rfl, trivial⟩
  · rfl
  · rfl
  intro j hj
  have hjl : ((mdPad l).drop (64 * j)).length = 64 * (mdBlks l.length - j) := by rw [List.length_drop, hP, Nat.mul_sub]
  refine bsplit_of (fun hne => ?_) (fun hne => ?_)
  · have hjb : j < mdBlks l.length := by
      rcases Nat.lt_or_ge j (mdBlks l.length) with h1 | h1
      · exact h1
      · have : ((mdPad l).drop (64 * j)) = [] := List.eq_nil_of_length_eq_zero (by rw [hjl]; omega)
        rw [this, ofL_ne] at hne
        exact absurd hne (by decide)
    obtain ⟨X, hX⟩ : ∃ X, (mdPad l).drop (64 * j) = X := ⟨_, rfl⟩
    have hXl : 64 ≤ X.length := by rw [← hX, hjl]; omega
    have hXs : (ofL X).size = X.length := ofL_size X
    have hT : (ofL X).extract 0 64 = ofL (X.take 64) := ofL_take X 64
    have hD : (ofL X).extract 64 (ofL X).size = ofL (X.drop 64) := ofL_drop X 64 _ hXs
    have hTs : ((ofL X).extract 0 64).size = 64 := by rw [hT, ofL_size, List.length_take]; omega
    have hB := block_c (mdRun (mdPad l) j) ((ofL X).extract 0 64) hTs g
    rw [← hX] at hXl hXs hT hD hTs hB
    refine ⟨⟨by decide, show ((64 : Int)) ≤ ((ofL ((mdPad l).drop (64 * j))).size : Int) from by rw [hXs]; omega⟩, ?_⟩
    refine hB.call rfl rfl rfl ?_
    refine ⟨⟨by decide, show ((64 : Int)) ≤ ((ofL ((mdPad l).drop (64 * j))).size : Int) from by rw [hXs]; omega⟩, ?_⟩
    refine ⟨j + 1, hjb, by show mdBlks l.length - (j + 1) < mdBlks l.length - j; omega, [0], rfl, ⟨vs ?_, trivial⟩, ?_, rfl, rfl, rfl⟩
    · show (ofL ((mdPad l).drop (64 * j))).extract 64 _ = _
      refine Eq.trans hD ?_
      rw [List.drop_drop]
      congr 2
    · show [mdC (mdBlock (mdRun (mdPad l) j) (mdW ((ofL ((mdPad l).drop (64 * j))).extract 0 64).data.toList))] = [mdC (mdRun (mdPad l) (j + 1))]
      rw [hT]
      rfl
  · have hjb : j = mdBlks l.length := by
      rw [ofL_ne] at hne
      have h0 : ((mdPad l).drop (64 * j)) = [] := by simpa using hne
      have := congrArg List.length h0
      rw [hjl] at this
      simp at this
      omega
    subst hjb
    obtain ⟨H, hH⟩ : ∃ H, mdRun (mdPad l) (mdBlks l.length) = H := ⟨_, rfl⟩
    have hHS : mdSum s = ofL (mdOut H 16) := by rw [mdSum, hL, ← hll, hH]
    rw [hHS]
    refine prim_makeC (t := 38) (e := 5) (i := Tryd.t5) (z := .int .u8 0) (zv := .int .u8 0) 1 rfl (by kernel_rfl) (by kernel_rfl) (by kernel_rfl) rfl rfl rfl ⟨by decide, by decide, by decide, by decide⟩ (vF 16 (fun j => .int .u8 (if j < 0 then ((mdOutB H j).toNat : Int) else 0))) (by kernel_rfl) ?_
    change LoopW _ _ _ _ _ _ _ _ _ _
    apply loop_rule [] (α := Nat) (fun i => [(47, .v (.int .i64 i))]) (fun i => [mdC H, .vals 5 (vF 16 (fun j => .int .u8 (if j < i then ((mdOutB H j).toNat : Int) else 0)))]) (fun _ => g) (fun i => i ≤ 16) (fun i => 16 - i) 0
    · intro x; kernel_rfl
    · exact Nat.zero_le _
    · exact ⟨rfl, trivial⟩
    · rw [← hH]; rfl
    · rfl
    intro i hi
    refine bsplit_of (fun hlt => ?_) (fun hlt => ?_)
    · have hi16 : i < 16 := by have : ((i : Int) < 16) := of_decide_eq_true hlt; omega
      refine ⟨by decide, ?_⟩
      have hq : IntKind.i64.wrap ((i : Int).tdiv 4) = ((i / 4 : Nat) : Int) := by
        rw [show (i : Int).tdiv 4 = ((i / 4 : Nat) : Int) from by rw [Int.tdiv_eq_ediv_of_nonneg (by omega)]; omega, wrap_id (by omega) (by omega)]
      have hr : (i : Int).tmod 4 = ((i % 4 : Nat) : Int) := by rw [Int.tmod_eq_emod_of_nonneg (by omega)]; omega
      have h8 : IntKind.i64.wrap (8 * (i : Int).tmod 4) = ((8 * (i % 4) : Nat) : Int) := by rw [hr, wrap_id (by omega) (by omega)]; omega
      refine ⟨⟨show (0 : Int) ≤ IntKind.i64.wrap ((i : Int).tdiv 4) from by rw [hq]; omega, show IntKind.i64.wrap ((i : Int).tdiv 4) < 4 from by rw [hq]; omega⟩, ?_⟩
      refine load1_cV (c := wordV H) (x := .int .u32 (u32I (mdWord H (i / 4)))) rfl (show (wordV H)[0 + (IntKind.i64.wrap ((i : Int).tdiv 4)).toNat * 1]? = _ from by rw [hq, offN]; exact wordV_get H (by omega)) ?_
      refine ⟨by decide, ?_⟩
      refine ⟨show (0 : Int) ≤ IntKind.i64.wrap (8 * (i : Int).tmod 4) from by rw [h8]; omega, ?_⟩
      refine ⟨⟨by show (0 : Int) ≤ ((i : Nat) : Int); omega, by show ((i : Nat) : Int) < ((16 : Nat) : Int); omega⟩, ?_⟩
      refine ⟨rfl, fun u hu => by simp [Value.cells] at hu; subst hu; rfl, show 0 + ((i : Int)).toNat * 1 + 1 ≤ (vF 16 _).length from by rw [vF_len, offN]; omega, ?_⟩
      refine ⟨i + 1, by show i + 1 ≤ 16; omega, by show 16 - (i + 1) < 16 - i; omega, [0, 1], rfl, ⟨vi (show IntKind.i64.wrap ((i : Int) + 1) = ((i + 1 : Nat) : Int) from by rw [wrap_id (by omega) (by omega)]; omega), trivial⟩, ?_, rfl, rfl, rfl⟩
      refine congrArg (fun c => [mdC H, .vals 5 c]) ?_
      rw [offN]
      refine vF_set hi16 (fun q hq => ?_) ?_
      · have : (q < i + 1) = (q < i) := by simp only [eq_iff_iff]; omega
        simp only [this]
      · show Value.int .u8 (IntKind.u8.wrap ((u32I (mdWord H (i / 4))).fdiv (2 ^ (min (IntKind.i64.wrap (8 * (i : Int).tmod 4)).toNat IntKind.u32.bits)))) = _
        rw [h8, outRaw _ _ (by omega), if_pos (by omega)]
        rfl
    · have hi16 : i = 16 := by have : ¬ ((i : Int) < 16) := of_decide_eq_false hlt; omega
      subst hi16
      refine ⟨by rw [vF_len]; decide, ?_⟩
      refine ⟨(List.range 16).map fun j => ((mdOutB H j).toNat : Int), ?_, ?_⟩
      · show ((vF 16 _).drop 0).take 16 = _
        rw [List.drop_zero, List.take_of_length_le (by rw [vF_len]; exact Nat.le_refl _), vF, List.map_map]
        refine List.map_congr_left fun j hj => ?_
        rw [if_pos (List.mem_range.1 hj)]
        rfl
      · refine ⟨rs ?_, rfl, fun _ _ h => h⟩
        show bytesOfInts _ = ofL _
        rw [bytesOfInts, List.map_map, mdOut]
        refine congrArg (fun x : List UInt8 => (⟨x.toArray⟩ : ByteArray)) (List.map_congr_left fun j _ => ?_)
        show UInt8.ofNat ((mdOutB H j).toNat : Int).toNat = mdOutB H j
        rw [Int.toNat_natCast]
        exact UInt8.ofNat_toNat
end Go.Proofs.YtdbkceojpeboeaaDoor
