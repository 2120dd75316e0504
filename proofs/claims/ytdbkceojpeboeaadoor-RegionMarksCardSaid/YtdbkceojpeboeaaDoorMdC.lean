/- md5.Hmac: what it returns. Conditions: the key is not longer than 5000 bytes, the text than 9000. -/
import Derived.Test.YtdbkceojpeboeaaDoorMdB
import Derived.Test.YtdbkceojpeboeaaDoorBaseD
namespace Go.Proofs.YtdbkceojpeboeaaDoor
open Go.Sx Go.Lib Go.RowKit
set_option maxRecDepth 100000
set_option maxHeartbeats 8000000
attribute [local irreducible] Meets

def bI (b : UInt8) : Value := .int .u8 (b.toNat : Int)
theorem u8w {n : Nat} (h : n < 256) : IntKind.u8.wrap (n : Int) = n := by
  simp only [IntKind.wrap, IntKind.signed, IntKind.bits]
  simp
  omega
theorem xor8 (b : UInt8) (c : Nat) (hc : c < 256) : IntKind.u8.wrap ((BitVec.ofInt IntKind.u8.bits (b.toNat : Int) ^^^ BitVec.ofInt IntKind.u8.bits (c : Int)).toNat : Int) = ((b ^^^ UInt8.ofNat c).toNat : Int) := by
  have e1 : BitVec.ofInt IntKind.u8.bits (b.toNat : Int) = b.toBitVec := by
    show BitVec.ofInt 8 (b.toNat : Int) = _
    rw [BitVec.ofInt_natCast]; simp
  have e2 : BitVec.ofInt IntKind.u8.bits (c : Int) = (UInt8.ofNat c).toBitVec := by
    show BitVec.ofInt 8 (c : Int) = _
    rw [BitVec.ofInt_natCast]; rfl
  rw [e1, e2]
  have hlt := (b ^^^ UInt8.ofNat c).toNat_lt
  exact u8w hlt
/-- A key's bytes, so many of them turned. -/
def kF (K : List UInt8) (x : UInt8) (i : Nat) : List Value := vF 64 fun j => bI (if j < i then K.getD j 0 ^^^ x else K.getD j 0)
theorem kF_str (K : List UInt8) (x : UInt8) : bytesOfInts ((List.range 64).map fun j => ((K.getD j 0 ^^^ x).toNat : Int)) = ofL (hPad K x) := by
  rw [bytesOfInts, List.map_map, hPad]
  refine congrArg (fun x : List UInt8 => (⟨x.toArray⟩ : ByteArray)) (List.map_congr_left fun j _ => ?_)
  show UInt8.ofNat (((K.getD j 0 ^^^ x).toNat : Nat) : Int).toNat = _
  rw [Int.toNat_natCast]
  exact UInt8.ofNat_toNat
theorem kF_end (K : List UInt8) (x : UInt8) : ((kF K x 64).drop 0).take 64 = ((List.range 64).map fun j => ((K.getD j 0 ^^^ x).toNat : Int)).map (Value.int .u8) := by
  rw [List.drop_zero, List.take_of_length_le (by rw [kF, vF_len]; exact Nat.le_refl _), kF, vF, List.map_map]
  refine List.map_congr_left fun j hj => ?_
  rw [if_pos (List.mem_range.1 hj)]
  rfl
theorem kF_copy (K : List UInt8) (x : UInt8) (hK : K.length ≤ 64) : (List.replicate 64 (Value.int .u8 0)).take 0 ++ (strCells (ofL K) ++ (List.replicate 64 (Value.int .u8 0)).drop (0 + (ofL K).size)) = kF K x 0 := by
  apply List.ext_getElem?
  intro i
  have hs : strCells (ofL K) = K.map bI := rfl
  rw [List.take_zero, List.nil_append, hs, ofL_size, Nat.zero_add, List.drop_replicate]
  by_cases h1 : i < K.length
  · rw [List.getElem?_append_left (by simpa using h1), kF, vF_get (by omega), if_neg (by omega), List.getElem?_map, List.getElem?_eq_getElem h1, List.getD_eq_getElem?_getD, List.getElem?_eq_getElem h1]
    rfl
  · rw [List.getElem?_append_right (by simpa using Nat.le_of_not_lt h1), List.length_map]
    by_cases h2 : i < 64
    · rw [kF, vF_get h2, if_neg (by omega), List.getElem?_replicate, if_pos (by omega), List.getD_eq_getElem?_getD, List.getElem?_eq_none (by omega)]
      rfl
    · rw [List.getElem?_replicate, if_neg (by omega), List.getElem?_eq_none (by rw [kF, vF_len]; omega)]
theorem hKey_len (key : ByteArray) : (hKey key).length ≤ 64 := by
  unfold hKey
  split
  · rw [Array.length_toList]; show (mdSum key).size ≤ 64; rw [mdSum_size]; decide
  · rw [Array.length_toList]; show key.size ≤ 64; omega
theorem hPad_len (K : List UInt8) (x : UInt8) : (hPad K x).length = 64 := by simp [hPad]
theorem mdHmac_c (key s : ByteArray) (hk : key.size ≤ 5000) (hs : s.size ≤ 9000) (g : G) : Meets Tryd.prog 7 [.v (.string key), .v (.string s)] [] g (fun o L' g' => o = .ret (.v (.string (mdHmac key s))) ∧ L' = [] ∧ G.le g g') := by
  refine meets_ofJ mixedM Tryd.func7 (by kernel_rfl) x7_ok (some []) ?_
  change JoinW _ _ _ _ _ _ _ _ _ _
  refine join_rule [] (α := G) (fun _ => [(0, .v (.string (ofL (hKey key))))]) (fun _ => []) (fun y => y) (fun y => G.le g y) (fun y => by kernel_rfl) ?_ ?_
  · refine bsplit_of (fun h => ?_) (fun h => ?_)
    · have h : key.size > 64 := by have : ((key.size : Int) > 64) := of_decide_eq_true h; omega
      refine (mdSum_c key (by omega) g).call0 rfl rfl 0 rfl ?_
      rintro o L1 g1 ⟨rfl, rfl, hle⟩
      exact ⟨g1, hle, [], rfl, ⟨vs (by rw [hKey, if_pos h, ofL_self]), trivial⟩, rfl, rfl, rfl, rfl⟩
    · have h : ¬ key.size > 64 := by have : ¬ ((key.size : Int) > 64) := of_decide_eq_false h; omega
      exact ⟨g, fun _ _ h => h, [], rfl, ⟨vs (by rw [hKey, if_neg h, ofL_self]), trivial⟩, rfl, rfl, rfl, rfl⟩
  intro g1 hg1
  obtain ⟨K, hK⟩ : ∃ K, hKey key = K := ⟨_, rfl⟩
  have hKl : K.length ≤ 64 := by rw [← hK]; exact hKey_len key
  have hKs : (ofL (hKey key)).size ≤ 64 := by rw [ofL_size, hK]; exact hKl
  change JoinW _ _ _ _ _ _ _ _ _ _
  refine join_rule [0, 1] (α := Unit) (fun _ => [(5, .slc 0 0 64 64), (6, .slc 1 0 64 64)]) (fun _ => [.vals 5 (List.replicate 64 (.int .u8 0)), .vals 5 (List.replicate 64 (.int .u8 0))]) (fun _ => g1) (fun _ => True) (fun y => by kernel_rfl) ?_ ?_
  · skip
    refine And.intro ?_ ?_
    · skip
      first | refine prim_make (t := 38) (e := 5) (i := Tryd.t5) (z := .int .u8 0) (zv := .int .u8 0) 0 rfl (by kernel_rfl) (by kernel_rfl) (by kernel_rfl) rfl rfl rfl ⟨by decide, by decide, by decide, by decide⟩ ?_ | refine prim_make (t := 38) (e := 5) (i := Tryd.t5) (z := .int .u8 0) (zv := .int .u8 0) 1 rfl (by kernel_rfl) (by kernel_rfl) (by kernel_rfl) rfl rfl rfl ⟨by decide, by decide, by decide, by decide⟩ ?_
      refine And.intro ?_ ?_
      · skip
        first | refine prim_make (t := 38) (e := 5) (i := Tryd.t5) (z := .int .u8 0) (zv := .int .u8 0) 0 rfl (by kernel_rfl) (by kernel_rfl) (by kernel_rfl) rfl rfl rfl ⟨by decide, by decide, by decide, by decide⟩ ?_ | refine prim_make (t := 38) (e := 5) (i := Tryd.t5) (z := .int .u8 0) (zv := .int .u8 0) 1 rfl (by kernel_rfl) (by kernel_rfl) (by kernel_rfl) rfl rfl rfl ⟨by decide, by decide, by decide, by decide⟩ ?_
        first | exact ⟨(), trivial, [0, 1], rfl, ⟨rfl, rfl, trivial⟩, rfl, rfl, rfl, rfl⟩ | exact ⟨(), trivial, [1, 0], rfl, ⟨rfl, rfl, trivial⟩, rfl, rfl, rfl, rfl⟩
      first | refine prim_make (t := 38) (e := 5) (i := Tryd.t5) (z := .int .u8 0) (zv := .int .u8 0) 0 rfl (by kernel_rfl) (by kernel_rfl) (by kernel_rfl) rfl rfl rfl ⟨by decide, by decide, by decide, by decide⟩ ?_ | refine prim_make (t := 38) (e := 5) (i := Tryd.t5) (z := .int .u8 0) (zv := .int .u8 0) 1 rfl (by kernel_rfl) (by kernel_rfl) (by kernel_rfl) rfl rfl rfl ⟨by decide, by decide, by decide, by decide⟩ ?_
      first | exact ⟨(), trivial, [0, 1], rfl, ⟨rfl, rfl, trivial⟩, rfl, rfl, rfl, rfl⟩ | exact ⟨(), trivial, [1, 0], rfl, ⟨rfl, rfl, trivial⟩, rfl, rfl, rfl, rfl⟩
    first | refine prim_make (t := 38) (e := 5) (i := Tryd.t5) (z := .int .u8 0) (zv := .int .u8 0) 0 rfl (by kernel_rfl) (by kernel_rfl) (by kernel_rfl) rfl rfl rfl ⟨by decide, by decide, by decide, by decide⟩ ?_ | refine prim_make (t := 38) (e := 5) (i := Tryd.t5) (z := .int .u8 0) (zv := .int .u8 0) 1 rfl (by kernel_rfl) (by kernel_rfl) (by kernel_rfl) rfl rfl rfl ⟨by decide, by decide, by decide, by decide⟩ ?_
    first | refine prim_make (t := 38) (e := 5) (i := Tryd.t5) (z := .int .u8 0) (zv := .int .u8 0) 0 rfl (by kernel_rfl) (by kernel_rfl) (by kernel_rfl) rfl rfl rfl ⟨by decide, by decide, by decide, by decide⟩ ?_ | refine prim_make (t := 38) (e := 5) (i := Tryd.t5) (z := .int .u8 0) (zv := .int .u8 0) 1 rfl (by kernel_rfl) (by kernel_rfl) (by kernel_rfl) rfl rfl rfl ⟨by decide, by decide, by decide, by decide⟩ ?_
    first | exact ⟨(), trivial, [0, 1], rfl, ⟨rfl, rfl, trivial⟩, rfl, rfl, rfl, rfl⟩ | exact ⟨(), trivial, [1, 0], rfl, ⟨rfl, rfl, trivial⟩, rfl, rfl, rfl, rfl⟩
  intro _ _
  refine prim_copyV (elem := 5) 5 (List.replicate 64 (.int .u8 0)) rfl rfl rfl (by kernel_rfl) (by kernel_rfl) rfl hKs (by rw [List.length_replicate]; omega) rfl (kF K 0x36 0) (by rw [hK]; exact kF_copy K _ hKl) ?_
  refine prim_copyV (elem := 5) 5 (List.replicate 64 (.int .u8 0)) rfl rfl rfl (by kernel_rfl) (by kernel_rfl) rfl hKs (by rw [List.length_replicate]; omega) rfl (kF K 0x5c 0) (by rw [hK]; exact kF_copy K _ hKl) ?_
  change LoopW _ _ _ _ _ _ _ _ _ _
  apply loop_rule [] (α := Nat) (fun i => [(23, .v (.int .i64 i))]) (fun i => [.vals 5 (kF K 0x36 i), .vals 5 (kF K 0x5c i)]) (fun _ => g1) (fun i => i ≤ 64) (fun i => 64 - i) 0
  · intro x; kernel_rfl
  · exact Nat.zero_le _
  · exact ⟨rfl, trivial⟩
  · rfl
  · rfl
  intro i hi
  refine bsplit_of (fun hlt => ?_) (fun hlt => ?_)
  · have hi64 : i < 64 := by have : ((i : Int) < 64) := of_decide_eq_true hlt; omega
    have hB : (0 : Int) ≤ ((i : Nat) : Int) ∧ ((i : Nat) : Int) < ((64 : Nat) : Int) := ⟨by omega, by omega⟩
    refine ⟨hB, ?_⟩
    refine load1_at (x := bI (K.getD i 0)) (show (kF K 0x36 i)[0 + ((i : Int)).toNat * 1]? = _ from by rw [offN, kF, vF_get hi64, if_neg (by omega)]) ?_
    refine ⟨hB, ?_⟩
    refine ⟨rfl, fun u hu => by simp [Value.cells] at hu; subst hu; rfl, show 0 + ((i : Int)).toNat * 1 + 1 ≤ (kF K 0x36 i).length from by rw [kF, vF_len, offN]; omega, ?_⟩
    refine ⟨hB, ?_⟩
    refine load1_at (x := bI (K.getD i 0)) (show (kF K 0x5c i)[0 + ((i : Int)).toNat * 1]? = _ from by rw [offN, kF, vF_get hi64, if_neg (by omega)]) ?_
    refine ⟨hB, ?_⟩
    refine ⟨rfl, fun u hu => by simp [Value.cells] at hu; subst hu; rfl, show 0 + ((i : Int)).toNat * 1 + 1 ≤ (kF K 0x5c i).length from by rw [kF, vF_len, offN]; omega, ?_⟩
    refine ⟨i + 1, by show i + 1 ≤ 64; omega, by show 64 - (i + 1) < 64 - i; omega, [0, 1], rfl, ⟨vi (show IntKind.i64.wrap ((i : Int) + 1) = ((i + 1 : Nat) : Int) from by rw [wrap_id (by omega) (by omega)]; omega), trivial⟩, ?_, rfl, rfl, rfl⟩
    have hset : ∀ (x : UInt8) (c : Nat), c < 256 → UInt8.ofNat c = x → (kF K x i).take (0 + ((i : Int)).toNat * 1) ++ ([Value.int .u8 (IntKind.u8.wrap ((BitVec.ofInt IntKind.u8.bits ((K.getD i 0).toNat : Int) ^^^ BitVec.ofInt IntKind.u8.bits (c : Int)).toNat : Int))] ++ (kF K x i).drop (0 + ((i : Int)).toNat * 1 + 1)) = kF K x (i + 1) := fun x c hc hx => by
      rw [offN]
      refine vF_set hi64 (fun q hq => ?_) ?_
      · have : (q < i + 1) = (q < i) := by simp only [eq_iff_iff]; omega
        simp only [this]
      · rw [if_pos (by omega), xor8 _ _ hc, hx]; rfl
    have e1 := hset 0x36 54 (by decide) rfl
    have e2 := hset 0x5c 92 (by decide) rfl
    exact congr (congrArg (fun a b => [Chunk.vals 5 a, Chunk.vals 5 b]) e1) e2
  · have hi64 : i = 64 := by have : ¬ ((i : Int) < 64) := of_decide_eq_false hlt; omega
    subst hi64
    refine ⟨by rw [kF, vF_len]; decide, _, kF_end K 0x5c, ?_⟩
    refine ⟨by rw [kF, vF_len]; decide, _, kF_end K 0x36, ?_⟩
    rw [kF_str, kF_str]
    refine ⟨by show (ofL (hPad K 0x36)).size + s.size ≤ _; rw [ofL_size, hPad_len]; omega, ?_⟩
    refine (mdSum_c (ofL (hPad K 0x36) ++ s) (by rw [ByteArray.size_append, ofL_size, hPad_len]; omega) g1).call0 rfl rfl 2 rfl ?_
    rintro o L1 g2 ⟨rfl, rfl, hle2⟩
    refine ⟨by show (ofL (hPad K 0x5c)).size + (mdSum _).size ≤ _; rw [ofL_size, hPad_len, mdSum_size]; omega, ?_⟩
    refine (mdSum_c (ofL (hPad K 0x5c) ++ mdSum (ofL (hPad K 0x36) ++ s)) (by rw [ByteArray.size_append, ofL_size, hPad_len, mdSum_size]; omega) g2).call0 rfl rfl 2 rfl ?_
    rintro o L1 g3 ⟨rfl, rfl, hle3⟩
    refine ⟨rs ?_, rfl, fun b o h => hle3 b o (hle2 b o (hg1 b o h))⟩
    rw [mdHmac, hK]
end Go.Proofs.YtdbkceojpeboeaaDoor
