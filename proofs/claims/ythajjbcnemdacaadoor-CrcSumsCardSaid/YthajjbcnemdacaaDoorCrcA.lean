/- crc.Sum: what it returns. Conditions: none. -/
import Derived.Test.YthajjbcnemdacaaDoorXcrc
import Derived.Test.YthajjbcnemdacaaDoorCrcL
import Derived.Test.YthajjbcnemdacaaDoorErrB
namespace Go.Proofs.YthajjbcnemdacaaDoor
open Go.Sx Go.Lib
set_option maxRecDepth 100000
set_option maxHeartbeats 8000000
attribute [local irreducible] Meets
attribute [local instance] Classical.propDecidable

theorem mixedR : Tryd.prog.follows .mixedOrders = true := by kernel_rfl
theorem u32_of (x : BitVec 32) : BitVec.ofInt IntKind.u32.bits (x.toNat : Int) = x := by
  show BitVec.ofInt 32 (x.toNat : Int) = x
  rw [BitVec.ofInt_natCast, BitVec.ofNat_toNat, BitVec.setWidth_eq]
theorem wrap32 {n : Nat} (h : n < 4294967296) : IntKind.u32.wrap (n : Int) = n := by
  simp only [IntKind.wrap, IntKind.signed, IntKind.bits]
  simp
  omega
theorem wrapX (x : BitVec 32) : IntKind.u32.wrap (x.toNat : Int) = x.toNat := wrap32 x.isLt
def u32I (x : BitVec 32) : Int := (x.toNat : Int)
theorem xor32 (x y : BitVec 32) : IntKind.u32.wrap ((BitVec.ofInt IntKind.u32.bits (u32I x) ^^^ BitVec.ofInt IntKind.u32.bits (u32I y)).toNat : Int) = u32I (x ^^^ y) := by
  unfold u32I
  rw [u32_of, u32_of]; exact wrapX _
theorem or32 (x y : BitVec 32) : IntKind.u32.wrap ((BitVec.ofInt IntKind.u32.bits (u32I x) ||| BitVec.ofInt IntKind.u32.bits (u32I y)).toNat : Int) = u32I (x ||| y) := by
  unfold u32I
  rw [u32_of, u32_of]; exact wrapX _
theorem and1 (x : BitVec 32) : (IntKind.u32.wrap ((BitVec.ofInt IntKind.u32.bits (u32I x) &&& BitVec.ofInt IntKind.u32.bits 1).toNat : Int) == 1) = x.getLsbD 0 := by
  have e : BitVec.ofInt IntKind.u32.bits 1 = (1#32 : BitVec 32) := rfl
  have ex : BitVec.ofInt IntKind.u32.bits (u32I x) = x := u32_of x
  rw [ex, e]
  have h : IntKind.u32.wrap (((x &&& 1#32 : BitVec 32)).toNat : Int) = ((x &&& 1#32 : BitVec 32)).toNat := wrapX _
  refine Eq.trans (congrArg (· == (1 : Int)) h) ?_
  have hb : x &&& 1#32 = if x.getLsbD 0 then 1#32 else 0#32 := by
    apply BitVec.eq_of_getLsbD_eq
    intro i hi
    rw [BitVec.getLsbD_and, BitVec.getLsbD_one]
    by_cases h0 : i = 0
    · subst h0
      cases x.getLsbD 0 <;> decide
    · have : decide (0 < 32 ∧ i = 0) = false := by simp [h0]
      cases hx : x.getLsbD 0
      · simp [h0]
      · simp [h0, BitVec.getLsbD_one]
  rw [hb]
  cases x.getLsbD 0 <;> decide
theorem shr1 (x : BitVec 32) : (u32I x).fdiv (2 ^ (min (1 : Int).toNat IntKind.u32.bits)) = u32I (x >>> 1) := by
  unfold u32I
  rw [BitVec.toNat_ushiftRight, Nat.shiftRight_eq_div_pow]
  have : (2 : Int) ^ (min (1 : Int).toNat IntKind.u32.bits) = 2 := by decide
  rw [this, Int.fdiv_eq_ediv_of_nonneg _ (by decide)]
  push_cast
  rfl
theorem conv32 (b : UInt8) : IntKind.u32.wrap (b.toNat : Int) = u32I (BitVec.ofNat 32 b.toNat) := by
  have := b.toNat_lt
  unfold u32I
  rw [wrap32 (by omega), BitVec.toNat_ofNat]
  omega
theorem sh_odd {x : BitVec 32} (h : x.getLsbD 0 = true) : crcSh x = (x >>> 1) ^^^ crcP := by rw [crcSh, if_pos h]
theorem sh_even {x : BitVec 32} (h : x.getLsbD 0 = false) : crcSh x = x >>> 1 := by rw [crcSh, if_neg (by rw [h]; decide)]; simp
theorem byteR {g : G} {ad : Addr} {s : ByteArray} (h : g.at ad (s.data.toList.map fun b => Value.int .u8 b.toNat)) {k : Nat} (hk : k < s.size) : ∃ b : UInt8, s.data.toList[k]? = some b ∧ g.at (ad.add (k * 1)) [.int .u8 b.toNat] := by
  have hl : s.data.toList.length = s.size := by rw [Array.length_toList]; rfl
  obtain ⟨b, hb⟩ : ∃ b, s.data.toList[k]? = some b := lt_some (by omega)
  refine ⟨b, hb, ?_⟩
  have := h.sub k 1 (by rw [List.length_map]; omega)
  rw [Nat.mul_one]
  have e : ((s.data.toList.map fun b => Value.int .u8 b.toNat).drop k).take 1 = [.int .u8 b.toNat] := by
    rw [List.drop_eq_getElem_cons (by rw [List.length_map]; omega), List.take_succ_cons, List.take_zero]
    rw [List.getElem?_eq_getElem (by omega)] at hb
    cases hb
    simp
  rw [e] at this
  exact this

attribute [local irreducible] crcSh
/-- The sum. -/
def crcS (s : ByteArray) : BitVec 32 := ~~~ (crcR s.data.toList)
theorem not32 (x : BitVec 32) : IntKind.u32.wrap ((BitVec.ofInt IntKind.u32.bits (if IntKind.u32.signed then -1 else IntKind.u32.max) ^^^ BitVec.ofInt IntKind.u32.bits (u32I x)).toNat : Int) = u32I (~~~ x) := by
  have ex : BitVec.ofInt IntKind.u32.bits (u32I x) = x := u32_of x
  have e : BitVec.ofInt IntKind.u32.bits (if IntKind.u32.signed then -1 else IntKind.u32.max) = (0xffffffff#32 : BitVec 32) := rfl
  rw [ex, e]
  have h : (0xffffffff#32 : BitVec 32) ^^^ x = ~~~ x := by
    apply BitVec.eq_of_getLsbD_eq
    intro i hi
    have : (0xffffffff#32 : BitVec 32).getLsbD i = true := by
      have k : ∀ j : Nat, j < 32 → (0xffffffff#32 : BitVec 32).getLsbD j = true := by decide +kernel
      exact k i hi
    rw [BitVec.getLsbD_xor, this, BitVec.getLsbD_not]
    simp [hi]
  refine Eq.trans (congrArg (fun z : BitVec 32 => IntKind.u32.wrap (z.toNat : Int)) h) (wrapX _)
theorem sum_c (s : ByteArray) (hs : s.size ≤ 1000000) (g : G) : Meets Tryd.prog 9 [.v (.string s)] [] g (fun o L' g' => o = .ret (.v (.int .u32 (u32I (crcS s)))) ∧ L' = [] ∧ G.le g g') := by
  have hl : s.data.toList.length = s.size := by rw [Array.length_toList]; rfl
  refine meets_of mixedR Tryd.func9 (by kernel_rfl) x9_ok (some []) ?_
  refine prim_bytes (e := 5) (by kernel_rfl) (by kernel_rfl) (by kernel_rfl) rfl (fun g2 ad2 cap hg2 hat => ?_)
  change LoopW _ _ _ _ _ _ _
  apply loop_rule [] (α := Nat) (fun k => [(10, .v (.int .i64 k)), (3, .v (.int .u32 (u32I (crcR (s.data.toList.take k)))))]) (fun _ => []) (fun _ => g2) (fun k => k ≤ s.size) (fun k => s.size - k) 0
  · intro x; kernel_rfl
  · exact Nat.zero_le _
  · exact ⟨rfl, vi (by rw [List.take_zero]; rfl), trivial⟩
  · rfl
  · rfl
  intro k hk
  refine bsplit_of (fun hlt => ?_) (fun hlt => ?_)
  rotate_left
  · have : k = s.size := by have := of_decide_eq_false hlt; omega
    subst this
    refine ⟨ri ?_, rfl, hg2⟩
    rw [List.take_of_length_le (by omega)]
    exact not32 _
  have hlt' : k < s.size := by simpa using hlt
  obtain ⟨b, hb, hat2⟩ := byteR hat hlt'
  refine ⟨⟨by omega, by omega⟩, ad2, rfl, ?_⟩
  refine ⟨[.int .u8 b.toNat], rfl, hat2, ?_⟩
  obtain ⟨c0, hc0⟩ : ∃ c0, crcR (s.data.toList.take k) ^^^ BitVec.ofNat 32 b.toNat = c0 := ⟨_, rfl⟩
  have hc8 : crcShN 8 c0 = crcR (s.data.toList.take (k + 1)) := by rw [take_snoc hb, crcR_snoc, crcByte, hc0]
  change LoopW _ _ _ _ _ _ _
  apply loop_rule [] (α := Nat) (fun j => [(18, .v (.int .i64 j)), (3, .v (.int .u32 (u32I (crcShN j c0))))]) (fun _ => []) (fun _ => g2) (fun j => j ≤ 8) (fun j => 8 - j) 0
  · intro x; kernel_rfl
  · decide
  · refine ⟨rfl, vi ?_, trivial⟩
    show IntKind.u32.wrap ((BitVec.ofInt IntKind.u32.bits (u32I (crcR (s.data.toList.take k))) ^^^ BitVec.ofInt IntKind.u32.bits (IntKind.u32.wrap (b.toNat : Int))).toNat : Int) = u32I (crcShN 0 c0)
    rw [conv32, xor32, hc0]; rfl
  · rfl
  · rfl
  intro j hj
  refine bsplit_of (fun hlt => ?_) (fun hlt => ?_)
  rotate_left
  · have : j = 8 := by have := of_decide_eq_false hlt; omega
    subst this
    exact ⟨k + 1, hlt', by omega, [], rfl, ⟨vi (wrap_id (by omega) (by omega)), vi (by rw [hc8]), trivial⟩, rfl, rfl, rfl, rfl⟩
  have hj8 : j < 8 := by have := of_decide_eq_true hlt; omega
  refine ⟨by decide, ?_⟩
  obtain ⟨c, hc⟩ : ∃ c, crcShN j c0 = c := ⟨_, rfl⟩
  have hn : crcShN (j + 1) c0 = crcSh c := by rw [crcShN_snoc, hc]
  rw [hc]
  refine bsplit_of (fun (h : (IntKind.u32.wrap ((BitVec.ofInt IntKind.u32.bits (u32I c) &&& BitVec.ofInt IntKind.u32.bits 1).toNat : Int) == 1) = true) => ?_) (fun (h : (IntKind.u32.wrap ((BitVec.ofInt IntKind.u32.bits (u32I c) &&& BitVec.ofInt IntKind.u32.bits 1).toNat : Int) == 1) = false) => ?_)
  · rw [and1] at h
    refine ⟨j + 1, by omega, by omega, [], rfl, ⟨vi (wrap_id (by omega) (by omega)), vi ?_, trivial⟩, rfl, rfl, rfl, rfl⟩
    show IntKind.u32.wrap ((BitVec.ofInt IntKind.u32.bits ((u32I c).fdiv (2 ^ (min (1 : Int).toNat IntKind.u32.bits))) ^^^ BitVec.ofInt IntKind.u32.bits (u32I crcP)).toNat : Int) = u32I (crcShN (j + 1) c0)
    rw [hn, sh_odd h, shr1, xor32]
  · rw [and1] at h
    refine ⟨j + 1, by omega, by omega, [], rfl, ⟨vi (wrap_id (by omega) (by omega)), vi ?_, trivial⟩, rfl, rfl, rfl, rfl⟩
    show (u32I c).fdiv (2 ^ (min (1 : Int).toNat IntKind.u32.bits)) = u32I (crcShN (j + 1) c0)
    rw [hn, sh_even h, shr1]
end Go.Proofs.YthajjbcnemdacaaDoor
