/- strconv.ParseUint at base 16 for eight signs, the reference's table of sines: what each returns. Conditions: none. -/
import Derived.Test.YtdbkceojpeboeaaDoorXmdc
import Derived.Test.YtdbkceojpeboeaaDoorMdA
import Derived.Test.YtdbkceojpeboeaaDoorMdP
namespace Go.Proofs.YtdbkceojpeboeaaDoor
open Go.Sx
set_option maxRecDepth 100000
set_option maxHeartbeats 8000000
attribute [local irreducible] Meets

def hexB (b : UInt8) : Bool := (Nat.ble 48 b.toNat && Nat.ble b.toNat 57) || (Nat.ble 97 b.toNat && Nat.ble b.toNat 102)
def hexD (b : UInt8) : Nat := if b.toNat ≤ 57 then b.toNat - 48 else b.toNat - 87
def hexN (l : List UInt8) : Nat := l.foldl (fun n b => n * 16 + hexD b) 0
theorem hexN_snoc (l : List UInt8) (b : UInt8) : hexN (l ++ [b]) = hexN l * 16 + hexD b := by simp [hexN]
theorem hexD_lt {b : UInt8} (h : hexB b = true) : hexD b < 16 := by
  simp [hexB] at h
  unfold hexD
  split <;> omega
theorem hexN_lt (l : List UInt8) (h : ∀ b ∈ l, hexB b = true) : ∀ k, k ≤ l.length → hexN (l.take k) < 16 ^ k
  | 0, _ => by simp [hexN]
  | k + 1, hk => by
    have h1 := hexN_lt l h k (by omega)
    have hg : l[k]? = some l[k] := List.getElem?_eq_getElem (by omega)
    have h2 := hexD_lt (h l[k] (List.getElem_mem _))
    rw [List.take_add_one, hg, Option.toList, hexN_snoc, Nat.pow_succ]
    omega
theorem u64id {n : Nat} (h : n < 18446744073709551616) : IntKind.u64.wrap (n : Int) = n := by
  simp only [IntKind.wrap, IntKind.signed, IntKind.bits]
  simp
  omega
theorem u8id {n : Nat} (h : n < 256) : IntKind.u8.wrap (n : Int) = n := by
  simp only [IntKind.wrap, IntKind.signed, IntKind.bits]
  simp
  omega
theorem byte_g {g : G} {ad : Addr} {s : ByteArray} (h : g.at ad (s.data.toList.map fun b => Value.int .u8 b.toNat)) {k : Nat} (hk : k < s.size) : ∃ b : UInt8, s.data.toList[k]? = some b ∧ g.at (ad.add (k * 1)) [.int .u8 b.toNat] := by
  have hl : s.data.toList.length = s.size := by rw [Array.length_toList]; rfl
  obtain ⟨b, hb⟩ : ∃ b, s.data.toList[k]? = some b := lt_some (by omega)
  refine ⟨b, hb, ?_⟩
  have := h.sub k 1 (by rw [List.length_map]; omega)
  rw [Nat.mul_one]
  have e : ((s.data.toList.map fun b => Value.int .u8 b.toNat).drop k).take 1 = [.int .u8 b.toNat] := by
    rw [List.drop_eq_getElem_cons (by rw [List.length_map]; omega), List.take_succ_cons, List.take_zero]
    rw [List.getElem?_eq_getElem (by omega)] at hb
    cases hb
    simp
  rw [e] at this
  exact this
theorem low_c (b : Nat) (g : G) (h : 97 ≤ b ∧ b ≤ 102) : Tells Tryd.prog 47 [.v (.int .u8 b)] g (.v (.int .u8 b)) := by
  refine meets_of mixedM Tryd.func47 (by kernel_rfl) x47_ok (some []) ?_
  refine ⟨ri (k := .u8) ?_, rfl, rfl⟩
  have k : ∀ b : Nat, b < 103 → 97 ≤ b → IntKind.u8.wrap ((BitVec.ofInt IntKind.u8.bits (b : Int) ||| BitVec.ofInt IntKind.u8.bits 32).toNat : Int) = b := by decide +kernel
  exact k b (by omega) h.1
def maxU : Int := IntKind.u64.wrap (IntKind.u64.wrap ((1 : Int) * 2 ^ (min (IntKind.u64.wrap 32).toNat IntKind.u64.bits)) - 1)
theorem parse_b (s : ByteArray) (hs : s.size = 8) (hx : ∀ b ∈ s.data.toList, hexB b = true) (g : G) : Meets Tryd.prog 42 [.v (.string s), .v (.int .i64 16), .v (.int .i64 32)] [] g (fun o L' g' => o = .ret (.tup [.v (.int .u64 (hexN s.data.toList : Nat)), .v .nilIface]) ∧ L' = [] ∧ G.le g g') := by
  have hl : s.data.toList.length = 8 := by rw [Array.length_toList]; exact hs
  refine meets_of mixedM Tryd.func42 (by kernel_rfl) x42_ok (some []) ?_
  refine bsplit_of (fun h => ?_) (fun _ => ?_)
  · rw [str_beq] at h
    have h := of_decide_eq_true h
    subst h
    exact absurd hs (by decide)
  refine ⟨by decide, ?_⟩
  refine prim_bytes (e := 5) (by kernel_rfl) (by kernel_rfl) (by kernel_rfl) rfl (fun g2 ad2 cap hg2 hat => ?_)
  change LoopW _ _ _ _ _ _ _ _ _ _
  apply loop_rule [] (α := Nat) (fun k => [(101, .v (.int .i64 k)), (12, .v (.bool false)), (13, .v (.int .u64 (hexN (s.data.toList.take k) : Nat)))]) (fun _ => []) (fun _ => g2) (fun k => k ≤ 8) (fun k => 8 - k) 0
  · intro x; kernel_rfl
  · exact Nat.zero_le _
  · exact ⟨rfl, rfl, rfl, trivial⟩
  · rfl
  · rfl
  intro k hk
  refine bsplit_of (fun hlt => ?_) (fun hlt => ?_)
  · have hk8 : k < 8 := by
      have : ((k : Int) < (s.size : Int)) := of_decide_eq_true hlt
      omega
    obtain ⟨b, hb, hat2⟩ := byte_g hat (show k < s.size by omega)
    have hbx := hx b (List.mem_of_getElem? hb)
    have hb256 := b.toNat_lt
    have htk : (s.data.toList.take k).length = k := by rw [List.length_take]; omega
    have hn : hexN (s.data.toList.take k) < 16 ^ 7 := by
      have h1 := hexN_lt s.data.toList hx k (by omega)
      exact Nat.lt_of_lt_of_le h1 (Nat.pow_le_pow_right (by decide) (by omega))
    have e7 : (16 : Nat) ^ 7 = 268435456 := by decide
    rw [e7] at hn
    have hd := hexD_lt hbx
    have hnext : hexN (s.data.toList.take (k + 1)) = hexN (s.data.toList.take k) * 16 + hexD b := by
      rw [List.take_add_one, hb]; exact hexN_snoc _ _
    refine ⟨⟨by show (0 : Int) ≤ ((k : Nat) : Int); omega, by show ((k : Nat) : Int) < (s.size : Int); omega⟩, ad2, rfl, ?_⟩
    refine ⟨[.int .u8 b.toNat], rfl, hat2, ?_⟩
    refine bsplit_of (fun (h : ((b.toNat : Int) == 95) = true) => ?_) (fun _ => ?_)
    · have h := eq_of_beq h
      simp [hexB] at hbx
      omega
    refine bsplit_of (fun (h : decide ((48 : Int) ≤ (b.toNat : Int)) = true) => ?_) (fun (h : decide ((48 : Int) ≤ (b.toNat : Int)) = false) => ?_)
    · have h48 := of_decide_eq_true h
      refine bsplit_of (fun (h : decide ((b.toNat : Int) ≤ 57) = true) => ?_) (fun (h : decide ((b.toNat : Int) ≤ 57) = false) => ?_)
      · have h57 := of_decide_eq_true h
        have ed : IntKind.u8.wrap ((b.toNat : Int) - 48) = ((hexD b : Nat) : Int) := by
          rw [hexD, if_pos (by omega), show (b.toNat : Int) - 48 = ((b.toNat - 48 : Nat) : Int) by omega, u8id (by omega)]
        refine bsplit_of (fun h => ?_) (fun _ => ?_)
        · have h : (IntKind.u8.wrap ((b.toNat : Int) - 48)) ≥ IntKind.u8.wrap 16 := of_decide_eq_true h
          rw [ed, show IntKind.u8.wrap 16 = 16 from by decide] at h
          omega
        refine bsplit_of (fun h => ?_) (fun _ => ?_)
        · have h : ((hexN (s.data.toList.take k) : Nat) : Int) ≥ 1152921504606846976 := of_decide_eq_true h
          omega
        have e16 : IntKind.u64.wrap (((hexN (s.data.toList.take k) : Nat) : Int) * IntKind.u64.wrap 16) = ((hexN (s.data.toList.take k) * 16 : Nat) : Int) := by
          rw [show IntKind.u64.wrap 16 = 16 from by decide, show ((hexN (s.data.toList.take k) : Nat) : Int) * 16 = ((hexN (s.data.toList.take k) * 16 : Nat) : Int) by omega, u64id (by omega)]
        have en : IntKind.u64.wrap (IntKind.u64.wrap (((hexN (s.data.toList.take k) : Nat) : Int) * IntKind.u64.wrap 16) + IntKind.u64.wrap (IntKind.u8.wrap ((b.toNat : Int) - 48))) = ((hexN (s.data.toList.take (k + 1)) : Nat) : Int) := by
          rw [e16, ed, u64id (n := hexD b) (by omega), hnext, show ((hexN (s.data.toList.take k) * 16 : Nat) : Int) + ((hexD b : Nat) : Int) = ((hexN (s.data.toList.take k) * 16 + hexD b : Nat) : Int) by omega, u64id (by omega)]
        refine bsplit_of (fun h => ?_) (fun _ => ?_)
        · have h : IntKind.u64.wrap (IntKind.u64.wrap (((hexN (s.data.toList.take k) : Nat) : Int) * IntKind.u64.wrap 16) + IntKind.u64.wrap (IntKind.u8.wrap ((b.toNat : Int) - 48))) < IntKind.u64.wrap (((hexN (s.data.toList.take k) : Nat) : Int) * IntKind.u64.wrap 16) := of_decide_eq_true h
          rw [en, e16, hnext] at h
          omega
        refine bsplit_of (fun h => ?_) (fun _ => ?_)
        · have h : IntKind.u64.wrap (IntKind.u64.wrap (((hexN (s.data.toList.take k) : Nat) : Int) * IntKind.u64.wrap 16) + IntKind.u64.wrap (IntKind.u8.wrap ((b.toNat : Int) - 48))) > maxU := of_decide_eq_true h
          rw [en, hnext, show maxU = 4294967295 from by decide] at h
          omega
        exact ⟨k + 1, by show k + 1 ≤ 8; omega, by show 8 - (k + 1) < 8 - k; omega, [], rfl, ⟨vi (show IntKind.i64.wrap ((k : Int) + 1) = ((k + 1 : Nat) : Int) from by rw [wrap_id (by omega) (by omega)]; omega), rfl, vi en, trivial⟩, rfl, rfl, rfl, rfl⟩
      · have h57 := of_decide_eq_false h
        have hal : 97 ≤ b.toNat ∧ b.toNat ≤ 102 := by simp [hexB] at hbx; omega
        refine (low_c b.toNat _ hal).call rfl rfl rfl ?_
        refine bsplit_of (fun _ => ?_) (fun (h : decide ((97 : Int) ≤ (b.toNat : Int)) = false) => absurd (of_decide_eq_false h) (by omega))
        refine (low_c b.toNat _ hal).call rfl rfl rfl ?_
        refine bsplit_of (fun _ => ?_) (fun (h : decide ((b.toNat : Int) ≤ 122) = false) => absurd (of_decide_eq_false h) (by omega))
        refine (low_c b.toNat _ hal).call rfl rfl rfl ?_
        have ed : IntKind.u8.wrap (IntKind.u8.wrap ((b.toNat : Int) - 97) + 10) = ((hexD b : Nat) : Int) := by
          rw [hexD, if_neg (by omega), show (b.toNat : Int) - 97 = ((b.toNat - 97 : Nat) : Int) by omega, u8id (by omega), show ((b.toNat - 97 : Nat) : Int) + 10 = ((b.toNat - 87 : Nat) : Int) by omega, u8id (by omega)]
        refine bsplit_of (fun h => ?_) (fun _ => ?_)
        · have h : (IntKind.u8.wrap (IntKind.u8.wrap ((b.toNat : Int) - 97) + 10)) ≥ IntKind.u8.wrap 16 := of_decide_eq_true h
          rw [ed, show IntKind.u8.wrap 16 = 16 from by decide] at h
          omega
        refine bsplit_of (fun h => ?_) (fun _ => ?_)
        · have h : ((hexN (s.data.toList.take k) : Nat) : Int) ≥ 1152921504606846976 := of_decide_eq_true h
          omega
        have e16 : IntKind.u64.wrap (((hexN (s.data.toList.take k) : Nat) : Int) * IntKind.u64.wrap 16) = ((hexN (s.data.toList.take k) * 16 : Nat) : Int) := by
          rw [show IntKind.u64.wrap 16 = 16 from by decide, show ((hexN (s.data.toList.take k) : Nat) : Int) * 16 = ((hexN (s.data.toList.take k) * 16 : Nat) : Int) by omega, u64id (by omega)]
        have en : IntKind.u64.wrap (IntKind.u64.wrap (((hexN (s.data.toList.take k) : Nat) : Int) * IntKind.u64.wrap 16) + IntKind.u64.wrap (IntKind.u8.wrap (IntKind.u8.wrap ((b.toNat : Int) - 97) + 10))) = ((hexN (s.data.toList.take (k + 1)) : Nat) : Int) := by
          rw [e16, ed, u64id (n := hexD b) (by omega), hnext, show ((hexN (s.data.toList.take k) * 16 : Nat) : Int) + ((hexD b : Nat) : Int) = ((hexN (s.data.toList.take k) * 16 + hexD b : Nat) : Int) by omega, u64id (by omega)]
        refine bsplit_of (fun h => ?_) (fun _ => ?_)
        · have h : IntKind.u64.wrap (IntKind.u64.wrap (((hexN (s.data.toList.take k) : Nat) : Int) * IntKind.u64.wrap 16) + IntKind.u64.wrap (IntKind.u8.wrap (IntKind.u8.wrap ((b.toNat : Int) - 97) + 10))) < IntKind.u64.wrap (((hexN (s.data.toList.take k) : Nat) : Int) * IntKind.u64.wrap 16) := of_decide_eq_true h
          rw [en, e16, hnext] at h
          omega
        refine bsplit_of (fun h => ?_) (fun _ => ?_)
        · have h : IntKind.u64.wrap (IntKind.u64.wrap (((hexN (s.data.toList.take k) : Nat) : Int) * IntKind.u64.wrap 16) + IntKind.u64.wrap (IntKind.u8.wrap (IntKind.u8.wrap ((b.toNat : Int) - 97) + 10))) > maxU := of_decide_eq_true h
          rw [en, hnext, show maxU = 4294967295 from by decide] at h
          omega
        exact ⟨k + 1, by show k + 1 ≤ 8; omega, by show 8 - (k + 1) < 8 - k; omega, [], rfl, ⟨vi (show IntKind.i64.wrap ((k : Int) + 1) = ((k + 1 : Nat) : Int) from by rw [wrap_id (by omega) (by omega)]; omega), rfl, vi en, trivial⟩, rfl, rfl, rfl, rfl⟩
    · have h48 := of_decide_eq_false h
      simp [hexB] at hbx
      omega
  · have hk8 : k = 8 := by
      have : ¬ ((k : Int) < (s.size : Int)) := of_decide_eq_false hlt
      omega
    subst hk8
    rw [List.take_of_length_le (by omega)]
    exact ⟨rfl, rfl, hg2⟩
theorem parse_c (s : ByteArray) (hs : s.size = 8) (hx : ∀ b ∈ s.data.toList, hexB b = true) (g : G) : Meets Tryd.prog 33 [.v (.string s), .v (.int .i64 16), .v (.int .i64 32)] [] g (fun o L' g' => o = .ret (.tup [.v (.int .u64 (hexN s.data.toList : Nat)), .v .nilIface]) ∧ L' = [] ∧ G.le g g') := by
  refine meets_of mixedM Tryd.func33 (by kernel_rfl) x33_ok (some []) ?_
  refine (parse_b s hs hx g).call0 rfl rfl 0 rfl ?_
  rintro o L1 g1 ⟨rfl, rfl, hle⟩
  exact ⟨rfl, rfl, hle⟩
def allB : ByteArray := ⟨#[100, 55, 54, 97, 97, 52, 55, 56, 101, 56, 99, 55, 98, 55, 53, 54, 50, 52, 50, 48, 55, 48, 100, 98, 99, 49, 98, 100, 99, 101, 101, 101, 102, 53, 55, 99, 48, 102, 97, 102, 52, 55, 56, 55, 99, 54, 50, 97, 97, 56, 51, 48, 52, 54, 49, 51, 102, 100, 52, 54, 57, 53, 48, 49, 54, 57, 56, 48, 57, 56, 100, 56, 56, 98, 52, 52, 102, 55, 97, 102, 102, 102, 102, 102, 53, 98, 98, 49, 56, 57, 53, 99, 100, 55, 98, 101, 54, 98, 57, 48, 49, 49, 50, 50, 102, 100, 57, 56, 55, 49, 57, 51, 97, 54, 55, 57, 52, 51, 56, 101, 52, 57, 98, 52, 48, 56, 50, 49, 102, 54, 49, 101, 50, 53, 54, 50, 99, 48, 52, 48, 98, 51, 52, 48, 50, 54, 53, 101, 53, 97, 53, 49, 101, 57, 98, 54, 99, 55, 97, 97, 100, 54, 50, 102, 49, 48, 53, 100, 48, 50, 52, 52, 49, 52, 53, 51, 100, 56, 97, 49, 101, 54, 56, 49, 101, 55, 100, 51, 102, 98, 99, 56, 50, 49, 101, 49, 99, 100, 101, 54, 99, 51, 51, 55, 48, 55, 100, 54, 102, 52, 100, 53, 48, 100, 56, 55, 52, 53, 53, 97, 49, 52, 101, 100, 97, 57, 101, 51, 101, 57, 48, 53, 102, 99, 101, 102, 97, 51, 102, 56, 54, 55, 54, 102, 48, 50, 100, 57, 56, 100, 50, 97, 52, 99, 56, 97, 102, 102, 102, 97, 51, 57, 52, 50, 56, 55, 55, 49, 102, 54, 56, 49, 54, 100, 57, 100, 54, 49, 50, 50, 102, 100, 101, 53, 51, 56, 48, 99, 97, 52, 98, 101, 101, 97, 52, 52, 52, 98, 100, 101, 99, 102, 97, 57, 102, 54, 98, 98, 52, 98, 54, 48, 98, 101, 98, 102, 98, 99, 55, 48, 50, 56, 57, 98, 55, 101, 99, 54, 101, 97, 97, 49, 50, 55, 102, 97, 100, 52, 101, 102, 51, 48, 56, 53, 48, 52, 56, 56, 49, 100, 48, 53, 100, 57, 100, 52, 100, 48, 51, 57, 101, 54, 100, 98, 57, 57, 101, 53, 49, 102, 97, 50, 55, 99, 102, 56, 99, 52, 97, 99, 53, 54, 54, 53, 102, 52, 50, 57, 50, 50, 52, 52, 52, 51, 50, 97, 102, 102, 57, 55, 97, 98, 57, 52, 50, 51, 97, 55, 102, 99, 57, 51, 97, 48, 51, 57, 54, 53, 53, 98, 53, 57, 99, 51, 56, 102, 48, 99, 99, 99, 57, 50, 102, 102, 101, 102, 102, 52, 55, 100, 56, 53, 56, 52, 53, 100, 100, 49, 54, 102, 97, 56, 55, 101, 52, 102, 102, 101, 50, 99, 101, 54, 101, 48, 97, 51, 48, 49, 52, 51, 49, 52, 52, 101, 48, 56, 49, 49, 97, 49, 102, 55, 53, 51, 55, 101, 56, 50, 98, 100, 51, 97, 102, 50, 51, 53, 50, 97, 100, 55, 100, 50, 98, 98, 101, 98, 56, 54, 100, 51, 57, 49]⟩
def sineB (i : Nat) : ByteArray := allB.extract (8 * i) (8 * i + 8)
theorem sine_facts {i : Nat} (h : i < 64) : (sineB i).size = 8 ∧ (∀ b ∈ (sineB i).data.toList, hexB b = true) ∧ hexN (sineB i).data.toList = (mdT i).toNat := by
  have k : ∀ i : Nat, i < 64 → ((sineB i).size == 8 && ((sineB i).data.toList.all hexB && (hexN (sineB i).data.toList == (mdT i).toNat))) = true := by decide +kernel
  have h1 := k i h
  simp only [Bool.and_eq_true, beq_iff_eq, List.all_eq_true] at h1
  exact h1
theorem sine_c (i : Nat) (h : i < 64) (g : G) : Meets Tryd.prog 17 [.v (.int .i64 i)] [] g (fun o L' g' => o = .ret (.v (.int .u32 (u32I (mdT i)))) ∧ L' = [] ∧ G.le g g') := by
  obtain ⟨h1, h2, h3⟩ := sine_facts h
  have e8 : IntKind.i64.wrap (8 * (i : Int)) = ((8 * i : Nat) : Int) := by rw [wrap_id (by omega) (by omega)]; omega
  have e9 : IntKind.i64.wrap (IntKind.i64.wrap (8 * (i : Int)) + 8) = ((8 * i + 8 : Nat) : Int) := by rw [e8, wrap_id (by omega) (by omega)]; omega
  have es : allB.extract (IntKind.i64.wrap (8 * (i : Int))).toNat (IntKind.i64.wrap (IntKind.i64.wrap (8 * (i : Int)) + 8)).toNat = sineB i := by rw [e9, e8, Int.toNat_natCast, Int.toNat_natCast]; rfl
  refine meets_of mixedM Tryd.func17 (by kernel_rfl) x17_ok (some []) ?_
  refine ⟨⟨show (0 : Int) ≤ IntKind.i64.wrap (IntKind.i64.wrap (8 * (i : Int)) + 8) from by rw [e9]; omega, show IntKind.i64.wrap (IntKind.i64.wrap (8 * (i : Int)) + 8) ≤ ((512 : Nat) : Int) from by rw [e9]; omega⟩, ⟨show (0 : Int) ≤ IntKind.i64.wrap (8 * (i : Int)) from by rw [e8]; omega, show IntKind.i64.wrap (8 * (i : Int)) ≤ IntKind.i64.wrap (IntKind.i64.wrap (8 * (i : Int)) + 8) from by rw [e9, e8]; omega⟩, ?_⟩
  have hp := parse_c (allB.extract (IntKind.i64.wrap (8 * (i : Int))).toNat (IntKind.i64.wrap (IntKind.i64.wrap (8 * (i : Int)) + 8)).toNat) (by rw [es]; exact h1) (by rw [es]; exact h2) g
  refine hp.call0 rfl rfl 0 rfl ?_
  rintro o L1 g1 ⟨rfl, rfl, hle⟩
  refine ⟨ri (k := .u32) ?_, rfl, hle⟩
  rw [es, h3, wrapX]
  rfl
end Go.Proofs.YtdbkceojpeboeaaDoor
