/- ref.Put; the law WirePuts. Conditions: of the law: the variable errors.errorType is as laid. -/
import Derived.Test.YtpdngikdpepekaaDoorXputs
import Derived.Test.YtpdngikdpepekaaDoorShelfT
import Derived.Test.YtpdngikdpepekaaDoorWireC
import Derived.Test.YtpdngikdpepekaaDoorTagRC
import Derived.Test.YtpdngikdpepekaaDoorBaseD
namespace Go.Proofs.YtpdngikdpepekaaDoor
open Go.Sx Go.Lib Go.RowKit
set_option maxRecDepth 100000
set_option maxHeartbeats 8000000
attribute [local irreducible] Meets
attribute [local instance] Classical.propDecidable

theorem ext_list (s : ByteArray) (a b : Nat) : (s.extract a b).data.toList = (s.data.toList.take b).drop a := by
  rw [ByteArray.data_extract, Array.toList_extract]
  simp [List.drop_take]
theorem ext_of_list {s t : ByteArray} (h : s.data.toList = t.data.toList) : s = t := ByteArray.ext (Array.toList_inj.1 h)

theorem dw_nil (p : UInt8 → Bool) : ∀ l : List UInt8, l.dropWhile p = [] ↔ ∀ x ∈ l, p x = true
  | [] => by simp
  | a :: l => by
    cases h : p a with
    | true => rw [List.dropWhile_cons_of_pos h, dw_nil p l]; simp [h]
    | false =>
      rw [List.dropWhile_cons_of_neg (by rw [h]; decide)]
      constructor
      · intro hh; cases hh
      · intro hh
        have := hh a (by simp)
        rw [h] at this
        cases this
theorem trimB_nil (l : List UInt8) : trimB l 0 = [] ↔ ∀ b ∈ l, b = 0 := by
  have h1 : trimB l 0 = ((l.reverse.dropWhile (· == 0)).reverse).dropWhile (· == 0) := rfl
  rw [h1, dw_nil]
  constructor
  · intro h b hb
    have hb' : b ∈ l.reverse := by simpa using hb
    rw [← List.takeWhile_append_dropWhile (p := (· == 0)) (l := l.reverse)] at hb'
    rcases List.mem_append.1 hb' with hb' | hb'
    · have := List.all_takeWhile (p := (· == (0 : UInt8))) (l := l.reverse)
      rw [List.all_eq_true] at this
      simpa using this b hb'
    · simpa using h b (by simpa using hb')
  · intro h b hb
    rw [List.mem_reverse] at hb
    have := h b (by simpa using (List.dropWhile_sublist (· == (0 : UInt8))).subset hb)
    simp [this]

theorem trim_c (s : ByteArray) (hs : s.size ≤ 9223372036854775807) (g : G) : ∃ t, Tells Tryd.prog 60 [.v (.string s), .v (.string ⟨#[0]⟩)] g (.v (.string t)) ∧ (t = emp ↔ ∀ b ∈ s.data.toList, b = 0) := by
  refine ⟨⟨(trimB s.data.toList 0).toArray⟩, Tells.of_below (by kernel_rfl) rfl fun σ w _ => (sh_strings_Trim_one s 0 (by decide) w hs).mono ?_, ?_⟩
  · rintro e w' ⟨he, hw⟩
    refine ⟨he, ?_⟩
    rcases hw with rfl | rfl
    · exact Below.refl _ _
    · exact ⟨rfl, rfl, rfl, Nat.le_refl _, fun _ _ => rfl⟩
  · rw [← trimB_nil]
    constructor
    · intro h
      have := congrArg (fun b : ByteArray => b.data.toList) h
      simpa [emp] using this
    · intro h; rw [h]; rfl

theorem beI_app (m n x : Nat) : beI (m + n) x = beI m (x / 256 ^ n) ++ beI n x := by
  induction m with
  | zero => rw [Nat.zero_add]; rfl
  | succ m ih =>
    rw [show m + 1 + n = (m + n) + 1 by omega, beI, ih, beI, List.cons_append, Nat.div_div_eq_div_mul, ← Nat.pow_add, Nat.add_comm n m]
theorem beI_zero : ∀ m y : Nat, (∀ z ∈ beI m y, z = 0) ↔ y % 256 ^ m = 0
  | 0, y => by simp [beI, Nat.mod_one]
  | m + 1, y => by
    rw [beI, List.forall_mem_cons, beI_zero m y, Nat.mod_pow_succ]
    have hp : 0 < 256 ^ m := Nat.pow_pos (by decide)
    constructor
    · rintro ⟨h1, h2⟩
      have h1 : y / 256 ^ m % 256 = 0 := by exact_mod_cast h1
      rw [h1, h2]; simp
    · intro h
      have h2 : y % 256 ^ m = 0 := by omega
      have h3 : 256 ^ m * (y / 256 ^ m % 256) = 0 := by omega
      have h4 : y / 256 ^ m % 256 = 0 := by
        rcases Nat.mul_eq_zero.1 h3 with h | h
        · omega
        · exact h
      exact ⟨by exact_mod_cast h4, h2⟩
theorem beI_rng : ∀ (m y : Nat), ∀ z ∈ beI m y, 0 ≤ z ∧ z < 256
  | 0, y, z, h => by simp [beI] at h
  | m + 1, y, z, h => by
    rw [beI, List.mem_cons] at h
    rcases h with rfl | h
    · omega
    · exact beI_rng m y z h
theorem beS_zero (m y : Nat) : (∀ b ∈ (beS m y).data.toList, b = 0) ↔ y % 256 ^ m = 0 := by
  rw [← beI_zero, beS, bytesOfInts_list]
  simp only [List.mem_map, forall_exists_index, and_imp, forall_apply_eq_imp_iff₂]
  refine forall_congr' fun z => forall_congr' fun hz => ?_
  have := beI_rng m y z hz
  rw [← UInt8.toNat_inj, UInt8.toNat_ofNat']
  simp
  omega
theorem split_left (m n x : Nat) : (beS (m + n) x).extract 0 m = beS m (x / 256 ^ n) := by
  refine ext_of_list ?_
  rw [ext_list, List.drop_zero, beS, beS, bytesOfInts_list, bytesOfInts_list, beI_app, List.map_append, List.take_left' (by rw [List.length_map, beI_length])]
theorem split_right (m n x : Nat) : (beS (m + n) x).extract m (m + n) = beS n x := by
  refine ext_of_list ?_
  rw [ext_list, beS, beS, bytesOfInts_list, bytesOfInts_list, List.take_of_length_le (by rw [List.length_map, beI_length]; exact Nat.le_refl _), beI_app, List.map_append, List.drop_left' (by rw [List.length_map, beI_length])]

theorem putR_c (x n : Int) (g : G) (h0 : 0 ≤ x) (h1 : x < 18446744073709551616) : Tells Tryd.prog 26 [.v (.int .u64 x), .v (.int .i64 n)] g (.tup [.v (.string (putS x.toNat n)), .v (.int .i64 (putE x.toNat n))]) := by
  obtain ⟨P, hP⟩ : ∃ P, putS x.toNat n = P := ⟨_, rfl⟩
  obtain ⟨E, hE⟩ : ∃ E, putE x.toNat n = E := ⟨_, rfl⟩
  rw [hP, hE]
  refine meets_of mixedW Tryd.func26 (by kernel_rfl) x26_ok (some []) ?_
  refine (within_c n 1 8 g).call rfl rfl rfl ?_
  refine bsplit_of (fun (h : (!decide (1 ≤ n ∧ n ≤ 8)) = true) => ?_) (fun (h : (!decide (1 ≤ n ∧ n ≤ 8)) = false) => ?_)
  · have e2 : putE x.toNat n = 2 := by rw [putE, if_pos (by simp at h; omega)]
    have e1 : P = emp := by rw [← hP, putS, e2, if_neg (by decide)]
    rw [← hE, e2, e1]
    exact ⟨rfl, rfl, rfl⟩
  · have hn : 1 ≤ n ∧ n ≤ 8 := by simpa using h
    obtain ⟨k, hk⟩ := Int.eq_ofNat_of_zero_le (show 0 ≤ n by omega)
    obtain ⟨m, hm⟩ : ∃ m, m + k = 8 := ⟨8 - k, by omega⟩
    have w : IntKind.i64.wrap (8 - n) = (m : Int) := by rw [wrap_id (by omega) (by omega)]; omega
    have hx64 : x.toNat < 256 ^ (m + k) := by rw [hm]; omega
    obtain ⟨s8, hs8⟩ : ∃ s, beS 8 x.toNat = s := ⟨_, rfl⟩
    have hby := bytesOf_c x 8 g h0 h1 (by decide)
    rw [show (8 : Int).toNat = 8 from rfl, hs8] at hby
    refine hby.call rfl rfl rfl ?_
    have hsz : s8.size = 8 := by rw [← hs8, beS_size]
    refine ⟨⟨by rw [w]; omega, by rw [w, hsz]; omega⟩, ?_⟩
    have eL : s8.extract 0 (IntKind.i64.wrap (8 - n)).toNat = beS m (x.toNat / 256 ^ k) := by rw [w, Int.toNat_natCast, ← hs8, ← hm, split_left]
    have eR : s8.extract (IntKind.i64.wrap (8 - n)).toNat s8.size = beS k x.toNat := by rw [w, Int.toNat_natCast, hsz, ← hs8, ← hm, split_right]
    obtain ⟨t, ht, hz⟩ := trim_c (s8.extract 0 (IntKind.i64.wrap (8 - n)).toNat) (by rw [eL, beS_size]; omega) g
    rw [eL, beS_zero] at hz
    refine ht.call rfl rfl rfl ?_
    have hlt : x.toNat / 256 ^ k < 256 ^ m := by
      rw [Nat.div_lt_iff_lt_mul (Nat.pow_pos (by decide)), ← Nat.pow_add]; exact hx64
    rw [Nat.mod_eq_of_lt hlt] at hz
    have hz2 : t = emp ↔ x.toNat < 256 ^ k := by
      rw [hz, Nat.div_eq_zero_iff]
      have : 0 < 256 ^ k := Nat.pow_pos (by decide)
      omega
    have hnk : n.toNat = k := by omega
    refine bsplit_of (fun (q : (!(t.toList == (⟨#[]⟩ : ByteArray).toList)) = true) => ?_) (fun (q : (!(t.toList == (⟨#[]⟩ : ByteArray).toList)) = false) => ?_)
    · rw [str_beq] at q
      have hge : 256 ^ k ≤ x.toNat := by
        have : ¬ t = emp := by simpa [emp] using q
        rw [hz2] at this
        omega
      have hk8 : n < 8 := by
        by_cases h8 : k = 8
        · have hm0 : m = 0 := by omega
          rw [hm0, Nat.zero_add] at hx64
          omega
        · omega
      have e2 : putE x.toNat n = 12 := by rw [putE, if_neg (by omega), if_pos ⟨hk8, by rw [hnk]; exact hge⟩]
      have e1 : P = emp := by rw [← hP, putS, e2, if_neg (by decide)]
      rw [← hE, e2, e1]
      exact ⟨rfl, rfl, rfl⟩
    · rw [str_beq] at q
      have hlt2 : x.toNat < 256 ^ k := by
        have : t = emp := by simpa [emp] using q
        exact hz2.1 this
      have e2 : putE x.toNat n = 0 := by rw [putE, if_neg (by omega), if_neg (fun hh => by have := hh.2; rw [hnk] at this; omega)]
      have e1 : P = beS k x.toNat := by rw [← hP, putS, e2, if_pos rfl, hnk]
      refine ⟨⟨by rw [w]; omega, by rw [w, hsz]; omega⟩, ?_⟩
      rw [← hE, e2, e1, ← eR]
      exact ⟨rfl, rfl, rfl⟩

/-- The law WirePuts. -/
theorem wirePuts_c (x n : Int) (g : G) (hx : iok .u64 x) (_ : iok .i64 n) (hE : ErrVar g) : Meets Tryd.prog 7 [.v (.int .u64 x), .v (.int .i64 n)] [] g (fun o _ _ => o = .ret (.v (.bool true))) := by
  have h0 := hx.1
  have h1 : x < 18446744073709551616 := by have := hx.2; omega
  refine meets_of mixedW Tryd.func7 (by kernel_rfl) x7_ok (some []) ?_
  refine (putR_c x n g h0 h1).call rfl rfl rfl ?_
  refine (put_c x n g h0 h1).call rfl rfl rfl ?_
  refine (bare_c _ _ _ (putE x.toNat n) g hE (errP_nilOr (putE x.toNat n))).call rfl rfl rfl ?_
  refine bsplit_of (fun h => absurd h (by simp)) (fun _ => ?_)
  refine bsplit_of (fun (h : (!((putS x.toNat n).toList == (putS x.toNat n).toList)) = true) => absurd h (by simp)) (fun _ => ?_)
  refine bsplit_of (fun _ => rfl) (fun (h : decide (x > 4611686018427387904) = false) => ?_)
  have h2 := of_decide_eq_false h
  have w : IntKind.i64.wrap x = x := wrap_id (by omega) (by omega)
  have hm := must_c (IntKind.i64.wrap x) n g
  rw [w, show (IntKind.u64.wrap x).toNat = x.toNat from u64_pos h0 (by omega)] at hm
  have hm : Tells Tryd.prog 28 [.v (.int .i64 (IntKind.i64.wrap x)), .v (.int .i64 n)] g (.v (.string (putS x.toNat n))) := by rw [w]; exact hm
  refine hm.call rfl rfl rfl ?_
  exact rb (by simp)
end Go.Proofs.YtpdngikdpepekaaDoor
