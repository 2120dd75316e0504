/- wire.Put, wire.Must and the reference's bytesOf, be: what each returns. Conditions: of Put, that the number is one of 64 bits. -/
import Derived.Test.YtdbkceojpeboeaaDoorXwire
import Derived.Test.YtdbkceojpeboeaaDoorTypes
import Derived.Test.YtdbkceojpeboeaaDoorBaseC
import Derived.Test.YtdbkceojpeboeaaDoorErrB
namespace Go.Proofs.YtdbkceojpeboeaaDoor
open Go.Sx
set_option maxRecDepth 100000
set_option maxHeartbeats 8000000
attribute [local irreducible] Meets

theorem mixedW : Tryd.prog.follows .mixedOrders = true := by kernel_rfl
def errW (n : Int) : Value := .iface 32 (.int .i64 n)
def nilOr (e : Int) : Value := if e = 0 then .nilIface else errW e
def emp : ByteArray := ⟨#[]⟩
theorem errP_nilOr {g : G} (e : Int) : ErrP g (nilOr e) e (-1) := by
  by_cases h : e = 0
  · rw [nilOr, if_pos h, h]; exact .nil
  · rw [nilOr, if_neg h]; exact .bare e
/-- What is wrong with a number that is to be so many bytes. -/
def putE (x : Nat) (n : Int) : Int := if n < 1 ∨ 8 < n then 2 else if n < 8 ∧ 256 ^ n.toNat ≤ x then 12 else 0
def putS (x : Nat) (n : Int) : ByteArray := if putE x n = 0 then beS n.toNat x else emp

theorem put_c (x : Int) (n : Int) (g : G) (h0 : 0 ≤ x) (h1 : x < 18446744073709551616) : Tells Tryd.prog 35 [.v (.int .u64 x), .v (.int .i64 n)] g (.tup [.v (.string (putS x.toNat n)), .v (nilOr (putE x.toNat n))]) := by
  obtain ⟨x, rfl⟩ := Int.eq_ofNat_of_zero_le h0
  simp only [Int.toNat_natCast]
  refine meets_of mixedW Tryd.func35 (by kernel_rfl) x35_ok (some []) ?_
  have bad : putE x n ≠ 0 → putS x n = emp ∧ nilOr (putE x n) = errW (putE x n) := fun h => ⟨if_neg h, if_neg h⟩
  refine bsplit_of (fun h1 => ?_) (fun h1 => ?_)
  · have : putE x n = 2 := if_pos (by simp at h1; omega)
    obtain ⟨e1, e2⟩ := bad (by rw [this]; decide)
    rw [e1, e2, this]
    exact ⟨rfl, rfl, rfl⟩
  refine bsplit_of (fun h2 => ?_) (fun h2 => ?_)
  · have : putE x n = 2 := if_pos (by simp at h2; omega)
    obtain ⟨e1, e2⟩ := bad (by rw [this]; decide)
    rw [e1, e2, this]
    exact ⟨rfl, rfl, rfl⟩
  obtain ⟨k, rfl⟩ := Int.eq_ofNat_of_zero_le (a := n) (by simp at h1; omega)
  have k1 : 1 ≤ k := by simp at h1; omega
  have k8 : k ≤ 8 := by simp at h2; omega
  have w8 : ∀ i : Nat, i ≤ 8 → IntKind.i64.wrap (8 * (i : Int)) = 8 * (i : Int) := fun i hi => wrap_id (by omega) (by omega)
  have made : putE x k = 0 → putS x k = beS k x ∧ nilOr (putE x k) = .nilIface := fun h => ⟨by rw [putS, if_pos h]; rfl, if_pos h⟩
  have small : k < 8 → ((x : Int).fdiv (2 ^ (min (IntKind.i64.wrap (8 * (k : Int))).toNat IntKind.u64.bits)) != 0) = decide (256 ^ k ≤ x) := fun h => by
    rw [w8 k k8, shr8 x k k8 .u64 rfl, Bool.eq_iff_iff]
    have hp : 0 < 256 ^ k := Nat.pow_pos (by decide)
    by_cases hx : x < 256 ^ k
    · rw [Nat.div_eq_of_lt hx]; simp; omega
    · have := Nat.div_pos (Nat.le_of_not_lt hx) hp
      generalize x / 256 ^ k = y at this
      simp; omega
  refine bsplit_of (fun h3 => ?_) (fun h3 => ?_)
  rotate_left
  have good : putE x k = 0 := by
    rw [putE, if_neg (by omega), if_neg (fun h => by simp at h3; omega)]
  rotate_left
  refine ⟨by rw [w8 k k8]; omega, ?_⟩
  refine bsplit_of (fun h4 => ?_) (fun h4 => ?_)
  · have h3' : k < 8 := by simp at h3; omega
    have : putE x k = 12 := by
      rw [small h3'] at h4
      rw [putE, if_neg (by omega), if_pos ⟨by omega, by simpa using h4⟩]
    obtain ⟨e1, e2⟩ := bad (by rw [this]; decide)
    rw [e1, e2, this]
    exact ⟨rfl, rfl, rfl⟩
  have good : putE x k = 0 := by
    have h3' : k < 8 := by simp at h3; omega
    rw [small h3'] at h4
    rw [putE, if_neg (by omega), if_neg (fun h => by simp at h4; have := h.2; rw [Int.toNat_natCast] at this; omega)]
  all_goals
    obtain ⟨e1, e2⟩ := made good
    rw [e1, e2]
    refine prim_makeC (t := 38) (e := 5) (i := Tryd.t5) (z := .int .u8 0) (zv := .int .u8 0) 0 rfl (by kernel_rfl) (by kernel_rfl) (by kernel_rfl) rfl rfl rfl ⟨by omega, by omega, by (show ((1 : Nat) : Int) * (k : Int) ≤ _); omega, by omega⟩ (cellsP k x 0) (cellsP_zero k x) ?_
    change LoopW _ _ _ _ _ _ _ _ _ _
    apply loop_rule [] (α := Nat) (fun i => [(29, .v (.int .i64 i))]) (fun i => [Chunk.vals 5 (cellsP k x i)]) (fun _ => g) (fun i => i ≤ k) (fun i => k - i) 0
    · intro x; kernel_rfl
    · exact Nat.zero_le _
    · exact ⟨rfl, trivial⟩
    · rfl
    · rfl
    intro i hi
    refine bsplit_of (fun hlt => ?_) (fun hlt => ?_)
    · have hlt' : i < k := by simpa using hlt
      have hidx : IntKind.i64.wrap (IntKind.i64.wrap ((k : Int) - 1) - (i : Int)) = ((k - 1 - i : Nat) : Int) := by
        rw [wrap_id (a := (k : Int) - 1) (by omega) (by omega), wrap_id (by omega) (by omega)]; omega
      refine ⟨by rw [w8 i (by omega)]; omega, ?_⟩
      refine ⟨⟨by rw [hidx]; omega, by rw [hidx]; omega⟩, ?_⟩
      refine ⟨rfl, fun u hu => by simp [Value.cells] at hu; subst hu; rfl, by rw [hidx, cellsP_length k x i hi]; omega, ?_⟩
      refine ⟨i + 1, hlt', by omega, [0], rfl, ⟨vi (wrap_id (by omega) (by omega)), trivial⟩, ?_, rfl, rfl, rfl⟩
      refine sv1 (o' := k - 1 - i) (by rw [hidx]; omega) ?_ (cellsP_step k x i hlt')
      rw [w8 i (by omega), shr8 x i (by omega) .u64 rfl, u8_nat]
    · have : i = k := by simp at hlt; omega
      subst this
      refine ⟨by rw [cellsP_length i x i hi]; omega, beI i x, cellsP_end i x, ?_⟩
      exact ⟨rfl, rfl, rfl⟩

theorem must_c (x n : Int) (g : G) : Tells Tryd.prog 21 [.v (.int .i64 x), .v (.int .i64 n)] g (.v (.string (putS (IntKind.u64.wrap x).toNat n))) := by
  refine meets_of mixedW Tryd.func21 (by kernel_rfl) x21_ok (some []) ?_
  refine (put_c (IntKind.u64.wrap x) n g (u64_rng x).1 (u64_rng x).2).call rfl rfl rfl ?_
  exact ⟨rfl, rfl, rfl⟩

theorem bytesOf_c (x n : Int) (g : G) (h0 : 0 ≤ x) (h1 : x < 18446744073709551616) (hn : n ≤ 9223372036854775807) : Tells Tryd.prog 37 [.v (.int .u64 x), .v (.int .i64 n)] g (.v (.string (beS n.toNat x.toNat))) := by
  obtain ⟨x, rfl⟩ := Int.eq_ofNat_of_zero_le h0
  simp only [Int.toNat_natCast]
  refine meets_of mixedW Tryd.func37 (by kernel_rfl) x37_ok (some []) ?_
  change LoopW _ _ _ _ _ _ _ _ _ _
  apply loop_rule [] (α := Nat) (fun i => [(7, .v (.int .i64 i)), (0, .v (.int .u64 ((x / 256 ^ i : Nat) : Int))), (5, .v (.string (beS i x)))]) (fun _ => []) (fun _ => g) (fun i => i ≤ n.toNat) (fun i => n.toNat - i) 0
  · intro x; kernel_rfl
  · exact Nat.zero_le _
  · exact ⟨rfl, vi (by simp), rfl, trivial⟩
  · rfl
  · rfl
  intro i hi
  refine bsplit_of (fun hlt => ?_) (fun hlt => ?_)
  · have hlt' : i < n.toNat := by simp at hlt; omega
    refine ⟨by decide, ?_⟩
    refine ⟨by rw [bytesOfInts_size, beS_size]; simp only [List.length_cons, List.length_nil]; omega, ?_⟩
    refine ⟨by decide, ?_⟩
    have hp : x / 256 ^ i ≤ x := Nat.div_le_self _ _
    have ev : IntKind.u8.wrap (((x / 256 ^ i : Nat) : Int).tmod 256) = ((x / 256 ^ i % 256 : Nat) : Int) := by
      generalize x / 256 ^ i = y
      rw [Int.tmod_eq_emod_of_nonneg (by omega), IntKind.wrap_u8]; omega
    have eq : IntKind.u64.wrap (((x / 256 ^ i : Nat) : Int).tdiv 256) = ((x / 256 ^ (i + 1) : Nat) : Int) := by
      rw [← div_pow]
      generalize x / 256 ^ i = y at hp
      rw [Int.tdiv_eq_ediv_of_nonneg (by omega), IntKind.wrap_u64]; omega
    refine ⟨i + 1, hlt', by omega, [], rfl, ⟨vi (wrap_id (by omega) (by omega)), vi eq, ?_, trivial⟩, rfl, rfl, rfl, rfl⟩
    exact vs (by rw [beS_cons, ← ev])
  · have : i = n.toNat := by simp at hlt; omega
    subst this
    exact ⟨rfl, rfl, rfl⟩

theorem be_c (x n : Int) (g : G) (hn : n ≤ 9223372036854775807) : Tells Tryd.prog 25 [.v (.int .i64 x), .v (.int .i64 n)] g (.v (.string (beS n.toNat (IntKind.u64.wrap x).toNat))) := by
  refine meets_of mixedW Tryd.func25 (by kernel_rfl) x25_ok (some []) ?_
  refine (bytesOf_c (IntKind.u64.wrap x) n g (u64_rng x).1 (u64_rng x).2 hn).call rfl rfl rfl ?_
  exact ⟨rfl, rfl, rfl⟩

/-- Where a number is in range, both are its bytes. -/
theorem u64_pos {x : Int} (h0 : 0 ≤ x) (h1 : x ≤ 9223372036854775807) : (IntKind.u64.wrap x).toNat = x.toNat := by
  rw [IntKind.wrap_u64]; omega
theorem putS_good {x : Nat} {n : Nat} (h1 : 1 ≤ n) (h8 : n ≤ 8) (hx : x < 256 ^ n) : putS x n = beS n x := by
  have : putE x n = 0 := by
    rw [putE, if_neg (by omega), if_neg (fun h => by have := h.2; rw [Int.toNat_natCast] at this; omega)]
  rw [putS, if_pos this]; rfl
theorem mustG (x : Int) (n : Nat) (g : G) (h1 : 1 ≤ n) (h8 : n ≤ 8) (h0 : 0 ≤ x) (hx : x < ((256 ^ n : Nat) : Int)) (hm : x ≤ 9223372036854775807) : Tells Tryd.prog 21 [.v (.int .i64 x), .v (.int .i64 n)] g (.v (.string (beS n x.toNat))) := by
  have := must_c x n g
  rwa [u64_pos h0 hm, putS_good h1 h8 (by omega)] at this
theorem beG (x : Int) (n : Nat) (g : G) (hn : n ≤ 8) (h0 : 0 ≤ x) (hm : x ≤ 9223372036854775807) : Tells Tryd.prog 25 [.v (.int .i64 x), .v (.int .i64 n)] g (.v (.string (beS n x.toNat))) := by
  have := be_c x n g (by omega)
  rwa [u64_pos h0 hm] at this
end Go.Proofs.YtdbkceojpeboeaaDoor
