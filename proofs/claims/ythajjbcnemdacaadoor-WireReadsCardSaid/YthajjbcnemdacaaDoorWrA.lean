/- wire.Reader at any number of bytes; numbers as text: what each returns. Conditions: of Itoa, that the table of powers of ten is as laid. -/
import Derived.Test.YthajjbcnemdacaaDoorRdC
import Derived.Test.YthajjbcnemdacaaDoorShelfI
import Derived.Test.YthajjbcnemdacaaDoorBaseD
import Derived.Test.YthajjbcnemdacaaDoorXwread
import Derived.Lib.AppendIntMem
import Derived.Lib.ItoaLen
namespace Go.Proofs.YthajjbcnemdacaaDoor
open Go.Sx Go.Lib Go.RowKit
set_option maxRecDepth 100000
set_option maxHeartbeats 8000000
attribute [local irreducible] Meets

/-! ### Numbers and truths as text -/
def numS (n : Int) : ByteArray := ⟨(Lib.itoa n).toArray⟩
def boolS (b : Bool) : ByteArray := ⟨(Lib.formatBool b).toArray⟩
theorem numS_size {n : Int} (h0 : -9223372036854775808 ≤ n) (h1 : n ≤ 9223372036854775807) : (numS n).size ≤ 21 := by
  show ((Lib.itoa n).toArray).size ≤ 21
  rw [List.size_toArray]
  exact Lib.itoa_length_le n h0 h1
theorem boolS_size (b : Bool) : (boolS b).size ≤ 5 := by cases b <;> decide
attribute [local irreducible] numS boolS
/-- The table of powers of ten is as laid. -/
def TabVar (g : G) : Prop := ∀ w : World, (∀ b o, g b = some o → w.heap[b]? = some o) → Lib.TabIs Tryd.prog w "internal/strconv.uint64pow10" .u64 Lib.pow10Tab
theorem TabVar.mono {g g' : G} (h : TabVar g) (hl : G.le g g') : TabVar g' := fun w hw => h w fun b o hb => hw b o (hl b o hb)
theorem itoa_c (n : Int) (h0 : -9223372036854775808 ≤ n) (h1 : n ≤ 9223372036854775807) (g : G) (hT : TabVar g) : Tells Tryd.prog 26 [.v (.int .i64 n)] g (.v (.string (numS n))) :=
  Tells.of_below (by kernel_rfl) rfl fun σ w him => by
    unfold numS
    refine Calls.mono (sh_strconv_Itoa n h0 h1 w (hT w him)) fun e w' h => ?_
    obtain ⟨h1, k, os, rfl⟩ := h
    exact ⟨h1, below_grow _ w (Nat.le_refl _) k os⟩
theorem boolS_c (b : Bool) (g : G) : Tells Tryd.prog 28 [.v (.bool b)] g (.v (.string (boolS b))) :=
  Tells.of_below (by kernel_rfl) rfl fun σ w him => by
    unfold boolS
    refine Calls.mono (sh_strconv_FormatBool b w) fun e w' h => ?_
    obtain ⟨h1, rfl⟩ := h
    exact ⟨h1, Below.refl _ _⟩

/-! ### A number of any size, in 64 bits -/
def shO (x : Int) (b : UInt8) : Int := IntKind.i64.wrap ((BitVec.ofInt IntKind.i64.bits (IntKind.i64.wrap (x * 2 ^ (min 8 IntKind.i64.bits))) ||| BitVec.ofInt IntKind.i64.bits (IntKind.i64.wrap (b.toNat : Int))).toNat : Int)
def num64 (l : List UInt8) : Int := l.foldl shO 0
theorem num64_take {l : List UInt8} {k : Nat} {b : UInt8} (h : l[k]? = some b) : num64 (l.take (k + 1)) = shO (num64 (l.take k)) b := by
  rw [List.take_add_one, h]
  simp [num64, List.foldl_append]
theorem wrap_rng (z : Int) : -9223372036854775808 ≤ IntKind.i64.wrap z ∧ IntKind.i64.wrap z ≤ 9223372036854775807 := by
  have h0 := Int.emod_nonneg z (show (18446744073709551616 : Int) ≠ 0 by decide)
  have h1 := Int.emod_lt_of_pos z (show (0 : Int) < 18446744073709551616 by decide)
  show -9223372036854775808 ≤ (if (true && decide (z % 18446744073709551616 ≥ 9223372036854775808)) = true then z % 18446744073709551616 - 18446744073709551616 else z % 18446744073709551616) ∧ (if (true && decide (z % 18446744073709551616 ≥ 9223372036854775808)) = true then z % 18446744073709551616 - 18446744073709551616 else z % 18446744073709551616) ≤ 9223372036854775807
  rw [Bool.true_and]
  split
  · rename_i h; have := of_decide_eq_true h; omega
  · rename_i h; have : ¬ z % 18446744073709551616 ≥ 9223372036854775808 := fun k => h (decide_eq_true k); omega
theorem num64_rng (l : List UInt8) : -9223372036854775808 ≤ num64 l ∧ num64 l ≤ 9223372036854775807 := by
  rcases List.eq_nil_or_concat l with rfl | ⟨m, b, rfl⟩
  · exact ⟨by decide, by decide⟩
  · rw [List.concat_eq_append, num64, List.foldl_append]
    exact wrap_rng _

/-! ### Readers -/
/-- The code of what is wrong, and where. -/
def fa (r : RdV) : Int × Int := match r.err with | none => (0, -1) | some p => p
def okE (r : RdV) : Prop := ∀ p, r.err = some p → 1 ≤ p.1 ∧ p.1 ≤ 100
/-- The next n bytes, for a number or not. -/
def tkR (r : RdV) (num : Bool) (n : Int) : ByteArray × RdV := if r.err = none ∧ num = true ∧ (n < 1 ∨ 8 < n) then (emp, r.fail 2 r.place) else r.bytes n
theorem fa_none {r : RdV} (h : r.err = none) : fa r = (0, -1) := by simp [fa, h]
theorem fa_some {r : RdV} {p : Int × Int} (h : r.err = some p) : fa r = p := by simp [fa, h]
theorem tkR_num {r : RdV} {n : Int} (h : r.err = none) (k : n < 1 ∨ 8 < n) : tkR r true n = (emp, r.fail 2 r.place) := if_pos ⟨h, rfl, k⟩
theorem tkR_any {r : RdV} {n : Int} {b : Bool} (k : ¬ (r.err = none ∧ b = true ∧ (n < 1 ∨ 8 < n))) : tkR r b n = r.bytes n := if_neg k
theorem tkR_some {r : RdV} {p : Int × Int} (h : r.err = some p) (b : Bool) (n : Int) : tkR r b n = (emp, r) := by
  rw [tkR_any (by simp [h]), RdV.bytes_dead h]; rfl
theorem fail_some {r : RdV} (h : r.err = none) (n pl : Int) : (r.fail n pl).err = some (n, pl) := by simp [RdV.fail, h]

theorem bytes_g (r : RdV) (v : Value) (n : Int) (g : G) (hr : r.ok) (h : errAt g v r.err) : Meets Tryd.prog 25 [.ptr 0 0, .v (.int .i64 n)] [rdC r v] g (RdPost g (r.bytes n).2 (.v (.string (r.bytes n).1))) := by
  cases he : r.err with
  | some e =>
    rw [RdV.bytes_dead he]
    have h' := h
    rw [he] at h'
    obtain ⟨ad, rfl, h2⟩ := h'
    refine meets_of mixedW Tryd.func25 (by kernel_rfl) x25_ok (some []) ?_
    exact ⟨rfl, ⟨_, rfl, h⟩, le_refl g⟩
  | none =>
    have h' := h
    rw [he] at h'
    have h' : v = .nilIface := h'
    subst h'
    obtain ⟨h1, h2, h3, h4⟩ := id hr
    refine meets_of mixedW Tryd.func25 (by kernel_rfl) x25_ok (some []) ?_
    refine bsplit_of (fun k1 => ?_) (fun k1 => ?_)
    · refine (at_c r .nilIface g hr).callS [0] 1 rfl rfl rfl rfl ?_
      rintro o L1 g' ⟨rfl, rfl, rfl⟩ _
      refine (fail_c r .nilIface 2 r.place _ h).callS [0] 1 rfl rfl rfl rfl ?_
      rintro o L1 g' ⟨rfl, ⟨v, rfl, hv⟩, hle⟩ _
      have e : r.bytes n = (⟨#[]⟩, r.fail 2 r.place) := by simp at k1; simp [RdV.bytes, he, k1]
      rw [e]
      exact ⟨rfl, ⟨v, rfl, hv⟩, hle⟩
    · refine (left_c r .nilIface g hr).callS [0] 1 rfl rfl rfl rfl ?_
      rintro o L1 g' ⟨rfl, rfl, rfl⟩ _
      refine bsplit_of (fun k2 => ?_) (fun k2 => ?_)
      · refine (at_c r .nilIface _ hr).callS [0] 1 rfl rfl rfl rfl ?_
        rintro o L1 g' ⟨rfl, rfl, rfl⟩ _
        refine (fail_c r .nilIface 7 r.place _ h).callS [0] 1 rfl rfl rfl rfl ?_
        rintro o L1 g' ⟨rfl, ⟨v, rfl, hv⟩, hle⟩ _
        have e : r.bytes n = (⟨#[]⟩, r.fail 7 r.place) := by
          simp at k1 k2
          simp [RdV.bytes, he, show ¬ n < 0 by omega, k2]
        rw [e]
        exact ⟨rfl, ⟨v, rfl, hv⟩, hle⟩
      · have k1' : 0 ≤ n := by simpa using k1
        have k2' : ¬ (r.s.size : Int) - r.at_ < n := by simpa using k2
        have w1 : IntKind.i64.wrap ((r.at_ : Int) + n) = r.at_ + n := wrap_id (by omega) (by omega)
        have w2 : IntKind.i64.wrap (IntKind.i64.wrap ((r.at_ : Int) + n) - n) = r.at_ := by rw [w1, wrap_id (by omega) (by omega)]; omega
        refine ⟨⟨by rw [w1]; omega, by rw [w1]; omega⟩, ⟨by rw [w2]; omega, by rw [w2, w1]; omega⟩, ?_⟩
        rw [RdV.bytes_good he k1' k2']
        refine ⟨?_, ⟨.nilIface, ?_, by rw [errAt.eq_def]; simp [he]⟩, le_refl _⟩
        · exact rs (by rw [w2, w1, Int.toNat_natCast]; show _ = r.s.extract r.at_ (r.at_ + n.toNat); congr 1; omega)
        · exact congrArg (fun x : Int => [Chunk.cells 86 [.v (.string r.s), .v (.int .i64 x), .v (.int .i64 r.off), .v .nilIface]]) (by rw [w1]; show r.at_ + n = ((r.at_ + n.toNat : Nat) : Int); omega)

theorem num_g (r : RdV) (v : Value) (n : Int) (g : G) (hr : r.ok) (hz : r.s.size ≤ 1000) (h : errAt g v r.err) : Meets Tryd.prog 27 [.ptr 0 0, .v (.int .i64 n)] [rdC r v] g (RdPost g (tkR r true n).2 (.v (.int .i64 (num64 (tkR r true n).1.data.toList)))) := by
  obtain ⟨t, R, hT⟩ : ∃ t R, tkR r true n = (t, R) := ⟨_, _, rfl⟩
  rw [hT]
  have hl : t.data.toList.length = t.size := by rw [Array.length_toList]; rfl
  have ht : t.size ≤ 1000 := by
    rw [show t = (tkR r true n).1 by rw [hT]]
    unfold tkR
    split
    · exact Nat.zero_le _
    · unfold RdV.bytes
      split
      · exact Nat.zero_le _
      · split
        · exact Nat.zero_le _
        · split
          · exact Nat.zero_le _
          · rw [ByteArray.size_extract]; omega
  refine meets_of mixedW Tryd.func27 (by kernel_rfl) x27_ok (some []) ?_
  rcases he : r.err with _ | p
  · obtain rfl : v = .nilIface := by rw [he] at h; exact h
    by_cases k : n < 1 ∨ 8 < n
    · rw [tkR_num he k] at hT
      cases hT
      have hb : (r.fail 2 r.place).bytes n = (⟨#[]⟩, r.fail 2 r.place) := RdV.bytes_dead (fail_some he _ _) n
      refine bsplit_of (fun k1 => ?_) (fun k1 => bsplit_of (fun k2 => ?_) (fun k2 => absurd k (by simp at k1 k2; omega)))
      all_goals
        refine (at_c r _ g hr).callS [0] 1 rfl rfl rfl rfl ?_
        rintro o L1 g' ⟨rfl, rfl, rfl⟩ _
        refine (fail_c r .nilIface 2 r.place _ (by rw [he]; rfl)).callS [0] 1 rfl rfl rfl rfl ?_
        rintro o L1 g1 ⟨rfl, ⟨v1, rfl, hv1⟩, hle1⟩ _
        have hB := bytes_g (r.fail 2 r.place) v1 n g1 (RdV.fail_ok hr _ _) hv1
        rw [hb] at hB
        refine hB.callS [0] 1 rfl rfl rfl rfl ?_
        rintro o L1 g3 ⟨rfl, ⟨v', rfl, hv'⟩, hle3⟩ _
        have hle := le_trans hle1 hle3
        refine prim_bytes (e := 5) (by kernel_rfl) (by kernel_rfl) (by kernel_rfl) rfl (fun g2 ad2 cap hg2 hat => ?_)
        change LoopW _ _ _ _ _ _ _
        apply loop_rule [] (α := Unit) (fun _ => [(30, .v (.int .i64 0)), (5, .v (.int .i64 0))]) (fun _ => [rdC (r.fail 2 r.place) v']) (fun _ => g2) (fun _ => True) (fun _ => 0) ()
        · intro x; kernel_rfl
        · trivial
        · exact ⟨rfl, rfl, trivial⟩
        · rfl
        · rfl
        intro k hk
        exact ⟨rfl, ⟨v', rfl, hv'.mono hg2⟩, le_trans hle hg2⟩
    · rw [tkR_any (by simp [k])] at hT
      refine bsplit_of (fun k1 => absurd k1 (by simp; omega)) (fun _ => ?_)
      refine bsplit_of (fun k1 => absurd k1 (by simp; omega)) (fun _ => ?_)
      have hB := bytes_g r .nilIface n g hr h
      rw [hT] at hB
      dsimp only at hB
      refine hB.callS [0] 1 rfl rfl rfl rfl ?_
      rintro o L1 g1 ⟨rfl, ⟨v', rfl, hv'⟩, hle⟩ _
      refine prim_bytes (e := 5) (by kernel_rfl) (by kernel_rfl) (by kernel_rfl) rfl (fun g2 ad2 cap hg2 hat => ?_)
      change LoopW _ _ _ _ _ _ _
      apply loop_rule [] (α := Nat) (fun k => [(30, .v (.int .i64 k)), (5, .v (.int .i64 (num64 (t.data.toList.take k))))]) (fun _ => [rdC R v']) (fun _ => g2) (fun k => k ≤ t.size) (fun k => t.size - k) 0
      · intro x; kernel_rfl
      · exact Nat.zero_le _
      · exact ⟨rfl, rfl, trivial⟩
      · rfl
      · rfl
      intro k hk
      refine bsplit_of (fun hlt => ?_) (fun hlt => ?_)
      · have hlt' : k < t.size := by simpa using hlt
        obtain ⟨b, hb, hat2⟩ := byte_at hat hlt'
        refine ⟨⟨by omega, by show ((k : Nat) : Int) < (t.size : Int); omega⟩, ad2, rfl, ?_⟩
        refine ⟨[.int .u8 b.toNat], rfl, hat2, ?_⟩
        refine ⟨by decide, ?_⟩
        exact ⟨k + 1, hlt', by omega, [0], rfl, ⟨vi (wrap_id (by omega) (by omega)), vi (num64_take hb).symm, trivial⟩, rfl, rfl, rfl, rfl⟩
      · have : k = t.size := by simp at hlt; omega
        subst this
        refine ⟨ri (k := .i64) ?_, ⟨v', rfl, hv'.mono hg2⟩, le_trans hle hg2⟩
        rw [List.take_of_length_le (by omega)]
  · rw [tkR_any (by simp [he])] at hT
    obtain ⟨ad, rfl, -⟩ : ∃ ad, v = .iface 91 (.pointer (some ad)) ∧ True := by
      rw [he] at h
      obtain ⟨ad, h1, -⟩ := h
      exact ⟨ad, h1, trivial⟩
    have hB := bytes_g r _ n g hr h
    rw [hT] at hB
    dsimp only at hB
    refine hB.callS [0] 1 rfl rfl rfl rfl ?_
    rintro o L1 g1 ⟨rfl, ⟨v', rfl, hv'⟩, hle⟩ _
    refine prim_bytes (e := 5) (by kernel_rfl) (by kernel_rfl) (by kernel_rfl) rfl (fun g2 ad2 cap hg2 hat => ?_)
    change LoopW _ _ _ _ _ _ _
    apply loop_rule [] (α := Nat) (fun k => [(30, .v (.int .i64 k)), (5, .v (.int .i64 (num64 (t.data.toList.take k))))]) (fun _ => [rdC R v']) (fun _ => g2) (fun k => k ≤ t.size) (fun k => t.size - k) 0
    · intro x; kernel_rfl
    · exact Nat.zero_le _
    · exact ⟨rfl, rfl, trivial⟩
    · rfl
    · rfl
    intro k hk
    refine bsplit_of (fun hlt => ?_) (fun hlt => ?_)
    · have hlt' : k < t.size := by simpa using hlt
      obtain ⟨b, hb, hat2⟩ := byte_at hat hlt'
      refine ⟨⟨by omega, by show ((k : Nat) : Int) < (t.size : Int); omega⟩, ad2, rfl, ?_⟩
      refine ⟨[.int .u8 b.toNat], rfl, hat2, ?_⟩
      refine ⟨by decide, ?_⟩
      exact ⟨k + 1, hlt', by omega, [0], rfl, ⟨vi (wrap_id (by omega) (by omega)), vi (num64_take hb).symm, trivial⟩, rfl, rfl, rfl, rfl⟩
    · have : k = t.size := by simp at hlt; omega
      subst this
      refine ⟨ri (k := .i64) ?_, ⟨v', rfl, hv'.mono hg2⟩, le_trans hle hg2⟩
      rw [List.take_of_length_le (by omega)]

theorem sub_c (r : RdV) (v : Value) (n : Int) (g : G) (hr : r.ok) (h : errAt g v r.err) : Meets Tryd.prog 30 [.ptr 0 0, .v (.int .i64 n)] [rdC r v] g (fun o L' g' => o = .ret (.ptr 1 0) ∧ (∃ v', L' = [rdC (r.bytes n).2 v', rdC ⟨(r.bytes n).1, 0, r.place, (r.bytes n).2.err⟩ v'] ∧ errAt g' v' (r.bytes n).2.err) ∧ G.le g g') := by
  refine meets_of mixedW Tryd.func30 (by kernel_rfl) x30_ok (some [1]) ?_
  refine (at_c r v g hr).callS [0] 1 rfl rfl rfl rfl ?_
  rintro o L1 g' ⟨rfl, rfl, rfl⟩ _
  refine (bytes_g r v n _ hr h).callS [0] 1 rfl rfl rfl rfl ?_
  rintro o L1 g1 ⟨rfl, ⟨v', rfl, hv'⟩, hle⟩ _
  rcases errAt_cases hv' with ⟨rfl, -⟩ | ⟨ad, rfl, -⟩
  · exact ⟨rfl, ⟨_, rfl, hv'⟩, hle⟩
  · exact ⟨rfl, ⟨_, rfl, hv'⟩, hle⟩
end Go.Proofs.YthajjbcnemdacaaDoor
