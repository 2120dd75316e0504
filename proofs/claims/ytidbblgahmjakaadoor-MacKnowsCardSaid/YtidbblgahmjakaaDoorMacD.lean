/- mac.Known, Group, Reserved, Less and their references: what each returns; the law MacKnows. Conditions: one entry of a table of math/bits is as laid. -/
import Derived.Test.YtidbblgahmjakaaDoorMacC
namespace Go.Proofs.YtidbblgahmjakaaDoor
open Go.Sx Go.Lib
set_option maxRecDepth 100000
set_option maxHeartbeats 8000000
attribute [local irreducible] Meets
attribute [local instance] Classical.propDecidable

def knownA (n : Int) : AddrV := ⟨1, 128, 194, 0, 0, IntKind.u8.wrap n⟩
theorem known_c (n : Int) (g : G) : Tells Tryd.prog 13 [.v (.int .i64 n)] g (.agg ((knownA n).cells.map .v)) := by
  refine meets_of mixedM Tryd.func13 (by kernel_rfl) x13_ok (some []) ?_
  exact ⟨rfl, rfl, rfl⟩
def groupB (a : AddrV) : Bool := IntKind.u8.wrap ((BitVec.ofInt IntKind.u8.bits a.e0 &&& BitVec.ofInt IntKind.u8.bits 1).toNat : Int) == 1
theorem group_c (a : AddrV) (g : G) : Tells Tryd.prog 14 [.agg (a.cells.map .v)] g (.v (.bool (groupB a))) := by
  refine meets_of mixedM Tryd.func14 (by kernel_rfl) x14_ok (some []) ?_
  refine ⟨⟨by decide, by decide⟩, ?_⟩
  exact ⟨rfl, rfl, rfl⟩
theorem group_eq {a : AddrV} {g : G} (ha : a.ok g) : groupB a = (a.e0.tmod 2 == 1) := by
  obtain ⟨⟨h0, h1⟩, -⟩ := ha
  obtain ⟨n, hn⟩ := Int.eq_ofNat_of_zero_le h0
  have hn' : n < 256 := by omega
  unfold groupB
  rw [hn, Int.tmod_eq_emod_of_nonneg (by omega), BitVec.toNat_and, bv_nat .u8 n (by simp [IntKind.bits]; omega), show (BitVec.ofInt IntKind.u8.bits 1).toNat = 2 ^ 1 - 1 from by decide, and_mask]
  have : IntKind.u8.wrap ((n % 2 ^ 1 : Nat) : Int) = ((n % 2 ^ 1 : Nat) : Int) := by
    simp only [IntKind.wrap, IntKind.signed, IntKind.bits]
    simp
    omega
  rw [this]
  push_cast
  rfl
theorem maclass_c (a b : AddrV) (g : G) : Tells Tryd.prog 17 [.agg (a.cells.map .v), .agg (b.cells.map .v)] g (.v (.bool (Op.bytesLess (addrB a).toList (addrB b).toList))) := by
  refine meets_of mixedM Tryd.func17 (by kernel_rfl) x17_ok (some []) ?_
  exact ⟨rfl, rfl, rfl⟩

def resP (a : AddrV) : Prop := a.e5 ≤ 15 ∧ a = ⟨1, 128, 194, 0, 0, a.e5⟩
noncomputable def resI (a : AddrV) : Int := if resP a then a.e5 else -1
theorem res_c (a : AddrV) (g : G) (ha : a.ok g) : Tells Tryd.prog 15 [.agg (a.cells.map .v)] g (.v (.int .i64 (resI a))) := by
  obtain ⟨-, -, -, -, -, h50, h51⟩ := ha
  have w5 : IntKind.i64.wrap a.e5 = a.e5 := wrap_id (by omega) (by omega)
  have w8 : IntKind.u8.wrap a.e5 = a.e5 := by
    simp only [IntKind.wrap, IntKind.signed, IntKind.bits]
    simp
    omega
  refine meets_of mixedM Tryd.func15 (by kernel_rfl) x15_ok (some []) ?_
  refine ⟨⟨by decide, by decide⟩, ?_⟩
  refine bsplit_of (fun (h : decide (a.e5 > 15) = true) => ?_) (fun (h : decide (a.e5 > 15) = false) => ?_)
  · have := of_decide_eq_true h
    exact ⟨ri (by rw [resI, if_neg (fun hp => by have := hp.1; omega)]), rfl, rfl⟩
  · have h15 := of_decide_eq_false h
    refine ⟨⟨by decide, by decide⟩, ?_⟩
    refine (known_c (IntKind.i64.wrap a.e5) g).call rfl rfl rfl ?_
    refine bsplit_of (fun (h : (true ^^ a.eq (knownA (IntKind.i64.wrap a.e5))) = true) => ?_) (fun (h : (true ^^ a.eq (knownA (IntKind.i64.wrap a.e5))) = false) => ?_)
    · rw [w5] at h
      refine ⟨ri ?_, rfl, rfl⟩
      rw [resI, if_neg]
      intro hp
      have e : a = knownA a.e5 := by rw [knownA, w8]; exact hp.2
      rw [← e, AddrV.eq_refl] at h
      simp at h
    · rw [w5] at h
      refine ⟨⟨by decide, by decide⟩, ?_⟩
      refine ⟨ri ?_, rfl, rfl⟩
      have h' : a.eq (knownA a.e5) = true := by simpa using h
      rw [w5, resI, if_pos]
      refine ⟨by omega, ?_⟩
      simp only [AddrV.eq, knownA, w8, Bool.and_true, Bool.and_eq_true, beq_iff_eq] at h'
      obtain ⟨e0, e1, e2, e3, e4, -⟩ := h'
      cases a
      simp only [AddrV.mk.injEq] at *
      exact ⟨e0, e1, e2, e3, e4, trivial⟩

attribute [local irreducible] hex2
def pre01 : ByteArray := ⟨#[48, 49, 58, 56, 48, 58, 99, 50, 58, 48, 48, 58, 48, 48, 58]⟩
theorem preT (k : Int) : pre01 ++ hex2 k = addrT ⟨1, 128, 194, 0, 0, k⟩ := by
  have e : pre01 = hex2 1 ++ col ++ hex2 128 ++ col ++ hex2 194 ++ col ++ hex2 0 ++ col ++ hex2 0 ++ col := by
    apply ByteArray.ext
    apply Array.ext'
    simp only [ByteArray.data_append, Array.toList_append, hex2_list]
    decide +kernel
  rw [e]
  rfl

theorem resR_c (a : AddrV) (g : G) (ha : a.ok g) (hB : BitVar g) : Tells Tryd.prog 16 [.agg (a.cells.map .v)] g (.v (.int .i64 (resI a))) := by
  refine meets_of mixedM Tryd.func16 (by kernel_rfl) x16_ok (some []) ?_
  have kok : ∀ k : Nat, k < 16 → AddrV.ok g ⟨1, 128, 194, 0, 0, k⟩ := fun k hk => by
    refine ⟨?_, ?_, ?_, ?_, ?_, ?_⟩ <;> unfold iok <;> simp only <;> omega
  change LoopW _ _ _ _ _ _ _
  apply loop_rule [] (α := Nat) (fun k => [(4, .v (.int .i64 k))]) (fun _ => [Chunk.cells 23 (a.cells.map .v)]) (fun _ => g) (fun k => k ≤ 16 ∧ ∀ i : Nat, i < k → addrT a ≠ addrT ⟨1, 128, 194, 0, 0, i⟩) (fun k => 16 - k) 0
  · intro x; kernel_rfl
  · exact ⟨Nat.zero_le _, fun i hi => by omega⟩
  · exact ⟨rfl, trivial⟩
  · rfl
  · rfl
  intro k hk
  refine bsplit_of (fun hlt => ?_) (fun hlt => ?_)
  · have hlt' : k < 16 := by have := of_decide_eq_true hlt; omega
    refine (text_c a g ha hB).call rfl rfl rfl ?_
    refine (dig_c k (by omega) (by omega) g hB).call rfl rfl rfl ?_
    refine ⟨by rw [hex2_size]; decide, ?_⟩
    refine bsplit_of (fun (h : ((addrT a).toList == (pre01 ++ hex2 k).toList) = true) => ?_) (fun (h : ((addrT a).toList == (pre01 ++ hex2 k).toList) = false) => ?_)
    · rw [str_beq, preT, decide_eq_true_eq] at h
      have e := addrT_inj a _ g ha (kok k hlt') h
      have e5 : a.e5 = k := by rw [e]
      refine ⟨ri ?_, rfl, rfl⟩
      rw [resI, if_pos ⟨by omega, by rw [e5]; exact e⟩, e5]
    · rw [str_beq, preT, decide_eq_false_iff_not] at h
      refine ⟨k + 1, ⟨by omega, fun i hi => ?_⟩, by omega, [0], rfl, ⟨vi (wrap_id (by omega) (by omega)), trivial⟩, rfl, rfl, rfl, rfl⟩
      by_cases hik : i = k
      · subst hik; exact h
      · exact hk.2 i (by omega)
  · have hge : k = 16 := by have := of_decide_eq_false hlt; omega
    subst hge
    refine ⟨ri ?_, rfl, rfl⟩
    rw [resI, if_neg]
    rintro ⟨h1, h2⟩
    obtain ⟨-, -, -, -, -, h50, h51⟩ := ha
    obtain ⟨n, hn⟩ := Int.eq_ofNat_of_zero_le h50
    refine hk.2 n (by omega) ?_
    rw [← hn, ← h2]

/-- The law MacKnows. -/
theorem macKnows_c (a b : AddrV) (n : Int) (g : G) (ha : a.ok g) (hb : b.ok g) (_ : iok .i64 n) (hB : BitVar g) : Meets Tryd.prog 3 [.agg (a.cells.map .v), .agg (b.cells.map .v), .v (.int .i64 n)] [] g (fun o _ _ => o = .ret (.v (.bool true))) := by
  refine meets_of mixedM Tryd.func3 (by kernel_rfl) x3_ok (some []) ?_
  refine (known_c n g).call rfl rfl rfl ?_
  refine ⟨⟨by decide, by decide⟩, ?_⟩
  refine ⟨by decide, ?_⟩
  refine (group_c a g).call rfl rfl rfl ?_
  refine bsplit_of (fun _ => ?_) (fun (h1 : (false ^^ (groupB a == (a.e0.tmod 2 == 1))) = false) => absurd h1 (by rw [group_eq ha]; simp))
  refine (res_c a g ha).call rfl rfl rfl ?_
  refine (resR_c a g ha hB).call rfl rfl rfl ?_
  refine bsplit_of (fun _ => ?_) (fun (h2 : (resI a == resI a) = false) => absurd h2 (by simp))
  refine (maclass_c a b g).call rfl rfl rfl ?_
  refine (text_c a g ha hB).call rfl rfl rfl ?_
  refine (text_c b g hb hB).call rfl rfl rfl ?_
  refine bsplit_of (fun _ => ?_) (fun (h3 : (false ^^ (Op.bytesLess (addrB a).toList (addrB b).toList == Op.bytesLess (addrT a).toList (addrT b).toList)) = false) => absurd h3 (by rw [less_law a b g ha hb]; simp))
  exact rb (show true = (false ^^ (knownA n).eq (knownA n)) by rw [AddrV.eq_refl]; rfl)
end Go.Proofs.YtidbblgahmjakaaDoor
