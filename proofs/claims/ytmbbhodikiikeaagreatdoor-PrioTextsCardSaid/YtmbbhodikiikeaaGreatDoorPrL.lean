/- Bridges' names as text: what name a text is. Conditions: none. -/
import Derived.Test.YtmbbhodikiikeaaGreatDoorNumL
import Derived.Test.YtmbbhodikiikeaaGreatDoorMtL
import Derived.Test.YtmbbhodikiikeaaGreatDoorPrtC
namespace Go.Proofs.YtmbbhodikiikeaaGreatDoor
open Go.Sx Go.Lib
set_option maxRecDepth 100000

def okB (b : BridgeV) : Prop := bridgeP b ∧ okA b.addr
def briT (b : BridgeV) : ByteArray := numS b.prio ++ ⟨#[46]⟩ ++ numS b.ext ++ ⟨#[47]⟩ ++ addrT b.addr
def preL (b : BridgeV) : List UInt8 := decDigits b.prio.toNat ++ 46 :: decDigits b.ext.toNat
theorem briT_list {b : BridgeV} (h : bridgeP b) : (briT b).data.toList = preL b ++ 47 :: (addrT b.addr).data.toList := by
  obtain ⟨h1, h2, h3, h4, h5⟩ := h
  simp only [briT, ByteArray.data_append, Array.toList_append, numS_list h1, numS_list h4, preL]
  simp
theorem briT_list2 {b : BridgeV} (h : bridgeP b) : (briT b).data.toList = decDigits b.prio.toNat ++ 46 :: (decDigits b.ext.toNat ++ 47 :: (addrT b.addr).data.toList) := by
  rw [briT_list h, preL]; simp
theorem preL_free (b : BridgeV) : (47 : UInt8) ∉ preL b := by
  have h1 := dec_free (c := 47) (by decide) b.prio.toNat
  have h2 := dec_free (c := 47) (by decide) b.ext.toNat
  simp [preL, h1, h2]
theorem ofL_eq {s : ByteArray} {l : List UInt8} (h : s.data.toList = l) : s = ⟨l.toArray⟩ := by
  apply ByteArray.ext
  apply Array.ext'
  simpa using h
theorem cut_bri {b : BridgeV} (h : bridgeP b) : cutS 47 (briT b) = (⟨(preL b).toArray⟩, addrT b.addr, true) ∧ cutS 46 ⟨(preL b).toArray⟩ = (numS b.prio, numS b.ext, true) := by
  constructor
  · rw [cutS_of (briT_list h) (preL_free b), ← ofL_eq rfl]
  · rw [cutS_of (s := ⟨(preL b).toArray⟩) (p := decDigits b.prio.toNat) (l := decDigits b.ext.toNat) (by simp [preL]) (dec_free (by decide) _), ← ofL_eq (numS_list h.1), ← ofL_eq (numS_list h.2.2.2.1)]
theorem briT_inj {a b : BridgeV} (ha : okB a) (hb : okB b) (h : briT a = briT b) : a = b := by
  have e1 := (cut_bri ha.1).1
  have e2 := (cut_bri ha.1).2
  rw [h, (cut_bri hb.1).1] at e1
  simp only [Prod.mk.injEq, and_true] at e1
  rw [← e1.1, (cut_bri hb.1).2] at e2
  simp only [Prod.mk.injEq, and_true] at e2
  have k1 := congrArg (fun s : ByteArray => s.data.toList) e2.1
  have k2 := congrArg (fun s : ByteArray => s.data.toList) e2.2
  simp only [numS_list ha.1.1, numS_list hb.1.1, numS_list ha.1.2.2.2.1, numS_list hb.1.2.2.2.1] at k1 k2
  have := dec_inj k1
  have := dec_inj k2
  have k3 := addrT_inj _ _ (fun _ => none) hb.2 ha.2 e1.2
  have := ha.1.1; have := hb.1.1; have := ha.1.2.2.2.1; have := hb.1.2.2.2.1
  cases a; cases b
  simp only [BridgeV.mk.injEq] at *
  exact ⟨by omega, by omega, k3.symm⟩
open Classical in
/-- The name that a text is, and what is wrong. -/
noncomputable def parB (s : ByteArray) : BridgeV × Int := if h : ∃ b : BridgeV, okB b ∧ briT b = s then (Classical.choose h, 0) else (BridgeV.zero, 3)
theorem parB_hit {b : BridgeV} {s : ByteArray} (h1 : okB b) (h2 : briT b = s) : parB s = (b, 0) := by
  have h : ∃ b : BridgeV, okB b ∧ briT b = s := ⟨b, h1, h2⟩
  have hc := Classical.choose_spec h
  rw [parB, dif_pos h, briT_inj hc.1 h1 (hc.2.trans h2.symm)]
theorem parB_miss {s : ByteArray} (h : ∀ b : BridgeV, okB b → briT b ≠ s) : parB s = (BridgeV.zero, 3) := by
  rw [parB, dif_neg]
  rintro ⟨b, h1, h2⟩
  exact h b h1 h2
theorem addr_no46 {a : AddrV} (h : okA a) : (46 : UInt8) ∉ (addrT a).data.toList := by
  have h46 : ∀ i : Nat, i < 16 → hu i ≠ 46 := by decide +kernel
  have k46 : ∀ d : Int, 0 ≤ d → d < 16 → hu d ≠ 46 := fun d h0 h1 => by
    obtain ⟨i, rfl⟩ := Int.eq_ofNat_of_zero_le h0
    exact h46 i (by omega)
  have two46 : ∀ n : Int, 0 ≤ n → n ≤ 255 → (46 : UInt8) ∉ two n := fun n h0 h1 => by
    have a := k46 (n / 16) (by omega) (by omega)
    have b := k46 (n % 16) (by omega) (by omega)
    simp [two, Ne.symm a, Ne.symm b]
  obtain ⟨⟨a0, b0⟩, ⟨a1, b1⟩, ⟨a2, b2⟩, ⟨a3, b3⟩, ⟨a4, b4⟩, ⟨a5, b5⟩⟩ := h
  rw [addrT_two]
  simp only [List.mem_append, List.mem_cons, not_or]
  exact ⟨two46 _ a0 b0, by decide, two46 _ a1 b1, by decide, two46 _ a2 b2, by decide, two46 _ a3 b3, by decide, two46 _ a4 b4, by decide, two46 _ a5 b5⟩

/-! ### What the reference reads -/
/-- The number of the digits alone. -/
def valF (l : List UInt8) : Nat := l.foldl (fun v b => if 48 ≤ b.toNat ∧ b.toNat ≤ 57 then v * 10 + (b.toNat - 48) else v) 0
theorem valF_snoc (l : List UInt8) (b : UInt8) : valF (l ++ [b]) = if 48 ≤ b.toNat ∧ b.toNat ≤ 57 then valF l * 10 + (b.toNat - 48) else valF l := by simp [valF]
theorem valF_lt : ∀ (k : Nat) (l : List UInt8), l.length ≤ k → valF l < 10 ^ k := by
  intro k
  induction k with
  | zero => intro l h; have := List.eq_nil_of_length_eq_zero (Nat.le_zero.1 h); subst this; decide
  | succ k ih =>
    intro l h
    rcases List.eq_nil_or_concat l with rfl | ⟨m, b, rfl⟩
    · show 0 < _; exact Nat.pow_pos (by decide)
    · rw [List.concat_eq_append] at h ⊢
      have := ih m (by simp at h; omega)
      rw [valF_snoc, Nat.pow_succ]
      split <;> omega
theorem valF_dec (u : Nat) : valF (decDigits u) = u := by
  induction u using Nat.strongRecOn with
  | _ u ih =>
    by_cases h : u < 10
    · rw [decDigits_one h]
      have e : (UInt8.ofNat (48 + u)).toNat = 48 + u := by rw [UInt8.toNat_ofNat']; omega
      have := valF_snoc [] (UInt8.ofNat (48 + u))
      rw [List.nil_append, e, if_pos (by omega)] at this
      rw [this]
      show 0 * 10 + _ = _
      omega
    · have e : (UInt8.ofNat (48 + u % 10)).toNat = 48 + u % 10 := by rw [UInt8.toNat_ofNat']; omega
      rw [dec_step h, valF_snoc, e, if_pos (by omega), ih (u / 10) (by omega)]
      omega
/-- What is known of the parts where the text is a name's. -/
theorem bri_parts {s : ByteArray} {b : BridgeV} (hb : okB b) (h : briT b = s) :
    (21 ≤ s.size ∧ s.size ≤ 28) ∧ s.extract (s.size - 17) s.size = addrT b.addr ∧ (∃ r, s.data.toList = (numS b.prio ++ ⟨#[46]⟩ : ByteArray).data.toList ++ r) ∧ (s.extract (numS b.prio ++ ⟨#[46]⟩ : ByteArray).size (s.size - 17)).data.toList = decDigits b.ext.toNat ++ [47] := by
  have hl := briT_list2 hb.1
  rw [h] at hl
  obtain ⟨⟨h1, h2, h3, h4, h5⟩, ha⟩ := hb
  have ez : s.data.toList.length = s.size := by rw [Array.length_toList]; rfl
  have za : (addrT b.addr).data.toList.length = 17 := by rw [Array.length_toList]; exact addrT_size _
  have zp : 1 ≤ (decDigits b.prio.toNat).length := List.length_pos_iff.2 (dec_ne _)
  have ze : 1 ≤ (decDigits b.ext.toNat).length := List.length_pos_iff.2 (dec_ne _)
  have zp5 := dec_len (u := b.prio.toNat) (by omega)
  have ze4 := dec_len4 (u := b.ext.toNat) (by omega)
  have hsz : s.size = (decDigits b.prio.toNat).length + (decDigits b.ext.toNat).length + 19 := by
    rw [← ez, hl]; simp [za]; omega
  have hhl : (numS b.prio ++ ⟨#[46]⟩ : ByteArray).data.toList = decDigits b.prio.toNat ++ [46] := by
    simp only [ByteArray.data_append, Array.toList_append, numS_list h1]
  have hhz : (numS b.prio ++ ⟨#[46]⟩ : ByteArray).size = (decDigits b.prio.toNat).length + 1 := by
    have q := congrArg List.length (numS_list h1)
    rw [Array.length_toList] at q
    rw [ByteArray.size_append]
    show (numS b.prio).data.size + 1 = _
    rw [q]
  refine ⟨by omega, ?_, ⟨decDigits b.ext.toNat ++ 47 :: (addrT b.addr).data.toList, by rw [hl, hhl]; simp⟩, ?_⟩
  · apply ByteArray.ext
    apply Array.ext'
    rw [Lib.extract_to_end, hl, hsz]
    rw [show (decDigits b.prio.toNat).length + (decDigits b.ext.toNat).length + 19 - 17 = (decDigits b.prio.toNat ++ 46 :: (decDigits b.ext.toNat ++ [47])).length by simp; omega]
    rw [show decDigits b.prio.toNat ++ 46 :: (decDigits b.ext.toNat ++ 47 :: (addrT b.addr).data.toList) = (decDigits b.prio.toNat ++ 46 :: (decDigits b.ext.toNat ++ [47])) ++ (addrT b.addr).data.toList by simp]
    simp
  · rw [Lib.extract_data, hl, hhz, hsz]
    rw [show decDigits b.prio.toNat ++ 46 :: (decDigits b.ext.toNat ++ 47 :: (addrT b.addr).data.toList) = (decDigits b.prio.toNat ++ [46]) ++ ((decDigits b.ext.toNat ++ [47]) ++ (addrT b.addr).data.toList) by simp]
    rw [show (decDigits b.prio.toNat).length + 1 = (decDigits b.prio.toNat ++ [46]).length by simp, List.drop_left]
    have e5 : (decDigits b.prio.toNat).length + (decDigits b.ext.toNat).length + 19 - 17 - (decDigits b.prio.toNat ++ [(46 : UInt8)]).length = (decDigits b.ext.toNat ++ [(47 : UInt8)]).length := by simp; omega
    rw [e5, List.take_left]
end Go.Proofs.YtmbbhodikiikeaaGreatDoor
