/- A symbolic executor of my own, part 28: readers of bytes, in plain Lean. Conditions: none. -/
import Derived.Test.YtfagdcpfebghoaaDoorTy27
namespace Go.Sx

/-- A reader that keeps its first error: what it reads, where it stands, where the text begins, the error and its place. -/
structure RdV where
  s : ByteArray
  at_ : Nat
  off : Int
  err : Option (Int × Int)
def RdV.ok (r : RdV) : Prop := r.at_ ≤ r.s.size ∧ r.s.size ≤ 1000000000000 ∧ 0 ≤ r.off ∧ r.off ≤ 1000000000000000
def RdV.place (r : RdV) : Int := r.off + r.at_
def RdV.fail (r : RdV) (n pl : Int) : RdV := match r.err with
  | none => { r with err := some (n, pl) }
  | some _ => r
def RdV.bytes (r : RdV) (n : Int) : ByteArray × RdV := match r.err with
  | some _ => (⟨#[]⟩, r)
  | none => if n < 0 then (⟨#[]⟩, r.fail 2 r.place) else if (r.s.size : Int) - r.at_ < n then (⟨#[]⟩, r.fail 7 r.place) else (r.s.extract r.at_ (r.at_ + n.toNat), { r with at_ := r.at_ + n.toNat })
/-- A row of bytes as a number, the highest first. -/
def numL (l : List UInt8) : Nat := l.foldl (fun x b => x * 256 + b.toNat) 0
theorem numL_snoc (l : List UInt8) (b : UInt8) : numL (l ++ [b]) = numL l * 256 + b.toNat := by simp [numL, List.foldl_append]
theorem numL_take (l : List UInt8) (k : Nat) (b : UInt8) (h : l[k]? = some b) : numL (l.take (k + 1)) = numL (l.take k) * 256 + b.toNat := by
  rw [List.take_add_one, h]; exact numL_snoc _ _
theorem numL_lt : ∀ (n : Nat) (l : List UInt8), l.length ≤ n → numL l < 256 ^ n := by
  intro n
  induction n with
  | zero => intro l h; have : l = [] := List.eq_nil_of_length_eq_zero (by omega); subst this; simp [numL]
  | succ n ih =>
    intro l h
    rcases List.eq_nil_or_concat l with rfl | ⟨l', b, rfl⟩
    · simp [numL]; exact Nat.pow_pos (by decide)
    · rw [List.concat_eq_append, numL_snoc]
      have := ih l' (by simp at h; omega)
      have hb := b.toNat_lt
      rw [Nat.pow_succ]
      omega
def RdV.num (r : RdV) (n : Nat) : Nat × RdV := (numL (r.bytes n).1.data.toList, (r.bytes n).2)
/-- How many zeros ahead. -/
def zat (l : List UInt8) : Nat := (l.takeWhile (· == 0)).length
theorem zat_eq : ∀ (l : List UInt8) (k : Nat), (∀ j, j < k → l[j]? = some 0) → (l.length = k ∨ ∃ b, l[k]? = some b ∧ b ≠ 0) → zat l = k
  | [], 0, _, _ => rfl
  | [], k + 1, h, _ => by have := h 0 (by omega); simp at this
  | b :: l, 0, _, h => by
    rcases h with h | ⟨c, hc, hne⟩
    · simp at h
    · simp at hc; subst hc; simp [zat, hne]
  | b :: l, k + 1, h, h2 => by
    have h0 := h 0 (by omega)
    simp at h0
    subst h0
    have := zat_eq l k (fun j hj => by have := h (j + 1) (by omega); simpa using this) (by
      rcases h2 with h2 | ⟨c, hc, hne⟩
      · left; simpa using h2
      · right; exact ⟨c, by simpa using hc, hne⟩)
    simp only [zat] at this ⊢
    simp [this]
theorem zat_le (l : List UInt8) : zat l ≤ l.length := (List.takeWhile_sublist (l := l) _).length_le
def RdV.rest (r : RdV) : List UInt8 := r.s.data.toList.drop r.at_
def RdV.zeros (r : RdV) : RdV := match r.err with
  | some _ => r
  | none => if r.at_ + zat r.rest = r.s.size then { r with at_ := r.s.size } else { r with at_ := r.at_ + zat r.rest, err := some (15, r.off + (r.at_ + zat r.rest : Nat)) }

theorem RdV.fail_ok {r : RdV} (h : r.ok) (n pl : Int) : (r.fail n pl).ok := by
  unfold RdV.fail; split <;> exact h
theorem RdV.bytes_ok {r : RdV} (h : r.ok) (n : Int) : (r.bytes n).2.ok := by
  unfold RdV.bytes
  split
  · exact h
  · split
    · exact RdV.fail_ok h _ _
    · split
      · exact RdV.fail_ok h _ _
      · obtain ⟨h1, h2, h3, h4⟩ := h
        exact ⟨by simp only; omega, h2, h3, h4⟩
theorem RdV.zeros_ok {r : RdV} (h : r.ok) : r.zeros.ok := by
  unfold RdV.zeros
  obtain ⟨h1, h2, h3, h4⟩ := h
  split
  · exact ⟨h1, h2, h3, h4⟩
  · split
    · exact ⟨Nat.le_refl _, h2, h3, h4⟩
    · refine ⟨?_, h2, h3, h4⟩
      have := zat_le r.rest
      simp only [RdV.rest, List.length_drop, Array.length_toList] at this ⊢
      have e : r.s.data.size = r.s.size := rfl
      omega
theorem RdV.bytes_size (r : RdV) (n : Nat) : (r.bytes n).1.size ≤ n := by
  unfold RdV.bytes
  split
  · exact Nat.zero_le _
  · rw [if_neg (by omega)]
    split
    · exact Nat.zero_le _
    · simp only [ByteArray.size_extract, Int.toNat_natCast]; omega
/-- The three ways. -/
theorem RdV.bytes_dead {r : RdV} {e : Int × Int} (h : r.err = some e) (n : Int) : r.bytes n = (⟨#[]⟩, r) := by simp [RdV.bytes, h]
theorem RdV.bytes_short {r : RdV} (h : r.err = none) {n : Int} (h0 : 0 ≤ n) (hn : (r.s.size : Int) - r.at_ < n) : r.bytes n = (⟨#[]⟩, { r with err := some (7, r.place) }) := by
  simp [RdV.bytes, h, RdV.fail, hn, show ¬ n < 0 by omega]
theorem RdV.bytes_good {r : RdV} (h : r.err = none) {n : Int} (h0 : 0 ≤ n) (hn : ¬ (r.s.size : Int) - r.at_ < n) : r.bytes n = (r.s.extract r.at_ (r.at_ + n.toNat), { r with at_ := r.at_ + n.toNat }) := by
  simp [RdV.bytes, h, hn, show ¬ n < 0 by omega]
theorem RdV.bytes_err {r : RdV} {e : Int × Int} (h : r.err = some e) (n : Int) : (r.bytes n).2.err = some e := by rw [RdV.bytes_dead h]; exact h
theorem RdV.zeros_err {r : RdV} {e : Int × Int} (h : r.err = some e) : r.zeros = r := by simp [RdV.zeros, h]
theorem RdV.fail_err {r : RdV} {e : Int × Int} (h : r.err = some e) (n pl : Int) : r.fail n pl = r := by simp [RdV.fail, h]

/-- A cursor that throws. -/
structure CurV where
  s : ByteArray
  at_ : Nat
  off : Int
def CurV.ok (c : CurV) : Prop := c.at_ ≤ c.s.size ∧ c.s.size ≤ 1000000000000 ∧ 0 ≤ c.off ∧ c.off ≤ 1000000000000000
def CurV.cut (c : CurV) (n : Nat) : ByteArray := c.s.extract c.at_ (c.at_ + n)
def CurV.fwd (c : CurV) (n : Nat) : CurV := { c with at_ := c.at_ + n }
theorem CurV.fwd_ok {c : CurV} (h : c.ok) {n : Nat} (hn : c.at_ + n ≤ c.s.size) : (c.fwd n).ok := ⟨hn, h.2⟩
theorem cut_size {c : CurV} {n : Nat} (hn : c.at_ + n ≤ c.s.size) : (c.cut n).size = n := by
  simp only [CurV.cut, ByteArray.size_extract]; omega

end Go.Sx
