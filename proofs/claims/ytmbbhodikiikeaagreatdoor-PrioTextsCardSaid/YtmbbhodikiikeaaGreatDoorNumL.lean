/- Numbers of 0 or more in tens: what their text is, and what it is read as. Conditions: none. -/
import Derived.Test.YtmbbhodikiikeaaGreatDoorStrL
import Derived.Lib.ItoaMem
import Derived.Lib.AtoiTie
namespace Go.Sx

theorem dec_step {u : Nat} (h : ¬ u < 10) : Lib.decDigits u = Lib.decDigits (u / 10) ++ [UInt8.ofNat (48 + u % 10)] := by rw [Lib.decDigits, dif_neg h]
theorem dig_val {d : Nat} (h : d < 10) : Lib.digitVal (UInt8.ofNat (48 + d)) = some d := by
  have e : (UInt8.ofNat (48 + d)).toNat = 48 + d := by rw [UInt8.toNat_ofNat']; omega
  rw [Lib.digitVal, e, if_pos (by omega)]
  congr 1; omega
theorem decFrom_app : ∀ (l m : List UInt8) (a : Nat), Lib.decFrom a (l ++ m) = (Lib.decFrom a l).bind fun n => Lib.decFrom n m
  | [], m, a => rfl
  | b :: l, m, a => by
    rw [List.cons_append, Lib.decFrom, Lib.decFrom]
    cases Lib.digitVal b with
    | none => rfl
    | some d => exact decFrom_app l m _
theorem decFrom_dec (u : Nat) : Lib.decFrom 0 (Lib.decDigits u) = some u := by
  induction u using Nat.strongRecOn with
  | _ u ih =>
    by_cases h : u < 10
    · rw [Lib.decDigits_one h, Lib.decFrom, dig_val h]
      simp [Lib.decFrom]
    · rw [dec_step h, decFrom_app, ih (u / 10) (by omega), Option.bind_some, Lib.decFrom, dig_val (by omega)]
      simp only [Lib.decFrom]
      congr 1; omega
/-- Each sign is a digit. -/
theorem dec_digit (u : Nat) : ∀ b ∈ Lib.decDigits u, 48 ≤ b.toNat ∧ b.toNat ≤ 57 := by
  induction u using Nat.strongRecOn with
  | _ u ih =>
    intro b hb
    by_cases h : u < 10
    · rw [Lib.decDigits_one h, List.mem_singleton] at hb
      subst hb
      rw [UInt8.toNat_ofNat']; omega
    · rw [dec_step h, List.mem_append, List.mem_singleton] at hb
      rcases hb with hb | rfl
      · exact ih (u / 10) (by omega) b hb
      · rw [UInt8.toNat_ofNat']; omega
theorem dec_ne (u : Nat) : Lib.decDigits u ≠ [] := by
  by_cases h : u < 10
  · rw [Lib.decDigits_one h]; simp
  · rw [dec_step h]; simp
theorem dec_free {c : UInt8} (h : ¬ (48 ≤ c.toNat ∧ c.toNat ≤ 57)) (u : Nat) : c ∉ Lib.decDigits u := fun hc => h (dec_digit u c hc)
theorem dec_inj {u v : Nat} (h : Lib.decDigits u = Lib.decDigits v) : u = v := by
  have := decFrom_dec u
  rw [h, decFrom_dec v] at this
  exact (Option.some.inj this).symm
theorem dec_len {u : Nat} (h : u < 100000) : (Lib.decDigits u).length ≤ 5 := by
  rw [Lib.decDigits_length]
  have key : ∀ (k u : Nat), u < 10 ^ (k + 1) → Lib.nDigits u ≤ k + 1 := by
    intro k
    induction k with
    | zero => intro u hu; rw [Lib.nDigits_small (by omega)]; omega
    | succ k ih =>
      intro u hu
      by_cases h : u < 10
      · rw [Lib.nDigits_small h]; omega
      · rw [Lib.nDigits_big h]
        have := ih (u / 10) (by rw [Nat.pow_succ] at hu; omega)
        omega
  exact key 4 u (by omega)
theorem dec_len4 {u : Nat} (h : u < 10000) : (Lib.decDigits u).length ≤ 4 := by
  rw [Lib.decDigits_length]
  by_cases h1 : u < 10
  · rw [Lib.nDigits_small h1]; omega
  rw [Lib.nDigits_big h1]
  by_cases h2 : u / 10 < 10
  · rw [Lib.nDigits_small h2]; omega
  rw [Lib.nDigits_big h2]
  by_cases h3 : u / 10 / 10 < 10
  · rw [Lib.nDigits_small h3]; omega
  rw [Lib.nDigits_big h3, Lib.nDigits_small (by omega)]; omega
/-- A number's text. -/
def numS (n : Int) : ByteArray := ⟨(Lib.itoa n).toArray⟩
theorem numS_list {n : Int} (h : 0 ≤ n) : (numS n).data.toList = Lib.decDigits n.toNat := by
  obtain ⟨u, rfl⟩ := Int.eq_ofNat_of_zero_le h
  show (Lib.itoa (u : Int)).toArray.toList = _
  rw [Lib.itoa_nonneg]
  simp
theorem numS_one {n : Int} (h0 : 0 ≤ n) (h1 : n < 10) : (numS n).data.toList = [UInt8.ofNat (48 + n.toNat)] := by rw [numS_list h0, Lib.decDigits_one (by omega)]
theorem numS_size {n : Int} (h0 : 0 ≤ n) (h1 : n < 100000) : (numS n).size ≤ 5 := by
  have := congrArg List.length (numS_list h0)
  have e : (numS n).data.toList.length = (numS n).size := by rw [Array.length_toList]; rfl
  rw [e] at this
  rw [this]
  exact dec_len (by omega)
theorem atoi_num {n : Int} (h0 : 0 ≤ n) (h1 : n < 100000) : Lib.atoiAll (numS n).data.toList = .ok n := by
  rw [numS_list h0, Lib.atoiAll_short _ (by have := dec_len (u := n.toNat) (by omega); omega)]
  have hd := decFrom_dec n.toNat
  have hne := dec_ne n.toNat
  have hdg := dec_digit n.toNat
  cases hl : Lib.decDigits n.toNat with
  | nil => exact absurd hl hne
  | cons b r =>
    have hb := hdg b (by rw [hl]; simp)
    have e1 : (b == 45) = false := by
      apply beq_false_of_ne
      rintro rfl
      revert hb; decide
    have e2 : (b == 43) = false := by
      apply beq_false_of_ne
      rintro rfl
      revert hb; decide
    rw [hl] at hd
    have e3 : Lib.decNat (b :: r) = some n.toNat := by rw [Lib.decNat]; simpa using hd
    rw [Lib.atoi, e1, e2, e3]
    show Lib.NumEnd.ok ((n.toNat : Nat) : Int) = _
    rw [Int.toNat_of_nonneg h0]
theorem index_at {c : UInt8} {p l : List UInt8} (h : c ∉ p) : Lib.index (p ++ c :: l) [c] = p.length := by
  induction p with
  | nil => rw [List.nil_append, Lib.index]; simp [List.isPrefixOf]
  | cons b p ih =>
    have hb : b ≠ c := fun e => h (by rw [e]; simp)
    have ih := ih fun h' => h (List.mem_cons_of_mem _ h')
    have hp : ([c] : List UInt8).isPrefixOf (b :: (p ++ c :: l)) = false := by simp [List.isPrefixOf, Ne.symm hb]
    rw [List.cons_append, Lib.index, hp, ih]
    simp
theorem indexByte_lt : ∀ (l : List UInt8) (c : UInt8), Lib.indexByte l c < l.length
  | [], _ => by simp [Lib.indexByte]
  | b :: l, c => by
    have := indexByte_lt l c
    rw [Lib.indexByte]
    split
    · simp
    · split
      · simp; omega
      · simp; omega
/-- What strings.Cut tells at a text with that byte. -/
theorem cut_at {c : UInt8} {p l : List UInt8} (h : c ∉ p) : Lib.cut (p ++ c :: l) [c] = (p, l, true) := by
  have hi := index_at (l := l) h
  rw [Lib.cut, hi, if_pos (by omega), Int.toNat_natCast]
  simp
/-- strings.Cut at a byte. -/
def cutS (c : UInt8) (s : ByteArray) : ByteArray × ByteArray × Bool := (⟨(Lib.cut s.data.toList [c]).1.toArray⟩, ⟨(Lib.cut s.data.toList [c]).2.1.toArray⟩, (Lib.cut s.data.toList [c]).2.2)
theorem cutS_size (c : UInt8) (s : ByteArray) : (cutS c s).1.size ≤ s.size ∧ (cutS c s).2.1.size ≤ s.size := by
  have hs : s.data.toList.length = s.size := by rw [Array.length_toList]; rfl
  have e1 : (cutS c s).1.size = (Lib.cut s.data.toList [c]).1.length := by show ((Lib.cut s.data.toList [c]).1.toArray).size = _; simp
  have e2 : (cutS c s).2.1.size = (Lib.cut s.data.toList [c]).2.1.length := by show ((Lib.cut s.data.toList [c]).2.1.toArray).size = _; simp
  rw [e1, e2, ← hs, Lib.cut]
  split
  · simp only [List.length_take, List.length_drop]; omega
  · simp
theorem cutS_of {c : UInt8} {s : ByteArray} {p l : List UInt8} (h : s.data.toList = p ++ c :: l) (hp : c ∉ p) : cutS c s = (⟨p.toArray⟩, ⟨l.toArray⟩, true) := by
  rw [cutS, h, cut_at hp]
end Go.Sx
