/- Strings cut at one byte: strings.Split's pieces as lists. Conditions: none. -/
import Derived.Test.YtmbbhodikiikeaaGreatDoorBaseD
import Derived.Lib.SplitLaws
import Derived.Lib.IndexBytes
import Derived.Lib.Join
namespace Go.Sx

/-- Cut at a byte. -/
def sp (c : UInt8) : List UInt8 → List (List UInt8)
  | [] => [[]]
  | b :: l => if b = c then [] :: sp c l else match sp c l with
    | p :: r => (b :: p) :: r
    | [] => [[b]]
theorem sp_ne (c : UInt8) : ∀ l, ∃ p r, sp c l = p :: r
  | [] => ⟨_, _, rfl⟩
  | b :: l => by
    obtain ⟨p, r, h⟩ := sp_ne c l
    rw [sp]
    split
    · exact ⟨_, _, rfl⟩
    · rw [h]; exact ⟨_, _, rfl⟩
theorem sp_eq (c : UInt8) (l : List UInt8) : sp c (c :: l) = [] :: sp c l := by rw [sp, if_pos rfl]
theorem sp_cons {c b : UInt8} {l : List UInt8} {p : List UInt8} {r : List (List UInt8)} (hb : b ≠ c) (h : sp c l = p :: r) : sp c (b :: l) = (b :: p) :: r := by rw [sp, if_neg hb, h]
theorem sp_split (c : UInt8) : ∀ l : List UInt8, Lib.splitK [c] 0 (l.count c) l = sp c l
  | [] => rfl
  | b :: l => by
    have ih := sp_split c l
    by_cases hb : b = c
    · subst hb
      have hix : Lib.index (b :: l) [b] = 0 := by rw [Lib.index]; simp [List.isPrefixOf]
      rw [List.count_cons_self, Lib.splitK, hix, sp_eq, ← ih]
      simp
    · obtain ⟨p, r, h⟩ := sp_ne c l
      rw [sp_cons hb h, List.count_cons_of_ne (by simpa using hb)]
      have hix : Lib.index (b :: l) [c] = if Lib.index l [c] == -1 then -1 else Lib.index l [c] + 1 := by
        have hp : ([c] : List UInt8).isPrefixOf (b :: l) = false := by simp [List.isPrefixOf, Ne.symm hb]
        rw [Lib.index, hp]; simp
      rw [h] at ih
      cases hk : l.count c with
      | zero =>
        rw [hk, Lib.splitK] at ih
        rw [Lib.splitK]
        obtain ⟨rfl, rfl⟩ := List.cons.inj ih
        rfl
      | succ k =>
        rw [hk, Lib.splitK] at ih
        have hge := Lib.index_ge l [c]
        have hne : ¬ Lib.index l [c] = -1 := fun e => by
          have := Lib.count_one c l
          rw [Lib.count_miss e] at this
          omega
        obtain ⟨j, hj⟩ : ∃ j : Nat, Lib.index l [c] = j := ⟨(Lib.index l [c]).toNat, by omega⟩
        rw [if_neg (by simpa using hne), hj] at ih
        rw [Lib.splitK, hix, if_neg (show ¬ (Lib.index l [c] == -1) = true by simpa using hne), hj, if_neg (by simp; omega)]
        obtain ⟨e1, e2⟩ := List.cons.inj ih
        rw [← e1, ← e2]
        have q1 : ((j : Int) + 1).toNat = j + 1 := by omega
        have q2 : ((j : Int)).toNat = j := by omega
        rw [q1, q2]
        simp [Nat.add_right_comm]
theorem sp_join (c : UInt8) : ∀ l : List UInt8, Lib.join (sp c l) [c] = l
  | [] => by simp [sp, Lib.join_one]
  | b :: l => by
    have ih := sp_join c l
    obtain ⟨p, r, h⟩ := sp_ne c l
    rw [h, Lib.join_cons] at ih
    by_cases hb : b = c
    · subst hb
      rw [sp_eq, h, Lib.join_cons]
      have : Lib.joinTail [b] (p :: r) = [b] ++ p ++ Lib.joinTail [b] r := by simp [Lib.joinTail]
      rw [this, ← ih]
      simp
    · rw [sp_cons hb h, Lib.join_cons, ← ih]
      simp
theorem sp_none {c : UInt8} : ∀ {l : List UInt8}, c ∉ l → sp c l = [l]
  | [], _ => rfl
  | b :: l, h => by
    have hb : b ≠ c := fun e => h (by rw [e]; simp)
    exact sp_cons hb (sp_none fun h' => h (List.mem_cons_of_mem _ h'))
theorem sp_app {c : UInt8} : ∀ {p : List UInt8} (_ : c ∉ p) (l : List UInt8), sp c (p ++ c :: l) = p :: sp c l
  | [], _, l => sp_eq c l
  | b :: p, h, l => by
    have hb : b ≠ c := fun e => h (by rw [e]; simp)
    exact sp_cons hb (sp_app (fun h' => h (List.mem_cons_of_mem _ h')) l)
theorem sp_free (c : UInt8) : ∀ l : List UInt8, ∀ p ∈ sp c l, c ∉ p
  | [], p, hp => by simp [sp] at hp; subst hp; simp
  | b :: l, p, hp => by
    have ih := sp_free c l
    obtain ⟨q, r, h⟩ := sp_ne c l
    by_cases hb : b = c
    · subst hb
      rw [sp_eq] at hp
      rcases List.mem_cons.1 hp with rfl | hp
      · simp
      · exact ih p hp
    · rw [sp_cons hb h] at hp
      rcases List.mem_cons.1 hp with rfl | hp
      · have := ih q (by rw [h]; simp)
        simp [this, Ne.symm hb]
      · exact ih p (by rw [h]; exact List.mem_cons_of_mem _ hp)

/-- The pieces of strings.Split. -/
def partsB (c : UInt8) (s : ByteArray) : List ByteArray := Lib.splitB ⟨#[c]⟩ 0 (Lib.countB s ⟨#[c]⟩) s
theorem partsB_len (c : UInt8) (s : ByteArray) : (partsB c s).length = Lib.countB s ⟨#[c]⟩ + 1 := Lib.splitB_all ⟨#[c]⟩ (Nat.le_refl 1) 0 _ s rfl
theorem partsB_data (c : UInt8) (s : ByteArray) : (partsB c s).map (·.data.toList) = sp c s.data.toList := by
  rw [partsB, Lib.splitB_data]
  have e : Lib.countB s ⟨#[c]⟩ = s.data.toList.count c := by
    rw [← Lib.count_one]
  rw [e]
  exact sp_split c _
end Go.Sx
