/- pause.Long, its reference and the law PauseLasts: what each returns, for every pause and class. Conditions: none. -/
import Derived.Test.YtflnpoahceebbaaXpause
import Derived.Test.YtflnpoahceebbaaSx19
namespace Go.Proofs.Ytflnpoahceebbaa
open Go.Sx
set_option maxRecDepth 100000
attribute [local irreducible] Meets

theorem mixed : Try.prog.follows .mixedOrders = true := by kernel_rfl
theorem vb' {c d : Bool} (h : d = c) : SV.v (.bool c) = .v (.bool d) := by rw [h]

structure PauseV where
  pfc : Bool
  en : Int
  t0 : Int
  t1 : Int
  t2 : Int
  t3 : Int
  t4 : Int
  t5 : Int
  t6 : Int
  t7 : Int
def PauseV.cells (p : PauseV) : List Value := [.bool p.pfc, .int .i64 p.en, .int .i64 p.t0, .int .i64 p.t1, .int .i64 p.t2, .int .i64 p.t3, .int .i64 p.t4, .int .i64 p.t5, .int .i64 p.t6, .int .i64 p.t7]
def PauseV.t (p : PauseV) (c : Int) : Int := [p.t0, p.t1, p.t2, p.t3, p.t4, p.t5, p.t6, p.t7].getD c.toNat 0
def PauseV.long (p : PauseV) (c : Int) : Int := if 0 ≤ c ∧ c ≤ 7 then (if p.pfc = true then (if p.en / 2 ^ c.toNat % 2 = 1 then p.t c else 0) else p.t0) else 0
def i64 (x : Int) : Prop := -9223372036854775808 ≤ x ∧ x ≤ 9223372036854775807
def PauseV.ok (p : PauseV) : Prop := i64 p.en ∧ i64 p.t0 ∧ i64 p.t1 ∧ i64 p.t2 ∧ i64 p.t3 ∧ i64 p.t4 ∧ i64 p.t5 ∧ i64 p.t6 ∧ i64 p.t7

theorem within_c (a lo hi : Int) (g : G) : Meets Try.prog 46 [.v (.int .i64 a), .v (.int .i64 lo), .v (.int .i64 hi)] [] g (fun r _ g' => r.sc 0 = true ∧ (r = .v (.bool (decide (lo ≤ a ∧ a ≤ hi))) ∧ g' = g)) := by
  refine meets_of mixed Try.func46 (by kernel_rfl) x46_ok 0 (Nat.le_refl _) ?_
  apply bsplit_of <;> intro h1
  · refine ⟨rfl, vb ?_, rfl⟩
    simp only [decide_eq_true_eq] at *
    omega
  · refine ⟨rfl, vb ?_, rfl⟩
    simp at *
    omega

def PauseV.time (p : PauseV) (k : Nat) : Bool := decide (0 ≤ p.t k ∧ p.t k ≤ 65535) && (decide (k = 0) || (decide (p.t k = 0) || p.pfc))
def PauseV.right (p : PauseV) : Bool := (List.range 8).all p.time && (decide (0 ≤ p.en ∧ p.en ≤ 255) && (decide (p.en = 0) || p.pfc))
theorem PauseV.right_bad {p : PauseV} {k : Nat} (hk : k < 8) (h : p.time k = false) : p.right = false := by
  cases hr : p.right with
  | false => rfl
  | true =>
    simp only [PauseV.right, Bool.and_eq_true, List.all_eq_true] at hr
    rw [hr.1 k (List.mem_range.2 hk)] at h
    cases h
theorem PauseV.right_good {p : PauseV} (h : ∀ i, i < 8 → p.time i = true) : p.right = (decide (0 ≤ p.en ∧ p.en ≤ 255) && (decide (p.en = 0) || p.pfc)) := by
  have : (List.range 8).all p.time = true := List.all_eq_true.2 fun x hx => h x (List.mem_range.1 hx)
  rw [PauseV.right, this, Bool.true_and]

theorem pauseRight_c (p : PauseV) (g : G) : Meets Try.prog 14 [.agg (p.cells.map .v)] [] g (fun r _ g' => r.sc 0 = true ∧ (r = .v (.bool p.right) ∧ g' = g)) := by
  refine meets_of mixed Try.func14 (by kernel_rfl) x14_ok 0 (Nat.le_refl _) ?_
  change LoopVC _ _ _ _ _ _ _
  apply loop_rule (α := Nat) (fun k => [(7, .v (.int .i64 k))]) (fun _ => [Chunk.cells 26 (p.cells.map .v)]) (fun _ => g) (fun k => k ≤ 8 ∧ ∀ i, i < k → p.time i = true) (fun k => 8 - k) 0
  · intro x
    kernel_rfl
  · exact ⟨Nat.zero_le _, fun i h => absurd h (Nat.not_lt_zero _)⟩
  · exact ⟨rfl, trivial⟩
  · rfl
  · rfl
  intro k hx
  have hk := hx.1
  have hall := hx.2
  clear hx
  apply bsplit_of <;> intro hlt
  · have hlt' : k < 8 := by simp at hlt; omega
    have hk1 : IntKind.i64.wrap (k + 1) = ((k + 1 : Nat) : Int) := wrap_id (by omega) (by omega)
    have hnext : p.time k = true → ∀ i, i < k + 1 → p.time i = true := by
      intro h i hi
      by_cases hik : i < k
      · exact hall i hik
      · rw [show i = k by omega]; exact h
    have hbad : p.time k = false → p.right = false := PauseV.right_bad hlt'
    clear hall hlt
    have hcase : k = 0 ∨ k = 1 ∨ k = 2 ∨ k = 3 ∨ k = 4 ∨ k = 5 ∨ k = 6 ∨ k = 7 := by omega
    rcases hcase with rfl | rfl | rfl | rfl | rfl | rfl | rfl | rfl
    all_goals
      refine ⟨⟨by decide, by decide⟩, ?_⟩
      refine Meets.mono ((within_c _ 0 65535 g).pure rfl _) ?_
      rintro r L' g' ⟨rfl, -, rfl, rfl⟩
      apply bsplit_of <;> intro h1
      · exact ⟨rfl, vb' (hbad (by simp [PauseV.time, PauseV.t] at *; omega)), rfl⟩
      · first
        | (apply bsplit_of <;> intro h3
           · apply bsplit_of <;> intro h4
             · exact ⟨rfl, vb' (hbad (by simp [PauseV.time, PauseV.t] at *; intros; simp_all)), rfl⟩
             · exact ⟨_, ⟨by omega, hnext (by simp [PauseV.time, PauseV.t] at *; simp_all)⟩, by omega, ⟨vi hk1, trivial⟩, rfl, rfl⟩
           · exact ⟨_, ⟨by omega, hnext (by simp [PauseV.time, PauseV.t] at *; simp_all)⟩, by omega, ⟨vi hk1, trivial⟩, rfl, rfl⟩)
        | exact ⟨_, ⟨by omega, hnext (by simp [PauseV.time, PauseV.t] at *; omega)⟩, by omega, ⟨vi hk1, trivial⟩, rfl, rfl⟩
  · have hk8 : k = 8 := by simp at hlt; omega
    subst hk8
    have hr := PauseV.right_good hall
    clear hall hlt
    refine Meets.mono ((within_c p.en 0 255 g).pure rfl _) ?_
    rintro r L' g' ⟨rfl, -, rfl, rfl⟩
    apply bsplit_of <;> intro h1
    · apply bsplit_of <;> intro h2
      · exact ⟨rfl, vb' (by rw [hr]; simp at h2; simp [h2]), rfl⟩
      · exact ⟨rfl, vb' (by rw [hr, h1]; simp at h2; simp [h2]), rfl⟩
    · exact ⟨rfl, vb' (by rw [hr, h1]; rfl), rfl⟩

theorem and1 (x : Int) : IntKind.i64.wrap ((BitVec.ofInt 64 x &&& BitVec.ofInt 64 1).toNat : Int) = x % 2 := by
  have h : (BitVec.ofInt 64 x &&& BitVec.ofInt 64 1).toNat = (x % 18446744073709551616).toNat % 2 := by
    rw [BitVec.toNat_and, BitVec.toNat_ofInt]
    exact Nat.and_one_is_mod _
  rw [h]
  refine (wrap_id (by omega) (by omega)).trans (by omega)

theorem long_c (p : PauseV) (c : Int) (g : G) : Meets Try.prog 15 [.agg (p.cells.map .v), .v (.int .i64 c)] [] g (fun r _ g' => r.sc 0 = true ∧ (r = .v (.int .i64 (p.long c)) ∧ g' = g)) := by
  refine meets_of mixed Try.func15 (by kernel_rfl) x15_ok 0 (Nat.le_refl _) ?_
  apply bsplit_of <;> intro h1
  · refine ⟨rfl, vi ?_, rfl⟩
    simp at h1
    rw [PauseV.long, if_neg (by omega)]
  · simp at h1
    apply bsplit_of <;> intro h2
    · refine ⟨rfl, vi ?_, rfl⟩
      simp at h2
      rw [PauseV.long, if_neg (by omega)]
    · simp at h2
      apply bsplit_of <;> intro h3
      · refine ⟨⟨by decide, by decide⟩, ?_⟩
        refine ⟨rfl, vi ?_, rfl⟩
        rw [PauseV.long, if_pos (by omega), if_neg (by simpa using h3)]
      · have h3' : p.pfc = true := by simpa using h3
        have hl : p.long c = if p.en / 2 ^ c.toNat % 2 = 1 then p.t c else 0 := by
          rw [PauseV.long, if_pos (by omega), if_pos h3']
        have hm : min c.toNat 64 = c.toNat := by omega
        refine ⟨h1, ?_⟩
        apply bsplit_of <;> intro h4
        · have h4' : p.en / 2 ^ c.toNat % 2 = 1 := by
            have := beq_iff_eq.1 h4
            rw [show IntKind.i64.bits = 64 from rfl, hm, and1, Int.fdiv_eq_ediv_of_nonneg _ (Int.le_of_lt (Int.pow_pos (by decide)))] at this
            exact this
          rw [if_pos h4'] at hl
          have hcase : c = 0 ∨ c = 1 ∨ c = 2 ∨ c = 3 ∨ c = 4 ∨ c = 5 ∨ c = 6 ∨ c = 7 := by omega
          rw [hl]
          clear hl h4 h4' hm
          rcases hcase with rfl | rfl | rfl | rfl | rfl | rfl | rfl | rfl
          all_goals
            refine ⟨⟨by decide, by decide⟩, ?_⟩
            exact ⟨rfl, rfl, rfl⟩
        · have h4' : ¬ p.en / 2 ^ c.toNat % 2 = 1 := by
            have := beq_eq_false_iff_ne.1 h4
            rw [show IntKind.i64.bits = 64 from rfl, hm, and1, Int.fdiv_eq_ediv_of_nonneg _ (Int.le_of_lt (Int.pow_pos (by decide)))] at this
            exact this
          rw [if_neg h4'] at hl
          exact ⟨rfl, vi hl.symm, rfl⟩


theorem half (e k : Nat) (he : e ≤ 255) : IntKind.i64.wrap ((((e / 2 ^ k : Nat) : Int)).tdiv 2) = ((e / 2 ^ (k + 1) : Nat) : Int) := by
  have h0 : e / 2 ^ k ≤ 255 := Nat.le_trans (Nat.div_le_self _ _) he
  rw [Nat.pow_succ, ← Nat.div_div_eq_div_mul]
  generalize e / 2 ^ k = n at *
  rw [Int.tdiv_eq_ediv_of_nonneg (by omega)]
  exact wrap_id (by omega) (by omega)
theorem last (t : Int) (e k : Nat) (ht : i64 t) : IntKind.i64.wrap (t * (((e / 2 ^ k : Nat) : Int)).tmod 2) = if (e : Int) / 2 ^ k % 2 = 1 then t else 0 := by
  have h0 : (e : Int) / 2 ^ k = ((e / 2 ^ k : Nat) : Int) := by simp
  rw [h0]
  generalize e / 2 ^ k = n
  rw [Int.tmod_eq_emod_of_nonneg (by omega)]
  obtain h | h : (n : Int) % 2 = 0 ∨ (n : Int) % 2 = 1 := by omega
  · rw [h, if_neg (by omega), Int.mul_zero]; rfl
  · rw [h, if_pos rfl, Int.mul_one]
    exact wrap_id ht.1 ht.2

theorem pauseLong_c (p : PauseV) (c : Int) (g : G) (hp : p.ok) (he : 0 ≤ p.en ∧ p.en ≤ 255) : Meets Try.prog 16 [.agg (p.cells.map .v), .v (.int .i64 c)] [] g (fun r _ g' => r.sc 0 = true ∧ (r = .v (.int .i64 (p.long c)) ∧ g' = g)) := by
  refine meets_of mixed Try.func16 (by kernel_rfl) x16_ok 0 (Nat.le_refl _) ?_
  refine Meets.mono ((within_c c 0 7 g).pure rfl _) ?_
  rintro r L' g' ⟨rfl, -, rfl, rfl⟩
  apply bsplit_of <;> intro h1
  · refine ⟨rfl, vi ?_, rfl⟩
    simp at h1
    rw [PauseV.long, if_neg (by omega)]
  · simp at h1
    apply bsplit_of <;> intro h3
    · refine ⟨⟨by decide, by decide⟩, ?_⟩
      refine ⟨rfl, vi ?_, rfl⟩
      rw [PauseV.long, if_pos (by omega), if_neg (by simpa using h3)]
    · have h3' : p.pfc = true := by simpa using h3
      have hl : p.long c = if p.en / 2 ^ c.toNat % 2 = 1 then p.t c else 0 := by
        rw [PauseV.long, if_pos (by omega), if_pos h3']
      obtain ⟨e, hee⟩ : ∃ e : Nat, p.en = e := ⟨p.en.toNat, by omega⟩
      have he' : e ≤ 255 := by omega
      change LoopVC _ _ _ _ _ _ _
      apply loop_rule (α := Nat) (fun k => [(18, .v (.int .i64 k)), (5, .v (.int .i64 ((e / 2 ^ k : Nat) : Int)))]) (fun _ => [Chunk.cells 26 (p.cells.map .v)]) (fun _ => g') (fun k => (k : Int) ≤ c) (fun k => c.toNat - k) 0
      · intro x
        kernel_rfl
      · exact h1.1
      · refine ⟨rfl, ?_, trivial⟩
        rw [Nat.pow_zero, Nat.div_one, ← hee]
        rfl
      · rfl
      · rfl
      intro k hk
      apply bsplit_of <;> intro hlt
      · have hlt' : (k : Int) < c := by simpa using hlt
        refine ⟨by decide, ?_⟩
        exact ⟨k + 1, by omega, by omega, ⟨vi (wrap_id (by omega) (by omega)), vi (half e k he'), trivial⟩, rfl, rfl⟩
      · have hkc : (k : Int) = c := by simp at hlt; omega
        subst hkc
        have hcase : k = 0 ∨ k = 1 ∨ k = 2 ∨ k = 3 ∨ k = 4 ∨ k = 5 ∨ k = 6 ∨ k = 7 := by omega
        clear h1 hlt
        rw [hl, hee]
        clear hl h3
        rcases hcase with rfl | rfl | rfl | rfl | rfl | rfl | rfl | rfl
        all_goals
          refine ⟨⟨by decide, by decide⟩, ?_⟩
          refine ⟨by decide, ?_⟩
          exact ⟨rfl, vi (last _ e _ (by unfold PauseV.ok at hp; first | exact hp.2.1 | exact hp.2.2.1 | exact hp.2.2.2.1 | exact hp.2.2.2.2.1 | exact hp.2.2.2.2.2.1 | exact hp.2.2.2.2.2.2.1 | exact hp.2.2.2.2.2.2.2.1 | exact hp.2.2.2.2.2.2.2.2)), rfl⟩

theorem PauseV.right_en {p : PauseV} (h : p.right = true) : 0 ≤ p.en ∧ p.en ≤ 255 := by
  simp only [PauseV.right, Bool.and_eq_true, decide_eq_true_eq] at h
  exact h.2.1

theorem pauseLasts_c (p : PauseV) (c : Int) (g : G) (hp : p.ok) : Meets Try.prog 4 [.agg (p.cells.map .v), .v (.int .i64 c)] [] g (fun r _ _ => r = .v (.bool true)) := by
  refine meets_of mixed Try.func4 (by kernel_rfl) x4_ok 0 (Nat.le_refl _) ?_
  refine (show Tells _ _ _ _ _ from pauseRight_c p g).quiet rfl nofun rfl ?_
  apply bsplit_of <;> intro h1
  · rfl
  · refine (show Tells _ _ _ _ _ from long_c p c g).quiet rfl nofun rfl ?_
    refine (show Tells _ _ _ _ _ from pauseLong_c p c g hp (PauseV.right_en (by simpa using h1))).quiet rfl nofun rfl ?_
    refine vb' ?_
    simp
end Go.Proofs.Ytflnpoahceebbaa
