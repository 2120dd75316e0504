/- tag.Stack, tag.Tag.Right, their references and the law TagStacks: what each returns, for every slice of tags that memory holds. Conditions: none but the slice's length within an int and its cells in memory. -/
import Derived.Test.YtflnpoahceebbaaXtag
namespace Go.Proofs.Ytflnpoahceebbaa
open Go.Sx
set_option maxRecDepth 100000
attribute [local irreducible] Meets

theorem mixed : Try.prog.follows .mixedOrders = true := by kernel_rfl

structure TagV where
  s : Bool
  p : Int
  d : Bool
  v : Int
def TagV.cells (t : TagV) : List Value := [.bool t.s, .int .i64 t.p, .bool t.d, .int .i64 t.v]
def TagV.right (t : TagV) : Bool := decide (0 ≤ t.p ∧ t.p ≤ 7 ∧ 0 ≤ t.v ∧ t.v ≤ 4094)

theorem tagRight_c (t : TagV) (g : G) : Meets Try.prog 44 [.agg (t.cells.map .v)] [] g (fun r _ g' => r.sc 0 = true ∧ (r = .v (.bool t.right) ∧ g' = g)) := by
  refine meets_of mixed Try.func44 (by kernel_rfl) x44_ok 0 (Nat.le_refl _) ?_
  apply bsplit_of <;> intro h1
  · apply bsplit_of <;> intro h2
    · apply bsplit_of <;> intro h3
      · refine ⟨rfl, vb ?_, rfl⟩
        simp only [decide_eq_true_eq] at *
        omega
      · refine ⟨rfl, vb ?_, rfl⟩
        simp at *
        omega
    · refine ⟨rfl, vb ?_, rfl⟩
      simp at *
      omega
  · refine ⟨rfl, vb ?_, rfl⟩
    simp at *
    omega


def stackB (l : List TagV) : Bool := l.all TagV.right && (decide (l.length ≤ 2) && (!(l.length == 2) || ((l[0]?.map TagV.s) == some true && (l[1]?.map TagV.s) == some false)))

theorem vb' {c d : Bool} (h : d = c) : SV.v (.bool c) = .v (.bool d) := by rw [h]
theorem stackB_bad {l : List TagV} {k : Nat} {t : TagV} (h : l[k]? = some t) (hb : t.right = false ∨ (l.length = 2 ∧ t.s ≠ (k == 0))) : stackB l = false := by
  cases hs : stackB l with
  | false => rfl
  | true =>
    simp only [stackB, Bool.and_eq_true, List.all_eq_true, Bool.or_eq_true, Bool.not_eq_true', beq_iff_eq, beq_eq_false_iff_ne, decide_eq_true_eq] at hs
    obtain ⟨h1, h2, h3⟩ := hs
    rcases hb with hb | ⟨hb, hc⟩
    · rw [h1 t (List.mem_of_getElem? h)] at hb; cases hb
    · have hk := (List.getElem?_eq_some_iff.1 h).1
      rcases h3 with h3 | h3
      · exact absurd hb h3
      · have : k = 0 ∨ k = 1 := by omega
        rcases this with rfl | rfl
        · rw [h] at h3; simp at h3; simp [h3.1] at hc
        · rw [h] at h3; simp at h3; simp [h3.2] at hc
theorem stackB_good {l : List TagV} (h : ∀ (i : Nat) t, i < l.length → l[i]? = some t → t.right = true ∧ (l.length = 2 → t.s = (i == 0))) : stackB l = decide (l.length ≤ 2) := by
  have hr : l.all TagV.right = true := by
    rw [List.all_eq_true]
    intro x hx
    obtain ⟨i, hi, rfl⟩ := List.getElem_of_mem hx
    exact (h i _ hi (List.getElem?_eq_getElem hi)).1
  rw [stackB, hr, Bool.true_and]
  by_cases h2 : l.length = 2
  · have a0 : l[0]? = some (l[0]'(by omega)) := List.getElem?_eq_getElem _
    have a1 : l[1]? = some (l[1]'(by omega)) := List.getElem?_eq_getElem _
    have e0 := (h 0 _ (by omega) a0).2 h2
    have e1 := (h 1 _ (by omega) a1).2 h2
    rw [a0, a1]
    simp [h2, e0, e1]
  · simp [h2]

set_option maxHeartbeats 400000
theorem stack_c (a : Option Addr) (l : List TagV) (c : Nat) (g : G) (h : SliceAt g a l.length 4 (l.flatMap TagV.cells)) (hl : l.length ≤ 9223372036854775807) :
   Meets Try.prog 12 [.v (.slice a l.length c)] [] g (fun r _ g' => r.sc 0 = true ∧ (r = .v (.bool (stackB l)) ∧ g' = g)) := by
  refine meets_of mixed Try.func12 (by kernel_rfl) x12_ok 0 (Nat.le_refl _) ?_
  change LoopVC _ _ _ _ _ _ _
  apply loop_rule (α := Nat) (fun k => [(7, .v (.int .i64 k))]) (fun k => []) (fun _ => g) (fun k => k ≤ l.length ∧ ∀ (i : Nat) t, i < k → l[i]? = some t → t.right = true ∧ (l.length = 2 → t.s = (i == 0))) (fun k => l.length - k) 0 
  · intro x
    kernel_rfl
  · exact ⟨by omega, by intros; omega⟩
  · exact ⟨rfl, trivial⟩
  · rfl
  · rfl
  intro k hx
  have hk := hx.1
  have hall := hx.2
  apply bsplit_of <;> intro hlt
  · have hlt' : k < l.length := by simpa using hlt
    obtain ⟨ad, ha, hat⟩ := h.elem hlt'
    refine ⟨⟨by omega, by simpa using hlt⟩, ad, ha, ?_⟩
    obtain ⟨t, hkt⟩ : ∃ t, l[k]? = some t := ⟨l[k], by simp [hlt']⟩
    rw [flatMap_at _ 4 (fun _ => rfl) l k t hkt] at hat
    refine ⟨t.cells, rfl, hat, ?_⟩
    refine ⟨rfl, rfl, rfl, rfl, ?_⟩
    refine Meets.mono ((tagRight_c t g).pure rfl _) ?_
    rintro r L' g' ⟨rfl, -, rfl, rfl⟩
    apply bsplit_of <;> intro hr
    · refine ⟨rfl, vb' (stackB_bad hkt (.inl (by simpa using hr))), rfl⟩
    · have hr' : t.right = true := by simpa using hr
      apply bsplit_of <;> intro h2
      · have h2' : l.length = 2 := by simp at h2; omega
        apply bsplit_of <;> intro h3
        · refine ⟨rfl, vb' (stackB_bad hkt (.inr ⟨h2', ?_⟩)), rfl⟩
          simp at h3
          grind
        · refine ⟨k + 1, ⟨by omega, ?_⟩, by omega, ⟨vi ?_, trivial⟩, rfl, rfl⟩
          · intro i u hi hu
            by_cases hik : i < k
            · exact hall i u hik hu
            · have : i = k := by omega
              subst this
              rw [hkt] at hu
              cases hu
              refine ⟨hr', fun _ => ?_⟩
              simp at h3
              grind
          · exact wrap_id (by omega) (by omega)
      · have h2' : l.length ≠ 2 := by simp at h2; omega
        refine ⟨k + 1, ⟨by omega, ?_⟩, by omega, ⟨vi ?_, trivial⟩, rfl, rfl⟩
        · intro i u hi hu
          by_cases hik : i < k
          · exact hall i u hik hu
          · have : i = k := by omega
            subst this
            rw [hkt] at hu
            cases hu
            exact ⟨hr', fun h => absurd h h2'⟩
        · exact wrap_id (by omega) (by omega)
  · refine ⟨rfl, vbB ?_, rfl⟩
    have hk' : k = l.length := by simp at hlt; omega
    subst hk'
    rw [stackB_good hall]
    simp
    omega

theorem within_c (a lo hi : Int) (g : G) : Meets Try.prog 46 [.v (.int .i64 a), .v (.int .i64 lo), .v (.int .i64 hi)] [] g (fun r _ g' => r.sc 0 = true ∧ (r = .v (.bool (decide (lo ≤ a ∧ a ≤ hi))) ∧ g' = g)) := by
  refine meets_of mixed Try.func46 (by kernel_rfl) x46_ok 0 (Nat.le_refl _) ?_
  apply bsplit_of <;> intro h1
  · refine ⟨rfl, vb ?_, rfl⟩
    simp only [decide_eq_true_eq] at *
    omega
  · refine ⟨rfl, vb ?_, rfl⟩
    simp at *
    omega

theorem tagRightR_c (t : TagV) (g : G) : Meets Try.prog 45 [.agg (t.cells.map .v)] [] g (fun r _ g' => r.sc 0 = true ∧ (r = .v (.bool t.right) ∧ g' = g)) := by
  refine meets_of mixed Try.func45 (by kernel_rfl) x45_ok 0 (Nat.le_refl _) ?_
  refine Meets.mono ((within_c t.p 0 7 g).pure rfl _) ?_
  rintro r L' g' ⟨rfl, -, rfl, rfl⟩
  apply bsplit_of <;> intro h1
  · refine Meets.mono ((within_c t.v 0 4094 _).pure rfl _) ?_
    rintro r L' g' ⟨rfl, -, rfl, rfl⟩
    refine ⟨rfl, vb ?_, rfl⟩
    simp only [decide_eq_true_eq] at *
    omega
  · refine ⟨rfl, vb ?_, rfl⟩
    simp at *
    omega

theorem stackR_c (a : Option Addr) (l : List TagV) (c : Nat) (g : G) (h : SliceAt g a l.length 4 (l.flatMap TagV.cells)) (hl : l.length ≤ 9223372036854775807) :
   Meets Try.prog 13 [.v (.slice a l.length c)] [] g (fun r _ g' => r.sc 0 = true ∧ (r = .v (.bool (stackB l)) ∧ g' = g)) := by
  refine meets_of mixed Try.func13 (by kernel_rfl) x13_ok 0 (Nat.le_refl _) ?_
  change LoopVC _ _ _ _ _ _ _
  apply loop_rule (α := Nat) (fun k => [(7, .v (.int .i64 k))]) (fun k => []) (fun _ => g) (fun k => k ≤ l.length ∧ ∀ (i : Nat) t, i < k → l[i]? = some t → t.right = true) (fun k => l.length - k) 0 
  · intro x
    kernel_rfl
  · exact ⟨by omega, by intros; omega⟩
  · exact ⟨rfl, trivial⟩
  · rfl
  · rfl
  intro k hx
  have hk := hx.1
  have hall := hx.2
  apply bsplit_of <;> intro hlt
  · have hlt' : k < l.length := by simpa using hlt
    obtain ⟨ad, ha, hat⟩ := h.elem hlt'
    refine ⟨⟨by omega, by simpa using hlt⟩, ad, ha, ?_⟩
    obtain ⟨t, hkt⟩ : ∃ t, l[k]? = some t := ⟨l[k], by simp [hlt']⟩
    rw [flatMap_at _ 4 (fun _ => rfl) l k t hkt] at hat
    refine ⟨t.cells, rfl, hat, ?_⟩
    refine ⟨rfl, rfl, rfl, rfl, ?_⟩
    refine Meets.mono ((tagRightR_c t g).pure rfl _) ?_
    rintro r L' g' ⟨rfl, -, rfl, rfl⟩
    apply bsplit_of <;> intro hr
    · refine ⟨rfl, vb' (stackB_bad hkt (.inl (by simpa using hr))), rfl⟩
    · have hr' : t.right = true := by simpa using hr
      refine ⟨k + 1, ⟨by omega, ?_⟩, by omega, ⟨vi ?_, trivial⟩, rfl, rfl⟩
      · intro i u hi hu
        by_cases hik : i < k
        · exact hall i u hik hu
        · have : i = k := by omega
          subst this
          rw [hkt] at hu
          cases hu
          exact hr'
      · exact wrap_id (by omega) (by omega)
  · have hk' : k = l.length := by simp at hlt; omega
    subst hk'
    have hr : l.all TagV.right = true := by
      rw [List.all_eq_true]
      intro x hx
      obtain ⟨i, hi, rfl⟩ := List.getElem_of_mem hx
      exact hall i _ hi (List.getElem?_eq_getElem hi)
    apply bsplit_of <;> intro h2
    · refine ⟨rfl, vbB ?_, rfl⟩
      simp at h2
      simp [stackB, hr]
      omega
    · simp at h2
      apply bsplit_of <;> intro h3
      · have h3' : l.length = 2 := by simp at h3; omega
        obtain ⟨t0, t1, rfl⟩ : ∃ t0 t1, l = [t0, t1] := by
          match l, h3' with
          | [x, y], _ => exact ⟨x, y, rfl⟩
        obtain ⟨ad, ha, hat⟩ := h.elem (i := 0) (by simp)
        obtain ⟨ad', ha', hat'⟩ := h.elem (i := 1) (by simp)
        rw [ha] at ha'
        cases ha'
        refine ⟨⟨by omega, by simp⟩, ad, ha, ?_⟩
        refine ⟨[.bool t0.s], rfl, hat.sub 0 1 (Nat.le_of_ble_eq_true rfl), ?_⟩
        apply bsplit_of <;> intro h4
        · refine ⟨⟨by omega, by simp⟩, ad, ha, ?_⟩
          refine ⟨[.bool t1.s], rfl, hat'.sub 0 1 (Nat.le_of_ble_eq_true rfl), ?_⟩
          refine ⟨rfl, vbB ?_, rfl⟩
          simp [stackB, hr, h4]
        · refine ⟨rfl, vbB ?_, rfl⟩
          simp [stackB, h4]
      · refine ⟨rfl, vbB ?_, rfl⟩
        simp at h3
        simp [stackB, hr]
        omega

theorem law_c (a : Option Addr) (l : List TagV) (c : Nat) (g : G) (h : SliceAt g a l.length 4 (l.flatMap TagV.cells)) (hl : l.length ≤ 9223372036854775807) :
   Meets Try.prog 3 [.v (.slice a l.length c)] [] g (fun r _ _ => r = .v (.bool true)) := by
  refine meets_of mixed Try.func3 (by kernel_rfl) x3_ok 0 (Nat.le_refl _) ?_
  apply bsplit_of <;> intro h1
  · exact rfl
  · refine Meets.mono ((stack_c a l c g h hl).pure rfl _) ?_
    rintro r L' g' ⟨rfl, -, rfl, rfl⟩
    refine Meets.mono ((stackR_c a l c _ h hl).pure rfl _) ?_
    rintro r L' _ ⟨rfl, -, rfl, rfl⟩
    refine vb' ?_
    simp
end Go.Proofs.Ytflnpoahceebbaa
