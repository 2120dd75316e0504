/- A symbolic executor of my own, part 8: a region whose order is drawn: operations that only read or call quietly come first, in whatever order; the others wait for all of them and come one behind the other. One walk in the order of the text serves. Conditions: none; it speaks of any program. -/
import Derived.Test.YtflnpoahceebbaaSx7
namespace Go.Sx

section
variable {P : Program} {ops : Array Oper} {C : World → Prop}

def waits (ops : Array Oper) (j i : Nat) : Bool :=
  match ops[j]? with
  | some oj => oj.after.any fun e => Region.binds .any e && Nat.beq e.on i
  | none => false

/-- What is asked of a region whose first n operations come first. -/
def drawOk (ops : Array Oper) (n : Nat) : Bool :=
  Region.noSelect ops && Nat.ble n ops.size &&
  ((List.range ops.size).all fun j => match ops[j]? with
    | some oj => oj.after.all fun e => !Region.binds .any e || Nat.blt e.on j
    | none => true) &&
  ((List.range n).all fun j => (List.range j).all fun i => waits ops j i || match ops[i]?, ops[j]? with
    | some oi, some oj => oi.apart ops oj
    | _, _ => false) &&
  (Nat.beq n ops.size || (List.range n).all fun i => (List.range (n + 1)).any fun j => Nat.blt i j && waits ops j i) &&
  ((List.range ops.size).all fun t => Nat.ble t n || waits ops t (t - 1))

structure DrawOk (ops : Array Oper) (n : Nat) : Prop where
  sel : Region.noSelect ops = true
  le : n ≤ ops.size
  back : ∀ j oj, ops[j]? = some oj → ∀ e ∈ oj.after, Region.binds .any e = true → e.on < j
  free : ∀ i j oi oj, ops[i]? = some oi → ops[j]? = some oj → i < j → j < n → waits ops j i = true ∨ oi.apart ops oj = true
  sink : n < ops.size → ∀ i, i < n → ∃ j, i < j ∧ j ≤ n ∧ waits ops j i = true
  chain : ∀ t, t < ops.size → n < t → waits ops t (t - 1) = true

theorem drawOk_spec {n : Nat} (h : drawOk ops n = true) : DrawOk ops n := by
  unfold drawOk at h
  simp only [Bool.and_eq_true, Bool.or_eq_true, List.all_eq_true, List.any_eq_true, List.mem_range, Nat.ble_eq, Nat.blt_eq] at h
  obtain ⟨⟨⟨⟨⟨h1, h2⟩, h3⟩, h4⟩, h5⟩, h6⟩ := h
  refine ⟨h1, h2, fun j oj hj e he hb => ?_, fun i j oi oj hi hj hij hjn => ?_, fun hn i hi => ?_, fun t ht hnt => ?_⟩
  · have hlt : j < ops.size := (Array.getElem?_eq_some_iff.1 hj).1
    have := h3 j hlt
    rw [hj] at this
    have := Array.all_eq_true_iff_forall_mem.1 this e he
    simp only [hb, Bool.not_true, Bool.false_or, Nat.blt_eq] at this
    exact this
  · have := h4 j hjn i hij
    rw [hi, hj] at this
    exact this
  · rcases h5 with h5 | h5
    · have := Nat.eq_of_beq_eq_true h5; omega
    · obtain ⟨j, hj, h7⟩ := h5 i hi
      exact ⟨j, h7.1, by omega, h7.2⟩
  · rcases h6 t ht with h6 | h6
    · omega
    · exact h6

theorem waits_spec {j i : Nat} (h : waits ops j i = true) : ∃ oj, ops[j]? = some oj ∧ ∃ e ∈ oj.after, Region.binds .any e = true ∧ e.on = i := by
  unfold waits at h
  split at h
  · rename_i oj hj
    obtain ⟨e, he, hb⟩ := Array.any_eq_true'.1 h
    simp only [Bool.and_eq_true] at hb
    exact ⟨oj, hj, e, he, hb.1, Nat.eq_of_beq_eq_true hb.2⟩
  · cases h

/-- What holds of the marks while the head is under way. -/
structure Under (ops : Array Oper) (n : Nat) (rem : List Nat) (listed : Array Bool) : Prop where
  size : listed.size = ops.size
  mem : ∀ i, i < ops.size → (listed.getD i false = false ↔ i ∈ rem ∨ n ≤ i)
  lt : ∀ i ∈ rem, i < n
  closed : ∀ j oj, ops[j]? = some oj → listed.getD j false = true → ∀ e ∈ oj.after, Region.binds .any e = true → listed.getD e.on false = true

theorem getD_true_false {listed : Array Bool} {i : Nat} (hi : i < listed.size) : listed.getD i true = listed.getD i false := by
  simp [hi]

/-- A chain of quiet operations, then something. -/
def qList (P : Program) (ops : Array Oper) (C : World → Prop) (T : Act → Prop) : List Nat → Act → Prop
  | [], a => T a
  | i :: l, a => qOp P ops C i (qList P ops C T l) a

/-- One that nothing ahead of it touches may be taken first. -/
theorem front {T : Act → Prop} (hs : Region.noSelect ops = true) {i : Nat} {oi : Oper} (hi : ops[i]? = some oi) : ∀ (pre post : List Nat) (a : Act),
    (∀ p ∈ pre, ∃ op, ops[p]? = some op ∧ op.apart ops oi = true) → qList P ops C T (pre ++ i :: post) a → qOp P ops C i (qList P ops C T (pre ++ post)) a := by
  intro pre
  induction pre with
  | nil => intro post a _ h; exact h
  | cons p pre ih =>
    intro post a hp h
    obtain ⟨op, hop, hap⟩ := hp p (by simp)
    obtain ⟨v, hy, hk⟩ := yieldsIn_of_qOp hop (show qOp P ops C p (qList P ops C T (pre ++ i :: post)) a from h)
    have h2 := ih post _ (fun q hq => hp q (by simp [hq])) hk
    have h3 := qOp_put hi hap (fun cs b => Region.noSelect_spec hs p op cs b hop) (fun cs b => Region.noSelect_spec hs i oi cs b hi) hy h2
    exact qOp_mono (fun a' ⟨h4, h5⟩ => h4.qOp hop h5) h3

theorem not_ready_tail {n : Nat} {rem : List Nat} {listed : Array Bool} (D : DrawOk ops n) (U : Under ops n rem listed) (hrem : rem ≠ []) : ∀ t, n ≤ t → t ∉ Region.ready .any ops listed := by
  have key : ∀ (d i : Nat), n - i = d → i < n → listed.getD i false = false → n < ops.size → n ∉ Region.ready .any ops listed := by
    intro d
    induction d using Nat.strongRecOn with
    | _ d ih =>
      intro i hd hi hun hn hr
      obtain ⟨j, h1, h2, h3⟩ := D.sink hn i hi
      obtain ⟨oj, hoj, e, he, hb, hon⟩ := waits_spec h3
      obtain ⟨_, on, hon', hall⟩ := mem_ready.1 hr
      by_cases hjn : j = n
      · subst hjn
        have : oj = on := Option.some.inj (hoj.symm.trans hon')
        subst this
        have := hall e he hb
        rw [hon, hun] at this
        cases this
      · cases hl : listed.getD j false with
        | true =>
          have := U.closed j oj hoj hl e he hb
          rw [hon, hun] at this
          cases this
        | false => exact ih (n - j) (by omega) j rfl (by omega) hl hn hr
  intro t ht hr
  obtain ⟨i, rem', rfl⟩ : ∃ i rem', rem = i :: rem' := by
    cases rem with
    | nil => exact absurd rfl hrem
    | cons i rem' => exact ⟨i, rem', rfl⟩
  obtain ⟨_, ot, hot, hall⟩ := mem_ready.1 hr
  have htlt : t < ops.size := (Array.getElem?_eq_some_iff.1 hot).1
  by_cases htn : t = n
  · subst htn
    have hin := U.lt i (by simp)
    exact key _ i rfl hin ((U.mem i (by omega)).2 (.inl (by simp))) htlt hr
  · obtain ⟨o', ho', e, he, hb, hon⟩ := waits_spec (D.chain t htlt (by omega))
    have : o' = ot := Option.some.inj (ho'.symm.trans hot)
    subst this
    have h2 := hall e he hb
    rw [hon, (U.mem (t - 1) (by omega)).2 (.inr (by omega))] at h2
    cases h2

/-- The tail: one behind the other. -/
theorem tail_any {n : Nat} (D : DrawOk ops n) {Q : Exit → Act → World → Prop} : ∀ (m k : Nat) (listed : Array Bool) (a : Act) (w : World), k + m = ops.size → n ≤ k → listed.size = ops.size →
    (∀ i, i < ops.size → (listed.getD i false = false ↔ k ≤ i)) → wpList P ops Q (ops.toList.drop k) a w → wpAny P .any ops Q m listed a w := by
  intro m
  have rdy : ∀ (k : Nat) (listed : Array Bool), n ≤ k → listed.size = ops.size → (∀ i, i < ops.size → (listed.getD i false = false ↔ k ≤ i)) → ∀ i, i ∈ Region.ready .any ops listed → i = k := by
    intro k listed hk hsz hl i hi
    obtain ⟨h0, oi, hoi, hall⟩ := mem_ready.1 hi
    have hlt : i < ops.size := (Array.getElem?_eq_some_iff.1 hoi).1
    rw [getD_true_false (by omega)] at h0
    have hki := (hl i hlt).1 h0
    by_cases hik : i = k
    · exact hik
    · obtain ⟨o', ho', e, he, hb, hon⟩ := waits_spec (D.chain i hlt (by omega))
      have : o' = oi := Option.some.inj (ho'.symm.trans hoi)
      subst this
      have h2 := hall e he hb
      rw [hon, (hl (i - 1) (by omega)).2 (by omega)] at h2
      cases h2
  induction m with
  | zero =>
    intro k listed a w hkm hk hsz hl h
    refine ⟨?_, ?_⟩
    · cases hr : Region.ready .any ops listed with
      | nil => rfl
      | cons i l =>
        have hi : i ∈ Region.ready .any ops listed := by rw [hr]; simp
        have := rdy k listed hk hsz hl i hi
        obtain ⟨_, oi, hoi, _⟩ := mem_ready.1 hi
        have hlt : i < ops.size := (Array.getElem?_eq_some_iff.1 hoi).1
        omega
    · rw [List.drop_of_length_le (by simp; omega)] at h
      exact h
  | succ m ih =>
    intro k listed a w hkm hk hsz hl h
    have hklt : k < ops.size := by omega
    have hget : ops[k]? = some ops[k] := by simp [hklt]
    refine ⟨fun h0 => ?_, fun i hi => ?_⟩
    · exfalso
      have : k ∈ Region.ready .any ops listed := by
        refine mem_ready.2 ⟨by rw [getD_true_false (by omega)]; exact (hl k hklt).2 (Nat.le_refl _), _, hget, fun e he hb => ?_⟩
        have := D.back k _ hget e he hb
        cases hx : listed.getD e.on false with
        | true => rfl
        | false => have := (hl e.on (by omega)).1 hx; omega
      rw [h0] at this
      cases this
    · have hik := rdy k listed hk hsz hl i hi
      subst hik
      have hd : ops.toList.drop i = ops[i] :: ops.toList.drop (i + 1) := by
        rw [List.drop_eq_getElem_cons (by simpa using hklt)]
        simp
      rw [hd] at h
      have hw : wpOp P ops Q i (wpList P ops Q (ops.toList.drop (i + 1))) a w := by
        unfold wpOp
        rw [hget]
        exact h
      refine wpOp_mono (fun a' w' h' => ih (i + 1) _ a' w' (by omega) (by omega) (by simpa using hsz) (fun j hj => ?_) h') hw
      by_cases hji : i = j
      · subst hji
        have : (listed.setIfInBounds i true).getD i false = true := by simp [show i < listed.size by omega]
        rw [this]
        simp
      · rw [getD_set_ne false hji, hl j hj]
        omega

theorem head_any {n : Nat} (D : DrawOk ops n) {Q : Exit → Act → World → Prop} : ∀ (m : Nat) (rem : List Nat) (listed : Array Bool) (a : Act) (w : World), rem.length = m → List.Pairwise (· < ·) rem → Under ops n rem listed → C w →
    qList P ops C (fun a' => ∀ w', C w' → wpList P ops Q (ops.toList.drop n) a' w') rem a → wpAny P .any ops Q (m + (ops.size - n)) listed a w := by
  intro m
  induction m with
  | zero =>
    intro rem listed a w hm _ U hC h
    have : rem = [] := List.eq_nil_of_length_eq_zero hm
    subst this
    rw [Nat.zero_add]
    exact tail_any D _ n listed a w (by have := D.le; omega) (Nat.le_refl _) U.size (fun i hi => by simpa using U.mem i hi) (h w hC)
  | succ m ih =>
    intro rem listed a w hm hpw U hC h
    have hne : rem ≠ [] := by rintro rfl; simp at hm
    rw [show m + 1 + (ops.size - n) = (m + (ops.size - n)) + 1 by omega]
    refine ⟨fun h0 => ?_, fun i hi => ?_⟩
    · exfalso
      -- the least one left is ready
      obtain ⟨i, rem', rfl⟩ : ∃ i rem', rem = i :: rem' := by
        cases rem with
        | nil => exact absurd rfl hne
        | cons i rem' => exact ⟨i, rem', rfl⟩
      have hin := U.lt i (by simp)
      have hil : i < ops.size := by have := D.le; omega
      have hget : ops[i]? = some ops[i] := by simp [hil]
      have : i ∈ Region.ready .any ops listed := by
        refine mem_ready.2 ⟨by rw [getD_true_false (by have := U.size; omega)]; exact (U.mem i hil).2 (.inl (by simp)), _, hget, fun e he hb => ?_⟩
        have hlt := D.back i _ hget e he hb
        cases hx : listed.getD e.on false with
        | true => rfl
        | false =>
          rcases (U.mem e.on (by omega)).1 hx with h1 | h1
          · rcases List.mem_cons.1 h1 with h2 | h2
            · omega
            · have := (List.pairwise_cons.1 hpw).1 _ h2; omega
          · omega
      rw [h0] at this
      cases this
    · obtain ⟨h0, oi, hoi, hall⟩ := mem_ready.1 hi
      have hil : i < ops.size := (Array.getElem?_eq_some_iff.1 hoi).1
      rw [getD_true_false (by have := U.size; omega)] at h0
      have hmem : i ∈ rem := by
        rcases (U.mem i hil).1 h0 with h1 | h1
        · exact h1
        · exact absurd hi (not_ready_tail D U hne i h1)
      obtain ⟨pre, post, rfl⟩ := List.append_of_mem hmem
      have hpre : ∀ p ∈ pre, p < i := fun p hp => (List.pairwise_append.1 hpw).2.2 p hp i (by simp)
      have hf := front (C := C) (T := fun a' => ∀ w', C w' → wpList P ops Q (ops.toList.drop n) a' w') D.sel hoi pre post a (fun p hp => by
        have hpi := hpre p hp
        have hin := U.lt i hmem
        have hget : ops[p]? = some (ops[p]'(by omega)) := by simp [show p < ops.size by omega]
        refine ⟨_, hget, ?_⟩
        rcases D.free p i _ oi hget hoi hpi hin with h1 | h1
        · exfalso
          obtain ⟨o', ho', e, he, hb, hon⟩ := waits_spec h1
          have : o' = oi := Option.some.inj (ho'.symm.trans hoi)
          subst this
          have h2 := hall e he hb
          rw [hon, (U.mem p (by omega)).2 (.inl (by simp [hp]))] at h2
          cases h2
        · exact h1) h
      refine wpOp_of_qOp hC (fun a' w' hw' h' => ih (pre ++ post) _ a' w' (by simp at hm ⊢; omega) ?_ ?_ hw' h') hf
      · rw [List.pairwise_append] at hpw ⊢
        exact ⟨hpw.1, (List.pairwise_cons.1 hpw.2.1).2, fun x hx y hy => hpw.2.2 x hx y (by simp [hy])⟩
      · have hnot : i ∉ pre ++ post := by
          intro hx
          rcases List.mem_append.1 hx with h1 | h1
          · have := hpre i h1; omega
          · have := (List.pairwise_cons.1 (List.pairwise_append.1 hpw).2.1).1 i h1; omega
        refine ⟨by simpa using U.size, fun j hj => ?_, fun j hj => U.lt j (by rcases List.mem_append.1 hj with h1 | h1 <;> simp [h1]), fun j oj hoj hl e he hb => ?_⟩
        · by_cases hji : i = j
          · subst hji
            have : (listed.setIfInBounds i true).getD i false = true := by simp [show i < listed.size by have := U.size; omega]
            rw [this]
            have := U.lt i hmem
            simp only [Bool.true_eq_false, false_iff, not_or]
            exact ⟨hnot, by omega⟩
          · rw [getD_set_ne false hji, U.mem j hj]
            simp only [List.mem_append, List.mem_cons]
            constructor
            · rintro ((h1 | h1 | h1) | h1)
              · exact .inl (.inl h1)
              · exact absurd h1.symm hji
              · exact .inl (.inr h1)
              · exact .inr h1
            · rintro ((h1 | h1) | h1)
              · exact .inl (.inl h1)
              · exact .inl (.inr (.inr h1))
              · exact .inr h1
        · by_cases hij : i = j
          · subst hij
            have : oj = oi := Option.some.inj (hoj.symm.trans hoi)
            subst this
            exact getD_set_true (hall e he hb)
          · rw [getD_set_ne false hij] at hl
            exact getD_set_true (U.closed j oj hoj hl e he hb)

/-- **One walk in the order of the text serves every order.** -/
theorem wp_region_head {id : Nat} {n : Nat} {Q : Exit → Act → World → Prop} {a : Act} {w : World} (hm : P.follows .mixedOrders = true) (hB : drawOk ops n = true) (hC : C { w with drawn := w.drawn + 1 })
    (h : qList P ops C (fun a' => ∀ w', C w' → wpList P ops Q (ops.toList.drop n) a' w') (List.range n) a) : (Code.region id ops true).wp P Q a w := by
  have D := drawOk_spec hB
  refine wp_region_any hm ?_
  have := head_any (C := C) (Q := Q) D n (List.range n) (Array.replicate ops.size false) a { w with drawn := w.drawn + 1 } (by simp) List.pairwise_lt_range
    ⟨by simp, fun i hi => by simp [hi]; omega, fun i hi => List.mem_range.1 hi, fun j oj _ hl => by
      exfalso
      rcases Nat.lt_or_ge j ops.size with hj | hj
      · simp [hj] at hl
      · simp [hj] at hl⟩ hC h
  rwa [show n + (ops.size - n) = ops.size by have := D.le; omega] at this

end
end Go.Sx
