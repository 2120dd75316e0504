/- A symbolic executor of my own, part 16: the rule for loops. Conditions: none; it speaks of any program. -/
import Derived.Test.YtflnpoahceebbaaSx15
namespace Go.Sx

def junkM : List SV → List Bool → List SV
  | [], _ => []
  | l, [] => l
  | _ :: l, true :: m => .junk :: junkM l m
  | x :: l, false :: m => x :: junkM l m
def setAll : List SV → List (Nat × SV) → List SV
  | fr, [] => fr
  | fr, (t, v) :: l => setAll (put fr t v) l
def upd (fr : List SV) (m : List Bool) (vals : List (Nat × SV)) : List SV := setAll (junkM fr m) vals

def forceM : List SV → List Bool → (List SV → Prop) → Prop
  | [], _, K => K []
  | x :: l, [], K => forceM l [] fun l' => K (x :: l')
  | _ :: l, true :: m, K => forceM l m fun l' => K (.junk :: l')
  | x :: l, false :: m, K => forceM l m fun l' => K (x :: l')
theorem junkM_nil : ∀ l : List SV, junkM l [] = l
  | [] => rfl
  | _ :: _ => rfl
theorem forceM_eq : ∀ (l : List SV) (m : List Bool) (K : List SV → Prop), forceM l m K = K (junkM l m)
  | [], _, _ => rfl
  | x :: l, [], K => by rw [forceM, forceM_eq, junkM_nil]; rfl
  | _ :: l, true :: m, K => by rw [forceM, forceM_eq]; rfl
  | x :: l, false :: m, K => by rw [forceM, forceM_eq]; rfl
def forceS : List SV → List (Nat × SV) → (List SV → Prop) → Prop
  | fr, [], K => K fr
  | fr, (t, v) :: l, K => force (put fr t v) fun fr => forceS fr l K
theorem forceS_eq : ∀ (l : List (Nat × SV)) (fr : List SV) (K : List SV → Prop), forceS fr l K = K (setAll fr l)
  | [], _, _ => rfl
  | (t, v) :: l, fr, K => by rw [forceS, force_eq, forceS_eq l]; rfl
/-- The frame at a round's head, written out. -/
def forceU (fr : List SV) (m : List Bool) (vals : List (Nat × SV)) (K : List SV → Prop) : Prop := forceM fr m fun fr => forceS fr vals K
theorem forceU_eq (fr : List SV) (m : List Bool) (vals : List (Nat × SV)) (K : List SV → Prop) : forceU fr m vals K = K (upd fr m vals) := by
  rw [forceU, forceM_eq, forceS_eq]
  rfl

/-- These slots hold these values. -/
def trk (fr : List SV) : List (Nat × SV) → Prop
  | [] => True
  | (t, v) :: l => get fr t = v ∧ trk fr l

def scV (n : Nat) : List (Nat × SV) → Bool
  | [] => true
  | (_, v) :: l => v.sc n && scV n l
def inD (D : List Nat) : List (Nat × SV) → Bool
  | [] => true
  | (t, _) :: l => D.contains t && inD D l

theorem junkM_length : ∀ (fr : List SV) (m : List Bool), (junkM fr m).length = fr.length
  | [], _ => by simp [junkM]
  | _ :: _, [] => rfl
  | _ :: l, true :: m => by simp [junkM, junkM_length l m]
  | _ :: l, false :: m => by simp [junkM, junkM_length l m]
theorem setAll_length : ∀ (l : List (Nat × SV)) (fr : List SV), (setAll fr l).length = fr.length
  | [], _ => rfl
  | (t, v) :: l, fr => by rw [setAll, setAll_length l, put_length]

theorem get_junkM : ∀ (fr : List SV) (m : List Bool) (i : Nat), (m.getD i false = true → get (junkM fr m) i = .junk) ∧ (m.getD i false = false → get (junkM fr m) i = get fr i)
  | [], m, i => by simp [junkM, get]
  | x :: l, [], i => by simp [junkM]
  | x :: l, b :: m, i => by
    cases i with
    | zero => cases b <;> simp [junkM, get]
    | succ i =>
      have := get_junkM l m i
      cases b <;> simpa [junkM, get] using this

theorem get_setAll : ∀ (l : List (Nat × SV)) (fr : List SV) (i : Nat) (F : List SV), trk F l → F.length = fr.length →
    get (setAll fr l) i = get F i ∨ get (setAll fr l) i = get fr i
  | [], _, _, _, _, _ => .inr rfl
  | (t, v) :: l, fr, i, F, h, hl => by
    rw [setAll]
    rcases get_setAll l (put fr t v) i F h.2 (by rw [put_length]; exact hl) with h1 | h1
    · exact .inl h1
    · rw [h1, get_put]
      by_cases hc : t = i ∧ t < fr.length
      · rw [if_pos hc]
        obtain ⟨rfl, _⟩ := hc
        exact .inl h.1.symm
      · rw [if_neg hc]
        exact .inr rfl

theorem get_setAll_not : ∀ (l : List (Nat × SV)) (fr : List SV) (i : Nat) (D : List Nat), inD D l = true → i ∉ D → get (setAll fr l) i = get fr i
  | [], _, _, _, _, _ => rfl
  | (t, v) :: l, fr, i, D, h, hi => by
    simp only [inD, Bool.and_eq_true] at h
    rw [setAll, get_setAll_not l _ i D h.2 hi, get_put, if_neg]
    rintro ⟨rfl, _⟩
    exact hi (by simpa using h.1)

theorem sc_junkM {n : Nat} : ∀ (fr : List SV) (m : List Bool), scL n fr = true → scL n (junkM fr m) = true
  | [], _, h => by simpa [junkM] using h
  | _ :: _, [], h => h
  | x :: l, b :: m, h => by
    simp only [scL, Bool.and_eq_true] at h
    have := sc_junkM l m h.2
    cases b
    · simp [junkM, scL, h.1, this]
    · simp [junkM, scL, SV.sc, this]
theorem sc_setAll {n : Nat} : ∀ (l : List (Nat × SV)) (fr : List SV), scL n fr = true → scV n l = true → scL n (setAll fr l) = true
  | [], _, h, _ => h
  | (t, v) :: l, _, h, hv => by
    simp only [scV, Bool.and_eq_true] at hv
    exact sc_setAll l _ (sc_put h t hv.1) hv.2

def maskB (m : List Bool) (D : List Nat) : Bool :=
  ((List.range m.length).all fun i => m.getD i false == D.contains i) && D.all fun d => Nat.blt d m.length
theorem maskB_spec {m : List Bool} {D : List Nat} (h : maskB m D = true) (i : Nat) : m.getD i false = true ↔ i ∈ D := by
  simp only [maskB, Bool.and_eq_true, List.all_eq_true, List.mem_range, beq_iff_eq, Nat.blt_eq] at h
  by_cases hi : i < m.length
  · rw [h.1 i hi]; simp
  · constructor
    · intro h'; simp [List.getD, show m.length ≤ i by omega] at h'
    · intro h'; exact absurd (h.2 i h') hi

/-- The check on a loop's relation: that it names slots that the body writes, and leads to the blocks at hand alone. -/
def okT (m : List Bool) (c : XC) (n : Nat) (vals : List (Nat × SV)) (Ls : List Chunk) : Bool :=
  maskB m (dsts c) && (inD (dsts c) vals && (scV Ls.length vals && (scHB Ls.length Ls && Nat.ble n Ls.length)))

/-- **The rule for loops**: what the named slots and the blocks at hand hold at each round's head, by a parameter; a measure. -/
theorem loop_rule {P : Program} {m : List Bool} {c : XC} {fr : List SV} {L : List Chunk} {g : G} {K : Exit → List SV → List Chunk → G → Prop} {α : Type} (vals : α → List (Nat × SV)) (Ls : α → List Chunk) (gs : α → G) (φ : α → Prop) (μ : α → Nat) (x0 : α)
    (hok : ∀ x, okT m c L.length (vals x) (Ls x) = true) (h0 : φ x0) (ht : trk fr (vals x0)) (hL0 : L = Ls x0) (hg0 : g = gs x0)
    (round : ∀ x, φ x → forceU fr m (vals x) fun fr => sC P c fr (Ls x) (gs x) fun e fr' L' g' => match e with
      | .normal => ∃ y, φ y ∧ μ y < μ x ∧ trk fr' (vals y) ∧ L'.take (Ls y).length = Ls y ∧ g' = gs y
      | .exit j => K (.exit j) fr' L' g'
      | .ret => K .ret fr' L' g'
      | _ => False) : LoopVC P m c fr L g K := by
  unfold LoopVC
  intro hs hL
  have spec : ∀ x, maskB m (dsts c) = true ∧ inD (dsts c) (vals x) = true ∧ scV (Ls x).length (vals x) = true ∧ scHB (Ls x).length (Ls x) = true ∧ L.length ≤ (Ls x).length := by
    intro x
    have := hok x
    simp only [okT, Bool.and_eq_true, Nat.ble_eq] at this
    exact this
  have hm := maskB_spec (spec x0).1
  have scT : ∀ x, scL (Ls x).length (upd fr m (vals x)) = true := fun x => sc_setAll _ _ (sc_junkM _ _ (scL_mono (spec x).2.2.2.2 _ hs)) (spec x).2.2.1
  have lenT : ∀ x, (upd fr m (vals x)).length = fr.length := fun x => by rw [upd, setAll_length, junkM_length]
  have far : ∀ i, i ∉ dsts c → m.getD i false = false := fun i hi => by
    cases h : m.getD i false with
    | false => rfl
    | true => exact absurd ((hm i).1 h) hi
  have keptT : ∀ x, Kept (dsts c) fr (upd fr m (vals x)) := fun x => ⟨lenT x, fun i hi => by rw [upd, get_setAll_not _ _ i _ (spec x).2.1 hi, (get_junkM _ _ i).2 (far i hi)]⟩
  have weak : ∀ (x : α) (F : List SV), F.length = fr.length → Kept (dsts c) fr F → trk F (vals x) → ∀ i, get (upd fr m (vals x)) i = .junk ∨ get (upd fr m (vals x)) i = get F i := by
    intro x F hl hF ht i
    by_cases hi : i ∈ dsts c
    · rcases get_setAll (vals x) (junkM fr m) i F ht (by rw [junkM_length]; exact hl) with h1 | h1
      · exact .inr h1
      · exact .inl (h1.trans ((get_junkM _ _ i).1 ((hm i).2 hi)))
    · right
      rw [(keptT x).2 i hi, hF.2 i hi]
  refine ⟨fun n S => ∃ x, φ x ∧ μ x = n ∧ S = ⟨upd fr m (vals x), Ls x, gs x⟩, μ x0, ⟨upd fr m (vals x0), Ls x0, gs x0⟩, ?_, ?_, keptT x0, ⟨x0, h0, rfl, rfl⟩, ?_⟩
  · exact ⟨⟨(lenT x0).symm, weak x0 fr rfl (Kept.refl _ _) ht⟩, ⟨[], by simpa using hL0⟩, hg0.symm, scT x0, scHB_scH (spec x0).2.2.2.1⟩
  · exact (spec x0).2.2.2.2
  · rintro n S1 ⟨x, hx, rfl, rfl⟩
    have hr := round x hx
    rw [forceU_eq, sC_eq] at hr
    refine vcC_keeps c hr fun e S2 h2 k2 => ?_
    cases e with
    | normal =>
      obtain ⟨y, hy, hlt, hty, hLy, hgy⟩ := h2
      have kk : Kept (dsts c) fr S2.fr := (keptT x).trans k2
      refine ⟨μ y, ⟨upd fr m (vals y), Ls y, gs y⟩, hlt, ⟨⟨by rw [kk.1, lenT y], weak y S2.fr kk.1 kk hty⟩, ⟨S2.L.drop (Ls y).length, ?_⟩, hgy.symm, scT y, scHB_scH (spec y).2.2.2.1⟩, (spec y).2.2.2.2, keptT y, y, hy, rfl, rfl⟩
      have := List.take_append_drop (Ls y).length S2.L
      rw [hLy] at this
      exact this.symm
    | exit j => exact h2
    | ret => exact h2
    | _ => exact h2.elim

/-! ### Slices that nobody writes -/

/-- A slice's length and address hold these cells (sz cells an element). -/
def SliceAt (g : G) (a : Option Addr) (n sz : Nat) (xs : List Value) : Prop :=
  xs.length = n * sz ∧ (0 < n → ∃ ad, a = some ad ∧ g.at ad xs)

theorem G.at.sub {g : G} {ad : Addr} {xs : List Value} (h : g.at ad xs) (off m : Nat) (hm : off + m ≤ xs.length) : g.at (ad.add off) ((xs.drop off).take m) := by
  obtain ⟨hs, c, ty, fz, hg, hc⟩ := h
  obtain ⟨b, o, sp⟩ := ad
  simp only at hs
  subst hs
  rw [add_cell]
  refine ⟨rfl, c, ty, fz, hg, fun i hi => ?_⟩
  simp only [List.length_take, List.length_drop] at hi
  simp only at hc ⊢
  rw [List.getElem?_take, if_pos (by omega), List.getElem?_drop, ← hc (off + i) (by omega), Nat.add_assoc]

theorem SliceAt.elem {g : G} {a : Option Addr} {n sz : Nat} {xs : List Value} (h : SliceAt g a n sz xs) {i : Nat} (hi : i < n) : ∃ ad, a = some ad ∧ g.at (ad.add (i * sz)) ((xs.drop (i * sz)).take sz) := by
  obtain ⟨ad, ha, hat⟩ := h.2 (by omega)
  refine ⟨ad, ha, hat.sub _ _ ?_⟩
  rw [h.1]
  have := Nat.mul_le_mul_right sz (show i + 1 ≤ n by omega)
  rw [Nat.add_mul] at this
  omega

theorem G.at.mono {g g' : G} (h : G.le g g') {ad : Addr} {xs : List Value} (hat : g.at ad xs) : g'.at ad xs := by
  obtain ⟨hs, c, ty, fz, hg, hc⟩ := hat
  exact ⟨hs, c, ty, fz, h _ _ hg, hc⟩
theorem SliceAt.mono {g g' : G} (h : G.le g g') {a : Option Addr} {n sz : Nat} {xs : List Value} (hat : SliceAt g a n sz xs) : SliceAt g' a n sz xs :=
  ⟨hat.1, fun hn => by obtain ⟨ad, h1, h2⟩ := hat.2 hn; exact ⟨ad, h1, h2.mono h⟩⟩

/-- The cells of the i-th of many alike. -/
theorem flatMap_at {α β : Type} (f : α → List β) (sz : Nat) (hf : ∀ x, (f x).length = sz) : ∀ (l : List α) (i : Nat) (x : α), l[i]? = some x → ((l.flatMap f).drop (i * sz)).take sz = f x := by
  intro l
  induction l with
  | nil => intro i x h; simp at h
  | cons y l ih =>
    intro i x h
    cases i with
    | zero =>
      simp only [List.getElem?_cons_zero, Option.some.injEq] at h
      subst h
      simp [List.flatMap_cons, hf]
    | succ i =>
      have := ih i x (by simpa using h)
      rw [List.flatMap_cons, Nat.add_mul, Nat.one_mul, Nat.add_comm, ← List.drop_drop, List.drop_append_of_le_length (by rw [hf]; omega), show (f y).drop sz = [] from List.drop_of_length_le (by rw [hf]; omega), List.nil_append]
      exact this
theorem flatMap_len {α β : Type} (f : α → List β) (sz : Nat) (hf : ∀ x, (f x).length = sz) (l : List α) : (l.flatMap f).length = l.length * sz := by
  induction l with
  | nil => simp
  | cons y l ih => rw [List.flatMap_cons, List.length_append, ih, hf, List.length_cons, Nat.add_mul]; omega

/-! ### Small facts for ends of walks -/

theorem vb {c : Bool} {p : Prop} [Decidable p] (h : c = true ↔ p) : SV.v (.bool c) = .v (.bool (decide p)) := by
  congr 2
  rw [Bool.eq_iff_iff, h, decide_eq_true_iff]
theorem vbB {c d : Bool} (h : c = true ↔ d = true) : SV.v (.bool c) = .v (.bool d) := by
  congr 2
  rw [Bool.eq_iff_iff, h]
theorem vi {k : IntKind} {a b : Int} (h : a = b) : SV.v (.int k a) = .v (.int k b) := by rw [h]

theorem wrap_id {a : Int} (h1 : -9223372036854775808 ≤ a) (h2 : a ≤ 9223372036854775807) : IntKind.i64.wrap a = a := by
  simp only [IntKind.wrap, IntKind.signed, IntKind.bits]
  simp
  omega

end Go.Sx
