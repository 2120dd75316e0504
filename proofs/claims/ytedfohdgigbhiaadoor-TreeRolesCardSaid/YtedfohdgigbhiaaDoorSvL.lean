/- The plain law behind Solve, part 2: rounds in which each node takes the best that it hears end in the best way to the least root. Conditions: none; no program in sight. -/
import Derived.Test.YtedfohdgigbhiaaDoorSvK
namespace Go.Proofs.YtedfohdgigbhiaaDoor
open Go.Sx

def ownB (b : BridgeV) : VectorV := ⟨b, 0, b, ⟨0, 0⟩, ⟨0, 0⟩⟩
def cand (w : VectorV) (b : BridgeV) (q p : MemberV) : VectorV := ⟨w.root, IntKind.i64.wrap (w.cost + p.cost), b, q.port, p.port⟩

/-- A net whose ways, and roots, are known. -/
structure NetW (n : Nat) (br : Nat → BridgeV) (ps : Nat → List MemberV) (d : Nat → Nat → Int) (rt : Nat → Nat) : Prop where
  few : n ≤ 12
  ways : Ways ps n n 819200000000 d
  cost : ∀ i p, p ∈ ps i → 1 ≤ p.cost ∧ p.cost ≤ 200000000
  inj : ∀ i j, i < n → j < n → br i = br j → i = j
  root : ∀ i, i < n → rt i < n ∧ d i (rt i) < farC ∧ ∀ k, k < n → d i k < farC → bless (br k) (br (rt i)) = false

section
variable {n : Nat} {br : Nat → BridgeV} {ps : Nat → List MemberV} {d : Nat → Nat → Int} {rt : Nat → Nat}

theorem NetW.reach (N : NetW n br ps d rt) {i j k : Nat} {c : Int} (hi : i < n) (hj : j < n) (hk : k < n) (he : Edge ps i j c) (h : d j k < farC) : d i k < farC := by
  have h1 := N.ways.bnd j k hj hk h
  have h2 := N.ways.edge i j c hi hj he
  have h3 := N.ways.tri j hj i k hi hk
  obtain ⟨_, p, hp, _, _, _, rfl⟩ := he
  have h4 := (N.cost i p hp).2
  unfold farC
  omega
theorem NetW.far_le (N : NetW n br ps d rt) {i j k : Nat} {c : Int} (hi : i < n) (hj : j < n) (hk : k < n) (he : Edge ps i j c) : d i k ≤ c + d j k := by
  have h2 := N.ways.edge i j c hi hj he
  have h3 := N.ways.tri j hj i k hi hk
  omega
theorem NetW.rt_edge (N : NetW n br ps d rt) {i j : Nat} {c : Int} (hi : i < n) (hj : j < n) (he : Edge ps i j c) : rt i = rt j := by
  obtain ⟨a1, a2, a3⟩ := N.root i hi
  obtain ⟨b1, b2, b3⟩ := N.root j hj
  obtain ⟨c', he'⟩ := he.sym
  have h1 := a3 (rt j) b1 (N.reach hi hj b1 he b2)
  have h2 := b3 (rt i) a1 (N.reach hj hi a1 he' a2)
  exact N.inj _ _ a1 b1 (bless_total h2 h1)
/-- How far the root is. -/
def dist (d : Nat → Nat → Int) (rt : Nat → Nat) (i : Nat) : Int := d i (rt i)
theorem NetW.dist_pos (N : NetW n br ps d rt) {i : Nat} (hi : i < n) : 0 ≤ dist d rt i := N.ways.pos i _ hi (N.root i hi).1
theorem NetW.dist_edge (N : NetW n br ps d rt) {i j : Nat} {c : Int} (hi : i < n) (hj : j < n) (he : Edge ps i j c) : dist d rt i ≤ c + dist d rt j := by
  have h := N.far_le hi hj (N.root j hj).1 he
  unfold dist
  rw [N.rt_edge hi hj he]
  exact h
theorem NetW.dist_zero (N : NetW n br ps d rt) {i : Nat} (hi : i < n) (h : rt i = i) : dist d rt i = 0 := by unfold dist; rw [h]; exact N.ways.diag i hi
theorem NetW.dist_step (N : NetW n br ps d rt) {i : Nat} (hi : i < n) (h : rt i ≠ i) : ∃ j c, j < n ∧ Edge ps i j c ∧ c + dist d rt j ≤ dist d rt i := by
  obtain ⟨a1, a2, _⟩ := N.root i hi
  obtain ⟨j, c, hj, he, hle⟩ := N.ways.step i (rt i) hi a1 (fun e => h e.symm) a2
  refine ⟨j, c, hj, he, ?_⟩
  unfold dist
  rw [← N.rt_edge hi hj he]
  exact hle

/-! ### Rounds -/
structure Round (n : Nat) (br : Nat → BridgeV) (ps : Nat → List MemberV) (h h' : Nat → VectorV) : Prop where
  all : ∀ i, i < n → ∃ S, Least (h i :: S) (h' i) ∧ (∀ x ∈ S, ∃ j p q, j < n ∧ p ∈ ps i ∧ q ∈ ps j ∧ q.lan = p.lan ∧ x = cand (h j) (br j) q p) ∧
    ∀ j p q, j < n → j ≠ i → p ∈ ps i → q ∈ ps j → q.lan = p.lan → cand (h j) (br j) q p ∈ S
def Rounds (n : Nat) (br : Nat → BridgeV) (ps : Nat → List MemberV) : Nat → (Nat → VectorV) → Prop
  | 0, h => ∀ i, i < n → h i = ownB (br i)
  | t + 1, h' => ∃ h, Rounds n br ps t h ∧ Round n br ps h h'

/-- What a vector says of the ways is true. -/
def True1 (n : Nat) (br : Nat → BridgeV) (d : Nat → Nat → Int) (i : Nat) (v : VectorV) : Prop := ∃ r, r < n ∧ v.root = br r ∧ d i r < farC ∧ d i r ≤ v.cost
/-- Where a vector comes from. -/
def Orig (n : Nat) (br : Nat → BridgeV) (ps : Nat → List MemberV) (d : Nat → Nat → Int) (i : Nat) (v : VectorV) : Prop :=
  v = ownB (br i) ∨ ∃ (j : Nat) (p q : MemberV) (w : VectorV), j < n ∧ p ∈ ps i ∧ q ∈ ps j ∧ q.lan = p.lan ∧ True1 n br d j w ∧ v = ⟨w.root, w.cost + p.cost, br j, q.port, p.port⟩
structure Inv1 (n : Nat) (br : Nat → BridgeV) (ps : Nat → List MemberV) (d : Nat → Nat → Int) (t : Nat) (h : Nat → VectorV) : Prop where
  tr : ∀ i, i < n → True1 n br d i (h i)
  bnd : ∀ i, i < n → 0 ≤ (h i).cost ∧ (h i).cost ≤ t * 200000000
  own : ∀ i, i < n → vless (ownB (br i)) (h i) = false
  org : ∀ i, i < n → Orig n br ps d i (h i)

theorem NetW.cand_eq (N : NetW n br ps d rt) {t : Nat} (ht : t ≤ 12) {h : Nat → VectorV} (I : Inv1 n br ps d t h) {i j : Nat} {p q : MemberV} (hj : j < n) (hp : p ∈ ps i) :
    cand (h j) (br j) q p = ⟨(h j).root, (h j).cost + p.cost, br j, q.port, p.port⟩ := by
  have h1 := I.bnd j hj
  have h2 := N.cost i p hp
  have h3 : (t : Int) * 200000000 ≤ 2400000000 := by omega
  rw [cand, wrap_id (by omega) (by omega)]

theorem NetW.inv (N : NetW n br ps d rt) : ∀ (t : Nat) (h : Nat → VectorV), t ≤ 12 → Rounds n br ps t h → Inv1 n br ps d t h
  | 0, h, _, hr => by
    refine ⟨fun i hi => ?_, fun i hi => ?_, fun i hi => ?_, fun i hi => .inl (hr i hi)⟩
    · rw [hr i hi]
      refine ⟨i, hi, rfl, ?_, ?_⟩
      · rw [N.ways.diag i hi]; decide
      · rw [N.ways.diag i hi]; exact Int.le_refl _
    · rw [hr i hi]; exact ⟨Int.le_refl _, by show (0 : Int) ≤ ((0 : Nat) : Int) * 200000000; omega⟩
    · rw [hr i hi]; exact vless_irr _
  | t + 1, h', ht, hr => by
    obtain ⟨h, hr, R⟩ := hr
    have I := N.inv t h (by omega) hr
    have each : ∀ i, i < n → h' i = h i ∨ ∃ (j : Nat) (p q : MemberV), j < n ∧ p ∈ ps i ∧ q ∈ ps j ∧ q.lan = p.lan ∧ h' i = ⟨(h j).root, (h j).cost + p.cost, br j, q.port, p.port⟩ := fun i hi => by
      obtain ⟨S, hL, hs, -⟩ := R.all i hi
      rcases List.mem_cons.1 hL.1 with h1 | h1
      · exact .inl h1
      · obtain ⟨j, p, q, hj, hp, hq, hl, he⟩ := hs _ h1
        exact .inr ⟨j, p, q, hj, hp, hq, hl, by rw [he]; exact N.cand_eq (by omega) I hj hp⟩
    refine ⟨fun i hi => ?_, fun i hi => ?_, fun i hi => ?_, fun i hi => ?_⟩
    · rcases each i hi with e | ⟨j, p, q, hj, hp, hq, hl, e⟩
      · rw [e]; exact I.tr i hi
      · rw [e]
        obtain ⟨r, hr, h1, h2, h3⟩ := I.tr j hj
        have hc := N.cost i p hp
        by_cases hij : i = j
        · subst hij
          exact ⟨r, hr, h1, h2, by show d i r ≤ (h i).cost + p.cost; omega⟩
        · have he : Edge ps i j p.cost := ⟨hij, p, hp, q, hq, hl.symm, rfl⟩
          have := N.far_le hi hj hr he
          exact ⟨r, hr, h1, N.reach hi hj hr he h2, by show d i r ≤ (h j).cost + p.cost; omega⟩
    · rcases each i hi with e | ⟨j, p, q, hj, hp, hq, hl, e⟩
      · rw [e]; have := I.bnd i hi; omega
      · rw [e]
        have h1 := I.bnd j hj
        have h2 := N.cost i p hp
        show 0 ≤ (h j).cost + p.cost ∧ (h j).cost + p.cost ≤ ((t + 1 : Nat) : Int) * 200000000
        omega
    · obtain ⟨S, hL, -⟩ := R.all i hi
      have h1 := hL.2 (h i) (by simp)
      cases hq : vless (ownB (br i)) (h' i) with
      | false => rfl
      | true => rw [← I.own i hi]; exact (vless_of hq h1).symm
    · rcases each i hi with e | ⟨j, p, q, hj, hp, hq, hl, e⟩
      · rw [e]; exact I.org i hi
      · exact .inr ⟨j, p, q, h j, hj, hp, hq, hl, I.tr j hj, e⟩

/-- A node knows its root, and how far it is. -/
def Settled (br : Nat → BridgeV) (d : Nat → Nat → Int) (rt : Nat → Nat) (i : Nat) (v : VectorV) : Prop := v.root = br (rt i) ∧ v.cost = dist d rt i
theorem NetW.settle (N : NetW n br ps d rt) {t : Nat} {h : Nat → VectorV} (I : Inv1 n br ps d t h) {i : Nat} (hi : i < n) (hle : bless (h i).root (br (rt i)) = true ∨ ((h i).root = br (rt i) ∧ (h i).cost ≤ dist d rt i)) : Settled br d rt i (h i) := by
  obtain ⟨r, hr, h1, h2, h3⟩ := I.tr i hi
  obtain ⟨a1, a2, a3⟩ := N.root i hi
  have h4 := a3 r hr h2
  rcases hle with hle | ⟨hr1, hc⟩
  · rw [h1, h4] at hle; cases hle
  · refine ⟨hr1, ?_⟩
    have : r = rt i := N.inj _ _ hr a1 (h1.symm.trans hr1)
    subst this
    unfold dist at hc ⊢
    omega
theorem NetW.settle_root (N : NetW n br ps d rt) {t : Nat} {h : Nat → VectorV} (I : Inv1 n br ps d t h) {i : Nat} (hi : i < n) (hrt : rt i = i) : Settled br d rt i (h i) := by
  refine N.settle I hi ?_
  rw [hrt, N.dist_zero hi hrt]
  exact vless_no (I.own i hi)

/-- How many are nearer. -/
def rank (n : Nat) (d : Nat → Nat → Int) (rt : Nat → Nat) (i : Nat) : Nat := (List.range n).countP fun k => decide (dist d rt k < dist d rt i)
theorem countP_lt {p q : Nat → Bool} : ∀ (l : List Nat) (x : Nat), x ∈ l → (∀ y, p y = true → q y = true) → p x = false → q x = true → l.countP p < l.countP q
  | [], x, hx, _, _, _ => by simp at hx
  | y :: l, x, hx, h, h1, h2 => by
    have hle : l.countP p ≤ l.countP q := List.countP_mono_left fun z _ => h z
    rw [List.countP_cons, List.countP_cons]
    rcases List.mem_cons.1 hx with e | hx
    · subst e
      rw [h1, h2]
      simp
      omega
    · have ih := countP_lt l x hx h h1 h2
      cases hp : p y with
      | false => simp; split <;> omega
      | true => rw [h y hp]; simp; omega
theorem rank_lt {i j : Nat} (hj : j < n) (h : dist d rt j < dist d rt i) : rank n d rt j < rank n d rt i := by
  refine countP_lt _ j (by simpa using hj) (fun y hy => ?_) (by simp) (by simpa using h)
  simp only [decide_eq_true_eq] at hy ⊢
  omega
theorem rank_n {i : Nat} (hi : i < n) : rank n d rt i < n := by
  have := countP_lt (p := fun k => decide (dist d rt k < dist d rt i)) (q := fun _ => true) (List.range n) i (by simpa using hi) (fun _ _ => rfl) (by simp) rfl
  have e : (List.range n).countP (fun _ => true) = n := by simp
  rw [e] at this
  exact this

theorem NetW.settled (N : NetW n br ps d rt) : ∀ (t : Nat) (h : Nat → VectorV), t ≤ 12 → Rounds n br ps t h → ∀ i, i < n → rank n d rt i ≤ t → Settled br d rt i (h i)
  | 0, h, ht, hr, i, hi, hk => by
    refine N.settle_root (N.inv 0 h ht hr) hi (Classical.byContradiction fun hn => ?_)
    obtain ⟨j, c, hj, ⟨hne, p, hp, q, hq, hl, rfl⟩, hle⟩ := N.dist_step hi hn
    have hc := N.cost i p hp
    have := rank_lt (n := n) (d := d) (rt := rt) (i := i) hj (by omega)
    omega
  | t + 1, h', ht, hr, i, hi, hk => by
    have I' := N.inv (t + 1) h' ht hr
    by_cases hrt : rt i = i
    · exact N.settle_root I' hi hrt
    · obtain ⟨h, hr, R⟩ := hr
      have I := N.inv t h (by omega) hr
      obtain ⟨j, c, hj, he, hle⟩ := N.dist_step hi hrt
      have hrj := N.rt_edge hi hj he
      obtain ⟨hne, p, hp, q, hq, hl, rfl⟩ := he
      have hc := N.cost i p hp
      have hkj := rank_lt (n := n) (d := d) (rt := rt) (i := i) hj (by omega)
      obtain ⟨s1, s2⟩ := N.settled t h (by omega) hr j hj (by omega)
      obtain ⟨S, hL, -, hs⟩ := R.all i hi
      have h1 := hL.2 _ (List.mem_cons_of_mem _ (hs j p q hj (fun e => hne e.symm) hp hq hl.symm))
      rw [N.cand_eq (by omega) I hj hp] at h1
      refine N.settle I' hi ?_
      rcases vless_no h1 with h2 | ⟨h2, h3⟩
      · refine .inl ?_
        have h2 : bless (h' i).root (h j).root = true := h2
        rw [s1, ← hrj] at h2
        exact h2
      · refine .inr ⟨by rw [h2]; show (h j).root = _; rw [s1, hrj], ?_⟩
        have h3 : (h' i).cost ≤ (h j).cost + p.cost := h3
        omega

/-! ### The end -/
def fcand (br : Nat → BridgeV) (d : Nat → Nat → Int) (rt : Nat → Nat) (j : Nat) (q p : MemberV) : VectorV := ⟨br (rt j), dist d rt j + p.cost, br j, q.port, p.port⟩
structure Fin1 (n : Nat) (br : Nat → BridgeV) (ps : Nat → List MemberV) (d : Nat → Nat → Int) (rt : Nat → Nat) (i : Nat) (v : VectorV) : Prop where
  own : rt i = i → v = ownB (br i)
  some : rt i ≠ i → ∃ j p q, j < n ∧ j ≠ i ∧ p ∈ ps i ∧ q ∈ ps j ∧ q.lan = p.lan ∧ v = fcand br d rt j q p
  low : rt i ≠ i → ∀ j p q, j < n → j ≠ i → p ∈ ps i → q ∈ ps j → q.lan = p.lan → vless (fcand br d rt j q p) v = false
theorem Fin1.one {i : Nat} {v v' : VectorV} (h : Fin1 n br ps d rt i v) (h' : Fin1 n br ps d rt i v') : v = v' := by
  by_cases hr : rt i = i
  · rw [h.own hr, h'.own hr]
  · obtain ⟨j, p, q, a1, a2, a3, a4, a5, rfl⟩ := h.some hr
    obtain ⟨j', p', q', b1, b2, b3, b4, b5, rfl⟩ := h'.some hr
    exact vless_total (h'.low hr j p q a1 a2 a3 a4 a5) (h.low hr j' p' q' b1 b2 b3 b4 b5)

theorem NetW.fin (N : NetW n br ps d rt) {h : Nat → VectorV} (hr : Rounds n br ps n h) {i : Nat} (hi : i < n) : Fin1 n br ps d rt i (h i) := by
  have I := N.inv n h N.few hr
  obtain ⟨s1, s2⟩ := N.settled n h N.few hr i hi (by have := rank_n (d := d) (rt := rt) hi; omega)
  obtain ⟨a1, a2, a3⟩ := N.root i hi
  have horg := I.org i hi
  refine ⟨fun hrt => ?_, fun hrt => ?_, fun hrt j p q hj hne hp hq hl => ?_⟩
  · rcases horg with e | ⟨j, p, q, w, hj, hp, hq, hl, ⟨r, b1, b2, b3, b4⟩, e⟩
    · exact e
    · exfalso
      have hc := N.cost i p hp
      have h1 := N.ways.pos j r hj b1
      have h2 : (h i).cost = w.cost + p.cost := by rw [e]
      rw [s2, N.dist_zero hi hrt] at h2
      omega
  · rcases horg with e | ⟨j, p, q, w, hj, hp, hq, hl, ⟨r, b1, b2, b3, b4⟩, e⟩
    · exfalso
      have h1 : (h i).root = br i := by rw [e]; rfl
      exact hrt (N.inj _ _ a1 hi (s1.symm.trans h1))
    · have hc := N.cost i p hp
      have h1 : (h i).root = w.root := by rw [e]
      have h2 : (h i).cost = w.cost + p.cost := by rw [e]
      have hrr : r = rt i := N.inj _ _ b1 a1 (b2.symm.trans (h1.symm.trans s1))
      subst hrr
      have hne : j ≠ i := fun e' => by
        subst e'
        unfold dist at s2
        omega
      have he : Edge ps i j p.cost := ⟨fun e => hne e.symm, p, hp, q, hq, hl.symm, rfl⟩
      have hrj := N.rt_edge hi hj he
      have h3 := N.dist_edge hi hj he
      refine ⟨j, p, q, hj, hne, hp, hq, hl, ?_⟩
      have hw : w.cost = dist d rt j := by
        unfold dist at s2 h3 ⊢
        rw [← hrj] at h3 ⊢
        omega
      rw [e, fcand, ← hrj, ← b2, hw]
  · have he : Edge ps i j p.cost := ⟨fun e => hne e.symm, p, hp, q, hq, hl.symm, rfl⟩
    obtain ⟨t, rfl⟩ : ∃ t, n = t + 1 := ⟨n - 1, by omega⟩
    obtain ⟨h0, hr0, R⟩ := hr
    have hf := N.few
    have I0 := N.inv t h0 (by omega) hr0
    obtain ⟨q1, q2⟩ := N.settled t h0 (by omega) hr0 j hj (by have := rank_n (d := d) (rt := rt) hj; omega)
    obtain ⟨S, hL, -, hs⟩ := R.all i hi
    have h1 := hL.2 _ (List.mem_cons_of_mem _ (hs j p q hj hne hp hq hl))
    rw [N.cand_eq (by omega) I0 hj hp, q1, q2] at h1
    exact h1

/-- What the reference makes of it. -/
theorem NetW.fin_of (N : NetW n br ps d rt) {i : Nat} (hi : i < n) {v v0 : VectorV} {S : List VectorV} (hown : rt i = i → v = ownB (br i)) (h0 : v0.root = br (rt i) ∧ v0.cost = farC)
    (hL : rt i ≠ i → Least (v0 :: S) v) (hs : rt i ≠ i → ∀ x, x ∈ S ↔ ∃ j p q, j < n ∧ j ≠ i ∧ p ∈ ps i ∧ q ∈ ps j ∧ q.lan = p.lan ∧ x = ⟨br (rt i), dist d rt j + p.cost, br j, q.port, p.port⟩) : Fin1 n br ps d rt i v := by
  have key : ∀ {j : Nat} {p q : MemberV}, j < n → j ≠ i → p ∈ ps i → q ∈ ps j → q.lan = p.lan → rt i = rt j := fun hj hne hp hq hl => N.rt_edge hi hj ⟨fun e => hne e.symm, _, hp, _, hq, hl.symm, rfl⟩
  have hmem : rt i ≠ i → ∀ j p q, j < n → j ≠ i → p ∈ ps i → q ∈ ps j → q.lan = p.lan → fcand br d rt j q p ∈ S := fun hrt j p q hj hne hp hq hl => by
    refine (hs hrt _).2 ⟨j, p, q, hj, hne, hp, hq, hl, ?_⟩
    rw [fcand, key hj hne hp hq hl]
  refine ⟨hown, fun hrt => ?_, fun hrt j p q hj hne hp hq hl => (hL hrt).2 _ (List.mem_cons_of_mem _ (hmem hrt j p q hj hne hp hq hl))⟩
  rcases List.mem_cons.1 (hL hrt).1 with e | e
  · exfalso
    obtain ⟨j, c, hj, he, hle⟩ := N.dist_step hi hrt
    have hrj := N.rt_edge hi hj he
    obtain ⟨hne, p, hp, q, hq, hl, rfl⟩ := he
    have h1 := (hL hrt).2 _ (List.mem_cons_of_mem _ (hmem hrt j p q hj (fun e => hne e.symm) hp hq hl.symm))
    have h2 : vless (fcand br d rt j q p) v = true := by
      rw [vless_split, e]
      refine .inr ⟨by rw [h0.1, hrj]; rfl, .inl ?_⟩
      have := (N.root i hi).2.1
      rw [h0.2]
      show dist d rt j + p.cost < farC
      unfold dist at hle ⊢
      omega
    rw [h2] at h1; cases h1
  · obtain ⟨j, p, q, hj, hne, hp, hq, hl, rfl⟩ := (hs hrt _).1 e
    exact ⟨j, p, q, hj, hne, hp, hq, hl, by rw [fcand, key hj hne hp hq hl]⟩
end
end Go.Proofs.YtedfohdgigbhiaaDoor
