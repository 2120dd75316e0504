/- The plain law behind Solve, part 1: vectors in order by root and cost; ways between nodes, by Floyd and Warshall. Conditions: none; no program in sight. -/
import Derived.Test.YtedfohdgigbhiaaDoorBtL
import Derived.Test.YtedfohdgigbhiaaDoorBaseD
namespace Go.Proofs.YtedfohdgigbhiaaDoor
open Go.Sx

/-! ### Order -/
theorem fst_zero : ∀ (xs ys : List Int), xs.length = ys.length → fst xs ys = 0 → xs = ys
  | [], [], _, _ => rfl
  | x :: xs, y :: ys, h, h0 => by
    simp only [fst] at h0
    split at h0
    · omega
    · split at h0
      · omega
      · rw [show x = y by omega, fst_zero xs ys (by simpa using h) h0]
  | [], _ :: _, h, _ => by simp at h
  | _ :: _, [], h, _ => by simp at h
theorem addr_row {x y : AddrV} (h : x.row = y.row) : x = y := by
  obtain ⟨a, b, c, d, e, f⟩ := x
  obtain ⟨a', b', c', d', e', f'⟩ := y
  simp only [AddrV.row, List.cons.injEq, and_true] at h
  obtain ⟨rfl, rfl, rfl, rfl, rfl, rfl⟩ := h
  rfl
theorem bridge_row {x y : BridgeV} (h : x.row = y.row) : x = y := by
  obtain ⟨a, b, c⟩ := x
  obtain ⟨a', b', c'⟩ := y
  simp only [BridgeV.row, List.cons_append, List.nil_append, List.cons.injEq] at h
  obtain ⟨rfl, rfl, h⟩ := h
  rw [addr_row h]
theorem port_row {x y : PortV} (h : x.row = y.row) : x = y := by
  obtain ⟨a, b⟩ := x
  obtain ⟨a', b'⟩ := y
  simp only [PortV.row, List.cons.injEq, and_true] at h
  obtain ⟨rfl, rfl⟩ := h
  rfl
theorem vector_row {x y : VectorV} (h : x.row = y.row) : x = y := by
  obtain ⟨r, c, s, p, a⟩ := x
  obtain ⟨r', c', s', p', a'⟩ := y
  simp only [VectorV.row] at h
  obtain ⟨h1, h⟩ := List.append_inj h rfl
  obtain ⟨h2, h⟩ := List.append_inj h rfl
  obtain ⟨h3, h⟩ := List.append_inj h rfl
  obtain ⟨h4, h5⟩ := List.append_inj h rfl
  simp only [List.cons.injEq, and_true] at h2
  subst h2
  rw [bridge_row h1, bridge_row h3, port_row h4, port_row h5]
theorem bless_irr (x : BridgeV) : bless x x = false := by
  have : fst x.row x.row = 0 := fst_same _ _ fun _ _ => rfl
  simp [bless, this]
theorem bless_total {x y : BridgeV} (h1 : bless x y = false) (h2 : bless y x = false) : x = y := by
  simp only [bless, decide_eq_false_iff_not] at h1 h2
  rw [fst_neg] at h2
  exact bridge_row (fst_zero _ _ rfl (by omega))
theorem bless_of {x y z : BridgeV} (h1 : bless x y = true) (h2 : bless z y = false) : bless x z = true := by
  simp only [bless, decide_eq_true_eq, decide_eq_false_iff_not] at *
  exact fst_trans x.row y.row z.row rfl rfl h1 (by rw [fst_neg]; omega)
theorem vless_total {x y : VectorV} (h1 : vless x y = false) (h2 : vless y x = false) : x = y := by
  simp only [vless, decide_eq_false_iff_not] at h1 h2
  rw [fst_neg] at h2
  exact vector_row (fst_zero _ _ rfl (by omega))
theorem vless_split (x y : VectorV) : vless x y = true ↔ bless x.root y.root = true ∨ (x.root = y.root ∧ (x.cost < y.cost ∨ (x.cost = y.cost ∧ fst (x.sender.row ++ (x.port.row ++ x.at_.row)) (y.sender.row ++ (y.port.row ++ y.at_.row)) < 0))) := by
  have hv : vless x y = true ↔ fst x.row y.row < 0 := by unfold vless; exact decide_eq_true_iff
  have hb : bless x.root y.root = true ↔ fst x.root.row y.root.row < 0 := by unfold bless; exact decide_eq_true_iff
  rw [hv, hb, VectorV.row, VectorV.row, fst_app x.root.row y.root.row _ _ rfl, fst_app [x.cost] [y.cost] _ _ rfl]
  by_cases h0 : fst x.root.row y.root.row = 0
  · have hr : x.root = y.root := bridge_row (fst_zero x.root.row y.root.row rfl h0)
    rw [if_pos h0]
    by_cases hc : x.cost < y.cost
    · have e : fst [x.cost] [y.cost] = -1 := by simp [fst, hc]
      rw [e, if_neg (by decide)]
      exact ⟨fun _ => .inr ⟨hr, .inl hc⟩, fun _ => by decide⟩
    · by_cases hd : y.cost < x.cost
      · have e : fst [x.cost] [y.cost] = 1 := by simp [fst, hc, hd]
        rw [e, if_neg (by decide)]
        refine ⟨fun h => absurd h (by decide), ?_⟩
        rintro (h | ⟨_, h | ⟨h, _⟩⟩)
        · omega
        · omega
        · omega
      · have e : fst [x.cost] [y.cost] = 0 := by simp [fst, hc, hd]
        rw [e, if_pos rfl]
        refine ⟨fun h => .inr ⟨hr, .inr ⟨by omega, h⟩⟩, ?_⟩
        rintro (h | ⟨_, h | ⟨_, h⟩⟩)
        · omega
        · omega
        · exact h
  · rw [if_neg h0]
    refine ⟨fun h => .inl h, ?_⟩
    rintro (h | ⟨h, _⟩)
    · exact h
    · rw [h] at h0
      exact absurd (fst_same _ _ fun _ _ => rfl) h0
/-- No better: the root is no less, or the same at no less cost. -/
theorem vless_no {x y : VectorV} (h : vless x y = false) : bless y.root x.root = true ∨ (y.root = x.root ∧ y.cost ≤ x.cost) := by
  have hn : ¬ vless x y = true := by rw [h]; decide
  rw [vless_split] at hn
  by_cases h1 : bless x.root y.root = true
  · exact absurd (.inl h1) hn
  · by_cases h2 : bless y.root x.root = true
    · exact .inl h2
    · have e := bless_total (x := x.root) (y := y.root) (by simpa using h1) (by simpa using h2)
      refine .inr ⟨e.symm, ?_⟩
      refine Classical.byContradiction fun hc => hn (.inr ⟨e, .inl (by omega)⟩)

/-- The least of some. -/
def Least (s : List VectorV) (b : VectorV) : Prop := b ∈ s ∧ ∀ x ∈ s, vless x b = false
def bet (b h : VectorV) : VectorV := if vless h b = true then h else b
theorem Least.one (h : VectorV) : Least [h] h := ⟨by simp, fun x hx => by rw [List.mem_singleton.1 hx]; exact vless_irr h⟩
theorem Least.next {s : List VectorV} {b : VectorV} (hb : Least s b) (h : VectorV) : Least (s ++ [h]) (bet b h) := by
  unfold bet
  by_cases hv : vless h b = true
  · rw [if_pos hv]
    refine ⟨by simp, fun x hx => ?_⟩
    rcases List.mem_append.1 hx with hx | hx
    · cases hq : vless x h with
      | false => rfl
      | true => rw [← hb.2 x hx]; exact (vless_trans hq hv).symm
    · rw [List.mem_singleton.1 hx]; exact vless_irr h
  · rw [if_neg hv]
    refine ⟨List.mem_append_left _ hb.1, fun x hx => ?_⟩
    rcases List.mem_append.1 hx with hx | hx
    · exact hb.2 x hx
    · rw [List.mem_singleton.1 hx]; simpa using hv

/-! ### Ways -/
def farC : Int := 1099511627776
def phi (m : Nat) (d : Nat → Nat → Int) (i k : Nat) : Int := minI (d i k) (d i m + d m k)
def fw (d : Nat → Nat → Int) : Nat → Nat → Nat → Int
  | 0 => d
  | m + 1 => phi m (fw d m)
theorem minI_le (a b : Int) : minI a b ≤ a ∧ minI a b ≤ b := by unfold minI; split <;> omega
theorem minI_or (a b : Int) : minI a b = a ∨ minI a b = b := by unfold minI; split <;> omega

/-- What links two nodes. -/
def Edge (ps : Nat → List MemberV) (i j : Nat) (c : Int) : Prop := i ≠ j ∧ ∃ p ∈ ps i, ∃ q ∈ ps j, p.lan = q.lan ∧ p.cost = c
theorem Edge.sym {ps : Nat → List MemberV} {i j : Nat} {c : Int} (h : Edge ps i j c) : ∃ c', Edge ps j i c' := by
  obtain ⟨hn, p, hp, q, hq, hl, rfl⟩ := h
  exact ⟨q.cost, fun e => hn e.symm, q, hq, p, hp, hl.symm, rfl⟩
/-- What the ways' lengths are, once those by the nodes below m are seen. -/
structure Ways (ps : Nat → List MemberV) (n m : Nat) (B : Int) (d : Nat → Nat → Int) : Prop where
  diag : ∀ i, i < n → d i i = 0
  pos : ∀ i k, i < n → k < n → 0 ≤ d i k
  le : ∀ i k, i < n → k < n → d i k ≤ farC
  bnd : ∀ i k, i < n → k < n → d i k < farC → d i k ≤ B
  edge : ∀ i k c, i < n → k < n → Edge ps i k c → d i k ≤ c
  step : ∀ i k, i < n → k < n → i ≠ k → d i k < farC → ∃ j c, j < n ∧ Edge ps i j c ∧ c + d j k ≤ d i k
  tri : ∀ x, x < m → ∀ i k, i < n → k < n → d i k ≤ d i x + d x k
theorem Ways.next {ps : Nat → List MemberV} {n m : Nat} {B : Int} {d : Nat → Nat → Int} (h : Ways ps n m B d) (hm : m < n) (hB : 0 ≤ B) : Ways ps n (m + 1) (B + B) (phi m d) := by
  have dm := h.diag m hm
  have colm : ∀ i, i < n → phi m d i m = d i m := fun i hi => by
    have := h.pos i m hi hm
    unfold phi minI; rw [dm]; split <;> omega
  have rowm : ∀ k, k < n → phi m d m k = d m k := fun k hk => by unfold phi minI; rw [dm]; split <;> omega
  have lo : ∀ i k, phi m d i k ≤ d i k ∧ phi m d i k ≤ d i m + d m k := fun i k => minI_le _ _
  have eqs : ∀ i k, phi m d i k = d i k ∨ phi m d i k = d i m + d m k := fun i k => minI_or _ _
  refine ⟨fun i hi => ?_, fun i k hi hk => ?_, fun i k hi hk => Int.le_trans (lo i k).1 (h.le i k hi hk), fun i k hi hk hf => ?_, fun i k c hi hk he => Int.le_trans (lo i k).1 (h.edge i k c hi hk he), fun i k hi hk hne hf => ?_, fun x hx i k hi hk => ?_⟩
  · have h1 := h.pos i m hi hm
    have h2 := h.pos m i hm hi
    have h3 := h.diag i hi
    unfold phi minI; split <;> omega
  · have h1 := h.pos i m hi hm
    have h2 := h.pos m k hm hk
    have h3 := h.pos i k hi hk
    rcases eqs i k with e | e <;> rw [e] <;> omega
  · rcases eqs i k with e | e
    · rw [e] at hf ⊢
      have := h.bnd i k hi hk hf
      omega
    · rw [e] at hf ⊢
      have h1 := h.pos i m hi hm
      have h2 := h.pos m k hm hk
      have h3 := h.bnd i m hi hm (by omega)
      have h4 := h.bnd m k hm hk (by omega)
      omega
  · rcases eqs i k with e | e
    · rw [e] at hf ⊢
      obtain ⟨j, c, hj, he, hle⟩ := h.step i k hi hk hne hf
      have := (lo j k).1
      exact ⟨j, c, hj, he, by omega⟩
    · have h1 := h.pos i m hi hm
      have h2 := h.pos m k hm hk
      by_cases him : i = m
      · subst him
        rw [rowm k hk] at hf ⊢
        obtain ⟨j, c, hj, he, hle⟩ := h.step i k hi hk hne hf
        have := (lo j k).1
        exact ⟨j, c, hj, he, by omega⟩
      · rw [e] at hf ⊢
        obtain ⟨j, c, hj, he, hle⟩ := h.step i m hi hm him (by omega)
        have := (lo j k).2
        exact ⟨j, c, hj, he, by omega⟩
  · by_cases hxm : x = m
    · subst hxm
      rw [colm i hi, rowm k hk]
      exact (lo i k).2
    · have hxm' : x < m := by omega
      have hxn : x < n := by omega
      have t1 := h.tri x hxm' i k hi hk
      have t2 := h.tri x hxm' m k hm hk
      have t3 := h.tri x hxm' i m hi hm
      have p1 := h.pos m x hm hxn
      have p2 := h.pos x m hxn hm
      have l1 := lo i k
      rcases eqs i x with e | e <;> rcases eqs x k with e' | e' <;> rw [e, e'] <;> omega
def dbl : Nat → Int → Int
  | 0, B => B
  | m + 1, B => dbl m B + dbl m B
theorem dbl_pos {B : Int} (hB : 0 ≤ B) : ∀ m, 0 ≤ dbl m B
  | 0 => hB
  | m + 1 => by have := dbl_pos hB m; show 0 ≤ dbl m B + dbl m B; omega
theorem dbl_mono {B : Int} (hB : 0 ≤ B) : ∀ k m, dbl m B ≤ dbl (m + k) B
  | 0, _ => Int.le_refl _
  | k + 1, m => by
    have h1 := dbl_mono hB k m
    have h2 := dbl_pos hB (m + k)
    show dbl m B ≤ dbl (m + k) B + dbl (m + k) B
    omega
theorem Ways.all {ps : Nat → List MemberV} {n : Nat} {B : Int} {d : Nat → Nat → Int} (h : Ways ps n 0 B d) (hB : 0 ≤ B) : ∀ m, m ≤ n → Ways ps n m (dbl m B) (fw d m)
  | 0, _ => h
  | m + 1, hm => (Ways.all h hB m (by omega)).next (by omega) (dbl_pos hB m)
theorem dbl12 : dbl 12 200000000 = 819200000000 := by decide
end Go.Proofs.YtedfohdgigbhiaaDoor
