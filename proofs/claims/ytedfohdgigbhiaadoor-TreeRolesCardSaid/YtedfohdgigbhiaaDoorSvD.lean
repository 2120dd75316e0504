/- ref.Costs: what it returns. Conditions: the slices lie where they say; nothing is wrong with the net. -/
import Derived.Test.YtedfohdgigbhiaaDoorSvC
namespace Go.Proofs.YtedfohdgigbhiaaDoor
open Go.Sx Go.Lib
set_option maxRecDepth 100000
set_option maxHeartbeats 8000000
attribute [local irreducible] Meets
attribute [local instance] Classical.propDecidable

/-! ### Plain: the links -/
def psL (l : List NodeV) (i : Nat) : List MemberV := match l[i]? with | some n => n.ports.l | none => []
def brL (l : List NodeV) (i : Nat) : BridgeV := match l[i]? with | some n => n.bridge | none => BridgeV.zero
theorem psL_at {l : List NodeV} {i : Nat} {n : NodeV} (h : l[i]? = some n) : psL l i = n.ports.l := by rw [psL, h]
theorem brL_at {l : List NodeV} {i : Nat} {n : NodeV} (h : l[i]? = some n) : brL l i = n.bridge := by rw [brL, h]
def qIn (p : MemberV) (qs : List MemberV) (c : Int) : Int := qs.foldl (fun c q => if p.lan = q.lan then minI c p.cost else c) c
def pIn (ps qs : List MemberV) (c : Int) : Int := ps.foldl (fun c p => qIn p qs c) c
theorem qIn_snoc (p : MemberV) (qs : List MemberV) (q : MemberV) (c : Int) : qIn p (qs ++ [q]) c = if p.lan = q.lan then minI (qIn p qs c) p.cost else qIn p qs c := by rw [qIn, List.foldl_append]; rfl
theorem pIn_snoc (ps qs : List MemberV) (p : MemberV) (c : Int) : pIn (ps ++ [p]) qs c = qIn p qs (pIn ps qs c) := by rw [pIn, List.foldl_append]; rfl
theorem qIn_spec (p : MemberV) : ∀ (qs : List MemberV) (c : Int), qIn p qs c ≤ c ∧ (∀ q ∈ qs, p.lan = q.lan → qIn p qs c ≤ p.cost) ∧ (qIn p qs c = c ∨ ∃ q ∈ qs, p.lan = q.lan ∧ qIn p qs c = p.cost)
  | [], c => ⟨Int.le_refl _, fun q hq => by simp at hq, .inl rfl⟩
  | q :: qs, c => by
    have e : qIn p (q :: qs) c = qIn p qs (if p.lan = q.lan then minI c p.cost else c) := rfl
    obtain ⟨h1, h2, h3⟩ := qIn_spec p qs (if p.lan = q.lan then minI c p.cost else c)
    rw [← e] at h1 h2 h3
    by_cases hl : p.lan = q.lan
    · rw [if_pos hl] at h1 h3
      have hm := minI_le c p.cost
      refine ⟨by omega, fun q' hq' hl' => ?_, ?_⟩
      · rcases List.mem_cons.1 hq' with rfl | hq'
        · omega
        · exact h2 q' hq' hl'
      · rcases h3 with h3 | ⟨q', hq', hl', h3⟩
        · rcases minI_or c p.cost with h4 | h4
          · exact .inl (h3.trans h4)
          · exact .inr ⟨q, by simp, hl, h3.trans h4⟩
        · exact .inr ⟨q', by simp [hq'], hl', h3⟩
    · rw [if_neg hl] at h1 h3
      refine ⟨h1, fun q' hq' hl' => ?_, ?_⟩
      · rcases List.mem_cons.1 hq' with rfl | hq'
        · exact absurd hl' hl
        · exact h2 q' hq' hl'
      · rcases h3 with h3 | ⟨q', hq', hl', h3⟩
        · exact .inl h3
        · exact .inr ⟨q', by simp [hq'], hl', h3⟩
theorem pIn_spec (qs : List MemberV) : ∀ (ps : List MemberV) (c : Int), pIn ps qs c ≤ c ∧ (∀ p ∈ ps, ∀ q ∈ qs, p.lan = q.lan → pIn ps qs c ≤ p.cost) ∧ (pIn ps qs c = c ∨ ∃ p ∈ ps, ∃ q ∈ qs, p.lan = q.lan ∧ pIn ps qs c = p.cost)
  | [], c => ⟨Int.le_refl _, fun q hq => by simp at hq, .inl rfl⟩
  | p :: ps, c => by
    have e : pIn (p :: ps) qs c = pIn ps qs (qIn p qs c) := rfl
    obtain ⟨h1, h2, h3⟩ := pIn_spec qs ps (qIn p qs c)
    rw [← e] at h1 h2 h3
    obtain ⟨k1, k2, k3⟩ := qIn_spec p qs c
    refine ⟨by omega, fun p' hp' q hq hl => ?_, ?_⟩
    · rcases List.mem_cons.1 hp' with rfl | hp'
      · have := k2 q hq hl; omega
      · exact h2 p' hp' q hq hl
    · rcases h3 with h3 | ⟨p', hp', q, hq, hl, h3⟩
      · rcases k3 with k3 | ⟨q, hq, hl, k3⟩
        · exact .inl (h3.trans k3)
        · exact .inr ⟨p, by simp, q, hq, hl, h3.trans k3⟩
      · exact .inr ⟨p', by simp [hp'], q, hq, hl, h3⟩
/-- How far it is by one link. -/
def eR (l : List NodeV) (i k : Nat) : Int := if i = k then farC else pIn (psL l i) (psL l k) farC
def eM (l : List NodeV) (i k : Nat) : Int := if i = k then 0 else pIn (psL l i) (psL l k) farC
theorem memP_of {l : List NodeV} (N : NetOk l) {i : Nat} {p : MemberV} (hp : p ∈ psL l i) : memP p := by
  unfold psL at hp
  split at hp
  · rename_i n hn
    exact (N.right n (List.mem_of_getElem? hn)).2 p hp
  · simp at hp
theorem eM_ways {l : List NodeV} (N : NetOk l) : Ways (psL l) l.length 0 200000000 (eM l) := by
  have hne : ∀ {i k}, i ≠ k → eM l i k = pIn (psL l i) (psL l k) farC := fun h => if_neg h
  have heq : ∀ {i}, eM l i i = 0 := fun {i} => if_pos rfl
  refine ⟨fun i _ => heq, fun i k _ _ => ?_, fun i k _ _ => ?_, fun i k _ _ hf => ?_, fun i k c _ _ he => ?_, fun i k _ hk hn hf => ?_, fun x hx => by omega⟩
  · by_cases h : i = k
    · subst h; rw [heq]; exact Int.le_refl _
    · rw [hne h]
      rcases (pIn_spec (psL l k) (psL l i) farC).2.2 with h1 | ⟨p, hp, q, hq, hl, h1⟩
      · rw [h1]; decide
      · rw [h1]; have := (memP_of N hp).2.1; omega
  · by_cases h : i = k
    · subst h; rw [heq]; decide
    · rw [hne h]; exact (pIn_spec (psL l k) (psL l i) farC).1
  · by_cases h : i = k
    · subst h; rw [heq]; decide
    · rw [hne h] at hf ⊢
      rcases (pIn_spec (psL l k) (psL l i) farC).2.2 with h1 | ⟨p, hp, q, hq, hl, h1⟩
      · omega
      · rw [h1]; exact (memP_of N hp).2.2.1
  · obtain ⟨hn, p, hp, q, hq, hl, rfl⟩ := he
    rw [hne hn]; exact (pIn_spec (psL l k) (psL l i) farC).2.1 p hp q hq hl
  · rw [hne hn] at hf ⊢
    rcases (pIn_spec (psL l k) (psL l i) farC).2.2 with h1 | ⟨p, hp, q, hq, hl, h1⟩
    · omega
    · exact ⟨k, p.cost, hk, ⟨hn, p, hp, q, hq, hl, rfl⟩, by rw [heq, h1]; omega⟩

/-! ### Rows of numbers -/
def rowI (n : Nat) (f : Nat → Int) : List Value := (List.range n).map fun k => .int .i64 (f k)
def updF (f : Nat → Int) (k : Nat) (x : Int) : Nat → Int := fun j => if j = k then x else f j
theorem rowI_len (n : Nat) (f : Nat → Int) : (rowI n f).length = n := by simp [rowI]
theorem rowI_get {n k : Nat} {f : Nat → Int} (h : k < n) : (rowI n f)[k]? = some (.int .i64 (f k)) := by simp [rowI, h]
theorem rowI_congr {n : Nat} {f f' : Nat → Int} (h : ∀ k, k < n → f k = f' k) : rowI n f = rowI n f' := by
  unfold rowI
  exact List.map_congr_left fun k hk => by rw [h k (by simpa using hk)]
theorem rowI_set {n k : Nat} {f : Nat → Int} (x : Int) (h : k < n) : (rowI n f).take k ++ ([.int .i64 x] ++ (rowI n f).drop (k + 1)) = rowI n (updF f k x) := by
  have e : (rowI n f).take k ++ ([.int .i64 x] ++ (rowI n f).drop (k + 1)) = (rowI n f).set k (.int .i64 x) := by
    rw [List.set_eq_take_append_cons_drop, if_pos (by rw [rowI_len]; exact h)]; rfl
  rw [e]
  apply List.ext_getElem?
  intro i
  by_cases hi : i < n
  · rw [rowI_get hi]
    by_cases hk : k = i
    · subst hk
      rw [List.getElem?_set_self (by rw [rowI_len]; exact hi), updF, if_pos rfl]
    · rw [List.getElem?_set_ne hk, rowI_get hi, updF, if_neg (fun e => hk e.symm)]
  · rw [List.getElem?_eq_none (by rw [List.length_set, rowI_len]; omega), List.getElem?_eq_none (by rw [rowI_len]; omega)]
theorem rowI_zero (n : Nat) : List.replicate n (Value.int .i64 0) = rowI n fun _ => 0 := by
  apply List.ext_getElem?
  intro i
  by_cases hi : i < n
  · rw [rowI_get hi, List.getElem?_replicate, if_pos hi]
  · rw [List.getElem?_eq_none (by simp; omega), List.getElem?_eq_none (by rw [rowI_len]; omega)]
def rowO (n : Nat) (f : Nat → Int) : Obj := .cells (rowI n f).toArray 3 (0, 0)
def outC (n : Nat) (aa : Nat → Nat) (k : Nat) : List Value := (List.range n).map fun i => if i < k then .slice (some ⟨aa i, 0, none⟩) n n else .slice none 0 0
def updA (aa : Nat → Nat) (i b : Nat) : Nat → Nat := fun j => if j = i then b else aa j
theorem outC_len (n : Nat) (aa : Nat → Nat) (k : Nat) : (outC n aa k).length = n := by simp [outC]
theorem outC_get {n i k : Nat} {aa : Nat → Nat} (h : i < n) (hk : i < k) : (outC n aa k)[i]? = some (.slice (some ⟨aa i, 0, none⟩) n n) := by simp [outC, h, hk]
theorem outC_zero (n : Nat) (aa : Nat → Nat) : List.replicate n (Value.slice none 0 0) = outC n aa 0 := by
  apply List.ext_getElem?
  intro i
  by_cases hi : i < n
  · simp [outC, hi]
  · rw [List.getElem?_eq_none (by simp; omega), List.getElem?_eq_none (by rw [outC_len]; omega)]
theorem outC_next {n i b : Nat} {aa : Nat → Nat} (h : i < n) : (outC n aa i).take i ++ ([Value.slice (some ⟨b, 0, none⟩) n n] ++ (outC n aa i).drop (i + 1)) = outC n (updA aa i b) (i + 1) := by
  have e : (outC n aa i).take i ++ ([Value.slice (some ⟨b, 0, none⟩) n n] ++ (outC n aa i).drop (i + 1)) = (outC n aa i).set i (.slice (some ⟨b, 0, none⟩) n n) := by
    rw [List.set_eq_take_append_cons_drop, if_pos (by rw [outC_len]; exact h)]; rfl
  rw [e]
  apply List.ext_getElem?
  intro j
  by_cases hj : j < n
  · by_cases hij : i = j
    · subst hij
      rw [List.getElem?_set_self (by rw [outC_len]; exact hj), outC_get hj (by omega), updA, if_pos rfl]
    · rw [List.getElem?_set_ne hij]
      by_cases hji : j < i
      · rw [outC_get hj hji, outC_get hj (by omega), updA, if_neg (fun e => hij e.symm)]
      · simp [outC, hj, hji, show ¬ j < i + 1 by omega]
  · rw [List.getElem?_eq_none (by rw [List.length_set, outC_len]; omega), List.getElem?_eq_none (by rw [outC_len]; omega)]
/-- A family's rows. -/
structure Rows (H : G) (aa : Nat → Nat) (n k : Nat) (D : Nat → Nat → Int) : Prop where
  row : ∀ i, i < k → H (aa i) = some (rowO n (D i))
  inj : ∀ i j, i < k → j < k → aa i = aa j → i = j
theorem Rows.zero (aa : Nat → Nat) (n : Nat) (D : Nat → Nat → Int) : Rows G.none aa n 0 D := ⟨fun i hi => by omega, fun i j hi => by omega⟩
theorem Rows.congr {H : G} {aa : Nat → Nat} {n k : Nat} {D D' : Nat → Nat → Int} (h : Rows H aa n k D) (hd : ∀ i j, i < k → j < n → D i j = D' i j) : Rows H aa n k D' :=
  ⟨fun i hi => by rw [h.row i hi, rowO, rowO, rowI_congr fun j hj => hd i j hi hj], h.inj⟩
theorem Rows.new {H : G} {aa : Nat → Nat} {n i b : Nat} {D : Nat → Nat → Int} (h : Rows H aa n i D) (hb : H b = none) (x : Nat → Int) : Rows (H.put b (rowO n x)) (updA aa i b) n (i + 1) (fun j => if j = i then x else D j) := by
  have hne : ∀ j, j < i → aa j ≠ b := fun j hj e => by have := h.row j hj; rw [e, hb] at this; cases this
  refine ⟨fun j hj => ?_, fun p q hp hq e => ?_⟩
  · by_cases hji : j = i
    · subst hji
      simp only [updA, if_pos]
      exact G.put_self
    · simp only [updA, if_neg hji]
      rw [G.put_ne (hne j (by omega))]
      exact h.row j (by omega)
  · by_cases hpi : p = i <;> by_cases hqi : q = i
    · omega
    · simp only [updA, if_pos hpi, if_neg hqi] at e
      exact absurd e.symm (hne q (by omega))
    · simp only [updA, if_neg hpi, if_pos hqi] at e
      exact absurd e (hne p (by omega))
    · simp only [updA, if_neg hpi, if_neg hqi] at e
      exact h.inj p q (by omega) (by omega) e
theorem Rows.put {H : G} {aa : Nat → Nat} {n k i : Nat} {D D' : Nat → Nat → Int} (h : Rows H aa n k D) (hi : i < k) (hd : ∀ j, j ≠ i → D' j = D j) : Rows (H.put (aa i) (rowO n (D' i))) aa n k D' := by
  refine ⟨fun j hj => ?_, h.inj⟩
  by_cases hji : j = i
  · subst hji; exact G.put_self
  · rw [G.put_ne fun e => hji (h.inj _ _ hj hi e), hd j hji]
    exact h.row j hj
theorem put_put (H : G) (b : Nat) (o o' : Obj) : (H.put b o).put b o' = H.put b o' := by
  funext x
  unfold G.put
  split <;> rfl
theorem updF_updF (f : Nat → Int) (k : Nat) (x y : Int) : updF (updF f k x) k y = updF f k y := by
  funext j
  unfold updF
  split <;> rfl
theorem addr1 (b k : Nat) : (⟨b, 0, none⟩ : Addr).add (((k : Nat) : Int).toNat * 1) = ⟨b, k, none⟩ := by
  rw [add_cell]; simp
theorem off1 (i : Nat) : 0 + ((i : Int)).toNat * 1 = i := by simp
theorem fam1 {H : G} {b n k : Nat} {f : Nat → Int} (hb : H b = some (rowO n f)) (hk : k < n) : H.at ((⟨b, 0, none⟩ : Addr).add (((k : Nat) : Int).toNat * 1)) [.int .i64 (f k)] := by
  rw [addr1]
  refine ⟨rfl, _, _, _, hb, fun i hi => ?_⟩
  have : i = 0 := by simp at hi; exact hi
  subst this
  show (rowI n f).toArray[k + 0]? = _
  simp [rowI, hk]
theorem fams {c0 : Chunk} {L : List Chunk} {H H' : G} (h : H = H') : c0 :: Chunk.fam H :: L = c0 :: .fam H' :: L := by rw [h]
/-- One cell of a row written. -/
theorem row_st (H : G) (b n k : Nat) (f : Nat → Int) (x : Int) (hk : k < n) : (H.put b (rowO n f)).put b (.cells ((rowI n f).take k ++ ([Value.int .i64 x] ++ (rowI n f).drop (k + 1))).toArray 3 (0, 0)) = H.put b (rowO n (updF f k x)) := by
  rw [put_put, rowI_set x hk]; rfl
end Go.Proofs.YtedfohdgigbhiaaDoor
