/- A symbolic executor of my own, second design, part 1: memory, and what may become of it. Conditions: none; it speaks of any program. -/
import Derived.Test.YtfagdcpfebghoaaDoorSx7
namespace Go.Sx

def Chunk.here : Chunk → Bool
  | .gone => false
  | _ => true
def liveB (L : List Chunk) (k : Nat) : Bool :=
  match L[k]? with
  | some c => c.here
  | none => false
abbrev live (L : List Chunk) (k : Nat) : Prop := liveB L k = true

theorem here_obj {c : Chunk} (σ : Nat → Nat) (h : c.here = true) : ∃ o, c.obj σ = some o := by
  cases c <;> first | exact ⟨_, rfl⟩ | cases h
theorem obj_here {c : Chunk} {σ : Nat → Nat} {o : Obj} (h : c.obj σ = some o) : c.here = true := by
  cases c <;> first | rfl | cases h
theorem live_get {L : List Chunk} {k : Nat} (h : live L k) : ∃ c, L[k]? = some c ∧ c.here = true := by
  unfold live liveB at h
  split at h
  · rename_i c hc; exact ⟨c, hc, h⟩
  · cases h
theorem live_of {L : List Chunk} {k : Nat} {c : Chunk} (h : L[k]? = some c) (hc : c.here = true) : live L k := by
  unfold live liveB; rw [h]; exact hc
theorem live_lt {L : List Chunk} {k : Nat} (h : live L k) : k < L.length := by
  obtain ⟨c, hc, _⟩ := live_get h
  exact (List.getElem?_eq_some_iff.1 hc).1
theorem live_congr {L L' : List Chunk} {k : Nat} (h : L[k]? = L'[k]?) : live L k ↔ live L' k := by
  unfold live liveB; rw [h]

/-- The symbolic memory told of a world. -/
structure Mem (g : G) (L : List Chunk) (σ : Nat → Nat) (w : World) : Prop where
  im : ∀ b o, g b = some o → w.heap[b]? = some o
  lo : ∀ k c o, L[k]? = some c → c.obj σ = some o → w.heap[σ k]? = some o
  inj : ∀ j k, live L j → live L k → σ j = σ k → j = k
  sep : ∀ k, live L k → g (σ k) = none

theorem Mem.reads {g : G} {L : List Chunk} {σ : Nat → Nat} {w : World} (h : Mem g L σ w) : Reads g L σ w := ⟨h.im, h.lo⟩
theorem Mem.lt {g : G} {L : List Chunk} {σ : Nat → Nat} {w : World} (h : Mem g L σ w) {k : Nat} (hk : live L k) : σ k < w.heap.size := by
  obtain ⟨c, hc, hh⟩ := live_get hk
  obtain ⟨o, ho⟩ := here_obj σ hh
  exact (Array.getElem?_eq_some_iff.1 (h.lo k c o hc ho)).1
theorem Mem.im_lt {g : G} {L : List Chunk} {σ : Nat → Nat} {w : World} (h : Mem g L σ w) {b : Nat} {o : Obj} (hb : g b = some o) : b < w.heap.size :=
  (Array.getElem?_eq_some_iff.1 (h.im b o hb)).1

/-- What may have become of memory between two states. -/
structure Goes (σ : Nat → Nat) (L : List Chunk) (g : G) (w : World) (σ' : Nat → Nat) (L' : List Chunk) (g' : G) (w' : World) : Prop where
  agree : ∀ k, k < L.length → σ' k = σ k
  len : L.length ≤ L'.length
  dead : ∀ k, k < L.length → live L' k → live L k
  fresh : ∀ k, L.length ≤ k → live L' k → w.heap.size ≤ σ' k ∨ ∃ j, j < L.length ∧ live L j ∧ ¬ live L' j ∧ σ j = σ' k
  gle : G.le g g'
  gnew : ∀ b, g b = none → g' b ≠ none → w.heap.size ≤ b ∨ ∃ k, k < L.length ∧ live L k ∧ ¬ live L' k ∧ σ k = b
  os : w'.os = w.os
  tape : w'.tape = w.tape
  output : w'.output = w.output
  size : w.heap.size ≤ w'.heap.size
  keep : ∀ b, b < w.heap.size → (∀ k, live L k → σ k ≠ b) → w'.heap[b]? = w.heap[b]?

theorem Goes.refl (σ : Nat → Nat) (L : List Chunk) (g : G) (w : World) : Goes σ L g w σ L g w :=
  ⟨fun _ _ => rfl, Nat.le_refl _, fun _ _ h => h, fun _ h1 h2 => by have := live_lt h2; omega, fun _ _ h => h, fun _ h h' => absurd h h', rfl, rfl, rfl, Nat.le_refl _, fun _ _ _ => rfl⟩

theorem Goes.trans {σ L g w σ₁ L₁ g₁ w₁ σ₂ L₂ g₂ w₂} (h : Goes σ L g w σ₁ L₁ g₁ w₁) (k : Goes σ₁ L₁ g₁ w₁ σ₂ L₂ g₂ w₂) : Goes σ L g w σ₂ L₂ g₂ w₂ where
  agree j hj := (k.agree j (Nat.lt_of_lt_of_le hj h.len)).trans (h.agree j hj)
  len := Nat.le_trans h.len k.len
  dead j hj hl := h.dead j hj (k.dead j (Nat.lt_of_lt_of_le hj h.len) hl)
  fresh j h1 h2 := by
    have first : ∀ i, i < L₁.length → L.length ≤ i → live L₁ i → w.heap.size ≤ σ₁ i ∨ ∃ j, j < L.length ∧ live L j ∧ ¬ live L₂ j ∧ σ j = σ₁ i := fun i hi hl hlv => by
      rcases h.fresh i hl hlv with h3 | ⟨m, m1, m2, m3, m4⟩
      · exact .inl h3
      · exact .inr ⟨m, m1, m2, fun hl2 => m3 (k.dead m (Nat.lt_of_lt_of_le m1 h.len) hl2), m4⟩
    by_cases hj : j < L₁.length
    · rw [k.agree j hj]; exact first j hj h1 (k.dead j hj h2)
    · rcases k.fresh j (by omega) h2 with h3 | ⟨m, m1, m2, m3, m4⟩
      · exact .inl (Nat.le_trans h.size h3)
      · rw [← m4]
        by_cases hm : m < L.length
        · exact .inr ⟨m, hm, h.dead m hm m2, m3, (h.agree m hm).symm⟩
        · exact first m m1 (by omega) m2
  gle b o hb := k.gle b o (h.gle b o hb)
  gnew b h1 h2 := by
    cases hg : g₁ b with
    | none =>
      rcases k.gnew b hg h2 with h3 | ⟨m, m1, m2, m3, m4⟩
      · exact .inl (Nat.le_trans h.size h3)
      · by_cases hm : m < L.length
        · exact .inr ⟨m, hm, h.dead m hm m2, fun hl => m3 hl, (h.agree m hm).symm.trans m4⟩
        · rcases h.fresh m (by omega) m2 with h5 | ⟨n, n1, n2, n3, n4⟩
          · exact .inl (by rw [m4] at h5; exact h5)
          · exact .inr ⟨n, n1, n2, fun hn => n3 (k.dead n (by have := h.len; omega) hn), n4.trans m4⟩
    | some o =>
      rcases h.gnew b h1 (by simp [hg]) with h3 | ⟨m, m1, m2, m3, m4⟩
      · exact .inl h3
      · exact .inr ⟨m, m1, m2, fun hm => m3 (k.dead m (by have := h.len; omega) hm), m4⟩
  os := k.os.trans h.os
  tape := k.tape.trans h.tape
  output := k.output.trans h.output
  size := Nat.le_trans h.size k.size
  keep b hb hn := by
    refine (k.keep b (Nat.lt_of_lt_of_le hb h.size) fun j hj e => ?_).trans (h.keep b hb hn)
    by_cases hjl : j < L.length
    · have hj1 : j < L₁.length := Nat.lt_of_lt_of_le hjl h.len
      rw [h.agree j hjl] at e
      exact hn j (h.dead j hjl hj) e
    · rcases h.fresh j (by omega) hj with h3 | ⟨m, m1, m2, _, m4⟩
      · omega
      · exact hn m m2 (m4.trans e)

/-- A draw turns nothing. -/
theorem Mem.drew {g L σ} {w : World} (h : Mem g L σ w) (n : Nat) : Mem g L σ { w with drawn := n } := ⟨h.im, h.lo, h.inj, h.sep⟩
theorem Goes.drew {σ L g w σ₁ L₁ g₁} {w₁ : World} (h : Goes σ L g w σ₁ L₁ g₁ w₁) (n : Nat) : Goes σ L g w σ₁ L₁ g₁ { w₁ with drawn := n } :=
  ⟨h.agree, h.len, h.dead, h.fresh, h.gle, h.gnew, h.os, h.tape, h.output, h.size, h.keep⟩

/-! ### Forgetting blocks -/

/-- L says no more than M. -/
def Less (L M : List Chunk) : Prop := L.length = M.length ∧ ∀ k : Nat, L[k]? = some Chunk.gone ∨ L[k]? = M[k]?
theorem Less.live {L M : List Chunk} (h : Less L M) {k : Nat} (hk : live L k) : L[k]? = M[k]? := by
  rcases h.2 k with h1 | h1
  · obtain ⟨c, hc, hh⟩ := live_get hk
    rw [h1] at hc; cases hc; cases hh
  · exact h1
theorem Less.refl (L : List Chunk) : Less L L := ⟨rfl, fun _ => .inr rfl⟩
theorem Mem.less {g : G} {L M : List Chunk} {σ : Nat → Nat} {w : World} (h : Mem g M σ w) (hl : Less L M) : Mem g L σ w where
  im := h.im
  lo k c o hk ho := h.lo k c o (by rw [← hl.live (live_of hk (obj_here ho))]; exact hk) ho
  inj j k hj hk := h.inj j k ((live_congr (hl.live hj)).1 hj) ((live_congr (hl.live hk)).1 hk)
  sep k hk := h.sep k ((live_congr (hl.live hk)).1 hk)
theorem Goes.less {σ L g w σ' L' M' g'} {w' : World} (h : Goes σ L g w σ' M' g' w') (hl : Less L' M') : Goes σ L g w σ' L' g' w' where
  agree := h.agree
  len := Nat.le_trans h.len (Nat.le_of_eq hl.1.symm)
  dead k hk hlv := h.dead k hk ((live_congr (hl.live hlv)).1 hlv)
  fresh k hk hlv := by
    rcases h.fresh k hk ((live_congr (hl.live hlv)).1 hlv) with h3 | ⟨m, m1, m2, m3, m4⟩
    · exact .inl h3
    · exact .inr ⟨m, m1, m2, fun hm => m3 ((live_congr (hl.live hm)).1 hm), m4⟩
  gle := h.gle
  gnew b h1 h2 := by
    rcases h.gnew b h1 h2 with h3 | ⟨m, m1, m2, m3, m4⟩
    · exact .inl h3
    · exact .inr ⟨m, m1, m2, fun hm => m3 ((live_congr (hl.live hm)).1 hm), m4⟩
  os := h.os
  tape := h.tape
  output := h.output
  size := h.size
  keep := h.keep

theorem heap_push_lt {w : World} {o : Obj} {b : Nat} (h : b < w.heap.size) : (w.heap.push o)[b]? = w.heap[b]? := by
  rw [Array.getElem?_push, if_neg (by omega)]

theorem getElem?_append_one {α : Type} {L : List α} {c : α} {k : Nat} {d : α} (h : (L ++ [c])[k]? = some d) : (k < L.length ∧ L[k]? = some d) ∨ (k = L.length ∧ d = c) := by
  rcases Nat.lt_trichotomy k L.length with h1 | h1 | h1
  · rw [List.getElem?_append_left h1] at h; exact .inl ⟨h1, h⟩
  · subst h1; simp at h; exact .inr ⟨rfl, h.symm⟩
  · rw [List.getElem?_eq_none (by simp; omega)] at h; cases h

theorem obj_congr {n : Nat} {σ σ' : Nat → Nat} (h : ∀ k, k < n → σ k = σ' k) {c : Chunk} (hc : ∀ ty l, c = .cells ty l → scL n l = true) : c.obj σ = c.obj σ' := by
  cases c with
  | cells ty l => simp only [Chunk.obj, reL_congr h l (hc ty l rfl)]
  | _ => rfl

def scC (n : Nat) : Chunk → Bool
  | .cells _ c => scL n c
  | _ => true
def scHB (n : Nat) : List Chunk → Bool
  | [] => true
  | c :: l => scC n c && scHB n l
theorem scHB_iff {n : Nat} {L : List Chunk} : scHB n L = true ↔ ∀ (k : Nat) (ty : TypeId) (c : List SV), L[k]? = some (Chunk.cells ty c) → scL n c = true := by
  induction L with
  | nil => simp [scHB]
  | cons d L ih =>
    simp only [scHB, Bool.and_eq_true, ih]
    constructor
    · rintro ⟨h1, h2⟩ k ty c hk
      cases k with
      | zero => simp at hk; subst hk; exact h1
      | succ k => exact h2 k ty c (by simpa using hk)
    · intro h
      refine ⟨?_, fun k ty c hk => h (k + 1) ty c (by simpa using hk)⟩
      cases d with
      | cells ty c => exact h 0 ty c rfl
      | _ => rfl
theorem scHB_scH {L : List Chunk} : scHB L.length L = true ↔ scH L := scHB_iff

/-! ### Values that lead to given blocks alone -/

mutual
def SV.on (p : Nat → Bool) : SV → Bool
  | .junk => true
  | .v _ => true
  | .ptr k _ => p k
  | .slc k _ _ _ => p k
  | .mp k => p k
  | .fn _ a b => onL p a && onL p b
  | .iface _ x => x.on p
  | .agg l => onL p l
  | .tup l => onL p l
def onL (p : Nat → Bool) : List SV → Bool
  | [] => true
  | x :: l => x.on p && onL p l
end

mutual
theorem re_on {p : Nat → Bool} {σ σ' : Nat → Nat} (h : ∀ k, p k = true → σ k = σ' k) : ∀ x : SV, x.on p = true → x.re σ = x.re σ'
  | .junk, _ => rfl
  | .v _, _ => rfl
  | .ptr k o, hx => by simp only [SV.re, h k (by simpa [SV.on] using hx)]
  | .slc k o a b, hx => by simp only [SV.re, h k (by simpa [SV.on] using hx)]
  | .mp k, hx => by simp only [SV.re, h k (by simpa [SV.on] using hx)]
  | .fn f a b, hx => by
    simp only [SV.on, Bool.and_eq_true] at hx
    simp only [SV.re, reL_on h a hx.1, reL_on h b hx.2]
  | .iface t x, hx => by simp only [SV.re, re_on h x (by simpa [SV.on] using hx)]
  | .agg l, hx => by simp only [SV.re, reL_on h l (by simpa [SV.on] using hx)]
  | .tup l, hx => by simp only [SV.re, reL_on h l (by simpa [SV.on] using hx)]
theorem reL_on {p : Nat → Bool} {σ σ' : Nat → Nat} (h : ∀ k, p k = true → σ k = σ' k) : ∀ l : List SV, onL p l = true → reL σ l = reL σ' l
  | [], _ => rfl
  | x :: l, hx => by
    simp only [onL, Bool.and_eq_true] at hx
    simp only [reL, re_on h x hx.1, reL_on h l hx.2]
end

mutual
theorem on_mono {p q : Nat → Bool} (h : ∀ k, p k = true → q k = true) : ∀ x : SV, x.on p = true → x.on q = true
  | .junk, _ => rfl
  | .v _, _ => rfl
  | .ptr k o, hx => by simp only [SV.on] at hx ⊢; exact h k hx
  | .slc k o a b, hx => by simp only [SV.on] at hx ⊢; exact h k hx
  | .mp k, hx => by simp only [SV.on] at hx ⊢; exact h k hx
  | .fn f a b, hx => by
    simp only [SV.on, Bool.and_eq_true] at hx ⊢
    exact ⟨onL_mono h a hx.1, onL_mono h b hx.2⟩
  | .iface t x, hx => by simp only [SV.on] at hx ⊢; exact on_mono h x hx
  | .agg l, hx => by simp only [SV.on] at hx ⊢; exact onL_mono h l hx
  | .tup l, hx => by simp only [SV.on] at hx ⊢; exact onL_mono h l hx
theorem onL_mono {p q : Nat → Bool} (h : ∀ k, p k = true → q k = true) : ∀ l : List SV, onL p l = true → onL q l = true
  | [], _ => rfl
  | x :: l, hx => by
    simp only [onL, Bool.and_eq_true] at hx ⊢
    exact ⟨on_mono h x hx.1, onL_mono h l hx.2⟩
end

mutual
theorem on_sc {n : Nat} : ∀ x : SV, x.sc n = x.on (fun k => decide (k < n))
  | .junk => rfl
  | .v _ => rfl
  | .ptr k o => by simp [SV.sc, SV.on]
  | .slc k o a b => by simp [SV.sc, SV.on]
  | .mp k => by simp [SV.sc, SV.on]
  | .fn f a b => by simp only [SV.sc, SV.on, onL_sc a, onL_sc b]
  | .iface t x => by simp only [SV.sc, SV.on, on_sc x]
  | .agg l => by simp only [SV.sc, SV.on, onL_sc l]
  | .tup l => by simp only [SV.sc, SV.on, onL_sc l]
theorem onL_sc {n : Nat} : ∀ l : List SV, scL n l = onL (fun k => decide (k < n)) l
  | [] => rfl
  | x :: l => by simp only [scL, onL, on_sc x, onL_sc l]
end

theorem onL_mem {p : Nat → Bool} {l : List SV} : onL p l = true ↔ ∀ x ∈ l, x.on p = true := by
  induction l with
  | nil => simp [onL]
  | cons x l ih => simp [onL, ih]

def Chunk.on (p : Nat → Bool) : Chunk → Bool
  | .cells _ l => onL p l
  | _ => true
theorem obj_on {p : Nat → Bool} {σ σ' : Nat → Nat} (h : ∀ k, p k = true → σ k = σ' k) {c : Chunk} (hc : c.on p = true) : c.obj σ = c.obj σ' := by
  cases c with
  | cells ty l => simp only [Chunk.obj, reL_on h l hc]
  | _ => rfl
theorem Chunk.on_mono {p q : Nat → Bool} (h : ∀ k, p k = true → q k = true) {c : Chunk} (hc : c.on p = true) : c.on q = true := by
  cases c with
  | cells ty l => exact onL_mono h l hc
  | _ => rfl

/-! ### A block more, a block written -/

/-- A block more, at a place that was empty. -/
theorem Mem.born {g : G} {L : List Chunk} {σ : Nat → Nat} {w : World} (h : Mem g L σ w) {k : Nat} (hk : L[k]? = some Chunk.gone) (hon : ∀ (j : Nat) (c : Chunk), L[j]? = some c → c.on (fun i => !(i == k)) = true)
    (c : Chunk) (hc : c.on (fun i => !(i == k)) = true) (o : Obj) (ho : c.obj σ = some o) :
    Mem g (L.set k c) (fun j => if j = k then w.heap.size else σ j) { w with heap := w.heap.push o } := by
  have hkl : k < L.length := (List.getElem?_eq_some_iff.1 hk).1
  have hag : ∀ j, (!(j == k)) = true → σ j = (fun j => if j = k then w.heap.size else σ j) j := fun j hj => by
    have : j ≠ k := by simpa using hj
    simp [this]
  have hlv : ∀ j, j ≠ k → live (L.set k c) j → live L j := fun j hj hl => by
    rwa [live_congr (L' := L) (List.getElem?_set_ne (fun e => hj e.symm))] at hl
  refine ⟨fun b o' hb => ?_, fun j d o' hj hd => ?_, fun i j hi hj hij => ?_, fun j hj => ?_⟩
  · show (w.heap.push o)[b]? = _
    rw [heap_push_lt (h.im_lt hb)]
    exact h.im b o' hb
  · by_cases hjk : j = k
    · subst hjk
      rw [List.getElem?_set_self hkl] at hj
      cases hj
      rw [← obj_on hag hc, ho] at hd
      cases hd
      simp
    · rw [List.getElem?_set_ne (fun e => hjk e.symm)] at hj
      rw [← obj_on hag (hon j d hj)] at hd
      simp only [hjk, if_false]
      show (w.heap.push o)[σ j]? = _
      rw [heap_push_lt (h.lt (live_of hj (obj_here hd)))]
      exact h.lo j d o' hj hd
  · by_cases hik : i = k <;> by_cases hjk : j = k
    · rw [hik, hjk]
    · have := h.lt (hlv j hjk hj)
      simp only [hik, hjk, if_true, if_false] at hij
      omega
    · have := h.lt (hlv i hik hi)
      simp only [hik, hjk, if_true, if_false] at hij
      omega
    · simp only [hik, hjk, if_false] at hij
      exact h.inj i j (hlv i hik hi) (hlv j hjk hj) hij
  · by_cases hjk : j = k
    · simp only [hjk, if_true]
      cases hg : g w.heap.size with
      | none => rfl
      | some o' => have := h.im_lt hg; omega
    · simp only [hjk, if_false]
      exact h.sep j (hlv j hjk hj)

/-- A block of the function's own is written. -/
theorem Mem.write {g : G} {L : List Chunk} {σ : Nat → Nat} {w : World} (h : Mem g L σ w) {k : Nat} (hk : live L k) (c : Chunk) (o : Obj) (ho : c.obj σ = some o) :
    Mem g (L.set k c) σ { w with heap := w.heap.setIfInBounds (σ k) o } := by
  have hkl := live_lt hk
  have hlt := h.lt hk
  have hlv : ∀ j, live (L.set k c) j → live L j := fun j hl => by
    by_cases hjk : j = k
    · rw [hjk]; exact hk
    · rwa [live_congr (L' := L) (List.getElem?_set_ne (fun e => hjk e.symm))] at hl
  refine ⟨fun b o' hb => ?_, fun j d o' hj hd => ?_, fun i j hi hj => h.inj i j (hlv i hi) (hlv j hj), fun j hj => h.sep j (hlv j hj)⟩
  · have hne : σ k ≠ b := fun e => by
      have := h.sep k hk
      rw [e, hb] at this
      cases this
    show (w.heap.setIfInBounds (σ k) o)[b]? = _
    rw [Array.getElem?_setIfInBounds_ne hne]
    exact h.im b o' hb
  · by_cases hjk : j = k
    · subst hjk
      rw [List.getElem?_set_self hkl] at hj
      cases hj
      rw [ho] at hd
      cases hd
      simp [hlt]
    · rw [List.getElem?_set_ne (fun e => hjk e.symm)] at hj
      show (w.heap.setIfInBounds (σ k) o)[σ j]? = _
      rw [Array.getElem?_setIfInBounds_ne (fun e => hjk (h.inj j k (live_of hj (obj_here hd)) hk e.symm))]
      exact h.lo j d o' hj hd

theorem Goes.write {σ0 L0 g0 w0 σ L g} {w : World} (h : Goes σ0 L0 g0 w0 σ L g w) {k : Nat} (hk : live L k) (c : Chunk) (o : Obj) :
    Goes σ0 L0 g0 w0 σ (L.set k c) g { w with heap := w.heap.setIfInBounds (σ k) o } where
  agree := h.agree
  len := by rw [List.length_set]; exact h.len
  dead j hj hl := by
    by_cases hjk : j = k
    · subst hjk; exact h.dead j hj hk
    · exact h.dead j hj (by rwa [live_congr (L' := L) (List.getElem?_set_ne (fun e => hjk e.symm))] at hl)
  fresh j hj hl := by
    have hl' : live L j := by
      by_cases hjk : j = k
      · rw [hjk]; exact hk
      · rwa [live_congr (L' := L) (List.getElem?_set_ne (fun e => hjk e.symm))] at hl
    rcases h.fresh j hj hl' with h3 | ⟨m, m1, m2, m3, m4⟩
    · exact .inl h3
    · refine .inr ⟨m, m1, m2, fun hm => m3 ?_, m4⟩
      by_cases hmk : m = k
      · rw [hmk]; exact hk
      · rwa [live_congr (L' := L) (List.getElem?_set_ne (fun e => hmk e.symm))] at hm
  gle := h.gle
  gnew b h1 h2 := by
    rcases h.gnew b h1 h2 with h3 | ⟨m, m1, m2, m3, m4⟩
    · exact .inl h3
    · refine .inr ⟨m, m1, m2, fun hm => m3 ?_, m4⟩
      by_cases hmk : m = k
      · rw [hmk]; exact hk
      · rwa [live_congr (L' := L) (List.getElem?_set_ne (fun e => hmk e.symm))] at hm
  os := h.os
  tape := h.tape
  output := h.output
  size := by simpa using h.size
  keep b hb hn := by
    refine Eq.trans ?_ (h.keep b hb hn)
    show (w.heap.setIfInBounds (σ k) o)[b]? = _
    refine Array.getElem?_setIfInBounds_ne fun e => ?_
    by_cases hjl : k < L0.length
    · rw [h.agree k hjl] at e
      exact hn k (h.dead k hjl hk) e
    · rcases h.fresh k (by omega) hk with h3 | ⟨m, m1, m2, _, m4⟩
      · omega
      · exact hn m m2 (m4.trans e)

theorem Goes.born {σ0 L0 g0 w0 σ L g} {w : World} (h : Goes σ0 L0 g0 w0 σ L g w) {k : Nat} (hk : L0.length ≤ k) (c : Chunk) (o : Obj) :
    Goes σ0 L0 g0 w0 (fun j => if j = k then w.heap.size else σ j) (L.set k c) g { w with heap := w.heap.push o } where
  agree j hj := by simp only [show j ≠ k by omega, if_false]; exact h.agree j hj
  len := by rw [List.length_set]; exact h.len
  dead j hj hl := h.dead j hj (by rwa [live_congr (L' := L) (List.getElem?_set_ne (show k ≠ j by omega))] at hl)
  fresh j hj hl := by
    by_cases hjk : j = k
    · simp only [hjk, if_true]; exact .inl h.size
    · simp only [hjk, if_false]
      rcases h.fresh j hj (by rwa [live_congr (L' := L) (List.getElem?_set_ne (fun e => hjk e.symm))] at hl) with h3 | ⟨m, m1, m2, m3, m4⟩
      · exact .inl h3
      · exact .inr ⟨m, m1, m2, fun hm => m3 (by rwa [live_congr (L' := L) (List.getElem?_set_ne (show k ≠ m by omega))] at hm), m4⟩
  gle := h.gle
  gnew b h1 h2 := by
    rcases h.gnew b h1 h2 with h3 | ⟨m, m1, m2, m3, m4⟩
    · exact .inl h3
    · exact .inr ⟨m, m1, m2, fun hm => m3 (by rwa [live_congr (L' := L) (List.getElem?_set_ne (show k ≠ m by omega))] at hm), m4⟩
  os := h.os
  tape := h.tape
  output := h.output
  size := by simp only [Array.size_push]; have := h.size; omega
  keep b hb hn := by
    refine Eq.trans ?_ (h.keep b hb hn)
    show (w.heap.push o)[b]? = _
    exact heap_push_lt (Nat.lt_of_lt_of_le hb h.size)

/-- A place more, with nothing there. -/
theorem Mem.place {g : G} {L : List Chunk} {σ : Nat → Nat} {w : World} (h : Mem g L σ w) : Mem g (L ++ [.gone]) σ w := by
  have hlv : ∀ j, live (L ++ [.gone]) j → live L j := fun j hl => by
    obtain ⟨c, hc, hh⟩ := live_get hl
    rcases getElem?_append_one hc with ⟨_, h2⟩ | ⟨_, rfl⟩
    · exact live_of h2 hh
    · cases hh
  refine ⟨h.im, fun k c o hk ho => ?_, fun i j hi hj => h.inj i j (hlv i hi) (hlv j hj), fun j hj => h.sep j (hlv j hj)⟩
  rcases getElem?_append_one hk with ⟨_, h2⟩ | ⟨_, rfl⟩
  · exact h.lo k c o h2 ho
  · cases ho
theorem Goes.place {σ0 L0 g0 w0 σ L g} {w : World} (h : Goes σ0 L0 g0 w0 σ L g w) : Goes σ0 L0 g0 w0 σ (L ++ [.gone]) g w := by
  have hlv : ∀ j, live (L ++ [.gone]) j → live L j := fun j hl => by
    obtain ⟨c, hc, hh⟩ := live_get hl
    rcases getElem?_append_one hc with ⟨_, h2⟩ | ⟨_, rfl⟩
    · exact live_of h2 hh
    · cases hh
  exact ⟨h.agree, by simp; have := h.len; omega, fun j hj hl => h.dead j hj (hlv j hl), fun j hj hl => (by
    rcases h.fresh j hj (hlv j hl) with h3 | ⟨m, m1, m2, m3, m4⟩
    · exact .inl h3
    · exact .inr ⟨m, m1, m2, fun hm => m3 (hlv m hm), m4⟩), h.gle, fun b h1 h2 => (by
    rcases h.gnew b h1 h2 with h3 | ⟨m, m1, m2, m3, m4⟩
    · exact .inl h3
    · exact .inr ⟨m, m1, m2, fun hm => m3 (hlv m hm), m4⟩), h.os, h.tape, h.output, h.size, h.keep⟩

theorem set_last (L : List Chunk) (c : Chunk) : (L ++ [Chunk.gone]).set L.length c = L ++ [c] := by simp

end Go.Sx
