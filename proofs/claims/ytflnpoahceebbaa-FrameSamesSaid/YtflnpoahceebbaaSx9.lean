/- A symbolic executor of my own, part 9: contracts; the operations that make or write memory, or call. Conditions: none; it speaks of any program. -/
import Derived.Test.YtflnpoahceebbaaSx8
namespace Go.Sx

/-- What may have become of memory between two states. -/
structure Goes (σ : Nat → Nat) (L : List Chunk) (g : G) (w : World) (σ' : Nat → Nat) (L' : List Chunk) (g' : G) (w' : World) : Prop where
  agree : ∀ k, k < L.length → σ' k = σ k
  len : L.length ≤ L'.length
  fresh : ∀ k, L.length ≤ k → k < L'.length → w.heap.size ≤ σ' k
  gle : G.le g g'
  gnew : ∀ b, g b = none → g' b ≠ none → w.heap.size ≤ b
  os : w'.os = w.os
  tape : w'.tape = w.tape
  output : w'.output = w.output
  size : w.heap.size ≤ w'.heap.size
  keep : ∀ b, b < w.heap.size → (∀ k, k < L.length → σ k ≠ b) → w'.heap[b]? = w.heap[b]?

theorem Goes.refl (σ : Nat → Nat) (L : List Chunk) (g : G) (w : World) : Goes σ L g w σ L g w :=
  ⟨fun _ _ => rfl, Nat.le_refl _, fun _ h1 h2 => by omega, fun _ _ h => h, fun _ h h' => absurd h h', rfl, rfl, rfl, Nat.le_refl _, fun _ _ _ => rfl⟩

theorem Goes.trans {σ L g w σ₁ L₁ g₁ w₁ σ₂ L₂ g₂ w₂} (h : Goes σ L g w σ₁ L₁ g₁ w₁) (k : Goes σ₁ L₁ g₁ w₁ σ₂ L₂ g₂ w₂) : Goes σ L g w σ₂ L₂ g₂ w₂ where
  agree j hj := (k.agree j (Nat.lt_of_lt_of_le hj h.len)).trans (h.agree j hj)
  len := Nat.le_trans h.len k.len
  fresh j h1 h2 := by
    by_cases hj : j < L₁.length
    · rw [k.agree j hj]; exact h.fresh j h1 hj
    · exact Nat.le_trans h.size (k.fresh j (by omega) h2)
  gle b o hb := k.gle b o (h.gle b o hb)
  gnew b h1 h2 := by
    cases hg : g₁ b with
    | none => exact Nat.le_trans h.size (k.gnew b hg h2)
    | some o => exact h.gnew b h1 (by simp [hg])
  os := k.os.trans h.os
  tape := k.tape.trans h.tape
  output := k.output.trans h.output
  size := Nat.le_trans h.size k.size
  keep b hb hn := by
    refine (k.keep b (Nat.lt_of_lt_of_le hb h.size) fun j hj e => ?_).trans (h.keep b hb hn)
    by_cases hjl : j < L.length
    · rw [h.agree j hjl] at e; exact hn j hjl e
    · have := h.fresh j (by omega) hj; omega

/-- A draw turns nothing. -/
theorem Holds.drew {g L σ} {w : World} (h : Holds g L σ w) : Holds g L σ { w with drawn := w.drawn + 1 } := ⟨h.im, h.lo, h.inj, h.lt, h.sep⟩
theorem Goes.drew {σ L g w σ₁ L₁ g₁} {w₁ : World} (h : Goes σ L g w σ₁ L₁ g₁ w₁) : Goes σ L g w σ₁ L₁ g₁ { w₁ with drawn := w₁.drawn + 1 } :=
  ⟨h.agree, h.len, h.fresh, h.gle, h.gnew, h.os, h.tape, h.output, h.size, h.keep⟩

def callable (P : Program) (f : FuncId) : Bool :=
  match P.funcs[f]? with
  | some fn => fn.body.isSome && !(fn.name == "runtime.NumGoroutine")
  | none => false

/-- **A contract**: the call, in any world that meets the symbolic memory, hands back a value and leaves a world that meets what the post allows. -/
def Meets (P : Program) (f : FuncId) (args : List SV) (L : List Chunk) (g : G) (post : SV → List Chunk → G → Prop) : Prop :=
  callable P f = true ∧ ∀ (σ : Nat → Nat) (w : World), Holds g L σ w → scH L → scL L.length args = true →
    Calls P f (reL σ args).toArray w fun e w' => ∃ r L' g' σ', e = .returned (r.re σ') ∧ r ≠ .junk ∧ Holds g' L' σ' w' ∧ scH L' ∧ r.sc L'.length = true ∧ Goes σ L g w σ' L' g' w' ∧ post r L' g'

theorem Meets.mono {P : Program} {f : FuncId} {args : List SV} {L : List Chunk} {g : G} {post post' : SV → List Chunk → G → Prop} (h : Meets P f args L g post) (hp : ∀ r L' g', post r L' g' → post' r L' g') : Meets P f args L g post' :=
  ⟨h.1, fun σ w h1 h2 h3 => (h.2 σ w h1 h2 h3).mono fun _ _ ⟨r, L', g', σ', a, b, c, d, e, f, k⟩ => ⟨r, L', g', σ', a, b, c, d, e, f, hp _ _ _ k⟩⟩

/-- Each is one cell. -/
def one1 : SV → Prop → Prop
  | .v x, p => x.oneCell' = true ∧ p
  | .ptr _ _, p => p
  | .slc _ _ _ _, p => p
  | .fn _ _ _, p => p
  | .iface _ _, p => p
  | _, _ => False
def oneAll : List SV → Prop → Prop
  | [], p => p
  | x :: l, p => one1 x (oneAll l p)

/-- What an operation that makes or writes memory, or calls, comes to; of the others, what it yields. -/
def hp (P : Program) (X : XOp) (e : Operand → SV) (L : List Chunk) (g : G) (K : SV → List Chunk → G → Prop) : Prop :=
  match X with
  | .alloc t zs => K (.ptr L.length 0) (L ++ [.cells t (zs.map .v)]) g
  | .box t x => nj (e x) fun y => K (.ptr L.length 0) (L ++ [.cells t y.cells]) g
  | .bslice t n zs parts => match fillS (zs.map .v) (parts.map fun p => (p.1, p.2.1, e p.2.2)) with
    | some l => K (.slc L.length 0 n n) (L ++ [.cells t l]) g
    | none => False
  | .store n a x => match e a with
    | .ptr k off => match L[k]? with
      | some (.cells ty c) => nj (e x) fun y => ifle (off + n) c.length (ifOk (Nat.beq y.cells.length n) (oneAll y.cells (K .junk (L.set k (.cells ty (c.take off ++ (y.cells ++ c.drop (off + n))))) g)))
      | some (.vals ty c) => match e x with
        | .v y => y.oneCell' = true ∧ n = 1 ∧ off < c.length ∧ K .junk (L.set k (.vals ty (c.set off y))) g
        | _ => False
      | _ => False
    | _ => False
  | .call f args => njL (args.map e) fun as => Meets P f as L g K
  | .callv x args => match e x with
    | .fn f first cap => njL (args.map e) fun as => Meets P f (first ++ (as ++ cap)) L g K
    | _ => False
  | X => ro X e L g fun r => K r L g

/-- The state told of a frame and a world. -/
structure Inv (S : St) (σ : Nat → Nat) (a : Act) (w : World) : Prop where
  fr : FR σ S.fr a.tmps
  holds : Holds S.g S.L σ w
  scF : scL S.L.length S.fr = true
  scL : scH S.L
  defers : a.defers = []

/-- What part 9 shows of an operation: what it leaves. -/
def Left1 (o : Oper) (a : Act) (L : List Chunk) (g : G) (σ : Nat → Nat) (w : World) (K : SV → List Chunk → G → Prop) (a' : Act) (w' : World) : Prop :=
  ∃ v r L' g' σ', a' = a.put o.dst v ∧ (r ≠ .junk → v = r.re σ') ∧ r.sc L'.length = true ∧ Holds g' L' σ' w' ∧ scH L' ∧ Goes σ L g w σ' L' g' w' ∧ K r L' g'

theorem heap_push_lt {w : World} {o : Obj} {b : Nat} (h : b < w.heap.size) : (w.heap.push o)[b]? = w.heap[b]? := by
  rw [Array.getElem?_push, if_neg (by omega)]

theorem getElem?_append_one {α : Type} {L : List α} {c : α} {k : Nat} {d : α} (h : (L ++ [c])[k]? = some d) : (k < L.length ∧ L[k]? = some d) ∨ (k = L.length ∧ d = c) := by
  rcases Nat.lt_trichotomy k L.length with h1 | h1 | h1
  · rw [List.getElem?_append_left h1] at h; exact .inl ⟨h1, h⟩
  · subst h1; simp at h; exact .inr ⟨rfl, h.symm⟩
  · rw [List.getElem?_eq_none (by simp; omega)] at h; cases h

theorem obj_congr {n : Nat} {σ σ' : Nat → Nat} (h : ∀ k, k < n → σ k = σ' k) {c : Chunk} (hc : ∀ ty l, c = .cells ty l → scL n l = true) : c.obj σ = c.obj σ' := by
  cases c with
  | cells ty l => simp only [Chunk.obj, reL_congr h l (hc ty l rfl)]
  | _ => rfl

/-- A new block. -/
theorem new_block {L : List Chunk} {g : G} {σ : Nat → Nat} {w : World} (h : Holds g L σ w) (hL : scH L) (c : Chunk) (hc : ∀ ty l, c = .cells ty l → scL L.length l = true) (o : Obj) (ho : c.obj σ = some o) :
    ∃ σ', Holds g (L ++ [c]) σ' { w with heap := w.heap.push o } ∧ scH (L ++ [c]) ∧ Goes σ L g w σ' (L ++ [c]) g { w with heap := w.heap.push o } ∧ σ' L.length = w.heap.size ∧ ∀ k, k < L.length → σ' k = σ k := by
  let σ' : Nat → Nat := fun k => if k = L.length then w.heap.size else σ k
  have hag : ∀ k, k < L.length → σ' k = σ k := fun k hk => if_neg (by omega)
  have hnew : σ' L.length = w.heap.size := if_pos rfl
  refine ⟨σ', ⟨fun b o' hb => ?_, fun k d o' hk hd => ?_, fun j k hj hk hjk => ?_, fun k hk => ?_, fun k hk => ?_⟩, fun k ty l hk => ?_, ?_, hnew, hag⟩
  · have := h.im b o' hb
    rw [heap_push_lt]
    · exact this
    · exact (Array.getElem?_eq_some_iff.1 this).1
  · rcases getElem?_append_one hk with ⟨h1, h2⟩ | ⟨rfl, rfl⟩
    · rw [← obj_congr (σ := σ) (fun j hj => (hag j hj).symm) (fun ty l e => hL k ty l (by rw [h2, e]))] at hd
      rw [hag k h1]
      show (w.heap.push o)[σ k]? = _
      rw [heap_push_lt (h.lt k h1)]
      exact h.lo k d o' h2 hd
    · rw [← obj_congr (σ := σ) (fun j hj => (hag j hj).symm) hc, ho] at hd
      rw [hnew]
      simp only [Option.some.injEq] at hd
      subst hd
      simp
  · simp only [List.length_append, List.length_singleton] at hj hk
    by_cases hjl : j = L.length
    · by_cases hkl : k = L.length
      · omega
      · subst hjl
        rw [hnew, hag k (by omega)] at hjk
        have := h.lt k (by omega)
        omega
    · by_cases hkl : k = L.length
      · subst hkl
        rw [hnew, hag j (by omega)] at hjk
        have := h.lt j (by omega)
        omega
      · rw [hag j (by omega), hag k (by omega)] at hjk
        exact h.inj j k (by omega) (by omega) hjk
  · simp only [List.length_append, List.length_singleton] at hk
    simp only [Array.size_push]
    by_cases hkl : k = L.length
    · subst hkl; rw [hnew]; omega
    · rw [hag k (by omega)]; have := h.lt k (by omega); omega
  · simp only [List.length_append, List.length_singleton] at hk
    by_cases hkl : k = L.length
    · subst hkl
      rw [hnew]
      cases hg : g w.heap.size with
      | none => rfl
      | some o' =>
        have := h.im _ _ hg
        have := (Array.getElem?_eq_some_iff.1 this).1
        omega
    · rw [hag k (by omega)]; exact h.sep k (by omega)
  · have hle : L.length ≤ (L ++ [c]).length := by simp
    rcases getElem?_append_one hk with ⟨h1, h2⟩ | ⟨rfl, h2⟩
    · exact scL_mono hle _ (hL k ty l h2)
    · exact scL_mono hle _ (hc ty l h2.symm)
  · refine ⟨hag, by simp, fun k h1 h2 => ?_, fun _ _ hb => hb, fun _ h1 h2 => absurd h1 h2, rfl, rfl, rfl, by simp, fun b hb _ => ?_⟩
    · simp only [List.length_append, List.length_singleton] at h2
      have : k = L.length := by omega
      subst this
      rw [hnew]
      omega
    · exact heap_push_lt hb

theorem oneAll_elim {l : List SV} {p : Prop} (h : oneAll l p) : (∀ x ∈ l, ∀ σ, (x.re σ).oneCell' = true) ∧ p := by
  induction l with
  | nil => exact ⟨by simp, h⟩
  | cons x l ih =>
    have key : one1 x (oneAll l p) → (∀ σ, (x.re σ).oneCell' = true) ∧ oneAll l p := by
      intro h
      cases x <;> first | exact h.elim | exact ⟨fun σ => h.1, h.2⟩ | exact ⟨fun σ => rfl, h⟩
    obtain ⟨h1, h2⟩ := key h
    obtain ⟨h3, h4⟩ := ih h2
    exact ⟨by simpa using ⟨h1, h3⟩, h4⟩

/-- A row is written from a place on. -/
theorem run_storeCells_splice {P : Program} (b : Nat) (t : TypeId) : ∀ (vs : List Value) (off i : Nat) (cur : List Value) (w : World), w.heap[b]? = some (.cells cur.toArray t (0, 0)) → off + i + vs.length ≤ cur.length → (∀ v ∈ vs, v.oneCell' = true) →
    ∃ w', (storeCells ⟨b, off, none⟩ vs i).run P w = .ok () w' ∧ w' = { w with heap := w.heap.setIfInBounds b (.cells (cur.take (off + i) ++ (vs ++ cur.drop (off + i + vs.length))).toArray t (0, 0)) } := by
  intro vs
  induction vs with
  | nil =>
    intro off i cur w hg hl _
    refine ⟨w, by simp [storeCells], ?_⟩
    have hlt : b < w.heap.size := (Array.getElem?_eq_some_iff.1 hg).1
    have hv : w.heap[b] = .cells cur.toArray t (0, 0) := (Array.getElem?_eq_some_iff.1 hg).2
    have : w.heap.setIfInBounds b (.cells cur.toArray t (0, 0)) = w.heap := by
      apply Array.ext_getElem?
      intro k
      by_cases hk : b = k
      · subst hk; simp [hlt, hv]
      · rw [Array.getElem?_setIfInBounds_ne hk]
    simp [this]
  | cons v vs ih =>
    intro off i cur w hg hl h1
    have hi : off + i < cur.length := by simp at hl; omega
    have hlt : b < w.heap.size := (Array.getElem?_eq_some_iff.1 hg).1
    have hcell : w.cell? ⟨b, off + i, none⟩ = some cur[off + i] := by simp [World.cell?, hg, hi]
    have hfro : w.frozen? ⟨b, off + i, none⟩ = false := by simp [World.frozen?, hg]
    have hset : w.setCell ⟨b, off + i, none⟩ v = { w with heap := w.heap.setIfInBounds b (.cells (cur.set (off + i) v).toArray t (0, 0)) } := by
      unfold World.setCell
      congr 1
      apply Array.ext_getElem?
      intro k
      by_cases hk : b = k
      · subst hk
        rw [Array.getElem?_modify, if_pos rfl, hg, Array.getElem?_setIfInBounds_self, if_pos hlt]
        simp
      · rw [Array.getElem?_setIfInBounds_ne hk, Array.getElem?_modify, if_neg hk]
    have hst : (store ((⟨b, off, none⟩ : Addr).add i) v).run P w = .ok () { w with heap := w.heap.setIfInBounds b (.cells (cur.set (off + i) v).toArray t (0, 0)) } := by
      rw [add_cell, run_store P w _ v _ (h1 v (by simp)), hcell]
      simp [hfro, hset]
    obtain ⟨w', hr, hw⟩ := ih off (i + 1) (cur.set (off + i) v) { w with heap := w.heap.setIfInBounds b (.cells (cur.set (off + i) v).toArray t (0, 0)) } (by simp [hlt]) (by simp at hl ⊢; omega) (fun x hx => h1 x (by simp [hx]))
    refine ⟨w', by simp [storeCells, hst, hr], ?_⟩
    rw [hw]
    congr 1
    apply Array.ext_getElem?
    intro k
    by_cases hk : b = k
    case neg =>
      simp only []
      rw [Array.getElem?_setIfInBounds_ne hk, Array.getElem?_setIfInBounds_ne hk, Array.getElem?_setIfInBounds_ne hk]
    case pos =>
        subst hk
        simp only [Array.getElem?_setIfInBounds_self, Array.size_setIfInBounds, hlt, if_true, List.length_cons]
        refine congrArg (fun l : List Value => some (Obj.cells l.toArray t (0, 0))) ?_
        apply List.ext_getElem?
        intro j
        simp only [List.getElem?_append, List.length_take, List.length_set, List.getElem?_take, List.getElem?_drop, List.getElem?_set, List.length_cons]
        by_cases c1 : j < off + i
        · simp [show j < min (off + (i + 1)) cur.length by omega, show j < min (off + i) cur.length by omega, show j < off + (i + 1) by omega, c1, show ¬ off + i = j by omega]
        · by_cases c2 : j = off + i
          · subst c2
            simp [show off + i < min (off + (i + 1)) cur.length by omega, show min (off + i) cur.length = off + i by omega, hi, show off + i < off + (i + 1) by omega]
          · have e1 : min (off + (i + 1)) cur.length = off + i + 1 := by omega
            have e2 : min (off + i) cur.length = off + i := by omega
            have e3 : j - (off + i) = (j - (off + i + 1)) + 1 := by omega
            simp only [e1, e2, show ¬ j < off + i + 1 by omega, c1, if_false, e3, List.getElem?_cons_succ]
            by_cases c3 : j - (off + i + 1) < vs.length
            · simp only [c3, if_true, show j - (off + i + 1) + 1 < vs.length + 1 by omega]
            · simp only [c3, if_false, show ¬ j - (off + i + 1) + 1 < vs.length + 1 by omega]
              rw [if_neg (by omega)]
              congr 1
              omega

/-- A block of the function's own is written. -/
theorem set_block {L : List Chunk} {g : G} {σ : Nat → Nat} {w : World} (h : Holds g L σ w) (hL : scH L) {k : Nat} (hk : k < L.length) (c : Chunk) (hc : ∀ ty l, c = .cells ty l → scL L.length l = true) (o : Obj) (ho : c.obj σ = some o) :
    Holds g (L.set k c) σ { w with heap := w.heap.setIfInBounds (σ k) o } ∧ scH (L.set k c) ∧ Goes σ L g w σ (L.set k c) g { w with heap := w.heap.setIfInBounds (σ k) o } := by
  have hlt := h.lt k hk
  refine ⟨⟨fun b o' hb => ?_, fun j d o' hj hd => ?_, fun i j hi hj hij => ?_, fun j hj => ?_, fun j hj => ?_⟩, fun j ty l hj => ?_, ?_⟩
  · have hne : σ k ≠ b := by
      rintro rfl
      rw [h.sep k hk] at hb
      cases hb
    show (w.heap.setIfInBounds (σ k) o)[b]? = _
    rw [Array.getElem?_setIfInBounds_ne hne]
    exact h.im b o' hb
  · by_cases hjk : k = j
    · subst hjk
      have : d = c := by simp [hk] at hj; exact hj.symm
      subst this
      rw [ho] at hd
      simp only [Option.some.injEq] at hd
      subst hd
      simp [hlt]
    · rw [List.getElem?_set_ne hjk] at hj
      have hjl : j < L.length := (List.getElem?_eq_some_iff.1 hj).1
      have hne : σ k ≠ σ j := fun e => hjk (h.inj k j hk hjl e)
      show (w.heap.setIfInBounds (σ k) o)[σ j]? = _
      rw [Array.getElem?_setIfInBounds_ne hne]
      exact h.lo j d o' hj hd
  · simp only [List.length_set] at hi hj
    exact h.inj i j hi hj hij
  · simp only [List.length_set] at hj
    simpa using h.lt j hj
  · simp only [List.length_set] at hj
    exact h.sep j hj
  · rw [List.length_set]
    by_cases hjk : k = j
    · subst hjk
      have : c = .cells ty l := by simp [hk] at hj; exact hj
      exact hc ty l this
    · rw [List.getElem?_set_ne hjk] at hj
      exact hL j ty l hj
  · refine ⟨fun _ _ => rfl, by simp, fun j h1 h2 => by simp at h2; omega, fun _ _ hb => hb, fun _ h1 h2 => absurd h1 h2, rfl, rfl, rfl, by simp, fun b hb hn => ?_⟩
    exact Array.getElem?_setIfInBounds_ne (hn k hk)

end Go.Sx
