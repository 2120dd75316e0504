/- A symbolic executor of my own, second design, part 15: arguments opened by their shape; slices gathered to lists; lists compared. Conditions: none; it speaks of any program. -/
import Derived.Test.YtfagdcpfebghoaaDoorTy14
import Derived.Deep.Slices
import Derived.OpenShut
namespace Go.Sx
open Go.RowKit Go.WideShapes Go.ChangeShapes

/-- The shape of a type, in cells. -/
inductive Sh where
  | any
  | bool
  | int (k : IntKind)
  | str
  | ptr (n : Nat) (e : Sh)
  | slice (n : Nat) (e : Sh)
  | fin
  | fld (n : Nat) (s : Sh) (rest : Sh)

def Sh.rep (s : Sh) (n : Nat) : Nat → Sh
  | 0 => .fin
  | k + 1 => .fld n s (s.rep n k)

def shFields (rec : TypeId → Option Sh) (P : Program) : List Field → Nat → Nat → Option Sh
  | [], off, total => match Nat.beq off total with
    | true => some .fin
    | false => none
  | f :: l, off, total => match Nat.beq f.offset off with
    | true => match rec f.type, shFields rec P l (off + P.cellsOf f.type) total with
      | some s, some r => some (.fld (P.cellsOf f.type) s r)
      | _, _ => none
    | false => none

def shOf (P : Program) : Nat → TypeId → Option Sh
  | 0, _ => some .any
  | n + 1, t => match P.underlying t with
    | some .bool => some .bool
    | some (.int k) => some (.int k)
    | some .string => some .str
    | some (.pointer e) => (shOf P n e).map (.ptr (P.cellsOf e))
    | some (.slice e) => (shOf P n e).map (.slice (P.cellsOf e))
    | some (.struct fs) => shFields (shOf P n) P fs.toList 0 (P.cellsOf t)
    | some (.array k e) => match Nat.beq (k * P.cellsOf e) (P.cellsOf t) with
      | true => (shOf P n e).map fun s => s.rep (P.cellsOf e) k
      | false => none
    | _ => some .any

def Sh.holds (W : World) : Sh → List Value → Prop
  | .any, _ => True
  | .bool, cs => ∃ b, cs = [.bool b]
  | .int k, cs => ∃ n, cs = [.int k n] ∧ (Lit.int k n).wf = true
  | .str, cs => ∃ s : ByteArray, cs = [.string s] ∧ s.size ≤ maxLen
  | .ptr n e, cs => cs = [.pointer none] ∨ ∃ a c, cs = [.pointer (some a)] ∧ c.length = n ∧ (∀ j, j < n → W.cell? (a.add j) = c[j]?) ∧ e.holds W c
  | .slice n e, cs => cs = [.slice none 0 0] ∨ ∃ a len cap, cs = [.slice (some a) len cap] ∧ len ≤ cap ∧ cap ≤ maxLen ∧ ∀ i, i < len → ∃ c, c.length = n ∧ (∀ j, j < n → W.cell? (a.add (i * n + j)) = c[j]?) ∧ e.holds W c
  | .fin, cs => cs = []
  | .fld n s r, cs => ∃ c d, cs = c ++ d ∧ c.length = n ∧ s.holds W c ∧ r.holds W d

section
variable {H : Type} {enc : TypeId × Value → H} {P : Program} {W : World} {base : Nat} {spare : Nat → Bool} {held : Bool}

theorem shFields_sound {rec : TypeId → Option Sh} {n : Nat}
    (ih : ∀ t s, rec t = some s → ∀ (m : Nat) cs x, DataW.trod enc P W base spare held m t cs = some x → s.holds W cs) :
    ∀ (l : List Field) (off total : Nat) (s : Sh) (cs : List Value), shFields rec P l off total = some s → off ≤ cs.length → cs.length = total →
      (∀ f ∈ l, ∃ x, DataW.trod enc P W base spare held n f.type ((cs.drop f.offset).take (P.cellsOf f.type)) = some x) → s.holds W (cs.drop off)
  | [], off, total, s, cs, h, hoff, hl, _ => by
    rw [shFields] at h
    split at h
    · rename_i hb
      cases h
      have := Nat.eq_of_beq_eq_true hb
      show cs.drop off = []
      rw [List.drop_eq_nil_iff]
      omega
    · cases h
  | f :: l, off, total, s, cs, h, hoff, hl, hx => by
    rw [shFields] at h
    split at h
    · rename_i hb
      have hfo := Nat.eq_of_beq_eq_true hb
      split at h
      · rename_i s1 r1 h1 h2
        cases h
        obtain ⟨x, hx1⟩ := hx f (by simp)
        rw [hfo] at hx1
        -- the rest's end: total is what the fields sum up to
        have hle : off + P.cellsOf f.type ≤ cs.length := by
          have key : ∀ (l : List Field) (o tt : Nat) (q : Sh), shFields rec P l o tt = some q → o ≤ tt := by
            intro l
            induction l with
            | nil =>
              intro o tt q hq
              rw [shFields] at hq
              split at hq
              · rename_i hb; exact Nat.le_of_eq (Nat.eq_of_beq_eq_true hb)
              · cases hq
            | cons f' l' ih' =>
              intro o tt q hq
              rw [shFields] at hq
              split at hq
              · split at hq
                · rename_i h4
                  have := ih' _ _ _ h4
                  omega
                · cases hq
              · cases hq
          have := key _ _ _ _ h2
          omega
        refine ⟨(cs.drop off).take (P.cellsOf f.type), cs.drop (off + P.cellsOf f.type), ?_, ?_, ih _ _ h1 _ _ _ hx1, ?_⟩
        · rw [← List.drop_drop, List.take_append_drop]
        · rw [List.length_take, List.length_drop]; omega
        · exact shFields_sound ih l _ total r1 cs h2 hle hl (fun f' hf' => hx f' (List.mem_cons_of_mem _ hf'))
      · cases h
    · cases h

theorem rep_sound {s : Sh} {c : Nat} (cs : List Value) : ∀ (k i n : Nat), i + k = n → cs.length = n * c →
    (∀ j, j < n → s.holds W ((cs.drop (j * c)).take c)) → (s.rep c k).holds W (cs.drop (i * c))
  | 0, i, n, hi, hl, _ => by
    show cs.drop (i * c) = []
    rw [List.drop_eq_nil_iff, hl, show n = i by omega]
    exact Nat.le_refl _
  | k + 1, i, n, hi, hl, hx => by
    have := Nat.mul_le_mul_right c (show i + 1 ≤ n by omega)
    rw [Nat.add_mul] at this
    refine ⟨(cs.drop (i * c)).take c, cs.drop ((i + 1) * c), ?_, ?_, hx i (by omega), rep_sound cs k (i + 1) n (by omega) hl hx⟩
    · rw [Nat.add_mul, Nat.one_mul, ← List.drop_drop, List.take_append_drop]
    · rw [List.length_take, List.length_drop]; omega

theorem shOf_sound : ∀ (fuel : Nat) (t : TypeId) (s : Sh), shOf P fuel t = some s → ∀ (m : Nat) (cs : List Value) (x : DataW H × List MemPlace), DataW.trod enc P W base spare held m t cs = some x → s.holds W cs
  | 0, t, s, h, m, cs, x, hx => by cases h; exact trivial
  | n + 1, t, s, h, m, cs, x, hx => by
    rw [shOf] at h
    split at h
    · rename_i ht
      cases h
      obtain ⟨b, h1, _⟩ := DataW.trod_bool ht hx
      exact ⟨b, h1⟩
    · rename_i ht
      cases h
      obtain ⟨b, h1, _, h2⟩ := DataW.trod_int ht hx
      exact ⟨b, h1, h2⟩
    · rename_i ht
      cases h
      obtain ⟨b, h1, _, h2⟩ := DataW.trod_string ht hx
      exact ⟨b, h1, h2⟩
    · rename_i ht
      simp only [Option.map_eq_some_iff] at h
      obtain ⟨s', hs', rfl⟩ := h
      rcases DataW.trod_pointer ht hx with ⟨h1, _⟩ | ⟨a, cs', y, n', _, h1, _, hc, h2⟩
      · exact .inl h1
      · obtain ⟨_, hcl, hat⟩ := World.cells?_some hc
        exact .inr ⟨a, cs', h1, hcl, hat, shOf_sound n _ _ hs' _ _ _ h2⟩
    · rename_i ht
      simp only [Option.map_eq_some_iff] at h
      obtain ⟨s', hs', rfl⟩ := h
      rcases Deep.open_slice ht hx with ⟨h1, _⟩ | ⟨a, len, cap, k, n', D, Pl, hcs, hb, hl, hm, hmm, _, hi⟩
      · exact .inl h1
      · refine .inr ⟨a, len, cap, hcs, hl, hm, fun i hil => ?_⟩
        have hlk : len ≤ k := by rw [hmm]; split <;> omega
        obtain ⟨c, hc, hd⟩ := hi i (by omega)
        obtain ⟨_, hcl, hat⟩ := World.cells?_some hc
        refine ⟨c, hcl, fun j hj => ?_, shOf_sound n _ _ hs' _ _ _ hd⟩
        rw [← hat j hj, Go.Deep.add_add]
    · rename_i ht
      obtain ⟨xs, n', _, _, hcl, hxl, hf⟩ := DataW.trod_struct ht hx
      have := shFields_sound (enc := enc) (base := base) (spare := spare) (held := held) (n := n') (fun t' s' hs' m' cs' x' hx' => shOf_sound n t' s' hs' m' cs' x' hx') _ 0 (P.cellsOf t) s cs h (Nat.zero_le _) hcl ?_
      · simpa using this
      · intro f hf'
        obtain ⟨i, hi, hif⟩ := List.getElem_of_mem hf'
        have h1 := hf i f (by rw [← hif]; simp at hi; simp [hi])
        rw [h1]
        have : i < xs.length := by rw [hxl]; simpa using hi
        exact ⟨_, List.getElem?_eq_getElem this⟩
    · rename_i k e ht
      split at h
      · rename_i hb
        have hk := Nat.eq_of_beq_eq_true hb
        simp only [Option.map_eq_some_iff] at h
        obtain ⟨s', hs', rfl⟩ := h
        obtain ⟨xs, n', _, _, hcl, hxl, hf⟩ := DataW.trod_array ht hx
        have := rep_sound (W := W) (s := s') (c := P.cellsOf e) cs k 0 k (by omega) (by rw [hcl, hk]) ?_
        · simpa using this
        · intro j hj
          have h1 := hf j hj
          rw [List.getElem?_eq_getElem (show j < xs.length by omega)] at h1
          exact shOf_sound n _ _ hs' _ _ _ h1
      · cases h
    · cases h; exact trivial
end

def isAgg (P : Program) (t : TypeId) : Bool :=
  match P.underlying t with
  | some (.struct _) => true
  | some (.array _ _) => true
  | _ => false
def isOne (P : Program) (t : TypeId) : Bool :=
  match P.underlying t with
  | some .bool => true
  | some (.int _) => true
  | some .string => true
  | some (.slice _) => true
  | some (.pointer _) => true
  | _ => false

/-- An argument's cells, by its type's shape. -/
theorem open_arg {H : Type} {enc : TypeId × Value → H} {P : Program} {W : World} {base : Nat} {spare : Nat → Bool} {held : Bool} {r : Reach} {b0 : Nat} {t : TypeId} {v : Value} {d : DataW H} {p : List MemPlace} {s : Sh} (fuel : Nat)
    (hs : shOf P fuel t = some s) (hv : Value.okWide P W r b0 t v) (h : DataW.Trod enc P W base spare held t v d p) : ∃ cs, s.holds W cs ∧ (isAgg P t = true → v = .agg cs.toArray) ∧ (isOne P t = true → cs = [v]) := by
  obtain ⟨m, hm⟩ := h
  refine ⟨_, shOf_sound fuel t s hs m _ _ hm, fun ha => ?_, fun ho => ?_⟩
  · unfold isAgg at ha
    simp only [Value.okWide] at hv
    split at ha
    · rename_i ht
      rw [ht] at hv
      cases v <;> simp_all [Value.cells]
    · rename_i ht
      rw [ht] at hv
      cases v <;> simp_all [Value.cells]
    · cases ha
  · unfold isOne at ho
    simp only [Value.okWide] at hv
    split at ho
    all_goals first
      | (rename_i ht; rw [ht] at hv; cases v <;> simp_all [Value.cells, Cell.okWide, Cell.ok])
      | cases ho

theorem list_of {α : Type} (Q : Nat → α → Prop) : ∀ n : Nat, (∀ i, i < n → ∃ x, Q i x) → ∃ l : List α, l.length = n ∧ ∀ i x, l[i]? = some x → Q i x
  | 0, _ => ⟨[], rfl, fun i x h => by simp at h⟩
  | n + 1, h => by
    obtain ⟨l, hl, hq⟩ := list_of Q n fun i hi => h i (by omega)
    obtain ⟨x, hx⟩ := h n (by omega)
    refine ⟨l ++ [x], by simp [hl], fun i y hy => ?_⟩
    rcases getElem?_append_one hy with ⟨_, h1⟩ | ⟨rfl, rfl⟩
    · exact hq i y h1
    · rw [hl]; exact hx

theorem flatMap_get {α : Type} (f : α → List Value) (sz : Nat) (hf : ∀ x, (f x).length = sz) (l : List α) (i j : Nat) (x : α) (hx : l[i]? = some x) (hj : j < sz) : (l.flatMap f)[i * sz + j]? = (f x)[j]? := by
  rw [← flatMap_at f sz hf l i x hx, List.getElem?_take, if_pos hj, List.getElem?_drop]

/-- A slice's elements, gathered. -/
theorem slice_of {α : Type} {W : World} {sz : Nat} (f : α → List Value) (hf : ∀ x, (f x).length = sz) (hsz : 0 < sz) (Q : α → Prop) {e : Sh} (hQ : ∀ c, c.length = sz → e.holds W c → ∃ x, c = f x ∧ Q x) {cs : List Value} (h : (Sh.slice sz e).holds W cs) :
    ∃ (a : Option Addr) (l : List α) (cap : Nat), cs = [.slice a l.length cap] ∧ l.length ≤ maxLen ∧ l.length ≤ cap ∧ cap ≤ maxLen ∧ SliceAt (gOf W) a l.length sz (l.flatMap f) ∧ ∀ x ∈ l, Q x := by
  rcases h with h | ⟨a, len, cap, hcs, hl, hm, hi⟩
  · exact ⟨none, [], 0, h, Nat.zero_le _, Nat.zero_le _, Nat.zero_le _, ⟨by simp, fun h => by simp at h⟩, by simp⟩
  · obtain ⟨l, hll, hq⟩ := list_of (fun i (x : α) => (∀ j, j < sz → W.cell? (a.add (i * sz + j)) = (f x)[j]?) ∧ Q x) len fun i hil => by
      obtain ⟨c, hc, hat, he⟩ := hi i hil
      obtain ⟨x, rfl, hx⟩ := hQ c hc he
      exact ⟨x, hat, hx⟩
    subst hll
    refine ⟨some a, l, cap, hcs, by omega, hl, hm, ⟨flatMap_len f sz hf l, fun h0 => ⟨a, rfl, gOf_at ?_ ?_⟩⟩, fun x hx => ?_⟩
    · intro k hk
      rw [flatMap_len f sz hf] at hk
      have h1 : k / sz < l.length := Nat.div_lt_of_lt_mul (by rw [Nat.mul_comm]; exact hk)
      have h2 : k % sz < sz := Nat.mod_lt _ hsz
      have h3 : k = k / sz * sz + k % sz := by rw [Nat.mul_comm]; exact (Nat.div_add_mod k sz).symm
      rw [h3, (hq _ _ (List.getElem?_eq_getElem h1)).1 _ h2, flatMap_get f sz hf l _ _ _ (List.getElem?_eq_getElem h1) h2]
    · rw [flatMap_len f sz hf]
      exact Nat.mul_pos h0 hsz
    · obtain ⟨i, hi', rfl⟩ := List.getElem_of_mem hx
      exact (hq i _ (List.getElem?_eq_getElem hi')).2

def eqL {α : Type} (f : α → α → Bool) : List α → List α → Bool
  | [], [] => true
  | x :: l, y :: m => f x y && eqL f l m
  | _, _ => false

theorem eqL_len {α : Type} {f : α → α → Bool} : ∀ {l m : List α}, l.length ≠ m.length → eqL f l m = false
  | [], [], h => absurd rfl h
  | [], _ :: _, _ => rfl
  | _ :: _, [], _ => rfl
  | x :: l, y :: m, h => by
    rw [eqL, eqL_len (l := l) (m := m) (by simpa using h), Bool.and_false]
theorem eqL_bad {α : Type} {f : α → α → Bool} : ∀ {l m : List α} {k : Nat} {x y : α}, l[k]? = some x → m[k]? = some y → f x y = false → eqL f l m = false
  | [], _, k, x, y, h, _, _ => by simp at h
  | _ :: _, [], k, x, y, _, h, _ => by simp at h
  | a :: l, b :: m, 0, x, y, h1, h2, h3 => by
    simp at h1 h2
    subst h1; subst h2
    rw [eqL, h3, Bool.false_and]
  | a :: l, b :: m, k + 1, x, y, h1, h2, h3 => by
    rw [eqL, eqL_bad (l := l) (m := m) (k := k) (by simpa using h1) (by simpa using h2) h3, Bool.and_false]
theorem eqL_good {α : Type} {f : α → α → Bool} : ∀ {l m : List α}, l.length = m.length → (∀ (k : Nat) x y, l[k]? = some x → m[k]? = some y → f x y = true) → eqL f l m = true
  | [], [], _, _ => rfl
  | [], _ :: _, h, _ => by simp at h
  | _ :: _, [], h, _ => by simp at h
  | a :: l, b :: m, h, hx => by
    rw [eqL, hx 0 a b rfl rfl, eqL_good (by simpa using h) (fun k x y h1 h2 => hx (k + 1) x y (by simpa using h1) (by simpa using h2))]
    rfl

theorem vbe {c d : Bool} (h : d = c) : SV.v (.bool c) = .v (.bool d) := by rw [h]

/-- One round on: what held below k holds below k + 1. -/
theorem eq_next {α : Type} {f : α → α → Bool} {l m : List α} {k : Nat} {x y : α} (h : ∀ (i : Nat) u v, i < k → l[i]? = some u → m[i]? = some v → f u v = true) (hx : l[k]? = some x) (hy : m[k]? = some y) (hf : f x y = true) :
    ∀ (i : Nat) u v, i < k + 1 → l[i]? = some u → m[i]? = some v → f u v = true := by
  intro i u v hi hu hv
  by_cases hik : i < k
  · exact h i u v hik hu hv
  · have : i = k := by omega
    subst this
    rw [hx] at hu
    rw [hy] at hv
    cases hu
    cases hv
    exact hf
theorem lt_some {α : Type} {l : List α} {k : Nat} (h : k < l.length) : ∃ x, l[k]? = some x := ⟨l[k], List.getElem?_eq_getElem h⟩

end Go.Sx
