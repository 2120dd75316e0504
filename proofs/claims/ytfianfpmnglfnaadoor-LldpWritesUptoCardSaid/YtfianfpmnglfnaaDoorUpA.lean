/- Readings of small bulk: no string and no slice in them is long. Conditions: none; it speaks of any program. -/
import Derived.Test.YtfianfpmnglfnaaDoorRows
import Derived.Test.YtfianfpmnglfnaaDoorTypes
import Derived.Test.YtfianfpmnglfnaaDoorBaseD
namespace Go.Proofs.YtfianfpmnglfnaaDoor
open Go.Sx Go.ChangeShapes Go.WideShapes Go.Proofs.YtfianfpmnglfnaaDoor.Rows

theorem bulk_pos {H : Type} (d : DataW H) : 1 ≤ uptoBulk d := by
  cases d with
  | lit x => cases x <;> simp [uptoBulk]
  | _ => simp [uptoBulk]
theorem bulk_mem {H : Type} : ∀ {l : List (DataW H)} {d : DataW H}, d ∈ l → uptoBulk d ≤ uptoBulkAll l
  | x :: l, d, h => by
    rw [uptoBulkAll]
    rcases List.mem_cons.1 h with rfl | h
    · omega
    · have := bulk_mem h; omega
theorem bulk_len {H : Type} : ∀ l : List (DataW H), l.length ≤ uptoBulkAll l
  | [] => Nat.zero_le _
  | x :: l => by
    rw [uptoBulkAll, List.length_cons]
    have := bulk_pos x
    have := bulk_len l
    omega

/-- Cells of a shape, in which no string and no slice is longer than so many. -/
def HoldsN (N : Nat) (W : World) : Sh → List Value → Prop
  | .any, _ => True
  | .bool, _ => True
  | .int _, _ => True
  | .str, cs => ∃ s : ByteArray, cs = [.string s] ∧ s.size ≤ N
  | .ptr _ _, _ => True
  | .slice n e, cs => cs = [.slice none 0 0] ∨ ∃ a len cap, cs = [.slice (some a) len cap] ∧ len ≤ N ∧ ∀ i, i < len → ∃ c, c.length = n ∧ (∀ j, j < n → W.cell? (a.add (i * n + j)) = c[j]?) ∧ HoldsN N W e c
  | .fin, cs => cs = []
  | .fld n s r, cs => ∃ c d, cs = c ++ d ∧ c.length = n ∧ HoldsN N W s c ∧ HoldsN N W r d

section
variable {H : Type} {enc : TypeId × Value → H} {P : Program} {W : World} {base : Nat} {spare : Nat → Bool} {held : Bool} {N : Nat}

theorem shFields_N {rec : TypeId → Option Sh} {n : Nat}
    (ih : ∀ t s, rec t = some s → ∀ (m : Nat) cs x, DataW.trod enc P W base spare held m t cs = some x → uptoBulk x.1 ≤ N → HoldsN N W s cs) :
    ∀ (l : List Field) (off total : Nat) (s : Sh) (cs : List Value), shFields rec P l off total = some s → off ≤ cs.length → cs.length = total →
      (∀ f ∈ l, ∃ x, DataW.trod enc P W base spare held n f.type ((cs.drop f.offset).take (P.cellsOf f.type)) = some x ∧ uptoBulk x.1 ≤ N) → HoldsN N W s (cs.drop off)
  | [], off, total, s, cs, h, hoff, hl, _ => by
    rw [shFields] at h
    split at h
    · rename_i hb
      cases h
      have := Nat.eq_of_beq_eq_true hb
      show cs.drop off = []
      rw [List.drop_eq_nil_iff]
      omega
    · cases h
  | f :: l, off, total, s, cs, h, hoff, hl, hx => by
    rw [shFields] at h
    split at h
    · rename_i hb
      have hfo := Nat.eq_of_beq_eq_true hb
      split at h
      · rename_i s1 r1 h1 h2
        cases h
        obtain ⟨x, hx1, hx2⟩ := hx f (by simp)
        rw [hfo] at hx1
        have hle : off + P.cellsOf f.type ≤ cs.length := by
          have key : ∀ (l : List Field) (o tt : Nat) (q : Sh), shFields rec P l o tt = some q → o ≤ tt := by
            intro l
            induction l with
            | nil =>
              intro o tt q hq
              rw [shFields] at hq
              split at hq
              · rename_i hb; exact Nat.le_of_eq (Nat.eq_of_beq_eq_true hb)
              · cases hq
            | cons f' l' ih' =>
              intro o tt q hq
              rw [shFields] at hq
              split at hq
              · split at hq
                · rename_i h4
                  have := ih' _ _ _ h4
                  omega
                · cases hq
              · cases hq
          have := key _ _ _ _ h2
          omega
        refine ⟨(cs.drop off).take (P.cellsOf f.type), cs.drop (off + P.cellsOf f.type), ?_, ?_, ih _ _ h1 _ _ _ hx1 hx2, ?_⟩
        · rw [← List.drop_drop, List.take_append_drop]
        · rw [List.length_take, List.length_drop]; omega
        · exact shFields_N ih l _ total r1 cs h2 hle hl (fun f' hf' => hx f' (List.mem_cons_of_mem _ hf'))
      · cases h
    · cases h
theorem rep_N {s : Sh} {c : Nat} (cs : List Value) : ∀ (k i n : Nat), i + k = n → cs.length = n * c →
    (∀ j, j < n → HoldsN N W s ((cs.drop (j * c)).take c)) → HoldsN N W (s.rep c k) (cs.drop (i * c))
  | 0, i, n, hi, hl, _ => by
    show cs.drop (i * c) = []
    rw [List.drop_eq_nil_iff, hl, show n = i by omega]
    exact Nat.le_refl _
  | k + 1, i, n, hi, hl, hx => by
    have := Nat.mul_le_mul_right c (show i + 1 ≤ n by omega)
    rw [Nat.add_mul] at this
    refine ⟨(cs.drop (i * c)).take c, cs.drop ((i + 1) * c), ?_, ?_, hx i (by omega), rep_N cs k (i + 1) n (by omega) hl hx⟩
    · rw [Nat.add_mul, Nat.one_mul, ← List.drop_drop, List.take_append_drop]
    · rw [List.length_take, List.length_drop]; omega
theorem shOf_N : ∀ (fuel : Nat) (t : TypeId) (s : Sh), shOf P fuel t = some s → ∀ (m : Nat) (cs : List Value) (x : DataW H × List MemPlace), DataW.trod enc P W base spare held m t cs = some x → uptoBulk x.1 ≤ N → HoldsN N W s cs
  | 0, t, s, h, m, cs, x, hx, hN => by cases h; exact trivial
  | n + 1, t, s, h, m, cs, x, hx, hN => by
    rw [shOf] at h
    split at h
    · cases h; exact trivial
    · cases h; exact trivial
    · rename_i ht
      cases h
      obtain ⟨b, h1, rfl, _⟩ := DataW.trod_string ht hx
      refine ⟨b, h1, ?_⟩
      simp only [uptoBulk] at hN
      have : b.data.toList.length = b.size := by rw [Array.length_toList]; rfl
      omega
    · simp only [Option.map_eq_some_iff] at h
      obtain ⟨s', hs', rfl⟩ := h
      exact trivial
    · rename_i ht
      simp only [Option.map_eq_some_iff] at h
      obtain ⟨s', hs', rfl⟩ := h
      rcases Deep.open_slice ht hx with ⟨h1, _⟩ | ⟨a, len, cap, k, n', D, Pl, hcs, hb, hl, hm, hmm, rfl, hi⟩
      · exact .inl h1
      · have hlk : len ≤ k := by rw [hmm]; split <;> omega
        simp only [uptoBulk] at hN
        have hlen := bulk_len ((List.range len).map D)
        simp only [List.length_map, List.length_range] at hlen
        refine .inr ⟨a, len, cap, hcs, by omega, fun i hil => ?_⟩
        obtain ⟨c, hc, hd⟩ := hi i (by omega)
        obtain ⟨_, hcl, hat⟩ := World.cells?_some hc
        have hmem := bulk_mem (List.mem_map_of_mem (f := D) (List.mem_range.2 hil))
        refine ⟨c, hcl, fun j hj => ?_, shOf_N n _ _ hs' _ _ _ hd (by show uptoBulk (D i) ≤ N; omega)⟩
        rw [← hat j hj, Go.Deep.add_add]
    · rename_i ht
      obtain ⟨xs, n', _, rfl, hcl, hxl, hf⟩ := DataW.trod_struct ht hx
      simp only [uptoBulk] at hN
      have := shFields_N (enc := enc) (base := base) (spare := spare) (held := held) (N := N) (n := n') (fun t' s' hs' m' cs' x' hx' hN' => shOf_N n t' s' hs' m' cs' x' hx' hN') _ 0 (P.cellsOf t) s cs h (Nat.zero_le _) hcl ?_
      · simpa using this
      · intro f hf'
        obtain ⟨i, hi, hif⟩ := List.getElem_of_mem hf'
        have h1 := hf i f (by rw [← hif]; simp at hi; simp [hi])
        rw [h1]
        have hix : i < xs.length := by rw [hxl]; simpa using hi
        have hmem := bulk_mem (List.mem_map_of_mem (f := fun x => x.1) (List.getElem_mem hix))
        exact ⟨_, List.getElem?_eq_getElem hix, by omega⟩
    · rename_i k e ht
      split at h
      · rename_i hb
        have hk := Nat.eq_of_beq_eq_true hb
        simp only [Option.map_eq_some_iff] at h
        obtain ⟨s', hs', rfl⟩ := h
        obtain ⟨xs, n', _, rfl, hcl, hxl, hf⟩ := DataW.trod_array ht hx
        simp only [uptoBulk] at hN
        have := rep_N (N := N) (W := W) (s := s') (c := P.cellsOf e) cs k 0 k (by omega) (by rw [hcl, hk]) ?_
        · simpa using this
        · intro j hj
          have h1 := hf j hj
          have hix : j < xs.length := by omega
          rw [List.getElem?_eq_getElem hix] at h1
          have hmem := bulk_mem (List.mem_map_of_mem (f := fun x => x.1) (List.getElem_mem hix))
          exact shOf_N n _ _ hs' _ _ _ h1 (by omega)
      · cases h
    · cases h; exact trivial
end
end Go.Proofs.YtfianfpmnglfnaaDoor
