/- A symbolic executor of my own, second design, part 4: frames; marks of a region whose order is drawn. Conditions: none; it speaks of any program. -/
import Derived.Test.YtfagdcpfebghoaaDoorTy3
namespace Go.Sx

/-! ### Written out -/

def force : List SV → (List SV → Prop) → Prop
  | [], K => K []
  | x :: l, K => force l fun l' => K (x :: l')
theorem force_eq : ∀ (l : List SV) (K : List SV → Prop), force l K = K l
  | [], _ => rfl
  | _ :: l, _ => force_eq l _

def forceO (fr : List SV) (d : Option Nat) (v : SV) (K : List SV → Prop) : Prop :=
  match d with
  | none => K fr
  | some d => force (put fr d v) K
theorem forceO_eq (fr : List SV) (d : Option Nat) (v : SV) (K : List SV → Prop) : forceO fr d v K = K (putO fr d v) := by
  cases d <;> simp [forceO, putO, force_eq]

/-- A small number, as a numeral. -/
def numK (n : Nat) (K : Nat → Prop) : Prop :=
  match n with
  | 0 => K 0 | 1 => K 1 | 2 => K 2 | 3 => K 3 | 4 => K 4 | 5 => K 5 | 6 => K 6 | 7 => K 7 | 8 => K 8 | 9 => K 9 | 10 => K 10 | 11 => K 11 | 12 => K 12 | 13 => K 13 | 14 => K 14 | 15 => K 15 | 16 => K 16 | 17 => K 17 | 18 => K 18 | 19 => K 19 | 20 => K 20
  | n => K n
theorem numK_eq (n : Nat) (K : Nat → Prop) : numK n K = K n := by
  unfold numK
  split <;> rfl

def fR (r : SV) (K : SV → Prop) : Prop :=
  match r with
  | .agg l => force l fun l => K (.agg l)
  | .tup l => force l fun l => K (.tup l)
  | .junk => K .junk
  | .v x => K (.v x)
  | .ptr k o => numK k fun k => K (.ptr k o)
  | .slc k o n c => numK k fun k => K (.slc k o n c)
  | .mp k => numK k fun k => K (.mp k)
  | .fn f a b => K (.fn f a b)
  | .iface t x => K (.iface t x)
theorem fR_eq (r : SV) (K : SV → Prop) : fR r K = K r := by cases r <;> simp [fR, force_eq, numK_eq]

def fL : List Chunk → (List Chunk → Prop) → Prop
  | [], K => K []
  | .cells ty c :: l, K => force c fun c => fL l fun l => K (.cells ty c :: l)
  | .vals ty c :: l, K => fL l fun l => K (.vals ty c :: l)
  | .raw o :: l, K => fL l fun l => K (.raw o :: l)
  | .gone :: l, K => fL l fun l => K (.gone :: l)
theorem fL_eq : ∀ (l : List Chunk) (K : List Chunk → Prop), fL l K = K l
  | [], _ => rfl
  | .cells ty c :: l, K => by rw [fL, force_eq, fL_eq]
  | .vals ty c :: l, K => by rw [fL, fL_eq]
  | .raw o :: l, K => by rw [fL, fL_eq]
  | .gone :: l, K => by rw [fL, fL_eq]

def lenK : List Chunk → Nat → (Nat → Prop) → Prop
  | [], n, K => K n
  | _ :: l, n, K => lenK l (n + 1) K
theorem lenK_eq : ∀ (l : List Chunk) (n : Nat) (K : Nat → Prop), lenK l n K = K (n + l.length)
  | [], _, _ => rfl
  | _ :: l, n, K => by rw [lenK, lenK_eq]; congr 1; simp; omega

def newS (L : List Chunk) (c : Chunk) (K : Nat → List Chunk → Prop) : Prop := lenK L 0 fun n => numK n fun n => fL (L ++ [c]) fun L => K n L
theorem newS_eq (L : List Chunk) (c : Chunk) (K : Nat → List Chunk → Prop) : newS L c K = K L.length (L ++ [c]) := by
  simp only [newS, lenK_eq, numK_eq, fL_eq, Nat.zero_add]

theorem get_put {l : List SV} {i : Nat} {x : SV} (j : Nat) : get (put l i x) j = if i = j ∧ i < l.length then x else get l j := by
  induction l generalizing i j with
  | nil => simp [put, get]
  | cons y l ih =>
    cases i with
    | zero =>
      cases j with
      | zero => simp [put, get]
      | succ j => simp [put, get]
    | succ i =>
      cases j with
      | zero => simp [put, get]
      | succ j => simp [put, get, ih]

theorem put_length {l : List SV} {i : Nat} {x : SV} : (put l i x).length = l.length := by
  induction l generalizing i with
  | nil => rfl
  | cons y l ih => cases i <;> simp [put, ih]

theorem FR.put {σ : Nat → Nat} {fr : List SV} {tmps : Array Value} (h : FR σ fr tmps) (d : Nat) {r : SV} {v : Value} (hv : r ≠ .junk → v = r.re σ) : FR σ (put fr d r) (tmps.setIfInBounds d v) := by
  refine ⟨by rw [put_length, h.1]; simp, fun i x hx hj => ?_⟩
  rw [get_put] at hx
  by_cases hd : d = i ∧ d < fr.length
  · obtain ⟨rfl, hlt⟩ := hd
    rw [if_pos ⟨rfl, hlt⟩] at hx
    subst hx
    have := h.1
    rw [← hv hj]
    simp [show d < tmps.size by omega]
  · rw [if_neg hd] at hx
    rw [← h.2 i x hx hj]
    by_cases hdi : d = i
    · subst hdi
      have : ¬ d < tmps.size := by have := h.1; omega
      simp [this]
    · simp [Array.getElem?_setIfInBounds_ne hdi]


theorem get_putO (fr : List SV) (d : Option Nat) (v : SV) (t : Nat) : get (putO fr d v) t = if d = some t ∧ t < fr.length then v else get fr t := by
  cases d with
  | none => simp [putO]
  | some d =>
    rw [putO, get_put]
    by_cases h : d = t
    · subst h; simp
    · simp [h]
theorem putO_length (fr : List SV) (d : Option Nat) (v : SV) : (putO fr d v).length = fr.length := by
  cases d <;> simp [putO, put_length]

section
variable {P : Program} {ops : Array Oper}
theorem wanted_none {o : Oper} {tmps : Array Value} (h : guardOf ops o.guard = some none) : Region.wanted o (yielded ops tmps) = true := by
  cases hg : o.guard with
  | none => simp [Region.wanted, hg]
  | some p =>
    obtain ⟨j, b⟩ := p
    rw [hg] at h
    simp only [guardOf] at h
    split at h <;> simp at h

theorem wanted_some {o : Oper} {tmps : Array Value} {t : Nat} {want : Bool} (h : guardOf ops o.guard = some (some (t, want))) :
    Region.wanted o (yielded ops tmps) = (match tmps.getD t undef with | .bool b => b == want | _ => false) := by
  cases hg : o.guard with
  | none => rw [hg] at h; simp [guardOf] at h
  | some p =>
    obtain ⟨j, b⟩ := p
    rw [hg] at h
    simp only [guardOf] at h
    cases hd : (ops[j]?).bind (·.dst) with
    | none => rw [hd] at h; simp at h
    | some t' =>
      rw [hd] at h
      simp only [Option.some.injEq, Prod.mk.injEq] at h
      obtain ⟨rfl, rfl⟩ := h
      simp only [Region.wanted, hg, yielded, hd, Option.bind_some, Array.getD_eq_getD_getElem?]
      cases ht : tmps[t']? with
      | none => simp [undef]
      | some v => cases v <;> simp

theorem getD_true_false {listed : Array Bool} {i : Nat} (hi : i < listed.size) : listed.getD i true = listed.getD i false := by
  simp [hi]

end
theorem wpOp_mono {P : Program} {ops : Array Oper} {Q : Exit → Act → World → Prop} {i : Nat} {K K' : Act → World → Prop} {a : Act} {w : World} (h : ∀ a w, K a w → K' a w) (hh : wpOp P ops Q i K a w) : wpOp P ops Q i K' a w := by
  unfold wpOp at *
  split at hh
  · exact h _ _ hh
  · split at hh
    · rename_i hw
      simp only [hw, if_true]
      rcases hh with h1 | h1
      · exact .inl (Oper.wp_mono h h1)
      · exact .inr h1
    · rename_i hw
      simp only [hw]
      exact h _ _ hh

/-- A region's orders, by an invariant of the marks. -/
theorem wpAny_inv {P : Program} {ops : Array Oper} {Q : Exit → Act → World → Prop} (I : Array Bool → Act → World → Prop)
    (step : ∀ listed a w, listed.size = ops.size → I listed a w → ∀ i oi, ops[i]? = some oi → listed.getD i false = false → (∀ e ∈ oi.after, Region.binds .any e = true → listed.getD e.on false = true) → wpOp P ops Q i (I (listed.setIfInBounds i true)) a w)
    (back : ∀ j oj, ops[j]? = some oj → ∀ e ∈ oj.after, Region.binds .any e = true → e.on < j)
    (fin : ∀ listed a w, listed.size = ops.size → (∀ i, i < ops.size → listed.getD i false = true) → I listed a w → Q .normal a w) :
    ∀ (m : Nat) (rem : List Nat) (listed : Array Bool) (a : Act) (w : World), rem.length = m → rem.Nodup → (∀ i, i < ops.size → (listed.getD i false = false ↔ i ∈ rem)) → listed.size = ops.size → I listed a w → wpAny P .any ops Q m listed a w := by
  have done : ∀ listed : Array Bool, listed.size = ops.size → Region.ready .any ops listed = [] → ∀ i, i < ops.size → listed.getD i false = true := by
    intro listed hsz hr i
    induction i using Nat.strongRecOn with
    | _ i ih =>
      intro hi
      cases hx : listed.getD i false with
      | true => rfl
      | false =>
        exfalso
        have hget : ops[i]? = some ops[i] := by simp [hi]
        have : i ∈ Region.ready .any ops listed := mem_ready.2 ⟨by rw [getD_true_false (by omega)]; exact hx, _, hget, fun e he hb => ih e.on (back i _ hget e he hb) (by have := back i _ hget e he hb; omega)⟩
        rw [hr] at this
        simp at this
  intro m
  induction m with
  | zero =>
    intro rem listed a w hm _ hmem hsz hI
    have hall : ∀ i, i < ops.size → listed.getD i false = true := by
      intro i hi
      cases hx : listed.getD i false with
      | true => rfl
      | false =>
        have := (hmem i hi).1 hx
        rw [List.length_eq_zero_iff.1 hm] at this
        simp at this
    refine ⟨?_, fin listed a w hsz hall hI⟩
    rw [List.eq_nil_iff_forall_not_mem]
    intro i hi
    obtain ⟨h0, oi, hoi, -⟩ := mem_ready.1 hi
    have hil : i < ops.size := (Array.getElem?_eq_some_iff.1 hoi).1
    rw [getD_true_false (by omega), hall i hil] at h0
    cases h0
  | succ m ih =>
    intro rem listed a w hm hnd hmem hsz hI
    refine ⟨fun hr => fin listed a w hsz (done listed hsz hr) hI, fun i hi => ?_⟩
    obtain ⟨h0, oi, hoi, hall⟩ := mem_ready.1 hi
    have hil : i < ops.size := (Array.getElem?_eq_some_iff.1 hoi).1
    rw [getD_true_false (by omega)] at h0
    have hir := (hmem i hil).1 h0
    refine wpOp_mono (fun a' w' h' => ih (rem.erase i) _ a' w' ?_ (hnd.erase i) ?_ (by simpa using hsz) h') (step listed a w hsz hI i oi hoi h0 hall)
    · rw [List.length_erase_of_mem hir]; omega
    · intro j hj
      rw [hnd.mem_erase_iff]
      by_cases hij : i = j
      · subst hij
        have : (listed.setIfInBounds i true).getD i false = true := by simp [show i < listed.size by omega]
        rw [this]
        simp
      · rw [getD_set_ne false hij, hmem j hj]
        exact ⟨fun h => ⟨fun e => hij e.symm, h⟩, fun h => h.2⟩

theorem FR.sel {σ : Nat → Nat} {fr fr' : List SV} {tmps : Array Value} {p q : Nat → Bool} (h : FR σ (selF p 0 fr) tmps) (hl : fr'.length = fr.length) (hq : ∀ t, q t = true → p t = true ∧ get fr' t = get fr t) : FR σ (selF q 0 fr') tmps := by
  refine ⟨by rw [selF_length, hl, ← h.1, selF_length], fun i x hx hj => ?_⟩
  rw [get_selF, Nat.zero_add] at hx
  split at hx
  · rename_i hqi
    refine h.2 i x ?_ hj
    rw [get_selF, Nat.zero_add, if_pos (hq i hqi).1, ← (hq i hqi).2]
    exact hx
  · exact absurd hx.symm hj
theorem FR.of_sel {σ : Nat → Nat} {fr : List SV} {tmps : Array Value} {p : Nat → Bool} (h : FR σ (selF p 0 fr) tmps) (hp : ∀ t, p t = true) : FR σ fr tmps := by
  refine ⟨by rw [← h.1, selF_length], fun i x hx hj => h.2 i x ?_ hj⟩
  rw [get_selF, if_pos (hp _)]
  exact hx
theorem FR.to_sel {σ : Nat → Nat} {fr : List SV} {tmps : Array Value} (h : FR σ fr tmps) (p : Nat → Bool) : FR σ (selF p 0 fr) tmps := by
  refine ⟨by rw [selF_length]; exact h.1, fun i x hx hj => ?_⟩
  rw [get_selF] at hx
  split at hx
  · exact h.2 i x hx hj
  · exact absurd hx.symm hj

theorem Reads.sel {g g' : G} {σ : Nat → Nat} {L L' : List Chunk} {w : World} {p q : Nat → Bool} (h : Reads g (selL p 0 L) σ w) (hg : G.le g' g) (hq : ∀ k, q k = true → p k = true ∧ L'[k]? = L[k]?) : Reads g' (selL q 0 L') σ w := by
  refine ⟨fun b o hb => h.im b o (hg b o hb), fun k c o hk ho => h.lo k c o ?_ ho⟩
  rw [get_selL, Nat.zero_add] at hk ⊢
  split at hk
  · rename_i hqk
    rw [if_pos (hq k hqk).1, ← (hq k hqk).2]
    exact hk
  · simp only [Option.map_eq_some_iff] at hk
    obtain ⟨_, _, rfl⟩ := hk
    cases ho

theorem selL_id {p : Nat → Bool} {L : List Chunk} (hp : ∀ k, p k = true) : selL p 0 L = L := by
  apply List.ext_getElem?
  intro k
  rw [get_selL, if_pos (hp _)]
theorem selL_less {p q : Nat → Bool} {L : List Chunk} (h : ∀ k, p k = true → q k = true) : Less (selL p 0 L) (selL q 0 L) := by
  refine ⟨by rw [selL_length, selL_length], fun k => ?_⟩
  rw [get_selL, get_selL, Nat.zero_add]
  by_cases hp : p k = true
  · rw [if_pos hp, if_pos (h k hp)]; exact .inr rfl
  · rw [if_neg hp]
    cases hk : L[k]? with
    | none => right; split <;> simp
    | some c => left; simp

end Go.Sx
