/- A symbolic executor of my own, second design, part 6: a region whose order is drawn: the proof. Conditions: none; it speaks of any program. -/
import Derived.Test.YtfagdcpfebghoaaDoorTy5
namespace Go.Sx

section
variable {P : Program} {ops : Array Oper} {π : List DOp} {ds : List Nat}

mutual
theorem on_and {p q : Nat → Bool} : ∀ x : SV, x.on p = true → x.on q = true → x.on (fun k => p k && q k) = true
  | .junk, _, _ => rfl
  | .v _, _, _ => rfl
  | .ptr k o, h1, h2 => by simp only [SV.on] at *; simp [h1, h2]
  | .slc k o a b, h1, h2 => by simp only [SV.on] at *; simp [h1, h2]
  | .mp k, h1, h2 => by simp only [SV.on] at *; simp [h1, h2]
  | .fn f a b, h1, h2 => by
    simp only [SV.on, Bool.and_eq_true] at *
    exact ⟨onL_and a h1.1 h2.1, onL_and b h1.2 h2.2⟩
  | .iface t x, h1, h2 => by simp only [SV.on] at *; exact on_and x h1 h2
  | .agg l, h1, h2 => by simp only [SV.on] at *; exact onL_and l h1 h2
  | .tup l, h1, h2 => by simp only [SV.on] at *; exact onL_and l h1 h2
theorem onL_and {p q : Nat → Bool} : ∀ l : List SV, onL p l = true → onL q l = true → onL (fun k => p k && q k) l = true
  | [], _, _ => rfl
  | x :: l, h1, h2 => by
    simp only [onL, Bool.and_eq_true] at *
    exact ⟨on_and x h1.1 h2.1, onL_and l h1.2 h2.2⟩
end
theorem on_imp {p q : Nat → Bool} {n : Nat} {x : SV} (h1 : x.on p = true) (h2 : x.sc n = true) (h : ∀ k, k < n → p k = true → q k = true) : x.on q = true := by
  rw [on_sc] at h2
  refine on_mono (fun k hk => ?_) x (on_and x h1 h2)
  simp only [Bool.and_eq_true, decide_eq_true_eq] at hk
  exact h k hk.2 hk.1
theorem con_imp {p q : Nat → Bool} {n : Nat} {c : Chunk} (h1 : c.on p = true) (h2 : scC n c = true) (h : ∀ k, k < n → p k = true → q k = true) : c.on q = true := by
  cases c with
  | cells ty l =>
    have h2' : scL n l = true := h2
    rw [onL_sc] at h2'
    refine onL_mono (fun k hk => ?_) l (onL_and l h1 h2')
    simp only [Bool.and_eq_true, decide_eq_true_eq] at hk
    exact h k hk.2 hk.1
  | _ => rfl
theorem scC_of {L : List Chunk} (h : scH L) {k : Nat} {c : Chunk} (hk : L[k]? = some c) : scC L.length c = true := by
  cases c with
  | cells ty l => exact h k ty l hk
  | _ => rfl

theorem pair_or (D : DOk P ops π ds) {u d : DOp} (hu : u ∈ π) (hd : d ∈ π) (hne : u ≠ d) : ordOk u d = true ∨ ordOk d u = true := by
  have key : ∀ l : List DOp, ordAll l = true → u ∈ l → d ∈ l → ordOk u d = true ∨ ordOk d u = true := by
    intro l
    induction l with
    | nil => intro _ h; simp at h
    | cons x l ih =>
      intro h h1 h2
      rw [ordAll, Bool.and_eq_true, List.all_eq_true] at h
      rcases List.mem_cons.1 h1 with h1 | h1 <;> rcases List.mem_cons.1 h2 with h2 | h2
      · exact absurd (h1.trans h2.symm) hne
      · rw [h1]; exact .inl (h.1 d h2)
      · rw [h2]; exact .inr (h.1 u h1)
      · exact ih h.2 h1 h2
  exact key π D.ord hu hd

theorem ord_light {d1 d2 : DOp} (h : ordOk d1 d2 = true) (hl : d2.x.x.light = true) {t : Nat} (ht : d2.x.dst = some t) : t ∉ d1.ment := by
  unfold ordOk at h
  rw [ht] at h
  simp only [Bool.and_eq_true, hl] at h
  have := h.1.2
  simpa using this
theorem ord_heavyW {d1 d2 : DOp} (h : ordOk d1 d2 = true) {t : Nat} (ht : d2.x.dst = some t) (hm : t ∈ d1.ment) : d1.i ∈ d2.anc := by
  unfold ordOk at h
  rw [ht] at h
  simp only [Bool.and_eq_true, Bool.or_eq_true] at h
  rcases h.1.2 with h1 | h1
  · simp only [Bool.not_eq_true', List.contains_eq_mem, decide_eq_false_iff_not] at h1; exact absurd hm h1
  · simpa using h1.2
theorem ord_arg {d1 d2 : DOp} (h : ordOk d1 d2 = true) (hl : d1.x.x.light = true) {t : Nat} (ht : d1.x.dst = some t) (hm : t ∈ d2.args) : d1.i ∈ d2.anc := by
  unfold ordOk at h
  rw [ht] at h
  simp only [Bool.and_eq_true, Bool.or_eq_true, hl] at h
  rcases h.2 with (h1 | h1) | h1
  · simp at h1
  · simp only [Bool.not_eq_true', List.contains_eq_mem, decide_eq_false_iff_not] at h1; exact absurd hm h1
  · simpa using h1
theorem ord_heavy {d1 d2 : DOp} (h : ordOk d1 d2 = true) (hl : d1.x.x.light = false) : d1.i ∈ d2.anc := by
  unfold ordOk at h
  simp only [Bool.and_eq_true, Bool.or_eq_true, hl] at h
  rcases h.1.1 with h1 | h1
  · cases h1
  · simpa using h1

theorem xoper_spec {o : Oper} {X : XOper} (h : xoper P ops o = some X) : xop P o.op = some X.x ∧ guardOf ops o.guard = some X.guard ∧ X.dst = o.dst := by
  unfold xoper at h
  split at h
  · rename_i x hx
    split at h
    · rename_i g hg
      cases h
      exact ⟨hx, hg, rfl⟩
    · cases h
  · cases h

def goB (fr : List SV) (d : DOp) : Option Bool :=
  match d.x.guard with
  | none => some true
  | some (t, want) => match get fr t with
    | .v (.bool b) => some (b == want)
    | .v (.tuple _) => some false
    | _ => none

theorem dStep_goB {d : DOp} {acc : List Acc} {fr : List SV} {L : List Chunk} {g : G} {next : List Acc → List SV → List Chunk → G → Prop} {K : KT} (h : dStep P ds d acc fr L g next K) :
    (goB fr d = some true ∧ dRun P ds d acc fr L g next K) ∨ (goB fr d = some false ∧ dSkip d acc fr L g next) := by
  unfold dStep at h
  unfold goB
  split at h
  · rename_i hg; rw [hg]; exact .inl ⟨rfl, h⟩
  · rename_i t want hg
    rw [hg]
    simp only
    split at h
    · rename_i b hb
      try simp only [hb]
      rcases bsplit_elim h with ⟨rfl, h2⟩ | ⟨rfl, h2⟩
      · rw [force_eq, put_same _ _ _ hb (by simp)] at h2
        cases want
        · exact .inr ⟨rfl, h2⟩
        · exact .inl ⟨rfl, h2⟩
      · rw [force_eq, put_same _ _ _ hb (by simp)] at h2
        cases want
        · exact .inl ⟨rfl, h2⟩
        · exact .inr ⟨rfl, h2⟩
    · rename_i c hc
      exact .inr ⟨by rw [hc], h⟩
    · exact h.elim

theorem wanted_goB {o : Oper} {d : DOp} (hx : xoper P ops o = some d.x) {fr : List SV} {σ : Nat → Nat} {tmps : Array Value} {p : Nat → Bool} (hp : ∀ t ∈ gslot d.x, p t = true) (h : FR σ (selF p 0 fr) tmps) {b : Bool} (hb : goB fr d = some b) : Region.wanted o (yielded ops tmps) = b := by
  obtain ⟨-, hg, -⟩ := xoper_spec hx
  unfold goB at hb
  cases hd : d.x.guard with
  | none =>
    rw [hd] at hb hg
    simp only [Option.some.injEq] at hb
    rw [← hb]
    exact wanted_none hg
  | some q =>
    obtain ⟨t, want⟩ := q
    rw [hd] at hb hg
    rw [wanted_some hg]
    simp only at hb
    have hpt : p t = true := hp t (by simp [gslot, hd])
    have val : ∀ x, get fr t = x → x ≠ .junk → tmps.getD t undef = x.re σ := fun x hx hj => h.2 t x (by rw [get_selF, Nat.zero_add, if_pos hpt]; exact hx) hj
    split at hb
    · rename_i c hc
      rw [val _ hc (by simp)]
      simp only [Option.some.injEq] at hb
      rw [← hb]
      rfl
    · rename_i c hc
      rw [val _ hc (by simp)]
      simp only [Option.some.injEq] at hb
      rw [← hb]
      rfl
    · cases hb

theorem undL_iff {acc : List Acc} {listed : Array Bool} {k : Nat} : undL acc listed k = true ↔ ∀ x ∈ acc, x.made = some k → done listed x.i = true := by
  simp only [undL, Bool.not_eq_true', List.any_eq_false, Bool.and_eq_true, beq_iff_eq, Bool.not_eq_true', not_and, Bool.not_eq_false]
theorem undF_iff {pre : List DOp} {listed : Array Bool} {t : Nat} : undF pre listed t = true ↔ ∀ d ∈ pre, d.x.x.light = true → d.x.dst = some t → done listed d.i = true := by
  simp only [undF, Bool.not_eq_true', List.any_eq_false, Bool.and_eq_true, beq_iff_eq, Bool.not_eq_true', not_and, Bool.not_eq_false]
theorem vis_iff {acc : List Acc} {listed : Array Bool} {own : List Nat} {k : Nat} : vis acc listed own k = true ↔ undL acc listed k = true ∨ ∃ x ∈ acc, x.made = some k ∧ x.i ∈ own := by
  simp only [vis, Bool.or_eq_true, List.any_eq_true, Bool.and_eq_true, beq_iff_eq, List.contains_eq_mem, decide_eq_true_eq]

theorem vis_done {acc : List Acc} {listed : Array Bool} {own : List Nat} {k : Nat} (sep : ∀ x ∈ acc, ∀ y ∈ acc, ∀ k, x.made = some k → y.made = some k → x = y) (hd : ∀ i ∈ own, done listed i = true) (h : vis acc listed own k = true) : undL acc listed k = true := by
  rcases vis_iff.1 h with h | ⟨x, hx, hm, hi⟩
  · exact h
  · refine undL_iff.2 fun y hy hym => ?_
    rw [sep y hy x hx k hym hm]
    exact hd _ hi

theorem off_vis {acc : List Acc} {listed : Array Bool} {anc : List Nat} {k : Nat} (h : (!(madeOf (foes acc anc)).contains k) = true) : vis acc listed anc k = true := by
  rw [vis_iff]
  by_cases hu : undL acc listed k = true
  · exact .inl hu
  · right
    have : ¬ ∀ x ∈ acc, x.made = some k → done listed x.i = true := fun hh => hu (undL_iff.2 hh)
    simp only [Classical.not_forall] at this
    obtain ⟨x, hx, hm, hnd⟩ := this
    refine ⟨x, hx, hm, ?_⟩
    simp only [Bool.not_eq_true', List.contains_eq_mem, decide_eq_false_iff_not, madeOf, List.mem_filterMap, foes, List.mem_filter, not_exists, not_and] at h
    have := h x
    simp only [hx, true_and] at this
    refine Classical.byContradiction fun hn => this hn hm

theorem offS_on {ms : List Nat} {x : SV} (h : offS ms x = true) : x.on (fun k => !ms.contains k) = true := by
  cases ms with
  | nil =>
    have : ∀ x : SV, x.on (fun _ => true) = true := fun x => by
      have h := @on_sc
      exact on_mono (p := fun _ => true) (fun _ _ => rfl) x (by
        induction x using SV.rec (motive_2 := fun l => onL (fun _ => true) l = true) <;> simp_all [SV.on, onL])
    simpa using this x
  | cons m ms => exact h
theorem on_true : ∀ c : Chunk, c.on (fun _ => true) = true := by
  intro c
  cases c with
  | cells ty l =>
    refine onL_mem.2 fun x _ => ?_
    have := @offS_on [] x rfl
    simpa using this
  | _ => rfl
theorem offL_on {ms : List Nat} {L : List Chunk} (h : offL ms L = true) : ∀ (k : Nat) (c : Chunk), L[k]? = some c → c.on (fun k => !ms.contains k) = true := by
  intro k c hc
  cases ms with
  | nil => simpa using on_true c
  | cons m ms => exact List.all_eq_true.1 h c (List.mem_of_getElem? hc)

theorem LRec.move {d : DOp} {x : Acc} {acc acc' : List Acc} {listed listed' : Array Bool} {fr fr' : List SV} {L L' : List Chunk} {g g' : G} {o : Oper} {r : SV} (h : LRec P ops d x acc listed fr L g o r)
    (hment : ∀ t, t ∈ d.ment → get fr' t = get fr t) (hfl : fr'.length = fr.length) (hLl : L.length ≤ L'.length) (hlk : ∀ k, k ∈ x.looks → L'[k]? = L[k]?) (hmd : ∀ k, x.made = some k → L'[k]? = L[k]?) (hg : G.le g g')
    (hscL : scH L) (hvis : ∀ own k, k < L.length → vis acc listed own k = true → vis acc' listed' own k = true) (hy : ∀ y ∈ acc', ∀ k, k < L.length → y.made = some k → y ∈ acc) : LRec P ops d x acc' listed' fr' L' g' o r where
  opAt := h.opAt
  xo := h.xo
  jk := h.jk
  scR := sc_mono hLl _ h.scR
  dst t ht hl := by rw [hment t (by simp [DOp.ment, ht])]; exact h.dst t ht (by omega)
  onR := on_imp h.onR h.scR fun k hk => hvis _ k hk
  onC k c hm hc := by
    rw [hmd k hm] at hc
    exact con_imp (h.onC k c hm hc) (scC_of hscL hc) fun k hk => hvis _ k hk
  lk k hk := ⟨Nat.lt_of_lt_of_le (h.lk k hk).1 hLl, fun y hy' hm => (h.lk k hk).2 y (hy y hy' k (h.lk k hk).1 hm) hm⟩
  run σ a w h1 h2 := by
    have h1' : FR σ (selF (fun t => d.args.contains t) 0 fr) a.tmps := h1.sel hfl.symm fun t ht => ⟨ht, (hment t (by simp only [DOp.ment]; exact List.mem_append_right _ (by simpa using ht))).symm⟩
    have h2' : Reads g (selL (fun k => x.looks.contains k) 0 L) σ w := h2.sel hg fun k hk => ⟨hk, (hlk k (by simpa using hk)).symm⟩
    have := h.run σ a w h1' h2'
    cases hm : x.made with
    | none => rw [hm] at this; exact this
    | some k =>
      rw [hm] at this
      obtain ⟨hw, c, ob, v, hc, hrest⟩ := this
      exact ⟨hw, c, ob, v, by rw [hmd k hm]; exact hc, hrest⟩

end
end Go.Sx
