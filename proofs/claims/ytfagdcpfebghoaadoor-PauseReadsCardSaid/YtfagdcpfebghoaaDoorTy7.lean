/- A symbolic executor of my own, second design, part 7: a region whose order is drawn: its steps. Conditions: none; it speaks of any program. -/
import Derived.Test.YtfagdcpfebghoaaDoorTy6
namespace Go.Sx

section
variable {P : Program} {ops : Array Oper} {π : List DOp} {ds : List Nat} {σ0 : Nat → Nat} {L0 : List Chunk} {g0 : G} {w0 : World} {df : List Deferred} {K : KT} {listed : Array Bool}

theorem nodup_ne {pre post : List DOp} {d u : DOp} (h : ((pre ++ post).map (·.i)).Nodup) (hd : d ∈ pre) (hu : u ∈ post) : d.i ≠ u.i := by
  rw [List.map_append, List.nodup_append] at h
  exact h.2.2 _ (List.mem_map_of_mem hd) _ (List.mem_map_of_mem hu)

theorem idx_inj {u d : DOp} : ∀ {l : List DOp}, (l.map (·.i)).Nodup → u ∈ l → d ∈ l → u.i = d.i → u = d := by
  intro l
  induction l with
  | nil => intro _ h; simp at h
  | cons x l ih =>
    intro h h1 h2 e
    rw [List.map_cons, List.nodup_cons] at h
    rcases List.mem_cons.1 h1 with h1 | h1 <;> rcases List.mem_cons.1 h2 with h2 | h2
    · rw [h1, h2]
    · exfalso; refine h.1 ?_; rw [← h1, e]; exact List.mem_map_of_mem h2
    · exfalso; refine h.1 ?_; rw [← h2, ← e]; exact List.mem_map_of_mem h1
    · exact ih h.2 h1 h2 e

theorem gslot_args {d : DOp} {t : Nat} (h : t ∈ gslot d.x) : t ∈ d.args := List.mem_append_left _ h
theorem slots_args {d : DOp} {t : Nat} (h : t ∈ d.x.x.slots) : t ∈ d.args := List.mem_append_right _ h

/-- The head of what is left joins those not done. -/
theorem absorb {pre post : List DOp} {d : DOp} {acc : List Acc} {fr : List SV} {L : List Chunk} {g : G} {σ : Nat → Nat} {a : Act} {w : World} (D : DOk P ops π ds)
    (I : DI P ops π ds σ0 L0 g0 w0 df K listed pre (d :: post) acc fr L g σ a w) (hl : d.x.x.light = true) :
    ∃ acc' fr' L', DI P ops π ds σ0 L0 g0 w0 df K listed (pre ++ [d]) post acc' fr' L' g σ a w := by
  have hdπ : d ∈ π := by rw [I.cut]; simp
  have hnd : done listed d.i = false := I.hpost d (by simp)
  obtain ⟨o, ho, hxo⟩ := D.get d hdπ
  obtain ⟨hxop, hguard, hdst⟩ := xoper_spec hxo
  have hment : ∀ u ∈ pre, ∀ t, d.x.dst = some t → t ∉ u.ment := fun u hu t ht => ord_light (ordAll_pair (by rw [← I.cut]; exact D.ord) hu (List.mem_cons_self)) hl ht
  have hown := D.own d hdπ hl
  have cut' : π = (pre ++ [d]) ++ post := by rw [I.cut]; simp
  -- what all cases share
  have fin : ∀ (y0 : Acc) (r : SV) (L' : List Chunk), y0.i = d.i → r ≠ .junk → r.sc L'.length = true → scH L' → dR P ds post (y0 :: acc) (putO fr d.x.dst r) L' g K →
      ((y0.made = none ∧ L' = L) ∨ (y0.made = some L.length ∧ ∃ c, L' = L ++ [c] ∧ c.here = true ∧ scC L.length c = true ∧ c.on (fun k => !(madeOf (foes acc d.anc)).contains k) = true)) →
      r.on (fun k => !(madeOf (foes acc d.anc)).contains k) = true → (∀ k ∈ y0.looks, k < L.length ∧ k ∉ madeOf (foes acc d.anc)) →
      (∀ (σ : Nat → Nat) (a : Act) (w : World), FR σ (selF (fun t => d.args.contains t) 0 fr) a.tmps → Reads g (selL (fun k => y0.looks.contains k) 0 L) σ w →
        match y0.made with
        | none => (Region.wanted o (yielded ops a.tmps) = true ∧ (execOp a.eval o).run P w = .ok (.value (r.re σ)) w) ∨ (Region.wanted o (yielded ops a.tmps) = false ∧ r = .v undef)
        | some k => Region.wanted o (yielded ops a.tmps) = true ∧ ∃ c ob v, L'[k]? = some c ∧ c.here = true ∧ c.obj σ = some ob ∧ (execOp a.eval o).run P w = .ok (.value v) { w with heap := w.heap.push ob } ∧ ∀ σ' : Nat → Nat, σ' k = w.heap.size → v = r.re σ') →
      DI P ops π ds σ0 L0 g0 w0 df K listed (pre ++ [d]) post (y0 :: acc) (putO fr d.x.dst r) L' g σ a w := by
    intro y0 r L' hy0 hj hrsc hL' hvc hcase hron hlooks hrun
    have hlen : L.length ≤ L'.length := by rcases hcase with ⟨_, rfl⟩ | ⟨_, c, rfl, _⟩ <;> simp
    have hget : ∀ k, k < L.length → L'[k]? = L[k]? := fun k hk => by
      rcases hcase with ⟨_, rfl⟩ | ⟨_, c, rfl, _⟩
      · rfl
      · exact List.getElem?_append_left hk
    have hmk : ∀ k, y0.made = some k → k = L.length ∧ L.length < L'.length := fun k hk => by
      rcases hcase with ⟨h0, rfl⟩ | ⟨h0, c, rfl, _⟩
      · rw [h0] at hk; cases hk
      · rw [h0] at hk; cases hk; exact ⟨rfl, by simp⟩
    have hmadeLt : ∀ x ∈ acc, ∀ k, x.made = some k → k < L.length := fun x hx k hk => ((I.accs x hx).2 k hk).2
    have hund : ∀ k, k < L.length → undL acc listed k = true → undL (y0 :: acc) listed k = true := fun k hk h => by
      rw [undL_iff] at h ⊢
      intro x hx hm
      rcases List.mem_cons.1 hx with hx | hx
      · rw [hx] at hm; have := (hmk k hm).1; omega
      · exact h x hx hm
    have hund' : ∀ k, undL (y0 :: acc) listed k = true → undL acc listed k = true := fun k h => by
      rw [undL_iff] at h ⊢
      exact fun x hx hm => h x (List.mem_cons_of_mem _ hx) hm
    have hvis : ∀ own k, k < L.length → vis acc listed own k = true → vis (y0 :: acc) listed own k = true := fun own k hk h => by
      rw [vis_iff] at h ⊢
      rcases h with h | ⟨x, hx, h⟩
      · exact .inl (hund k hk h)
      · exact .inr ⟨x, List.mem_cons_of_mem _ hx, h⟩
    have hfrl : (putO fr d.x.dst r).length = fr.length := putO_length _ _ _
    have hfget : ∀ t, d.x.dst ≠ some t → get (putO fr d.x.dst r) t = get fr t := fun t ht => by rw [get_putO, if_neg (fun hh => ht hh.1)]
    have hgone : ∀ k, L.length ≤ k → ((selL (undL (y0 :: acc) listed) 0 L')[k]? = if k < L'.length then some Chunk.gone else none) := fun k hk => by
      rw [get_selL, Nat.zero_add]
      rcases hcase with ⟨h0, rfl⟩ | ⟨h0, c, rfl, _⟩
      · rw [if_neg (show ¬ k < L'.length by omega), List.getElem?_eq_none (by omega)]
        split <;> rfl
      · by_cases hkl : k = L.length
        · subst hkl
          have : undL (y0 :: acc) listed L.length ≠ true := fun h => by
            have := undL_iff.1 h y0 (by simp) h0
            rw [hy0, hnd] at this
            cases this
          rw [if_neg this, if_pos (by simp)]
          simp
        · rw [if_neg (show ¬ k < (L ++ [c]).length by simp; omega), List.getElem?_eq_none (by simp; omega)]
          split <;> rfl
    have hsel : selL (undL (y0 :: acc) listed) 0 L' = selL (undL acc listed) 0 L ++ List.replicate (L'.length - L.length) Chunk.gone := by
      apply List.ext_getElem?
      intro k
      by_cases hk : k < L.length
      · rw [List.getElem?_append_left (by rw [selL_length]; exact hk), get_selL, get_selL, Nat.zero_add, hget k hk]
        by_cases hu : undL acc listed k = true
        · rw [if_pos hu, if_pos (hund k hk hu)]
        · rw [if_neg hu, if_neg (fun h => hu (hund' k h))]
      · rw [hgone k (by omega), List.getElem?_append_right (by rw [selL_length]; omega), selL_length, List.getElem?_replicate]
        by_cases hk2 : k < L'.length
        · rw [if_pos hk2, if_pos (by omega)]
        · rw [if_neg hk2, if_neg (by omega)]
    have hplace : L'.length - L.length = 0 ∨ L'.length - L.length = 1 := by rcases hcase with ⟨_, rfl⟩ | ⟨_, c, rfl, _⟩ <;> simp
    refine
      { cut := cut', hpost := fun u hu => I.hpost u (List.mem_cons_of_mem _ hu), heavy := fun u hu hh => ?_, vc := hvc, accs := fun x hx => ?_, recs := fun u hu hul => ?_, sepM := fun x hx y hy k h1 h2 => ?_, sepI := fun x hx y hy e => ?_, clos := I.clos, hfr := ?_, mem := ?_,
        scF := ?_, hscL := hL', len0 := Nat.le_trans I.len0 hlen, onF := fun t ht => ?_, onL := fun k c hk hc => ?_, goes := ?_, defers := I.defers }
    · rcases List.mem_append.1 hu with hu | hu
      · exact I.heavy u hu hh
      · simp only [List.mem_singleton] at hu; rw [hu, hl] at hh; cases hh
    · rcases List.mem_cons.1 hx with hx | hx
      · subst hx
        exact ⟨⟨d, by simp, hy0.symm⟩, fun k hk => by obtain ⟨rfl, h2⟩ := hmk k hk; exact ⟨I.len0, h2⟩⟩
      · obtain ⟨⟨u, hu, hui⟩, h2⟩ := I.accs x hx
        exact ⟨⟨u, List.mem_append_left _ hu, hui⟩, fun k hk => ⟨(h2 k hk).1, Nat.lt_of_lt_of_le (h2 k hk).2 hlen⟩⟩
    · rcases List.mem_append.1 hu with hu | hu
      · obtain ⟨x, hx, hxi, hrec⟩ := I.recs u hu hul
        refine ⟨x, List.mem_cons_of_mem _ hx, hxi, fun hn => ?_⟩
        obtain ⟨o', r', h'⟩ := hrec hn
        refine ⟨o', r', h'.move (fun t ht => hfget t fun e => hment u hu t e ht) hfrl hlen (fun k hk => hget k (h'.lk k hk).1) (fun k hk => hget k (hmadeLt x hx k hk)) (fun _ _ h => h) I.hscL hvis fun y hy k hk hm => ?_⟩
        rcases List.mem_cons.1 hy with hy | hy
        · rw [hy] at hm; have := (hmk k hm).1; omega
        · exact hy
      · simp only [List.mem_singleton] at hu
        subst hu
        refine ⟨y0, by simp, hy0, fun _ => ⟨o, r, ?_⟩⟩
        refine { opAt := ho, xo := hxo, jk := hj, scR := hrsc, dst := fun t ht htl => ?_, onR := ?_, onC := fun k c hm hc => ?_, lk := fun k hk => ⟨Nat.lt_of_lt_of_le (hlooks k hk).1 hlen, fun y hy hm => ?_⟩, run := fun σ a w h1 h2 => ?_ }
        · rw [get_putO, if_pos ⟨ht, by rw [hfrl] at htl; exact htl⟩]
        · refine on_imp hron hrsc fun k hk h => ?_
          by_cases hkl : k < L.length
          · rw [vis_iff] at *
            have := hvis _ k hkl (off_vis (listed := listed) h)
            rw [vis_iff] at this
            rcases this with h1 | ⟨x, hx, hm, hi⟩
            · exact .inl h1
            · exact .inr ⟨x, hx, hm, List.mem_cons_of_mem _ hi⟩
          · rcases hcase with ⟨_, rfl⟩ | ⟨h0, c, rfl, _⟩
            · omega
            · rw [vis_iff]
              right
              refine ⟨y0, by simp, ?_, by rw [hy0]; simp⟩
              rw [h0]; congr 1; simp at hk; omega
        · obtain ⟨rfl, _⟩ := hmk k hm
          rcases hcase with ⟨h0, _⟩ | ⟨_, c', rfl, hh, hsc, hcon⟩
          · rw [h0] at hm; cases hm
          · rw [List.getElem?_append_right (Nat.le_refl _)] at hc
            simp only [Nat.sub_self, List.getElem?_cons_zero, Option.some.injEq] at hc
            subst hc
            exact con_imp hcon hsc fun k hkl h => hvis _ k hkl (off_vis h)
        · rcases List.mem_cons.1 hy with hy | hy
          · rw [hy] at hm; have := (hmk k hm).1; have := (hlooks k hk).1; omega
          · have h2 := (hlooks k hk).2
            refine Classical.byContradiction fun hn => h2 ?_
            simp only [madeOf, List.mem_filterMap, foes, List.mem_filter]
            exact ⟨y, ⟨hy, by simpa using hn⟩, hm⟩
        · refine hrun σ a w (h1.sel hfrl.symm fun t ht => ⟨ht, ?_⟩) (h2.sel (fun _ _ h => h) fun k hk => ⟨hk, ?_⟩)
          · exact (hfget t fun e => hown t e (by simpa using ht)).symm
          · exact (hget k (hlooks k (by simpa using hk)).1).symm
    · rcases List.mem_cons.1 hx with hx | hx <;> rcases List.mem_cons.1 hy with hy | hy
      · rw [hx, hy]
      · rw [hx] at h1; have := (hmk k h1).1; have := hmadeLt y hy k h2; omega
      · rw [hy] at h2; have := (hmk k h2).1; have := hmadeLt x hx k h1; omega
      · exact I.sepM x hx y hy k h1 h2
    · have hne : ∀ z ∈ acc, z.i ≠ d.i := fun z hz e => by
        obtain ⟨⟨u, hu, hui⟩, _⟩ := I.accs z hz
        exact nodup_ne (by rw [← I.cut]; exact D.nodup) hu (List.mem_cons_self) (hui.trans e)
      rcases List.mem_cons.1 hx with hx | hx <;> rcases List.mem_cons.1 hy with hy | hy
      · rw [hx, hy]
      · rw [hx, hy0] at e; exact absurd e.symm (hne y hy)
      · rw [hy, hy0] at e; exact absurd e (hne x hx)
      · exact I.sepI x hx y hy e
    · refine I.hfr.sel hfrl fun t ht => ?_
      rw [undF_iff] at ht
      refine ⟨undF_iff.2 fun u hu => ht u (List.mem_append_left _ hu), hfget t fun e => ?_⟩
      have := ht d (by simp) hl e
      rw [hnd] at this
      cases this
    · rw [hsel]
      rcases hplace with h | h <;> rw [h]
      · simpa using I.mem
      · exact I.mem.place
    · cases hd : d.x.dst with
      | none => exact scL_mono hlen _ I.scF
      | some t => exact sc_put (scL_mono hlen _ I.scF) t hrsc
    · have hne : d.x.dst ≠ some t := fun e => by
        have := (undF_iff.1 ht) d (by simp) hl e
        rw [hnd] at this
        cases this
      rw [hfget t hne]
      exact on_imp (I.onF t (undF_iff.2 fun u hu => (undF_iff.1 ht) u (List.mem_append_left _ hu))) (sc_get I.scF t) fun k hk h => hund k hk h
    · have hkl : k < L.length := by
        rcases Nat.lt_or_ge k L.length with h | h
        · exact h
        · exfalso
          rcases hcase with ⟨_, rfl⟩ | ⟨h0, c', rfl, _⟩
          · rw [List.getElem?_eq_none (by omega)] at hc; cases hc
          · have hkk : k = L.length := by have := (List.getElem?_eq_some_iff.1 hc).1; simp at this; omega
            subst hkk
            have := undL_iff.1 hk y0 (by simp) h0
            rw [hy0, hnd] at this
            cases this
      rw [hget k hkl] at hc
      exact con_imp (I.onL k c (hund' k hk) hc) (scC_of I.hscL hc) fun k hk h => hund k hk h
    · rw [hsel]
      rcases hplace with h | h <;> rw [h]
      · simpa using I.goes
      · exact I.goes.place
  have hvc : dStep P ds d acc fr L g (fun acc fr L g => dR P ds post acc fr L g K) K := I.vc
  rcases dStep_goB hvc with ⟨hgo, h⟩ | ⟨hgo, h⟩
  · unfold dRun at h
    rw [hl] at h
    simp only [lenK_eq, numK_eq, Nat.zero_add] at h
    obtain ⟨hlk, h⟩ := ifOk_elim h
    obtain ⟨r, mc, hk, hrun, hj, hsc, hc⟩ := lt_sound (P := P) hxop rfl (ts := fun t => d.args.contains t) (ks := fun k => (d.x.x.looks (ev fr)).contains k) (fun t ht => by simpa using slots_args ht) (fun k hk => by simpa using hk) I.scF I.hscL h
    rw [fR_eq] at hk
    obtain ⟨hoff, hk⟩ := ifOk_elim hk
    have hlooks : ∀ k ∈ d.x.x.looks (ev fr), k < L.length ∧ k ∉ madeOf (foes acc d.anc) := fun k hk => by
      have := List.all_eq_true.1 hlk k hk
      simpa using this
    have hwant : ∀ (σ : Nat → Nat) (a : Act), FR σ (selF (fun t => d.args.contains t) 0 fr) a.tmps → Region.wanted o (yielded ops a.tmps) = true := fun σ a hf => wanted_goB hxo (fun t ht => by simpa using gslot_args ht) hf hgo
    cases mc with
    | none =>
      simp only [forceO_eq] at hk
      exact ⟨_, _, _, fin ⟨d.i, d.x.x.looks (ev fr), none⟩ r L rfl hj (by simpa using hsc) I.hscL hk (.inl ⟨rfl, rfl⟩) (offS_on hoff) hlooks fun σ a w h1 h2 => .inl ⟨hwant σ a h1, hrun.2 σ a w h1 h2⟩⟩
    | some c =>
      obtain ⟨hhere, hcs⟩ := hc c rfl
      obtain ⟨hoffc, hk⟩ := ifOk_elim hk
      simp only [forceO_eq, fL_eq] at hk
      have hL' : scH (L ++ [c]) := by
        intro k ty l hkl
        rcases getElem?_append_one hkl with ⟨_, h2⟩ | ⟨_, rfl⟩
        · exact scL_mono (by simp) _ (I.hscL k ty l h2)
        · exact scL_mono (by simp) _ hcs
      refine ⟨_, _, _, fin ⟨d.i, d.x.x.looks (ev fr), some L.length⟩ r (L ++ [c]) rfl hj (by simpa using hsc) hL' hk (.inr ⟨rfl, c, rfl, hhere, hcs, offL_on hoffc 0 c rfl⟩) (offS_on hoff) hlooks fun σ a w h1 h2 => ⟨hwant σ a h1, ?_⟩⟩
      obtain ⟨ob, v, h3, h4, h5⟩ := hrun σ a w h1
      exact ⟨c, ob, v, by simp, hhere, h3, h4, h5⟩
  · unfold dSkip at h
    rw [hl, forceO_eq] at h
    exact ⟨_, _, _, fin ⟨d.i, [], none⟩ (.v undef) L rfl (by simp) rfl I.hscL h (.inl ⟨rfl, rfl⟩) rfl (by simp) fun σ a w h1 _ => .inr ⟨wanted_goB hxo (fun t ht => by simpa using gslot_args ht) h1 hgo, rfl⟩⟩

theorem done_set {i j : Nat} (hi : i < listed.size) : done (listed.setIfInBounds i true) j = (j == i || done listed j) := by
  unfold done
  by_cases h : i = j
  · subst h; simp [hi]
  · rw [Array.getD_eq_getD_getElem?, Array.getElem?_setIfInBounds_ne h, ← Array.getD_eq_getD_getElem?]
    simp [show ¬ j = i from fun e => h e.symm]

theorem closed_set {i : Nat} {o : Oper} (hsz : listed.size = ops.size) (ho : ops[i]? = some o) (hc : closed ops listed) (hr : ∀ e ∈ o.after, Region.binds .any e = true → done listed e.on = true) : closed ops (listed.setIfInBounds i true) := by
  have hi : i < listed.size := by rw [hsz]; exact (Array.getElem?_eq_some_iff.1 ho).1
  intro j oj hj hd e he hb
  rw [done_set hi] at hd ⊢
  simp only [Bool.or_eq_true, beq_iff_eq] at hd ⊢
  rcases hd with rfl | hd
  · rw [ho] at hj; cases hj
    exact .inr (hr e he hb)
  · exact .inr (hc j oj hj hd e he hb)

theorem get_ge : ∀ (l : List SV) (i : Nat), l.length ≤ i → get l i = .junk
  | [], _, _ => rfl
  | _ :: l, 0, h => by simp at h
  | _ :: l, i + 1, h => get_ge l i (by simpa using h)
theorem FR.ext {σ : Nat → Nat} {A B : List SV} {tmps : Array Value} (h : FR σ A tmps) (hl : B.length = A.length) (hq : ∀ t, get B t = get A t ∨ get B t = .junk) : FR σ B tmps := by
  refine ⟨hl.trans h.1, fun i x hx hj => ?_⟩
  rcases hq i with h1 | h1
  · exact h.2 i x (h1.symm.trans hx) hj
  · exact absurd (hx.symm.trans h1) hj
theorem FR.on {σ σ' : Nat → Nat} {A : List SV} {tmps : Array Value} {p : Nat → Bool} (h : FR σ A tmps) (hp : ∀ k, p k = true → σ k = σ' k) (ho : ∀ t, (get A t).on p = true) : FR σ' A tmps :=
  ⟨h.1, fun i x hx hj => (h.2 i x hx hj).trans (re_on hp x (by rw [← hx]; exact ho i))⟩

/-- An operation that only reads or makes a block is done. -/
theorem light_step {pre post : List DOp} {d : DOp} {acc : List Acc} {fr : List SV} {L : List Chunk} {g : G} {σ : Nat → Nat} {a : Act} {w : World} {Q : Exit → Act → World → Prop} (D : DOk P ops π ds)
    (I : DI P ops π ds σ0 L0 g0 w0 df K listed pre post acc fr L g σ a w) (hsz : listed.size = ops.size) (hd : d ∈ pre) (hl : d.x.x.light = true) (hnd : done listed d.i = false) {o : Oper} (ho : ops[d.i]? = some o)
    (hr : ∀ e ∈ o.after, Region.binds .any e = true → done listed e.on = true) :
    wpOp P ops Q d.i (fun a' w' => ∃ σ', DI P ops π ds σ0 L0 g0 w0 df K (listed.setIfInBounds d.i true) pre post acc fr L g σ' a' w') a w := by
  have hdπ : d ∈ π := by rw [I.cut]; exact List.mem_append_left _ hd
  have hanc := anc_done D I.clos _ d hdπ rfl o ho hr
  obtain ⟨x, hx, hxi, hrec⟩ := I.recs d hd hl
  obtain ⟨o', r, R⟩ := hrec hnd
  have : o' = o := by have := R.opAt; rw [ho] at this; cases this; rfl
  subst this
  obtain ⟨hxop, hguard, hdst⟩ := xoper_spec R.xo
  have hi : d.i < listed.size := by rw [hsz]; exact (Array.getElem?_eq_some_iff.1 ho).1
  have hds : ∀ j, done (listed.setIfInBounds d.i true) j = (j == d.i || done listed j) := fun j => done_set hi
  have hF : FR σ (selF (fun t => d.args.contains t) 0 fr) a.tmps := I.hfr.sel rfl fun t ht => ⟨undF_iff.2 fun u hu hul hut => by
    have ht' : t ∈ d.args := by simpa using ht
    by_cases hud : u = d
    · subst hud; exact absurd ht' (D.own u hdπ hl t hut)
    · rcases pair_or D (by rw [I.cut]; exact List.mem_append_left _ hu) hdπ hud with h | h
      · exact hanc _ (ord_arg h hul hut ht')
      · exact absurd (by simp only [DOp.ment]; exact List.mem_append_right _ ht') (ord_light h hul hut), rfl⟩
  have hR : Reads g (selL (fun k => x.looks.contains k) 0 L) σ w := I.mem.reads.sel (fun _ _ h => h) fun k hk => ⟨undL_iff.2 fun y hy hm => hanc _ ((R.lk k (by simpa using hk)).2 y hy hm), rfl⟩
  have hrun := R.run σ a w hF hR
  have hmono : ∀ j, done listed j = true → done (listed.setIfInBounds d.i true) j = true := fun j hj => by rw [hds, hj]; simp
  have hpost' : ∀ u ∈ post, done (listed.setIfInBounds d.i true) u.i = false := fun u hu => by
    rw [hds, I.hpost u hu]
    have : d.i ≠ u.i := nodup_ne (by rw [← I.cut]; exact D.nodup) hd hu
    rw [beq_eq_false_iff_ne.2 (fun e => this e.symm)]
    rfl
  have hundF : ∀ t, undF pre (listed.setIfInBounds d.i true) t = true → undF pre listed t = true ∨ d.x.dst = some t := fun t ht => by
    by_cases hdt : d.x.dst = some t
    · exact .inr hdt
    · left
      refine undF_iff.2 fun u hu hul hut => ?_
      have := undF_iff.1 ht u hu hul hut
      rw [hds] at this
      simp only [Bool.or_eq_true, beq_iff_eq] at this
      rcases this with h | h
      · exfalso
        have : u = d := idx_inj D.nodup (by rw [I.cut]; exact List.mem_append_left _ hu) hdπ h
        rw [this] at hut
        exact hdt hut
      · exact h
  have hundLm : ∀ k, undL acc listed k = true → undL acc (listed.setIfInBounds d.i true) k = true := fun k hk => undL_iff.2 fun y hy hm => hmono _ (undL_iff.1 hk y hy hm)
  have hvis : ∀ own k, k < L.length → vis acc listed own k = true → vis acc (listed.setIfInBounds d.i true) own k = true := fun own k _ h => by
    rw [vis_iff] at h ⊢
    rcases h with h | h
    · exact .inl (hundLm k h)
    · exact .inr h
  -- what is left behind, whatever was done
  have fin : ∀ (σ' : Nat → Nat) (v : Value) (w' : World), v = r.re σ' → (∀ k, undL acc listed k = true → σ k = σ' k) → Mem g (selL (undL acc (listed.setIfInBounds d.i true)) 0 L) σ' w' → Goes σ0 L0 g0 w0 σ' (selL (undL acc (listed.setIfInBounds d.i true)) 0 L) g w' →
      (∀ k c, undL acc (listed.setIfInBounds d.i true) k = true → L[k]? = some c → c.on (undL acc (listed.setIfInBounds d.i true)) = true) → DI P ops π ds σ0 L0 g0 w0 df K (listed.setIfInBounds d.i true) pre post acc fr L g σ' (a.put o'.dst v) w' := by
    intro σ' v w' hv hσ hm hg honL
    refine
      { cut := I.cut, hpost := hpost', heavy := fun u hu hh => hmono _ (I.heavy u hu hh), vc := I.vc, accs := I.accs, recs := fun u hu hul => ?_, sepM := I.sepM, sepI := I.sepI, clos := closed_set hsz ho I.clos hr, hfr := ?_, mem := hm, scF := I.scF, hscL := I.hscL, len0 := I.len0,
        onF := fun t ht => ?_, onL := honL, goes := hg, defers := ?_ }
    · obtain ⟨y, hy, hyi, hrec⟩ := I.recs u hu hul
      refine ⟨y, hy, hyi, fun hn => ?_⟩
      have hn' : done listed u.i = false := by
        rw [hds] at hn
        simp only [Bool.or_eq_false_iff] at hn
        exact hn.2
      obtain ⟨o2, r2, h2⟩ := hrec hn'
      exact ⟨o2, r2, h2.move (fun _ _ => rfl) rfl (Nat.le_refl _) (fun _ _ => rfl) (fun _ _ => rfl) (fun _ _ h => h) I.hscL hvis fun _ h _ _ _ => h⟩
    · have h1 : FR σ' (selF (undF pre listed) 0 fr) a.tmps := I.hfr.on hσ fun t => by
        rw [get_selF, Nat.zero_add]
        split
        · rename_i ht; exact I.onF t ht
        · rfl
      rw [← hdst]
      cases hdd : d.x.dst with
      | none =>
        refine h1.ext (by rw [selF_length, selF_length]) fun t => ?_
        rw [get_selF, get_selF, Nat.zero_add]
        by_cases ht : undF pre (listed.setIfInBounds d.i true) t = true
        · rcases hundF t ht with h | h
          · rw [if_pos ht, if_pos h]; exact .inl rfl
          · rw [hdd] at h; cases h
        · rw [if_neg ht]; exact .inr rfl
      | some t0 =>
        have h2 := h1.put t0 (r := r) (v := v) (fun _ => hv)
        refine FR.ext h2 (by rw [selF_length, put_length, selF_length]) fun t => ?_
        rw [get_put, selF_length, get_selF, get_selF, Nat.zero_add]
        by_cases ht : undF pre (listed.setIfInBounds d.i true) t = true
        · rw [if_pos ht]
          by_cases htt : t0 = t
          · subst htt
            by_cases htl : t0 < fr.length
            · rw [if_pos ⟨rfl, htl⟩]; exact .inl (R.dst t0 hdd htl)
            · right
              exact get_ge fr t0 (by omega)
          · rw [if_neg (fun hh => htt hh.1)]
            rcases hundF t ht with h | h
            · rw [if_pos h]; exact .inl rfl
            · rw [hdd] at h; cases h; exact absurd rfl htt
        · rw [if_neg ht]; exact .inr rfl
    · rcases hundF t ht with h | h
      · exact on_mono hundLm _ (I.onF t h)
      · by_cases htl : t < fr.length
        · rw [R.dst t h htl]
          refine on_imp R.onR R.scR fun k hkl hk => vis_done I.sepM (fun i hi => ?_) (hvis _ k hkl hk)
          rcases List.mem_cons.1 hi with rfl | hi
          · rw [hds]; simp
          · exact hmono _ (hanc i hi)
        · rw [get_ge fr t (by omega)]; rfl
    · cases ho2 : o'.dst with
      | none => exact I.defers
      | some t => exact I.defers
  have hwp : ∀ (v : Value) (w' : World), (∃ σ', DI P ops π ds σ0 L0 g0 w0 df K (listed.setIfInBounds d.i true) pre post acc fr L g σ' (a.put o'.dst v) w') → Region.wanted o' (yielded ops a.tmps) = true → (execOp a.eval o').run P w = .ok (.value v) w' →
      wpOp P ops Q d.i (fun a' w' => ∃ σ', DI P ops π ds σ0 L0 g0 w0 df K (listed.setIfInBounds d.i true) pre post acc fr L g σ' a' w') a w := by
    intro v w' hI hw hrun
    unfold wpOp
    rw [ho]
    simp only [hw, if_true]
    left
    unfold Oper.wp
    rw [hrun]
    exact hI
  cases hm : x.made with
  | none =>
    rw [hm] at hrun
    have hsame : undL acc (listed.setIfInBounds d.i true) = undL acc listed := by
      funext k
      rw [Bool.eq_iff_iff]
      refine ⟨fun h => undL_iff.2 fun y hy hym => ?_, hundLm k⟩
      have := undL_iff.1 h y hy hym
      rw [hds] at this
      simp only [Bool.or_eq_true, beq_iff_eq] at this
      rcases this with h1 | h1
      · exfalso
        rw [I.sepI y hy x hx (h1.trans hxi.symm), hm] at hym
        cases hym
      · exact h1
    have hI : ∀ v, v = r.re σ → DI P ops π ds σ0 L0 g0 w0 df K (listed.setIfInBounds d.i true) pre post acc fr L g σ (a.put o'.dst v) w := fun v hv => fin σ v w hv (fun _ _ => rfl) (by rw [hsame]; exact I.mem) (by rw [hsame]; exact I.goes) (by rw [hsame]; exact I.onL)
    rcases hrun with ⟨hw, hrun⟩ | ⟨hw, rfl⟩
    · exact hwp _ _ ⟨σ, hI _ rfl⟩ hw hrun
    · unfold wpOp
      rw [ho]
      simp only [hw]
      exact ⟨σ, hI _ rfl⟩
  | some k =>
    rw [hm] at hrun
    obtain ⟨hw, c, ob, v, hc, hhere, hob, hrun, hv⟩ := hrun
    have hkr := (I.accs x hx).2 k hm
    have hku : undL acc listed k ≠ true := fun h => by
      have := undL_iff.1 h x hx hm
      rw [hxi, hnd] at this
      cases this
    have hk' : ∀ j, undL acc (listed.setIfInBounds d.i true) j = true ↔ j = k ∨ undL acc listed j = true := fun j => by
      constructor
      · intro h
        by_cases hjk : j = k
        · exact .inl hjk
        · right
          refine undL_iff.2 fun y hy hym => ?_
          have := undL_iff.1 h y hy hym
          rw [hds] at this
          simp only [Bool.or_eq_true, beq_iff_eq] at this
          rcases this with h1 | h1
          · exfalso
            rw [I.sepI y hy x hx (h1.trans hxi.symm), hm] at hym
            cases hym
            exact hjk rfl
          · exact h1
      · rintro (rfl | h)
        · refine undL_iff.2 fun y hy hym => ?_
          rw [I.sepM y hy x hx j hym hm, hxi, hds]
          simp
        · exact hundLm j h
    have hne : ∀ j, undL acc listed j = true → (!(j == k)) = true := fun j hj => by
      have : j ≠ k := fun e => hku (by rw [← e]; exact hj)
      simpa using this
    have hcon : c.on (undL acc listed) = true := by
      refine con_imp (R.onC k c hm hc) (scC_of I.hscL hc) fun j _ hj => vis_done I.sepM hanc hj
    have hset : (selL (undL acc listed) 0 L).set k c = selL (undL acc (listed.setIfInBounds d.i true)) 0 L := by
      apply List.ext_getElem?
      intro j
      by_cases hjk : k = j
      · subst hjk
        rw [List.getElem?_set_self (by rw [selL_length]; exact hkr.2), get_selL, Nat.zero_add, if_pos ((hk' k).2 (.inl rfl)), hc]
      · rw [List.getElem?_set_ne hjk, get_selL, get_selL, Nat.zero_add]
        by_cases hu : undL acc listed j = true
        · rw [if_pos hu, if_pos ((hk' j).2 (.inr hu))]
        · rw [if_neg hu, if_neg (fun h => by rcases (hk' j).1 h with h | h; exact hjk h.symm; exact hu h)]
    have hgone : (selL (undL acc listed) 0 L)[k]? = some Chunk.gone := by
      rw [get_selL, Nat.zero_add, if_neg hku, hc]; rfl
    have hvisOn : ∀ (j : Nat) (c' : Chunk), (selL (undL acc listed) 0 L)[j]? = some c' → c'.on (fun i => !(i == k)) = true := fun j c' hj => by
      rw [get_selL, Nat.zero_add] at hj
      split at hj
      · rename_i hu; exact Chunk.on_mono hne (I.onL j c' hu hj)
      · simp only [Option.map_eq_some_iff] at hj
        obtain ⟨_, _, rfl⟩ := hj
        rfl
    have hm1 := I.mem.born hgone hvisOn c (Chunk.on_mono hne hcon) ob hob
    have hg1 := I.goes.born hkr.1 c ob
    rw [hset] at hm1 hg1
    refine hwp v _ ⟨_, fin _ v _ (hv _ (by simp)) (fun j hj => ?_) hm1 hg1 fun j c' hj hc' => ?_⟩ hw hrun
    · have : j ≠ k := fun e => hku (by rw [← e]; exact hj)
      simp [this]
    · rcases (hk' j).1 hj with rfl | hj
      · rw [hc] at hc'; cases hc'
        exact Chunk.on_mono hundLm hcon
      · exact Chunk.on_mono hundLm (I.onL j c' hj hc')

end
end Go.Sx
