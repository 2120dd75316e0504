/- A symbolic executor of my own, second design, part 8: a region whose order is drawn: operations that write or call; the region. Conditions: none; it speaks of any program. -/
import Derived.Test.YtfagdcpfebghoaaDoorTy7
namespace Go.Sx

theorem Oper.wp_mono2 {P : Program} {o : Oper} {a : Act} {w : World} {K K' : Act → World → Prop} {Q Q' : Exit → Act → World → Prop} (h : ∀ a w, K a w → K' a w) (hq : ∀ e a w, Q e a w → Q' e a w) (hh : o.wp P a w K Q) : o.wp P a w K' Q' := by
  unfold Oper.wp at *
  generalize (execOp a.eval o).run P w = r at *
  cases r with
  | ok n w' =>
    cases n with
    | value v => exact h _ _ hh
    | skip => exact h _ _ hh
    | defer d => exact h _ _ hh
    | enter f args =>
      refine Calls.mono (show Calls P f args w' _ from hh) fun e w'' he => ?_
      cases e with
      | returned v => exact h _ _ he
      | panicked c => exact hq _ _ _ he
      | outgrown => obtain ⟨a0, w0, h0⟩ := he; exact ⟨a0, w0, hq _ _ _ h0⟩
    | row row args => exact Rows.mono (show Rows P row args w' _ from hh) fun v w'' he => h _ _ he
    | _ => exact hh
  | halt x w' =>
    cases x with
    | panic v => exact hq _ _ _ hh
    | _ => exact hh

/-- The state told of a frame and a world. -/
structure Inv (df : List Deferred) (fr : List SV) (L : List Chunk) (g : G) (σ : Nat → Nat) (a : Act) (w : World) : Prop where
  hfr : FR σ fr a.tmps
  mem : Mem g L σ w
  scF : scL L.length fr = true
  hscL : scH L
  defers : a.defers = df

section
variable {P : Program} {ops : Array Oper} {π : List DOp} {ds : List Nat} {σ0 : Nat → Nat} {L0 : List Chunk} {g0 : G} {w0 : World} {df : List Deferred} {K : KT} {listed : Array Bool}

theorem foe_of {acc : List Acc} {anc : List Nat} {x : Acc} (hx : x ∈ acc) (h : x.i ∉ anc) : x ∈ foes acc anc := by
  simp only [foes, List.mem_filter]
  exact ⟨hx, by simpa using h⟩
theorem chkH_spec {fs : List Acc} {rd ids : List Nat} (h : chkH fs rd ids = true) {x : Acc} (hx : x ∈ fs) : (∀ k ∈ x.looks, k ∉ ids) ∧ ∀ k, x.made = some k → k ∉ ids ∧ k ∉ rd := by
  have := List.all_eq_true.1 h x hx
  simp only [Bool.and_eq_true] at this
  refine ⟨fun k hk => ?_, fun k hk => ?_⟩
  · simpa using List.all_eq_true.1 this.1 k hk
  · have h2 := this.2
    rw [hk] at h2
    simpa using h2

theorem heavy_step {pre post : List DOp} {d : DOp} {acc : List Acc} {fr : List SV} {L : List Chunk} {g : G} {σ : Nat → Nat} {a : Act} {w : World} {Q : Exit → Act → World → Prop} (D : DOk P ops π ds)
    (I : DI P ops π ds σ0 L0 g0 w0 df K listed pre (d :: post) acc fr L g σ a w) (hsz : listed.size = ops.size) (hl : d.x.x.light = false) {o : Oper} (ho : ops[d.i]? = some o)
    (hr : ∀ e ∈ o.after, Region.binds .any e = true → done listed e.on = true)
    (hQ : ∀ x fr L g σ a w, Inv df fr L g σ a w → x ≠ .junk → x.sc L.length = true → Goes σ0 L0 g0 w0 σ L g w → K (.pan x) fr L g → Q (.panic [{ v := x.re σ, recovered := false }]) a w) :
    wpOp P ops Q d.i (fun a' w' => ∃ fr' L' g' σ', DI P ops π ds σ0 L0 g0 w0 df K (listed.setIfInBounds d.i true) (pre ++ [d]) post acc fr' L' g' σ' a' w') a w := by
  have hdπ : d ∈ π := by rw [I.cut]; simp
  have hnd : done listed d.i = false := I.hpost d (by simp)
  have hanc := anc_done D I.clos _ d hdπ rfl o ho hr
  obtain ⟨o', ho', hxo⟩ := D.get d hdπ
  have : o' = o := by rw [ho] at ho'; cases ho'; rfl
  subst this
  obtain ⟨hxop, hguard, hdst⟩ := xoper_spec hxo
  have hi : d.i < listed.size := by rw [hsz]; exact (Array.getElem?_eq_some_iff.1 ho).1
  have hds : ∀ j, done (listed.setIfInBounds d.i true) j = (j == d.i || done listed j) := fun j => done_set hi
  have hpreπ : ∀ u ∈ pre, u ∈ π := fun u hu => by rw [I.cut]; exact List.mem_append_left _ hu
  have hord : ∀ u ∈ pre, ordOk u d = true := fun u hu => ordAll_pair (by rw [← I.cut]; exact D.ord) hu List.mem_cons_self
  have hpne : ∀ u ∈ pre, u.i ≠ d.i := fun u hu => nodup_ne (by rw [← I.cut]; exact D.nodup) hu List.mem_cons_self
  have hane : ∀ x ∈ acc, x.i ≠ d.i := fun x hx e => by
    obtain ⟨⟨u, hu, hui⟩, _⟩ := I.accs x hx
    exact hpne u hu (hui.trans e)
  have hdone : ∀ j, j ≠ d.i → done (listed.setIfInBounds d.i true) j = done listed j := fun j hj => by rw [hds, beq_eq_false_iff_ne.2 hj]; rfl
  have hundL : undL acc (listed.setIfInBounds d.i true) = undL acc listed := by
    funext k
    rw [Bool.eq_iff_iff, undL_iff, undL_iff]
    exact ⟨fun h x hx hm => by rw [← hdone _ (hane x hx)]; exact h x hx hm, fun h x hx hm => by rw [hdone _ (hane x hx)]; exact h x hx hm⟩
  have hundF : undF (pre ++ [d]) (listed.setIfInBounds d.i true) = undF pre listed := by
    funext t
    rw [Bool.eq_iff_iff, undF_iff, undF_iff]
    constructor
    · intro h u hu hul hut
      rw [← hdone _ (hpne u hu)]
      exact h u (List.mem_append_left _ hu) hul hut
    · intro h u hu hul hut
      rcases List.mem_append.1 hu with hu | hu
      · rw [hdone _ (hpne u hu)]; exact h u hu hul hut
      · simp only [List.mem_singleton] at hu; rw [hu, hl] at hul; cases hul
  have hvis : ∀ own k, vis acc listed own k = true → vis acc (listed.setIfInBounds d.i true) own k = true := fun own k h => by
    rw [vis_iff] at h ⊢
    rwa [hundL]
  have hF : FR σ (selF (fun t => d.args.contains t) 0 fr) a.tmps := I.hfr.sel rfl fun t ht => ⟨undF_iff.2 fun u hu hul hut => hanc _ (ord_arg (hord u hu) hul hut (by simpa using ht)), rfl⟩
  have hoff : ∀ k, (!(madeOf (foes acc d.anc)).contains k) = true → undL acc listed k = true := fun k hk => vis_done I.sepM hanc (off_vis hk)
  have foe : ∀ x ∈ acc, done listed x.i = false → x ∈ foes acc d.anc := fun x hx hn => foe_of hx fun hh => by rw [hanc _ hh] at hn; cases hn
  -- what is left behind
  have fin : ∀ (rd ids : List Nat) (v : Value) (r : SV) (L1 : List Chunk) (g1 : G) (σ' : Nat → Nat) (w' : World), chkH (foes acc d.anc) rd ids = true → (r ≠ .junk → v = r.re σ') → r.sc L1.length = true → Upd ids L L1 → (∀ k, k < L.length → σ' k = σ k) → G.le g g1 →
      Mem g1 (selL (undL acc listed) 0 L1) σ' w' → Goes σ0 L0 g0 w0 σ' (selL (undL acc listed) 0 L1) g1 w' → scH L1 → r.on (fun k => !(madeOf (foes acc d.anc)).contains k) = true →
      (∀ (k : Nat) (c : Chunk), undL acc listed k = true → L1[k]? = some c → c.on (undL acc listed) = true) →
      dR P ds post acc (putO fr d.x.dst r) L1 g1 K → DI P ops π ds σ0 L0 g0 w0 df K (listed.setIfInBounds d.i true) (pre ++ [d]) post acc (putO fr d.x.dst r) L1 g1 σ' (a.put o'.dst v) w' := by
    intro rd ids v r L1 g1 σ' w' hck hv hrsc hupd hag hgle hm hg hsc hron honL hvc
    refine
      { cut := by rw [I.cut]; simp, hpost := fun u hu => ?_, heavy := fun u hu hh => ?_, vc := hvc, accs := fun x hx => ?_, recs := fun u hu hul => ?_, sepM := I.sepM, sepI := I.sepI, clos := closed_set hsz ho I.clos hr, hfr := ?_, mem := ?_, scF := ?_, hscL := hsc,
        len0 := Nat.le_trans I.len0 hupd.1, onF := fun t ht => ?_, onL := ?_, goes := ?_, defers := ?_ }
    · rw [hdone _ ?_]
      · exact I.hpost u (List.mem_cons_of_mem _ hu)
      · intro e
        have hn := D.nodup
        rw [I.cut, List.map_append, List.nodup_append] at hn
        have := hn.2.1
        rw [List.map_cons, List.nodup_cons] at this
        exact this.1 (by rw [← e]; exact List.mem_map_of_mem hu)
    · rcases List.mem_append.1 hu with hu | hu
      · rw [hdone _ (hpne u hu)]; exact I.heavy u hu hh
      · simp only [List.mem_singleton] at hu; rw [hu, hds]; simp
    · obtain ⟨⟨u, hu, hui⟩, h2⟩ := I.accs x hx
      exact ⟨⟨u, List.mem_append_left _ hu, hui⟩, fun k hk => ⟨(h2 k hk).1, Nat.lt_of_lt_of_le (h2 k hk).2 hupd.1⟩⟩
    · rcases List.mem_append.1 hu with hu | hu
      · obtain ⟨x, hx, hxi, hrec⟩ := I.recs u hu hul
        refine ⟨x, hx, hxi, fun hn => ?_⟩
        rw [hdone _ (hpne u hu)] at hn
        obtain ⟨o2, r2, h2⟩ := hrec hn
        have hfx := foe x hx (by rw [hxi]; exact hn)
        obtain ⟨c1, c2⟩ := chkH_spec hck hfx
        refine ⟨o2, r2, h2.move (fun t ht => ?_) (putO_length _ _ _) hupd.1 (fun k hk => hupd.2 k (h2.lk k hk).1 (c1 k hk)) (fun k hk => hupd.2 k ((I.accs x hx).2 k hk).2 (c2 k hk).1) hgle I.hscL (fun own k _ h => hvis own k h) fun _ h _ _ _ => h⟩
        rw [get_putO, if_neg]
        rintro ⟨hh, -⟩
        have := hanc _ (ord_heavyW (hord u hu) hh ht)
        rw [hn] at this
        cases this
      · simp only [List.mem_singleton] at hu; rw [hu, hl] at hul; cases hul
    · rw [hundF, ← hdst]
      have h1 : FR σ' (selF (undF pre listed) 0 fr) a.tmps := I.hfr.on (p := fun k => decide (k < L.length)) (fun k hk => (hag k (by simpa using hk)).symm) fun t => by
        rw [get_selF]
        split
        · rw [← on_sc]; exact sc_get I.scF t
        · rfl
      cases hdd : d.x.dst with
      | none => exact h1
      | some t0 =>
        have h2 := h1.put t0 (r := r) (v := v) hv
        refine FR.ext h2 (by rw [selF_length, put_length, selF_length]; exact putO_length fr (some t0) r) fun t => ?_
        rw [get_put, selF_length, get_selF, get_selF, Nat.zero_add, get_putO]
        by_cases ht : undF pre listed t = true
        · rw [if_pos ht, if_pos ht]
          by_cases htt : t0 = t ∧ t0 < fr.length
          · obtain ⟨rfl, htl⟩ := htt
            rw [if_pos ⟨rfl, htl⟩, if_pos ⟨rfl, htl⟩]; exact .inl rfl
          · rw [if_neg htt, if_neg (fun hh => htt ⟨by have := hh.1; cases this; rfl, by have := hh.1; cases this; exact hh.2⟩)]
            exact .inl rfl
        · rw [if_neg ht]; exact .inr rfl
    · rw [hundL]; exact hm
    · cases hdd : d.x.dst with
      | none => exact scL_mono hupd.1 _ I.scF
      | some t => exact sc_put (scL_mono hupd.1 _ I.scF) t hrsc
    · rw [hundF] at ht
      rw [hundL, get_putO]
      split
      · exact on_mono hoff r hron
      · exact I.onF t ht
    · rw [hundL]; exact honL
    · rw [hundL]; exact hg
    · cases ho2 : o'.dst with
      | none => exact I.defers
      | some t => exact I.defers
  have hvc : dStep P ds d acc fr L g (fun acc fr L g => dR P ds post acc fr L g K) K := I.vc
  unfold wpOp
  rw [ho]
  simp only
  rcases dStep_goB hvc with ⟨hgo, h⟩ | ⟨hgo, h⟩
  · have hw := wanted_goB hxo (p := fun t => d.args.contains t) (fun t ht => by simpa using gslot_args ht) hF hgo
    simp only [hw, if_true]
    left
    unfold dRun at h
    rw [hl] at h
    have hlen : (selL (undL acc listed) 0 L).length = L.length := selL_length _ _ _
    obtain ⟨rd, ids, hck, hrun⟩ := hv_sound (P := P) hxop (p := fun t => d.args.contains t) (L' := selL (undL acc listed) 0 L) (σ := σ) (a := a) (w := w) (fun t ht => by simpa using slots_args ht) ⟨hF, (by have := selL_less (p := undL acc listed) (q := fun _ => true) (L := L) (fun _ _ => rfl); rwa [selL_id (p := fun _ => true) (fun _ => rfl)] at this), I.mem, I.scF, I.hscL⟩ h
    have hids : ∀ k, k ∈ ids → undL acc listed k = true := fun k hk => undL_iff.2 fun y hy hm => by
      refine Classical.byContradiction fun hn => ?_
      exact ((chkH_spec hck (foe y hy (by simpa using hn))).2 k hm).1 hk
    have hrd : ∀ k, k ∈ rd → undL acc listed k = true := fun k hk => undL_iff.2 fun y hy hm => by
      refine Classical.byContradiction fun hn => ?_
      exact ((chkH_spec hck (foe y hy (by simpa using hn))).2 k hm).2 hk
    have hredo : ∀ L1, Upd ids L L1 → redo ids 0 (selL (undL acc listed) 0 L) L1 = selL (undL acc listed) 0 L1 := by
      intro L1 hu
      apply List.ext_getElem?
      intro k
      rw [redo_get _ _ _ _ _ (by rw [hlen]; exact hu.1), Nat.zero_add, hlen, get_selL, get_selL, Nat.zero_add]
      by_cases hk : k < L.length ∧ k ∉ ids
      · rw [if_pos hk, hu.2 k hk.1 hk.2]
      · rw [if_neg hk, if_pos]
        by_cases hkl : k < L.length
        · exact hids k (Classical.byContradiction fun hn => hk ⟨hkl, hn⟩)
        · exact undL_iff.2 fun y hy hm => absurd ((I.accs y hy).2 k hm).2 hkl
    refine Oper.wp_mono2 ?_ ?_ (hrun (fun k hk => by rw [get_selL, Nat.zero_add, if_pos (hrd k hk)]) fun k hk => by rw [get_selL, Nat.zero_add, if_pos (hids k hk)])
    · rintro a' w' ⟨v, r, L1, g1, σ', rfl, hv, hrsc, hupd, hm, hsc, hg, hk⟩
      rw [hredo L1 hupd] at hm hg
      simp only [fR_eq, fL_eq] at hk
      obtain ⟨hoffs, hk⟩ := ifOk_elim hk
      rw [Bool.and_eq_true] at hoffs
      simp only [forceO_eq] at hk
      refine ⟨_, L1, g1, σ', fin rd ids v r L1 g1 σ' w' hck hv hrsc hupd (fun k hk => hg.agree k (by rw [hlen]; exact hk)) hg.gle hm (I.goes.trans hg) hsc (offS_on hoffs.1) (fun k c _ hc => ?_) hk⟩
      exact Chunk.on_mono hoff (offL_on hoffs.2 k c hc)
    · rintro e a' w' ⟨x, L1, g1, σ', rfl, hj, rfl, hxsc, hupd, hm, hsc, hg, hk⟩
      rw [hredo L1 hupd] at hm hg
      have hless : Less (selL (fun k => !(madeOf (foes acc d.anc)).contains k) 0 L1) (selL (undL acc listed) 0 L1) := selL_less hoff
      refine hQ x _ _ g1 σ' a' w' ⟨?_, hm.less hless, ?_, ?_, I.defers⟩ hj (by rw [selL_length]; exact hxsc) ((I.goes.trans hg).less hless) hk
      · have h1 : FR σ (selF (fun t => !ds.contains t) 0 fr) a'.tmps := I.hfr.sel rfl fun t ht => ⟨undF_iff.2 fun u hu hul hut => by
          have : t ∈ ds := D.ds u (hpreπ u hu) t hut
          simp [this] at ht, rfl⟩
        refine h1.on (p := fun k => decide (k < L.length)) (fun k hk => (hg.agree k (by rw [hlen]; simpa using hk)).symm) fun t => ?_
        rw [get_selF]
        split
        · rw [← on_sc]; exact sc_get I.scF t
        · rfl
      · rw [selL_length]
        refine scL_mem.2 fun y hy => ?_
        obtain ⟨i, hi', rfl⟩ := List.getElem_of_mem hy
        have hge : ∀ (l : List SV) (i : Nat) (h : i < l.length), l[i] = get l i := by
          intro l
          induction l with
          | nil => intro i h; simp at h
          | cons z l ih => intro i h; cases i with | zero => rfl | succ i => exact ih i (by simpa using h)
        rw [hge, get_selF]
        split
        · exact sc_mono hupd.1 _ (sc_get I.scF i)
        · rfl
      · intro k ty c hkc
        rw [selL_length]
        rw [get_selL] at hkc
        split at hkc
        · exact hsc k ty c hkc
        · simp only [Option.map_eq_some_iff] at hkc
          obtain ⟨_, _, h0⟩ := hkc
          cases h0
  · have hw := wanted_goB hxo (p := fun t => d.args.contains t) (fun t ht => by simpa using gslot_args ht) hF hgo
    simp only [hw, Bool.false_eq_true, if_false]
    unfold dSkip at h
    rw [hl, forceO_eq] at h
    have hall : chkH (foes acc d.anc) [] [] = true := by
      refine List.all_eq_true.2 fun x _ => ?_
      cases x.made <;> simp
    exact ⟨_, L, g, σ, fin [] [] undef (.v undef) L g σ w hall (fun _ => rfl) rfl ⟨Nat.le_refl _, fun _ _ _ => rfl⟩ (fun _ _ => rfl) (fun _ _ h => h) I.mem I.goes I.hscL rfl I.onL h⟩

end
end Go.Sx
