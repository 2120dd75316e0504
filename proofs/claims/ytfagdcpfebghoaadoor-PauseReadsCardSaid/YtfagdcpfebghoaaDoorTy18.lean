/- A symbolic executor of my own, part 18: operations told by the model: what makes a block, reads, writes one, panics, calls by a method; slices made, bytes of a string, copy; maps. Conditions: none; it speaks of any program. -/
import Derived.Test.YtfagdcpfebghoaaDoorTy17
import Derived.Laws.MakeOwn
import Derived.Laws.IdiomStrings
import Derived.Laws.Externs
import Derived.MapKept
namespace Go.Sx

def Chunk.lone : Chunk → Bool
  | .cells _ _ => false
  | .gone => false
  | _ => true
theorem lone_on {c : Chunk} (h : c.lone = true) (p : Nat → Bool) : c.on p = true := by cases c <;> first | rfl | cases h
theorem lone_here {c : Chunk} (h : c.lone = true) : c.here = true := by cases c <;> first | rfl | cases h
theorem lone_sc {c : Chunk} (h : c.lone = true) (n : Nat) : scC n c = true := by cases c <;> first | rfl | cases h
theorem lone_obj {c : Chunk} (h : c.lone = true) : ∃ ob, ∀ σ, c.obj σ = some ob := by cases c <;> first | exact ⟨_, fun _ => rfl⟩ | cases h

section
variable {P : Program} {L L' : List Chunk} {g : G} {σ : Nat → Nat} {w : World} {op : Op} {args : List Operand} {vs : List SV} {chk : List Nat → List Nat → Bool} {K : Out → List Chunk → G → Prop}

theorem offNew (hsc : scH L) : ∀ (j : Nat) (c' : Chunk), (L ++ [Chunk.gone])[j]? = some c' → c'.on (fun i => !(i == L.length)) = true := by
  intro j c' hjc
  rcases getElem?_append_one hjc with ⟨_, h2⟩ | ⟨_, rfl⟩
  · cases c' with
    | cells ty l =>
      have := hsc j ty l h2
      rw [onL_sc] at this
      exact onL_mono (fun k hk => by simp at hk ⊢; omega) l this
    | _ => rfl
  · rfl
theorem Mem.pushC (h : Mem g L σ w) (hsc : scH L) {c : Chunk} (hp : c.lone = true) {ob : Obj} (ho : ∀ σ, c.obj σ = some ob) :
    Mem g (L ++ [c]) (fun j => if j = L.length then w.heap.size else σ j) { w with heap := w.heap.push ob } := by
  have := h.place.born (k := L.length) (by simp) (offNew hsc) c (lone_on hp _) _ (ho _)
  rwa [set_last] at this
theorem Goes.pushC {σ0 L0 g0 w0} (h : Goes σ0 L0 g0 w0 σ L g w) (c : Chunk) (ob : Obj) :
    Goes σ0 L0 g0 w0 (fun j => if j = L.length then w.heap.size else σ j) (L ++ [c]) g { w with heap := w.heap.push ob } := by
  have := h.place.born (k := L.length) h.len c ob
  rwa [set_last] at this
theorem scH_pushC {c : Chunk} (hL : scH L) (hc : c.lone = true) : scH (L ++ [c]) := by
  intro k ty' l hk
  rcases getElem?_append_one hk with ⟨_, h2⟩ | ⟨_, h2⟩
  · exact scL_mono (by simp) _ (hL k ty' l h2)
  · subst h2; cases hc

/-- A block that nobody writes any more, new. -/
def G.plus (g : G) (b : Nat) (ob : Obj) : G := fun b' => if b' = b then some ob else g b'
theorem G.plus_le {g : G} {b : Nat} (h : g b = none) (ob : Obj) : G.le g (g.plus b ob) := by
  intro b' o hb
  unfold G.plus
  split
  · rename_i e; subst e; rw [h] at hb; cases hb
  · exact hb
theorem G.plus_at {g : G} {b : Nat} {ob : Obj} : g.plus b ob b = some ob := by simp [G.plus]
theorem Mem.pushG (h : Mem g L σ w) (ob : Obj) : Mem (g.plus w.heap.size ob) L σ { w with heap := w.heap.push ob } := by
  refine ⟨fun b o hb => ?_, fun k c o hk ho => ?_, h.inj, fun k hk => ?_⟩
  · unfold G.plus at hb
    split at hb
    · rename_i e; subst e; cases hb; simp
    · show (w.heap.push ob)[b]? = _
      rw [heap_push_lt (h.im_lt hb)]; exact h.im b o hb
  · show (w.heap.push ob)[σ k]? = _
    rw [heap_push_lt (h.lt (live_of hk (obj_here ho)))]; exact h.lo k c o hk ho
  · have := h.lt hk
    unfold G.plus
    rw [if_neg (by omega)]
    exact h.sep k hk
theorem im_none (h : Mem g L σ w) : g w.heap.size = none := by
  cases hg : g w.heap.size with
  | none => rfl
  | some o => have := h.im_lt hg; omega
theorem Goes.pushG {σ0 L0 g0 w0} (h : Goes σ0 L0 g0 w0 σ L g w) (hn : g w.heap.size = none) (ob : Obj) : Goes σ0 L0 g0 w0 σ L (g.plus w.heap.size ob) { w with heap := w.heap.push ob } where
  agree := h.agree
  len := h.len
  dead := h.dead
  fresh := h.fresh
  gle b o hb := G.plus_le hn ob b o (h.gle b o hb)
  gnew b h1 h2 := by
    unfold G.plus at h2
    split at h2
    · rename_i e; exact .inl (by rw [e]; exact h.size)
    · exact h.gnew b h1 h2
  os := h.os
  tape := h.tape
  output := h.output
  size := by simp only [Array.size_push]; have := h.size; omega
  keep b hb hn := (heap_push_lt (Nat.lt_of_lt_of_le hb h.size)).trans (h.keep b hb hn)

/-- A block of the function's own is given up: nobody writes it any more. -/
theorem Mem.freeze (h : Mem g L σ w) {k : Nat} {c : Chunk} {ob : Obj} (hk : L[k]? = some c) (ho : c.obj σ = some ob) : Mem (g.plus (σ k) ob) (L.set k .gone) σ w := by
  have hl : ∀ j, live (L.set k .gone) j → j ≠ k ∧ live L j := fun j hj => by
    by_cases hjk : j = k
    · subst hjk
      obtain ⟨c', hc', hh⟩ := live_get hj
      rw [List.getElem?_set_self (List.getElem?_eq_some_iff.1 hk).1] at hc'
      cases hc'; cases hh
    · exact ⟨hjk, by rwa [live_congr (L' := L) (List.getElem?_set_ne (fun e => hjk e.symm))] at hj⟩
  have hkl := live_of hk (obj_here ho)
  refine ⟨fun b o hb => ?_, fun j c' o hj ho' => ?_, fun i j hi hj => h.inj i j (hl i hi).2 (hl j hj).2, fun j hj => ?_⟩
  · unfold G.plus at hb
    split at hb
    · rename_i e; subst e; cases hb; exact h.lo k c _ hk ho
    · exact h.im b o hb
  · have hj2 := (hl j (live_of hj (obj_here ho'))).1
    rw [List.getElem?_set_ne (fun e => hj2 e.symm)] at hj
    exact h.lo j c' o hj ho'
  · obtain ⟨h1, h2⟩ := hl j hj
    unfold G.plus
    rw [if_neg (fun e => h1 (h.inj j k h2 hkl e))]
    exact h.sep j h2
theorem Goes.freeze {σ0 L0 g0 w0} (h : Goes σ0 L0 g0 w0 σ L g w) (hm : Mem g L σ w) {k : Nat} {c : Chunk} {ob : Obj} (hk : L[k]? = some c) (ho : c.obj σ = some ob) : Goes σ0 L0 g0 w0 σ (L.set k .gone) (g.plus (σ k) ob) w := by
  have hkl := live_of hk (obj_here ho)
  have hl : ∀ j, live (L.set k .gone) j → j ≠ k ∧ live L j := fun j hj => by
    by_cases hjk : j = k
    · subst hjk
      obtain ⟨c', hc', hh⟩ := live_get hj
      rw [List.getElem?_set_self (List.getElem?_eq_some_iff.1 hk).1] at hc'
      cases hc'; cases hh
    · exact ⟨hjk, by rwa [live_congr (L' := L) (List.getElem?_set_ne (fun e => hjk e.symm))] at hj⟩
  refine ⟨h.agree, by rw [List.length_set]; exact h.len, fun j hj hlv => h.dead j hj (hl j hlv).2, fun j hj hlv => ?_, fun b o hb => G.plus_le (hm.sep k hkl) ob b o (h.gle b o hb), fun b h1 h2 => ?_, h.os, h.tape, h.output, h.size, h.keep⟩
  · rcases h.fresh j hj (hl j hlv).2 with h3 | ⟨m, m1, m2, m3, m4⟩
    · exact .inl h3
    · exact .inr ⟨m, m1, m2, fun hm => m3 (hl m hm).2, m4⟩
  · unfold G.plus at h2
    split at h2
    · rename_i e
      subst e
      by_cases hkn : k < L0.length
      · exact .inr ⟨k, hkn, h.dead k hkn hkl, fun hm => (hl k hm).1 rfl, (h.agree k hkn).symm⟩
      · rcases h.fresh k (by omega) hkl with h3 | ⟨m, m1, m2, m3, m4⟩
        · exact .inl h3
        · exact .inr ⟨m, m1, m2, fun hm => m3 (hl m hm).2, m4⟩
    · rcases h.gnew b h1 h2 with h3 | ⟨m, m1, m2, m3, m4⟩
      · exact .inl h3
      · exact .inr ⟨m, m1, m2, fun hm => m3 (hl m hm).2, m4⟩

theorem redo_nil {ids : List Nat} (hl : Less L' L) (h : ∀ k, k ∈ ids → L'[k]? = L[k]?) : redo ids 0 L' L = L' := by
  apply List.ext_getElem?
  intro k
  rw [redo_get ids L' L 0 k (Nat.le_of_eq hl.1), Nat.zero_add]
  split
  · rfl
  · rename_i hn
    by_cases hk : k < L'.length
    · exact (h k (Classical.byContradiction fun hh => hn ⟨hk, hh⟩)).symm
    · have := hl.1
      rw [List.getElem?_eq_none (by omega), List.getElem?_eq_none (by omega)]

theorem PrimX_of (rd ids : List Nat) (hc : chk rd ids = true) (h : PrimV P op args vs L g rd ids K) : PrimX P op args vs L g chk K := by
  unfold PrimX
  exact ⟨rd, ids, hc, h⟩

/-- What is at hand of memory. -/
structure Sees (ids : List Nat) (L : List Chunk) (g : G) (σ : Nat → Nat) (w : World) : Prop where
  im : ∀ b o, g b = some o → w.heap[b]? = some o
  lo : ∀ k c o, k ∈ ids → L[k]? = some c → c.obj σ = some o → w.heap[σ k]? = some o

theorem sees_of (hm : Mem g L' σ w) {ids : List Nat} (hids : ∀ k, k ∈ ids → L'[k]? = L[k]?) : Sees ids L g σ w :=
  ⟨hm.im, fun k c o hk hc ho => hm.lo k c o (by rw [hids k hk]; exact hc) ho⟩

/-- It only reads. -/
theorem prim_read (ids : List Nat) (r : SV) (hc : chk ids [] = true) (hs : scL L.length vs = true → r.sc L.length = true)
    (hrun : ∀ (o : Oper) (a : Act) (σ : Nat → Nat) (w : World), o.op = op → (∀ p ∈ args.zip vs, a.eval p.1 = p.2.re σ) → Sees ids L g σ w → (execOp a.eval o).run P w = .ok (.value (r.re σ)) w)
    (k : K (.ret r) L g) : PrimX P op args vs L g chk K := by
  refine PrimX_of ids [] hc fun o L' σ a w ho hl hm hsc hv hev hids hid0 => ?_
  unfold Oper.wp
  rw [hrun o a σ w ho hev (sees_of hm hids)]
  refine ⟨_, r, L, g, σ, rfl, fun _ => rfl, hs hv, ⟨Nat.le_refl _, fun _ _ _ => rfl⟩, ?_, hsc, ?_, k⟩
  · rw [redo_nil hl hid0]; exact hm
  · rw [redo_nil hl hid0]; exact Goes.refl _ _ _ _
theorem prim_val (r : SV) (hc : chk [] [] = true) (hs : scL L.length vs = true → r.sc L.length = true)
    (hrun : ∀ (o : Oper) (a : Act) (σ : Nat → Nat) (w : World), o.op = op → (∀ p ∈ args.zip vs, a.eval p.1 = p.2.re σ) → (execOp a.eval o).run P w = .ok (.value (r.re σ)) w)
    (k : K (.ret r) L g) : PrimX P op args vs L g chk K :=
  prim_read [] r hc hs (fun o a σ w h1 h2 _ => hrun o a σ w h1 h2) k

/-- It makes a block. -/
theorem prim_new (ids : List Nat) (hc : chk ids [] = true)
    (hrun : ∀ (o : Oper) (a : Act) (σ : Nat → Nat) (w : World), o.op = op → (∀ p ∈ args.zip vs, a.eval p.1 = p.2.re σ) → Sees ids L g σ w → ∃ c ob r v dn, c.lone = true ∧ (∀ σ, c.obj σ = some ob) ∧ r.sc (L.length + 1) = true ∧
      (execOp a.eval o).run P w = .ok (.value v) { ({ w with heap := w.heap.push ob } : World) with drawn := dn } ∧ (∀ σ' : Nat → Nat, σ' L.length = w.heap.size → v = r.re σ') ∧ K (.ret r) (L ++ [c]) g) : PrimX P op args vs L g chk K := by
  refine PrimX_of ids [] hc fun o L' σ a w ho hl hm hsc hv hev hids hid0 => ?_
  obtain ⟨c, ob, r, v, dn, hc, hob, hr, hrun, hv, k⟩ := hrun o a σ w ho hev (sees_of hm hids)
  unfold Oper.wp
  rw [hrun]
  have hrd : redo [] 0 L' (L ++ [c]) = L' ++ [c] := redo_app hl.1.symm rfl (fun k _ hk => (hid0 k hk).symm) (fun _ _ _ => rfl)
  refine ⟨v, r, L ++ [c], g, fun j => if j = L'.length then w.heap.size else σ j, rfl, fun _ => hv _ (by simp [hl.1]), by simpa using hr, ⟨by simp, fun k hk _ => List.getElem?_append_left hk⟩, ?_, scH_pushC hsc hc, ?_, k⟩
  · rw [hrd]; exact (hm.pushC (scH_less hl hsc) hc hob).drew _
  · rw [hrd]; exact ((Goes.refl σ L' g w).pushC c ob).drew _

/-- It makes a block that nobody writes any more. -/
theorem prim_newG (ids : List Nat) (hc : chk ids [] = true)
    (hrun : ∀ (o : Oper) (a : Act) (σ : Nat → Nat) (w : World), o.op = op → (∀ p ∈ args.zip vs, a.eval p.1 = p.2.re σ) → Sees ids L g σ w → ∃ ob r dn, r.sc L.length = true ∧
      (execOp a.eval o).run P w = .ok (.value (r.re σ)) { ({ w with heap := w.heap.push ob } : World) with drawn := dn } ∧ (∀ g', G.le g g' → g' w.heap.size = some ob → K (.ret r) L g')) : PrimX P op args vs L g chk K := by
  refine PrimX_of ids [] hc fun o L' σ a w ho hl hm hsc hv hev hids hid0 => ?_
  obtain ⟨ob, r, dn, hr, hrun, k⟩ := hrun o a σ w ho hev (sees_of hm hids)
  unfold Oper.wp
  rw [hrun]
  refine ⟨_, r, L, g.plus w.heap.size ob, σ, rfl, fun _ => rfl, hr, ⟨Nat.le_refl _, fun _ _ _ => rfl⟩, ?_, hsc, ?_, k _ (G.plus_le (im_none hm) ob) G.plus_at⟩
  · rw [redo_nil hl hid0]; exact (hm.pushG ob).drew _
  · rw [redo_nil hl hid0]; exact ((Goes.refl σ L' g w).pushG (im_none hm) ob).drew _

/-- It writes a block at hand. -/
theorem prim_set (b : Nat) (ids : List Nat) (hc : chk [] (b :: ids) = true) (d : Chunk) (hd : L[b]? = some d) (hlv : d.here = true)
    (hrun : ∀ (o : Oper) (a : Act) (σ : Nat → Nat) (w : World), o.op = op → (∀ p ∈ args.zip vs, a.eval p.1 = p.2.re σ) → Sees (b :: ids) L g σ w → ∃ c ob r dn, c.lone = true ∧ (∀ σ, c.obj σ = some ob) ∧ r.sc L.length = true ∧
      (execOp a.eval o).run P w = .ok (.value (r.re σ)) { ({ w with heap := w.heap.setIfInBounds (σ b) ob } : World) with drawn := dn } ∧ K (.ret r) (L.set b c) g) : PrimX P op args vs L g chk K := by
  refine PrimX_of [] (b :: ids) hc fun o L' σ a w ho hl hm hsc hv hev _ hids => ?_
  obtain ⟨c, ob, r, dn, hc, hob, hr, hrun, k⟩ := hrun o a σ w ho hev (sees_of hm hids)
  unfold Oper.wp
  rw [hrun]
  have hbL : L'[b]? = some d := by rw [hids b (by simp), hd]
  have hlive := live_of hbL hlv
  have hrd : redo (b :: ids) 0 L' (L.set b c) = L'.set b c := by
    have h := redo_app (ids := b :: ids) (L' := L') (M := L.set b c) (M' := L'.set b c) (N := []) (by rw [List.length_set, hl.1]) (by simp) (fun j hj hjm => (by
        by_cases hjk : b = j
        · subst hjk
          rw [List.getElem?_set_self (by rw [← hl.1]; omega), List.getElem?_set_self (by omega)]
        · rw [List.getElem?_set_ne hjk, List.getElem?_set_ne hjk]
          exact (hids j hjm).symm)) (fun j _ hjm => (List.getElem?_set_ne (fun e => hjm (by simp [e]))).symm)
    simpa using h
  refine ⟨_, r, L.set b c, g, σ, rfl, fun _ => rfl, by simpa using hr, ⟨by simp, fun k hk hn => List.getElem?_set_ne (fun e => hn (by simp [e]))⟩, ?_, scH_set hsc (lone_sc hc _), ?_, k⟩
  · rw [hrd]; exact (hm.write hlive c ob (hob _)).drew _
  · rw [hrd]; exact ((Goes.refl σ L' g w).write hlive c ob).drew _

/-- It panics. -/
theorem prim_pan (x : SV) (hj : x ≠ .junk) (hc : chk [] [] = true) (hs : scL L.length vs = true → x.sc L.length = true)
    (hrun : ∀ (o : Oper) (a : Act) (σ : Nat → Nat) (w : World), o.op = op → (∀ p ∈ args.zip vs, a.eval p.1 = p.2.re σ) → (execOp a.eval o).run P w = .halt (.panic (x.re σ)) w)
    (k : K (.pan x) L g) : PrimX P op args vs L g chk K := by
  refine PrimX_of [] [] hc fun o L' σ a w ho hl hm hsc hv hev _ hids => ?_
  unfold Oper.wp
  rw [hrun o a σ w ho hev]
  refine ⟨x, L, g, σ, rfl, hj, rfl, hs hv, ⟨Nat.le_refl _, fun _ _ _ => rfl⟩, ?_, hsc, ?_, k⟩
  · rw [redo_nil hl hids]; exact hm
  · rw [redo_nil hl hids]; exact Goes.refl _ _ _ _
theorem prim_panic {y : Operand} {t : TypeId} {x : SV} (hc : chk [] [] = true) (k : K (.pan (.iface t x)) L g) : PrimX P (.panic y) [y] [.iface t x] L g chk K :=
  prim_pan (.iface t x) nofun hc (fun h => by simpa [scL] using h) (fun o a σ w ho hev => by
    have := hev (y, .iface t x) (by simp)
    simp only [SV.re] at this
    simp [execOp, ho, this, Instr.panic, SV.re]) k
theorem prim_panicV {y : Operand} {t : TypeId} {x : Value} (hc : chk [] [] = true) (k : K (.pan (.v (.iface t x))) L g) : PrimX P (.panic y) [y] [.v (.iface t x)] L g chk K :=
  prim_pan (.v (.iface t x)) nofun hc (fun h => by simpa [scL] using h) (fun o a σ w ho hev => by
    have := hev (y, .v (.iface t x)) (by simp)
    simp only [SV.re] at this
    simp [execOp, ho, this, Instr.panic, SV.re]) k

theorem zip_self_map {f : Operand → Value} {σ : Nat → Nat} : ∀ {l : List Operand} {xs : List SV}, l.length = xs.length → (∀ p ∈ l.zip xs, f p.1 = p.2.re σ) → l.map f = reL σ xs
  | [], [], _, _ => rfl
  | x :: l, y :: xs, hl, h => by
    simp only [List.map_cons, reL]
    rw [h (x, y) (by simp), zip_self_map (by simpa using hl) fun p hp => h p (by simp [hp])]

/-- A call by a method of an interface value. -/
theorem prim_invoke {c : Call} {recv : Operand} {name : String} (hcal : c.callee = .invoke recv name) (f : FuncId) (rv x : SV) (t : TypeId) (y : Value) (as : List SV) (hlen : c.args.toList.length = as.length)
    (hx : ∀ σ, x.re σ = .iface t y) (hm : ∀ w, (Go.method (P.types.size + Made.depth) t y name).run P w = .ok (f, y) w) (hrv : ∀ σ, rv.re σ = y) (hs : x.sc L.length = true → rv.sc L.length = true)
    (h : CallX P f (rv :: as) L g chk K) : PrimX P (.call c) (recv :: c.args.toList) (x :: as) L g chk K := by
  unfold CallX at h
  obtain ⟨rd, ids, hck, h⟩ := h
  refine PrimX_of rd ids hck fun o L' σ a w ho hl hm' hsc hv hev hrd hids => ?_
  have e0 : a.eval recv = .iface t y := by rw [hev (recv, x) (by simp)]; exact hx σ
  have e1 : c.args.toList.map a.eval = reL σ as := zip_self_map hlen fun p hp => hev p (by simp [hp])
  have e2 : c.args.map a.eval = (reL σ as).toArray := by apply Array.ext'; simp [← e1]
  have hsv : scL L.length (rv :: as) = true := by
    simp only [scL, Bool.and_eq_true] at hv ⊢
    exact ⟨hs hv.1, hv.2⟩
  have hr : (execOp a.eval o).run P w = .ok (.enter f (reL σ (rv :: as)).toArray) w := by
    have hcr := callable_run h.1 ((reL σ (rv :: as)).toArray) w
    have hpr : (program.run P w : Result Program) = .ok P w := rfl
    simp only [execOp, ho, resolve, hcal, e0, e2, Sem.run_bind, Sem.run_pure, Result.andThen_ok, invoke]
    have g0 : (#[Value.iface t y] ++ (reL σ as).toArray)[0]? = some (.iface t y) := by simp
    have g1 : (#[Value.iface t y] ++ (reL σ as).toArray).extract 1 (#[Value.iface t y] ++ (reL σ as).toArray).size = (reL σ as).toArray := by
      apply Array.ext'; simp
    simp only [g0, g1, callMethod, Sem.run_bind, hpr, Result.andThen_ok, hm]
    have g2 : #[y] ++ (reL σ as).toArray = (reL σ (rv :: as)).toArray := by
      apply Array.ext'; simp [reL, hrv σ]
    rw [g2]
    exact hcr
  unfold Oper.wp
  rw [hr]
  show Calls P f _ w _
  refine (h.2 L' σ w hl hrd hids hm' hsc hsv).mono ?_
  rintro e w' ⟨out, L1, g', σ', he, hj, h1, h2, h3, h4, h5, h6⟩
  cases out with
  | ret r => cases he; exact ⟨_, r, L1, g', σ', rfl, fun _ => rfl, h4, h1, h2, h3, h5, h6⟩
  | pan z => cases he; exact ⟨z, L1, g', σ', rfl, hj, rfl, h4, h1, h2, h3, h5, h6⟩

/-! ### Slices made, bytes of a string -/

theorem made_one {zv : Value} {z : Array Value} (hz : z = #[zv]) (n : Nat) : (madeCells z n).toList = List.replicate n zv := by
  subst hz
  simp only [madeCells, Array.toList_map, Array.toList_range]
  apply List.ext_getElem
  · simp
  · intro i h1 h2
    simp [Nat.mod_one]

/-- make([]T, n, c) where an element is one cell. -/
theorem prim_make {t e : TypeId} {i : TypeInfo} {z zv : Value} {lo co : Operand} {kl kc : IntKind} {n c : Int} (N : Nat) (hN : L.length = N) (ht : P.underlying t = some (.slice e)) (hi : P.info? e = some i) (hz : i.zero = some z) (hz1 : z.cells = #[zv]) (hsz : i.size = 1) (hc : chk [] [] = true)
    (h0 : 0 ≤ n ∧ n ≤ c ∧ (i.bytes : Int) * c ≤ 281474976710656 ∧ c ≤ 9223372036854775807) (k : K (.ret (.slc N 0 n.toNat c.toNat)) (L ++ [.vals e (List.replicate c.toNat zv)]) g) :
    PrimX P (.makeSlice t lo co) [lo, co] [.v (.int kl n), .v (.int kc c)] L g chk K := by
  subst hN
  refine prim_new [] hc fun o a σ w ho hev _ => ?_
  have e1 : a.eval lo = .int kl n := hev (lo, .v (.int kl n)) (by simp)
  have e2 : a.eval co = .int kc c := hev (co, .v (.int kc c)) (by simp)
  have hr := run_make (P := P) w t e i z ht hi hz kl kc n c h0.1 h0.2.1 h0.2.2.1 h0.2.2.2
  refine ⟨.vals e (List.replicate c.toNat zv), .cells (madeCells z.cells (c.toNat * i.size)) e (0, 0), .slc L.length 0 n.toNat c.toNat, .slice (some ⟨w.heap.size, 0, none⟩) n.toNat c.toNat, w.drawn, rfl, fun σ => ?_, by simp [SV.sc], ?_, fun σ' hs => by simp [SV.re, hs], k⟩
  · rw [hsz, Nat.mul_one]
    have := made_one hz1 c.toNat
    simp only [Chunk.obj, ← this]
  · simp only [execOp, ho, e1, e2, Sem.run_bind, hr, Result.andThen_ok, Sem.run_pure]
    rfl

/-- []byte(s), to be read. -/
theorem prim_bytes {src dst e : TypeId} {x : Operand} {s : ByteArray} (hs : P.underlying src = some .string) (hd : P.underlying dst = some (.slice e)) (he : P.underlying e = some (.int .u8)) (hc : chk [] [] = true)
    (k : ∀ (g' : G) (ad : Addr) (cap : Nat), G.le g g' → g'.at ad (s.data.toList.map fun b => Value.int .u8 b.toNat) → K (.ret (.v (.slice (some ad) s.size cap))) L g') :
    PrimX P (.convert src dst x) [x] [.v (.string s)] L g chk K := by
  refine prim_newG [] hc fun o a σ w ho hev _ => ?_
  have e1 : a.eval x = .string s := hev (x, .v (.string s)) (by simp)
  have hr := run_bytes_of_string (P := P) w src dst e s hs hd he
  refine ⟨.cells (bytesRow s (grownCap w s.size 0 e)) e ((bytesRow s (grownCap w s.size 0 e)).size, (bytesRow s (grownCap w s.size 0 e)).size + 1), .v (.slice (some ⟨w.heap.size, 0, none⟩) s.size (grownCap w s.size 0 e)), w.drawn + 1, rfl, ?_, fun g' hg hg' => k g' _ _ hg ⟨rfl, _, _, _, hg', fun i hi => ?_⟩⟩
  · simp only [execOp, ho, e1, Sem.run_bind, hr, Result.andThen_ok, Sem.run_pure, SV.re]
    rfl
  · simp only [Nat.zero_add, bytesRow]
    have hi' : i < s.data.size := by simpa using hi
    rw [Array.getElem?_append_left (by simpa using hi')]
    simp

/-! ### Maps -/

theorem prim_makeMap {t : TypeId} (N : Nat) (hN : L.length = N) (hc : chk [] [] = true) (k : K (.ret (.mp N)) (L ++ [.raw (.map #[] 0)]) g) : PrimX P (.makeMap t none) [] [] L g chk K := by
  subst hN
  refine prim_new [] hc fun o a σ w ho _ _ => ⟨.raw (.map #[] 0), .map #[] 0, .mp L.length, .map (some w.heap.size), w.drawn, rfl, fun _ => rfl, by simp [SV.sc], ?_, fun σ' hs => by simp [SV.re, hs], k⟩
  simp only [execOp, ho, Option.map_none, Instr.makeMap, Sem.run_bind, Sem.run_pure, Result.andThen_ok, run_newObj]

def flatKey (P : Program) (t : TypeId) : Bool :=
  match P.underlying t with
  | some .bool => true
  | some (.int _) => true
  | some .string => true
  | _ => false
theorem run_checkKeyN {t : TypeId} (h : flatKey P t = true) (e : Bool) (v : Value) (w : World) (n : Nat) : (Instr.checkKey e (n + 1) t v).run P w = .ok () w := by
  unfold flatKey at h
  split at h
  · rename_i hu; simp [Instr.checkKey, run_underlying hu]
  · rename_i q hu; simp [Instr.checkKey, run_underlying hu]
  · rename_i hu; simp [Instr.checkKey, run_underlying hu]
  · cases h
theorem run_checkKey {t : TypeId} (h : flatKey P t = true) (e : Bool) (v : Value) (w : World) : (Instr.checkKey e 10000 t v).run P w = .ok () w := run_checkKeyN h e v w 9999

/-- m[k] = x where there was none. -/
theorem prim_insert {t kt et : TypeId} {d : TypeDesc} {m kx vx : Operand} {b : Nat} {key val : Value} {es : Array MapEntry} {clock : Nat} (ht : P.underlying t = some (.map kt et)) (hk : flatKey P kt = true) (hd : P.underlying kt = some d) (hb : L[b]? = some (.raw (.map es clock))) (hc : chk [] [b] = true)
    (hf : Instr.findNow d key es.toList 0 = some none) (k : K (.ret (.v undef)) (L.set b (.raw (.map (es.push { key, val, born := clock }) (clock + 1)))) g) :
    PrimX P (.insert t m kx vx) [m, kx, vx] [.mp b, .v key, .v val] L g chk K := by
  refine PrimX_of [] [b] hc fun o L' σ a w ho hl hm hsc hv hev _ hids => ?_
  have e1 : a.eval m = .map (some (σ b)) := hev (m, .mp b) (by simp)
  have e2 : a.eval kx = key := hev (kx, .v key) (by simp)
  have e3 : a.eval vx = val := hev (vx, .v val) (by simp)
  have hbL : L'[b]? = some (.raw (.map es clock)) := by rw [hids b (by simp), hb]
  have hw := hm.lo b _ _ hbL rfl
  have hlive := live_of hbL rfl
  have hr : (execOp a.eval o).run P w = .ok .skip { w with heap := w.heap.setIfInBounds (σ b) (.map (es.push { key, val, born := clock }) (clock + 1)) } := by
    simp only [execOp, ho, e1, e2, e3, Instr.mapUpdate, Sem.run_bind, run_underlying ht, Result.andThen_ok, MapKept.run_getObj_map hw, run_checkKey hk, Instr.findKey, run_underlying hd, hf, Sem.run_pure, MapKept.run_setObj_map _ hw]
  unfold Oper.wp
  rw [hr]
  have hrd : redo [b] 0 L' (L.set b (.raw (.map (es.push { key, val, born := clock }) (clock + 1)))) = L'.set b (.raw (.map (es.push { key, val, born := clock }) (clock + 1))) := redo_set hl.1 (hids b (by simp))
  refine ⟨_, .v undef, _, g, σ, rfl, fun _ => rfl, rfl, ⟨by simp, fun k hk hn => List.getElem?_set_ne (fun e => hn (by simp [e]))⟩, ?_, scH_set hsc rfl, ?_, k⟩
  · rw [hrd]; exact hm.write hlive _ _ rfl
  · rw [hrd]; exact (Goes.refl σ L' g w).write hlive _ _

def foundOr (q : Option (Nat × Value)) (z : Value) : Value :=
  match q with
  | some p => p.2
  | none => z
/-- m[k] -/
theorem prim_lookup {t kt et : TypeId} {d : TypeDesc} {i : TypeInfo} {z : Value} {m kx : Operand} {b : Nat} {key : Value} {es : Array MapEntry} {clock : Nat} (q : Option (Nat × Value)) (ht : P.underlying t = some (.map kt et)) (hk : flatKey P kt = true) (hd : P.underlying kt = some d) (hi : P.info? et = some i) (hz : i.zero = some z)
    (hb : L[b]? = some (.raw (.map es clock))) (hc : chk [b] [] = true) (hf : Instr.findNow d key es.toList 0 = some q) (k : K (.ret (.v (foundOr q z))) L g) :
    PrimX P (.lookup t m kx false) [m, kx] [.mp b, .v key] L g chk K := by
  refine prim_read [b] (.v (foundOr q z)) hc (fun _ => rfl) (fun o a σ w ho hev hse => ?_) k
  have e1 : a.eval m = .map (some (σ b)) := hev (m, .mp b) (by simp)
  have e2 : a.eval kx = key := hev (kx, .v key) (by simp)
  have hw := hse.lo b _ _ (by simp) hb rfl
  cases q with
  | some p =>
    obtain ⟨i, v⟩ := p
    simp [execOp, ho, e1, e2, Instr.lookup, Sem.run_bind, run_underlying ht, Result.andThen_ok, MapKept.run_getObj_map hw, run_checkKey hk, Instr.findKey, run_underlying hd, hf, SV.re, foundOr]
  | none =>
    simp [execOp, ho, e1, e2, Instr.lookup, Sem.run_bind, run_underlying ht, Result.andThen_ok, MapKept.run_getObj_map hw, run_checkKey hk, Instr.findKey, run_underlying hd, hf, SV.re, zeroValue, typeInfo, hi, hz, foundOr]

/-- range over a map: it is given up (nobody writes it any more). -/
theorem prim_range {t kt et : TypeId} {m : Operand} {b : Nat} {es : Array MapEntry} {clock : Nat} (N : Nat) (hN : L.length = N) (ht : P.underlying t = some (.map kt et)) (hb : L[b]? = some (.raw (.map es clock))) (hc : chk [] [b] = true)
    (k : ∀ (g' : G) (mb : Nat), G.le g g' → g' mb = some (.map es clock) → K (.ret (.ptr N 0)) (L.set b .gone ++ [.raw (.mapIter (some mb) clock #[] clock)]) g') :
    PrimX P (.range t m) [m] [.mp b] L g chk K := by
  subst hN
  refine PrimX_of [] [b] hc fun o L' σ a w ho hl hm hsc hv hev _ hids => ?_
  have e1 : a.eval m = .map (some (σ b)) := hev (m, .mp b) (by simp)
  have hbL : L'[b]? = some (.raw (.map es clock)) := by rw [hids b (by simp), hb]
  have hw := hm.lo b _ _ hbL rfl
  have hlive := live_of hbL rfl
  have hr : (execOp a.eval o).run P w = .ok (.value (.pointer (some ⟨w.heap.size, 0, none⟩))) { w with heap := w.heap.push (.mapIter (some (σ b)) clock #[] clock) } := by
    simp [execOp, ho, e1, Instr.range, Sem.run_bind, run_underlying ht, Result.andThen_ok, MapKept.run_getObj_map hw]
  unfold Oper.wp
  rw [hr]
  have hbl : b < L.length := (List.getElem?_eq_some_iff.1 hb).1
  have hlen : (L.set b Chunk.gone).length = L.length := by simp
  have hrd : ∀ N, redo [b] 0 L' (L.set b .gone ++ N) = L'.set b .gone ++ N := fun N => redo_app (by simp [hl.1]) (by simp) (fun j hj hjm => (by
      have : j = b := by simpa using hjm
      subst this
      rw [List.getElem?_set_self (by rw [← hl.1]; omega), List.getElem?_set_self (by omega)])) (fun j _ hjm => (List.getElem?_set_ne (fun e => hjm (by simp [e]))).symm)
  have hm2 := (hm.freeze hbL rfl).pushC (scH_less ⟨by simp [hl.1], fun k => ?_⟩ (scH_set hsc (c := .gone) (k := b) rfl)) (c := .raw (.mapIter (some (σ b)) clock #[] clock)) rfl (fun _ => rfl)
  · refine ⟨_, .ptr L.length 0, _, g.plus (σ b) (.map es clock), fun j => if j = (L'.set b Chunk.gone).length then w.heap.size else σ j, rfl, fun _ => by simp [SV.re, hl.1], by simp [SV.sc], ⟨by simp, fun k hk hn => ?_⟩, ?_, scH_pushC (scH_set hsc (c := .gone) (k := b) rfl) (c := .raw (.mapIter (some (σ b)) clock #[] clock)) rfl, ?_, k _ (σ b) (G.plus_le (hm.sep b hlive) _) G.plus_at⟩
    · rw [List.getElem?_append_left (by simpa using hk), List.getElem?_set_ne (fun e => hn (by simp [e]))]
    · rw [hrd]; exact hm2
    · rw [hrd]; exact ((Goes.refl σ L' g w).freeze hm hbL rfl).pushC _ _
  · rcases hl.2 k with h1 | h1
    · left
      by_cases hkb : b = k
      · subst hkb; rw [hbL] at h1; cases h1
      · rw [List.getElem?_set_ne hkb]; exact h1
    · right
      by_cases hkb : b = k
      · subst hkb
        rw [List.getElem?_set_self (live_lt hlive), List.getElem?_set_self hbl]
      · rw [List.getElem?_set_ne hkb, List.getElem?_set_ne hkb]; exact h1

end
end Go.Sx
