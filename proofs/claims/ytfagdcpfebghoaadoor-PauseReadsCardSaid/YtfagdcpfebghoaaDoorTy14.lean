/- A symbolic executor of my own, second design, part 14: contracts that tell the answer; from a law's contract to its row. Conditions: none; it speaks of any program. -/
import Derived.Test.YtfagdcpfebghoaaDoorTy13
import Derived.ProofKit
namespace Go.Sx

/-! ### Calls -/

/-- A contract that tells the answer: nothing at hand is touched. -/
def Tells (P : Program) (f : FuncId) (args : List SV) (g : G) (r0 : SV) : Prop :=
  Meets P f args [] g fun o L' g' => o = .ret r0 ∧ L' = [] ∧ g' = g

theorem sc0_ren {f : Nat → Nat} {x : SV} (h : x.sc 0 = true) : x.ren f = x := by
  rw [on_sc] at h
  exact ren_fix (fun k hk => by simp at hk) x h
theorem scL0_ren {f : Nat → Nat} {l : List SV} (h : scL 0 l = true) : renL f l = l := by
  rw [onL_sc] at h
  exact renL_fix (fun k hk => by simp at hk) l h

theorem CallX_of {P : Program} {f : FuncId} {as : List SV} {L : List Chunk} {g : G} {chk : List Nat → List Nat → Bool} {K : Out → List Chunk → G → Prop} (ids : List Nat) (hc : chk [] ids = true) (h : CallV P f as L g [] ids K) : CallX P f as L g chk K := by
  unfold CallX
  exact ⟨[], ids, hc, h⟩

/-- A call by a contract that asks nothing of the blocks at hand. -/
theorem Meets.call0 {P : Program} {f : FuncId} {as : List SV} {g : G} {post : Out → List Chunk → G → Prop} (h : Meets P f as [] g post) {L : List Chunk} {chk : List Nat → List Nat → Bool} {K : Out → List Chunk → G → Prop} (h0 : scL 0 as = true) (hc : chk [] [] = true) (n : Nat) (hn : L.length = n)
    (k : ∀ o L1 g', post o L1 g' → K (o.ren fun j => n + j) (L ++ renC (fun j => n + j) L1) g') : CallX P f as L g chk K := by
  subst hn
  refine CallX_of [] hc (callV_sub [] h List.nodup_nil (by simp) rfl (scL0_ren h0).symm (fun j k hj => by simp at hj) h0 (fun k ty c hk => by simp at hk) fun out L1 g' hp _ => by
    have e : toBig L.length [] = fun j => L.length + j := funext fun j => by simp [toBig]
    rw [e, updL]
    exact k out L1 g' hp)

theorem Tells.call {P : Program} {f : FuncId} {as : List SV} {g : G} {r0 : SV} (h : Tells P f as g r0) {L : List Chunk} {chk : List Nat → List Nat → Bool} {K : Out → List Chunk → G → Prop} (h0 : scL 0 as = true) (hs : r0.sc 0 = true) (hc : chk [] [] = true) (k : K (.ret r0) L g) : CallX P f as L g chk K := by
  refine Meets.call0 h h0 hc L.length rfl ?_
  rintro o L1 g' ⟨rfl, rfl, rfl⟩
  rw [Out.ren, sc0_ren hs, renC, List.append_nil]
  exact k

/-- A call by a contract that speaks of some blocks at hand. -/
theorem Meets.callS {P : Program} {f : FuncId} {as0 : List SV} {L0 : List Chunk} {g : G} {post : Out → List Chunk → G → Prop} (h : Meets P f as0 L0 g post) (ids : List Nat) (n : Nat) {as : List SV} {L : List Chunk} {chk : List Nat → List Nat → Bool} {K : Out → List Chunk → G → Prop}
    (hn : L.length = n) (hb : (nodupB ids && (ids.all (fun k => Nat.blt k n) && (Nat.beq L0.length ids.length && (scL L0.length as0 && (scHB L0.length L0 && chk [] ids))))) = true) (has : as = renL (toBig n ids) as0) (hL0 : ids.map (nthC L) = renC (toBig n ids) L0)
    (k : ∀ o L1 g', post o L1 g' → L0.length ≤ L1.length → K (o.ren (toBig n ids)) (updL L ids (renC (toBig n ids) L1)) g') : CallX P f as L g chk K := by
  subst hn
  simp only [Bool.and_eq_true, List.all_eq_true, Nat.blt_eq] at hb
  obtain ⟨h1, h2, h3, h4, h5, h6⟩ := hb
  have hl := Nat.eq_of_beq_eq_true h3
  refine CallX_of ids h6 (callV_sub ids h (nodupB_spec h1) h2 hl has (fun j k hj => ?_) h4 (scHB_scH.1 h5) k)
  have hjl : j < L0.length := by rw [hl]; exact (List.getElem?_eq_some_iff.1 hj).1
  refine ⟨L0[j], List.getElem?_eq_getElem hjl, ?_⟩
  have e : (ids.map (nthC L))[j]? = (renC (toBig L.length ids) L0)[j]? := by rw [hL0]
  rw [List.getElem?_map, hj, renC_get, List.getElem?_eq_getElem hjl] at e
  simp only [Option.map_some, Option.some.injEq] at e
  rw [← e]
  have hk := h2 k (List.mem_of_getElem? hj)
  rw [List.getElem?_eq_getElem hk, nthC_some L k _ (List.getElem?_eq_getElem hk)]

/-- The same, of blocks that are only read. -/
theorem Meets.callR {P : Program} {f : FuncId} {as0 : List SV} {L0 : List Chunk} {g : G} {post : Out → List Chunk → G → Prop} (h : Meets P f as0 L0 g post) (ids : List Nat) (n : Nat) {as : List SV} {L : List Chunk} {chk : List Nat → List Nat → Bool} {K : Out → List Chunk → G → Prop}
    (hn : L.length = n) (hb : (nodupB ids && (ids.all (fun k => Nat.blt k n) && (Nat.beq L0.length ids.length && (scL L0.length as0 && (scHB L0.length L0 && chk ids []))))) = true) (has : as = renL (toBig n ids) as0) (hL0 : ids.map (nthC L) = renC (toBig n ids) L0)
    (k : ∀ o L1 g', post o L1 g' → L0.length ≤ L1.length → (∀ j, j ∈ ids → (updL L ids (renC (toBig n ids) L1))[j]? = L[j]?) ∧ K (o.ren (toBig n ids)) (updL L ids (renC (toBig n ids) L1)) g') : CallX P f as L g chk K := by
  subst hn
  simp only [Bool.and_eq_true, List.all_eq_true, Nat.blt_eq] at hb
  obtain ⟨h1, h2, h3, h4, h5, h6⟩ := hb
  have hl := Nat.eq_of_beq_eq_true h3
  unfold CallX
  refine ⟨ids, [], h6, CallV.ro (callV_sub ids h (nodupB_spec h1) h2 hl has (fun j k hj => ?_) h4 (scHB_scH.1 h5) k)⟩
  have hjl : j < L0.length := by rw [hl]; exact (List.getElem?_eq_some_iff.1 hj).1
  refine ⟨L0[j], List.getElem?_eq_getElem hjl, ?_⟩
  have e : (ids.map (nthC L))[j]? = (renC (toBig L.length ids) L0)[j]? := by rw [hL0]
  rw [List.getElem?_map, hj, renC_get, List.getElem?_eq_getElem hjl] at e
  simp only [Option.map_some, Option.some.injEq] at e
  rw [← e]
  have hk := h2 k (List.mem_of_getElem? hj)
  rw [List.getElem?_eq_getElem hk, nthC_some L k _ (List.getElem?_eq_getElem hk)]

/-! ### Rows -/

open Go.RowKit Go.WideShapes Go.ChangeShapes
variable {H : Type} {enc : TypeId × Value → H} {P : Program}

theorem trodAll_stays (hl : laidOutB P = true) : ∀ {ts : List TypeId} {vs : List Value} {ds : List (DataW H)} {ps : List MemPlace} {W W' : World} {sp' : Nat → Bool}, (∀ t ∈ ts, P.readableRec t = true ∧ t < P.types.size) →
    DataW.TrodAll enc P W 0 (fun _ => true) true ts vs ds ps → (∀ p ∈ ps, W.sameAt W' p) → (∀ p ∈ ps, sp' p.block = true) → DataW.TrodAll enc P W' 0 sp' true ts vs ds ps
  | [], [], [], _, _, _, _, _, h, _, _ => h
  | t :: ts, v :: vs, d :: ds, _, _, _, _, ht, ⟨p, q, h1, h2, e⟩, hs, hsp =>
    ⟨p, q, WideElems.Trod_stays hl (ht t (by simp)).1 (ht t (by simp)).2 h1 (fun x hx => hs x (by rw [e]; exact List.mem_append_left _ hx)) (fun x hx => hsp x (by rw [e]; exact List.mem_append_left _ hx)),
      trodAll_stays hl (fun t' h' => ht t' (List.mem_cons_of_mem _ h')) h2 (fun x hx => hs x (by rw [e]; exact List.mem_append_right _ hx)) (fun x hx => hsp x (by rw [e]; exact List.mem_append_right _ hx)), e⟩

/-- What a row of a law asks of the program, closed. -/
def lawFacts (P : Program) (f : Func) (s : ChangeSpec) : Bool :=
  laidOutB P && (f.params.toList.all (fun t => P.readableRec t && Nat.blt t P.types.size) && (s.vars.isEmpty && match f.resultTypes.toList with
    | [t] => match P.underlying t with
      | some .bool => true
      | _ => false
    | _ => false))

/-- **A law's end**: true; the arguments as they were. -/
theorem law_post {f : Func} {s : ChangeSpec} {apart fresh handsOn again : Bool} {W W' : World} {args : Array Value} {ds gs : List (DataW H)} {before : List MemPlace}
    (hF : lawFacts P f s = true) (hfn : s.fn H (ds ++ gs) = { results := [.lit (.bool true)], args := ds })
    (hW : DataW.Whole enc P f.params.toList s.vars apart W args.toList ds gs before) (hb : Below W.heap.size W W') :
    s.post enc P f apart fresh handsOn again W args (.bool true) W' := by
  simp only [lawFacts, Bool.and_eq_true] at hF
  obtain ⟨hl, hpar, hv, hres⟩ := hF
  have hv' : s.vars = [] := by simpa using hv
  have hrt : ∃ t, f.resultTypes = #[t] ∧ P.underlying t = some .bool := by
    revert hres
    cases hr : f.resultTypes with
    | mk l =>
      match l with
      | [] => intro h; cases h
      | [t] =>
        intro h
        refine ⟨t, rfl, ?_⟩
        revert h
        simp only
        split <;> simp_all
      | _ :: _ :: _ => intro h; cases h
  obtain ⟨t, hr, ht⟩ := hrt
  have hts : ∀ t ∈ f.params.toList, P.readableRec t = true ∧ t < P.types.size := by
    intro t h
    have := List.all_eq_true.1 hpar t h
    simpa [Nat.blt_eq] using this
  have hW' := hW
  have hlt : ∀ p ∈ before, p.block < W.heap.size := fun p hp => hW.lt p hp
  obtain ⟨p, q, hA, hV, hpq, hfz, hnd⟩ := hW
  rw [hv'] at hV
  obtain ⟨hg, hq⟩ := trodVars_none hV
  subst hq
  rw [List.append_nil] at hpq
  subst hpq
  have hold : ∀ x ∈ before, (fun b => decide (b < W.heap.size)) x.block = true := fun x hx => by simpa using hlt x hx
  have hargs : ∀ sp : Nat → Bool, (∀ x ∈ before, sp x.block = true) → DataW.TrodAll enc P W' 0 sp true f.params.toList args.toList (s.fn H (ds ++ gs)).args before := by
    intro sp hsp
    rw [hfn]
    exact trodAll_stays hl hts hA (fun x hx => hb.same (hlt x hx)) hsp
  have hres : ∀ (b : Nat) (sp : Nat → Bool) (hd : Bool), DataW.TrodAll enc P W' b sp hd f.resultTypes.toList ((Value.bool true).resultList f.resultTypes.size) (s.fn H (ds ++ gs)).results [] := by
    intro b sp hd
    rw [hfn, hr]
    exact trodAll_mk1 ⟨1, by simp [DataW.trod, Value.cells, ht]⟩
  have hvars : ∀ sp : Nat → Bool, (∀ x ∈ before, sp x.block = true) → DataW.TrodVars enc P W' sp s.vars (s.fn H (ds ++ gs)).vars [] := by
    intro sp _
    rw [hv', hfn]
    rfl
  have hok : ∀ (j : Nat) (t : TypeId) (r : Value), f.resultTypes[j]? = some t → ((Value.bool true).resultList f.resultTypes.size)[j]? = some r → Value.okWide P W' .any 0 t r :=
    ok_one hr rfl (by simp [Value.okWide, ht, Cell.okWide, Cell.ok])
  refine ⟨ds, gs, before, [], before, [], hW', hres _ _ _, hargs _ hold, hvars _ hold, World.keptBut_mono (fun x hx => ⟨hx, .inr (.inl hx)⟩) (hb.frame (· ∈ before)), fun _ => ?_⟩
  refine ⟨hok, _, _, ([] ++ before) ++ [], ⟨[] ++ before, [], trodAll_append (hargs _ (fun _ _ => rfl)) (hres _ _ _), hvars _ (fun _ _ => rfl), rfl, ?_, ?_⟩, ?_⟩
  · intro b off hp
    have hin : MemPlace.cell b off ∈ before := by simpa using hp
    rw [hb.frozen (hlt _ hin)]
    exact hfz b off hin
  · intro ha
    simpa using hnd ha
  · intro x hx _
    simpa using hx


/-- Memory as it stands, nothing at hand. -/
def gOf (W : World) : G := fun b => W.heap[b]?
theorem gOf_mem (W : World) (σ : Nat → Nat) : Mem (gOf W) [] σ W :=
  ⟨fun _ _ h => h, fun _ _ _ h => by simp at h, fun _ _ h => by simp [live, liveB] at h, fun _ h => by simp [live, liveB] at h⟩

/-- **A law's row from its contract.** -/
theorem law_calls {n : FuncId} {f : Func} {s : ChangeSpec} {apart fresh handsOn again : Bool} {W : World} {args : Array Value} {ds gs : List (DataW H)} {before : List MemPlace} (as : List SV)
    (hF : lawFacts P f s = true) (hfn : s.fn H (ds ++ gs) = { results := [.lit (.bool true)], args := ds })
    (hW : DataW.Whole enc P f.params.toList s.vars apart W args.toList ds gs before)
    (has : (reL (fun _ => 0) as).toArray = args) (hsc : scL 0 as = true)
    (hm : Meets P n as [] (gOf W) (fun o _ _ => o = .ret (.v (.bool true)))) :
    Calls P n args W fun e W' => ∃ v, e = .returned v ∧ s.post enc P f apart fresh handsOn again W args v W' := by
  subst has
  refine (hm.2 (fun _ => 0) W (gOf_mem W _) (fun _ _ _ h => by simp at h) hsc).mono ?_
  rintro e W' ⟨o, L', g', σ', he, -, -, -, -, hgo, rfl⟩
  cases he
  refine ⟨_, rfl, law_post hF hfn hW ⟨hgo.os, hgo.tape, hgo.output, hgo.size, fun k hk => hgo.keep k hk (fun _ h => by simp [live, liveB] at h)⟩⟩

theorem gOf_at {W : World} {a : Addr} {xs : List Value} (ha : ∀ i, i < xs.length → W.cell? (a.add i) = xs[i]?) (hn : 0 < xs.length) : (gOf W).at a xs := by
  have h0 := ha 0 hn
  obtain ⟨b, o, sp⟩ := a
  rw [List.getElem?_eq_getElem hn] at h0
  have key : ∀ i v, W.cell? ((⟨b, o, none⟩ : Addr).add i) = some v → ∃ c ty fz, W.heap[b]? = some (.cells c ty fz) ∧ c[o + i]? = some v := by
    intro i v h
    rw [add_cell] at h
    unfold World.cell? at h
    simp only at h
    split at h
    · rename_i c ty fz hc
      exact ⟨c, ty, fz, hc, by simpa using h⟩
    · cases h
  cases sp with
  | some s =>
    exfalso
    unfold World.cell? at h0
    split at h0
    · simp [Addr.add] at h0
    · cases h0
  | none =>
    obtain ⟨c, ty, fz, hb, -⟩ := key 0 _ h0
    refine ⟨rfl, c, ty, fz, hb, fun i hi => ?_⟩
    have hi' := ha i hi
    rw [List.getElem?_eq_getElem hi] at hi' ⊢
    obtain ⟨c', ty', fz', hb', hc'⟩ := key i _ hi'
    rw [hb] at hb'
    cases hb'
    exact hc'


end Go.Sx
