/- A symbolic executor of my own, part 17: from a law's contract to its row. Conditions: none; it speaks of any program. -/
import Derived.Test.YtflnpoahceebbaaSx16
import Derived.ProofKit
namespace Go.Sx
open Go.RowKit Go.WideShapes Go.ChangeShapes
variable {H : Type} {enc : TypeId × Value → H} {P : Program}

theorem trodAll_stays (hl : laidOutB P = true) : ∀ {ts : List TypeId} {vs : List Value} {ds : List (DataW H)} {ps : List MemPlace} {W W' : World} {sp' : Nat → Bool}, (∀ t ∈ ts, P.readableRec t = true ∧ t < P.types.size) →
    DataW.TrodAll enc P W 0 (fun _ => true) true ts vs ds ps → (∀ p ∈ ps, W.sameAt W' p) → (∀ p ∈ ps, sp' p.block = true) → DataW.TrodAll enc P W' 0 sp' true ts vs ds ps
  | [], [], [], _, _, _, _, _, h, _, _ => h
  | t :: ts, v :: vs, d :: ds, _, _, _, _, ht, ⟨p, q, h1, h2, e⟩, hs, hsp =>
    ⟨p, q, WideElems.Trod_stays hl (ht t (by simp)).1 (ht t (by simp)).2 h1 (fun x hx => hs x (by rw [e]; exact List.mem_append_left _ hx)) (fun x hx => hsp x (by rw [e]; exact List.mem_append_left _ hx)),
      trodAll_stays hl (fun t' h' => ht t' (List.mem_cons_of_mem _ h')) h2 (fun x hx => hs x (by rw [e]; exact List.mem_append_right _ hx)) (fun x hx => hsp x (by rw [e]; exact List.mem_append_right _ hx)), e⟩

/-- What a row of a law asks of the program, closed. -/
def lawFacts (P : Program) (f : Func) (s : ChangeSpec) : Bool :=
  laidOutB P && (f.params.toList.all (fun t => P.readableRec t && Nat.blt t P.types.size) && (s.vars.isEmpty && match f.resultTypes.toList with
    | [t] => match P.underlying t with
      | some .bool => true
      | _ => false
    | _ => false))

/-- **A law's end**: true; the arguments as they were. -/
theorem law_post {f : Func} {s : ChangeSpec} {apart fresh handsOn again : Bool} {W W' : World} {args : Array Value} {ds gs : List (DataW H)} {before : List MemPlace}
    (hF : lawFacts P f s = true) (hfn : s.fn H (ds ++ gs) = { results := [.lit (.bool true)], args := ds })
    (hW : DataW.Whole enc P f.params.toList s.vars apart W args.toList ds gs before) (hb : Below W.heap.size W W') :
    s.post enc P f apart fresh handsOn again W args (.bool true) W' := by
  simp only [lawFacts, Bool.and_eq_true] at hF
  obtain ⟨hl, hpar, hv, hres⟩ := hF
  have hv' : s.vars = [] := by simpa using hv
  have hrt : ∃ t, f.resultTypes = #[t] ∧ P.underlying t = some .bool := by
    revert hres
    cases hr : f.resultTypes with
    | mk l =>
      match l with
      | [] => intro h; cases h
      | [t] =>
        intro h
        refine ⟨t, rfl, ?_⟩
        revert h
        simp only
        split <;> simp_all
      | _ :: _ :: _ => intro h; cases h
  obtain ⟨t, hr, ht⟩ := hrt
  have hts : ∀ t ∈ f.params.toList, P.readableRec t = true ∧ t < P.types.size := by
    intro t h
    have := List.all_eq_true.1 hpar t h
    simpa [Nat.blt_eq] using this
  have hW' := hW
  have hlt : ∀ p ∈ before, p.block < W.heap.size := fun p hp => hW.lt p hp
  obtain ⟨p, q, hA, hV, hpq, hfz, hnd⟩ := hW
  rw [hv'] at hV
  obtain ⟨hg, hq⟩ := trodVars_none hV
  subst hq
  rw [List.append_nil] at hpq
  subst hpq
  have hold : ∀ x ∈ before, (fun b => decide (b < W.heap.size)) x.block = true := fun x hx => by simpa using hlt x hx
  have hargs : ∀ sp : Nat → Bool, (∀ x ∈ before, sp x.block = true) → DataW.TrodAll enc P W' 0 sp true f.params.toList args.toList (s.fn H (ds ++ gs)).args before := by
    intro sp hsp
    rw [hfn]
    exact trodAll_stays hl hts hA (fun x hx => hb.same (hlt x hx)) hsp
  have hres : ∀ (b : Nat) (sp : Nat → Bool) (hd : Bool), DataW.TrodAll enc P W' b sp hd f.resultTypes.toList ((Value.bool true).resultList f.resultTypes.size) (s.fn H (ds ++ gs)).results [] := by
    intro b sp hd
    rw [hfn, hr]
    exact trodAll_mk1 ⟨1, by simp [DataW.trod, Value.cells, ht]⟩
  have hvars : ∀ sp : Nat → Bool, (∀ x ∈ before, sp x.block = true) → DataW.TrodVars enc P W' sp s.vars (s.fn H (ds ++ gs)).vars [] := by
    intro sp _
    rw [hv', hfn]
    rfl
  have hok : ∀ (j : Nat) (t : TypeId) (r : Value), f.resultTypes[j]? = some t → ((Value.bool true).resultList f.resultTypes.size)[j]? = some r → Value.okWide P W' .any 0 t r :=
    ok_one hr rfl (by simp [Value.okWide, ht, Cell.okWide, Cell.ok])
  refine ⟨ds, gs, before, [], before, [], hW', hres _ _ _, hargs _ hold, hvars _ hold, World.keptBut_mono (fun x hx => ⟨hx, .inr (.inl hx)⟩) (hb.frame (· ∈ before)), fun _ => ?_⟩
  refine ⟨hok, _, _, ([] ++ before) ++ [], ⟨[] ++ before, [], trodAll_append (hargs _ (fun _ _ => rfl)) (hres _ _ _), hvars _ (fun _ _ => rfl), rfl, ?_, ?_⟩, ?_⟩
  · intro b off hp
    have hin : MemPlace.cell b off ∈ before := by simpa using hp
    rw [hb.frozen (hlt _ hin)]
    exact hfz b off hin
  · intro ha
    simpa using hnd ha
  · intro x hx _
    simpa using hx

/-- Memory as it stands, nothing at hand. -/
def gOf (W : World) : G := fun b => W.heap[b]?
theorem gOf_holds (W : World) (σ : Nat → Nat) : Holds (gOf W) [] σ W :=
  ⟨fun _ _ h => h, fun _ _ _ h => by simp at h, fun _ _ h => by simp at h, fun _ h => by simp at h, fun _ h => by simp at h⟩

/-- **A law's row from its contract.** -/
theorem law_calls {n : FuncId} {f : Func} {s : ChangeSpec} {apart fresh handsOn again : Bool} {W : World} {args : Array Value} {ds gs : List (DataW H)} {before : List MemPlace} (as : List SV)
    (hF : lawFacts P f s = true) (hfn : s.fn H (ds ++ gs) = { results := [.lit (.bool true)], args := ds })
    (hW : DataW.Whole enc P f.params.toList s.vars apart W args.toList ds gs before)
    (has : (reL (fun _ => 0) as).toArray = args) (hsc : scL 0 as = true)
    (hm : Meets P n as [] (gOf W) (fun r _ _ => r = .v (.bool true))) :
    Calls P n args W fun e W' => ∃ v, e = .returned v ∧ s.post enc P f apart fresh handsOn again W args v W' := by
  subst has
  refine (hm.2 (fun _ => 0) W (gOf_holds W _) (fun _ _ _ h => by simp at h) hsc).mono ?_
  rintro e W' ⟨r, L', g', σ', rfl, -, -, -, -, hgo, rfl⟩
  refine ⟨_, rfl, law_post hF hfn hW ⟨hgo.os, hgo.tape, hgo.output, hgo.size, fun k hk => hgo.keep k hk (fun _ h => by simp at h)⟩⟩

theorem gOf_at {W : World} {a : Addr} {xs : List Value} (ha : ∀ i, i < xs.length → W.cell? (a.add i) = xs[i]?) (hn : 0 < xs.length) : (gOf W).at a xs := by
  have h0 := ha 0 hn
  obtain ⟨b, o, sp⟩ := a
  rw [List.getElem?_eq_getElem hn] at h0
  have key : ∀ i v, W.cell? ((⟨b, o, none⟩ : Addr).add i) = some v → ∃ c ty fz, W.heap[b]? = some (.cells c ty fz) ∧ c[o + i]? = some v := by
    intro i v h
    rw [add_cell] at h
    unfold World.cell? at h
    simp only at h
    split at h
    · rename_i c ty fz hc
      exact ⟨c, ty, fz, hc, by simpa using h⟩
    · cases h
  cases sp with
  | some s =>
    exfalso
    unfold World.cell? at h0
    split at h0
    · simp [Addr.add] at h0
    · cases h0
  | none =>
    obtain ⟨c, ty, fz, hb, -⟩ := key 0 _ h0
    refine ⟨rfl, c, ty, fz, hb, fun i hi => ?_⟩
    have hi' := ha i hi
    rw [List.getElem?_eq_getElem hi] at hi' ⊢
    obtain ⟨c', ty', fz', hb', hc'⟩ := key i _ hi'
    rw [hb] at hb'
    cases hb'
    exact hc'

end Go.Sx
