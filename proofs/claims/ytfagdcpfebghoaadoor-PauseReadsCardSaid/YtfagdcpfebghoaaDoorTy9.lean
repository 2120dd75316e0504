/- A symbolic executor of my own, second design, part 9: the region; the order in which it is walked, by program. Conditions: none; it speaks of any program. -/
import Derived.Test.YtfagdcpfebghoaaDoorTy8
namespace Go.Sx

section
variable {P : Program} {ops : Array Oper} {π : List DOp} {ds : List Nat} {σ0 : Nat → Nat} {L0 : List Chunk} {g0 : G} {w0 : World} {df : List Deferred} {K : KT} {listed : Array Bool}

/-- Nothing that only reads stands at the head of what is left. -/
def Ripe (post : List DOp) : Prop := ∀ d l, post = d :: l → d.x.x.light = false

theorem absorb_all (D : DOk P ops π ds) : ∀ (post pre : List DOp) (acc : List Acc) (fr : List SV) (L : List Chunk) (g : G) (σ : Nat → Nat) (a : Act) (w : World),
    DI P ops π ds σ0 L0 g0 w0 df K listed pre post acc fr L g σ a w → ∃ pre post acc fr L g σ, DI P ops π ds σ0 L0 g0 w0 df K listed pre post acc fr L g σ a w ∧ Ripe post
  | [], pre, acc, fr, L, g, σ, a, w, I => ⟨pre, [], acc, fr, L, g, σ, I, fun d l (e : [] = d :: l) => by cases e⟩
  | d :: post, pre, acc, fr, L, g, σ, a, w, I => by
    cases hl : d.x.x.light with
    | false => exact ⟨pre, d :: post, acc, fr, L, g, σ, I, fun d' l e => by cases e; exact hl⟩
    | true =>
      obtain ⟨acc', fr', L', I'⟩ := absorb D I hl
      exact absorb_all D post _ _ _ _ _ _ _ _ I'

theorem getD_done {i : Nat} : done listed i = listed.getD i false := rfl

theorem region_sound {id : Nat} {fr : List SV} {L : List Chunk} {g : G} {σ : Nat → Nat} {a : Act} {w : World} {Q : Exit → Act → World → Prop} (hm : P.follows .mixedOrders = true) (D : DOk P ops π ds)
    (hI : Inv df fr L g σ a w) (hg : Goes σ0 L0 g0 w0 σ L g w) (hvc : dR P ds π [] fr L g K)
    (hN : ∀ fr L g σ a w, Inv df fr L g σ a w → Goes σ0 L0 g0 w0 σ L g w → K .normal fr L g → Q .normal a w)
    (hQ : ∀ x fr L g σ a w, Inv df fr L g σ a w → x ≠ .junk → x.sc L.length = true → Goes σ0 L0 g0 w0 σ L g w → K (.pan x) fr L g → Q (.panic [{ v := x.re σ, recovered := false }]) a w) :
    (Code.region id ops true).wp P Q a w := by
  refine wp_region_any hm ?_
  have all0 : ∀ i, done (Array.replicate ops.size false) i = false := fun i => by
    unfold done
    rw [Array.getD_eq_getD_getElem?, Array.getElem?_replicate]
    split <;> rfl
  refine wpAny_inv (Q := Q) (fun listed a w => ∃ pre post acc fr L g σ, DI P ops π ds σ0 L0 g0 w0 df K listed pre post acc fr L g σ a w ∧ Ripe post) ?_ (fun j oj hj e he hb => back_spec D j oj hj e he hb) ?_ ops.size (List.range ops.size) _ a _ (by simp) List.nodup_range ?_ (by simp) ?_
  · rintro listed a w hsz ⟨pre, post, acc, fr, L, g, σ, I, hripe⟩ i oi hoi hnd hr
    have hi : i < ops.size := (Array.getElem?_eq_some_iff.1 hoi).1
    obtain ⟨d, hd, rfl⟩ := D.cover i hi
    have hd' : d ∈ pre ++ post := by rw [← I.cut]; exact hd
    rcases List.mem_append.1 hd' with hd' | hd'
    · have hl : d.x.x.light = true := by
        cases hl : d.x.x.light with
        | true => rfl
        | false =>
          have := I.heavy d hd' hl
          rw [getD_done, hnd] at this
          cases this
      refine wpOp_mono ?_ (light_step D I hsz hd' hl hnd hoi hr)
      rintro a' w' ⟨σ', I'⟩
      exact ⟨pre, post, acc, fr, L, g, σ', I', hripe⟩
    · -- it is the head of what is left
      cases post with
      | nil => simp at hd'
      | cons h post =>
        have hh := hripe h post rfl
        have hdh : d = h := by
          rcases List.mem_cons.1 hd' with e | hin
          · exact e
          · exfalso
            have h1 : ordAll ((pre ++ [h]) ++ post) = true := by have := D.ord; rw [I.cut] at this; simpa using this
            have h2 := ord_heavy (ordAll_pair h1 (show h ∈ pre ++ [h] by simp) hin) hh
            have h3 := anc_done D I.clos _ d hd rfl oi hoi hr h.i h2
            rw [I.hpost h (by simp)] at h3
            cases h3
        subst hdh
        refine wpOp_mono ?_ (heavy_step D I hsz hh hoi hr hQ)
        rintro a' w' ⟨fr', L', g', σ', I'⟩
        exact absorb_all D _ _ _ _ _ _ _ _ _ I'
  · rintro listed a w hsz hall ⟨pre, post, acc, fr, L, g, σ, I, hripe⟩
    have hpost : post = [] := by
      cases post with
      | nil => rfl
      | cons h post =>
        exfalso
        have h1 := I.hpost h (by simp)
        obtain ⟨o, ho, -⟩ := D.get h (by rw [I.cut]; simp)
        rw [getD_done, hall _ (Array.getElem?_eq_some_iff.1 ho).1] at h1
        cases h1
    subst hpost
    have hd : ∀ u ∈ pre, done listed u.i = true := fun u hu => by
      obtain ⟨o, ho, -⟩ := D.get u (by rw [I.cut]; simpa using hu)
      exact hall _ (Array.getElem?_eq_some_iff.1 ho).1
    have hF : ∀ t, undF pre listed t = true := fun t => undF_iff.2 fun u hu _ _ => hd u hu
    have hL : ∀ k, undL acc listed k = true := fun k => undL_iff.2 fun x hx _ => by
      obtain ⟨⟨u, hu, hui⟩, _⟩ := I.accs x hx
      rw [← hui]
      exact hd u hu
    have hm' := I.mem
    have hg' := I.goes
    rw [selL_id hL] at hm' hg'
    exact hN fr L g σ a w ⟨I.hfr.of_sel hF, hm', I.scF, I.hscL, I.defers⟩ hg' I.vc
  · intro i hi
    refine ⟨fun _ => by simpa using hi, fun _ => ?_⟩
    exact all0 i
  · refine absorb_all D π [] [] fr L g σ a _ ?_
    have hF : ∀ t, undF [] (Array.replicate ops.size false) t = true := fun t => rfl
    have hL : ∀ k, undL [] (Array.replicate ops.size false) k = true := fun k => rfl
    refine
      { cut := rfl, hpost := fun d _ => all0 _, heavy := by simp, vc := hvc, accs := by simp, recs := by simp, sepM := by simp, sepI := by simp, clos := fun i oi _ h => (by rw [all0] at h; cases h), hfr := hI.hfr.to_sel _, mem := ?_, scF := hI.scF, hscL := hI.hscL,
        len0 := hg.len, onF := fun t _ => ?_, onL := fun k c _ hk => ?_, goes := ?_, defers := hI.defers }
    · rw [selL_id hL]; exact hI.mem.drew _
    · exact on_mono (fun _ _ => rfl) _ (offS_on (ms := []) rfl)
    · exact Chunk.on_mono (fun _ _ => rfl) (on_true c)
    · rw [selL_id hL]; exact hg.drew _

end

/-! ### The order -/

def dedup : List Nat → List Nat
  | [] => []
  | x :: l => match (dedup l).contains x with
    | true => dedup l
    | false => x :: dedup l
def ancL : List Oper → List (List Nat) → List (List Nat)
  | [], acc => acc
  | o :: l, acc => ancL l (acc ++ [dedup ((o.after.toList.filter (Region.binds .any)).flatMap fun e => e.on :: acc.getD e.on [])])

def mkD (P : Program) (ops : Array Oper) (ancs : List (List Nat)) (i : Nat) : Option DOp :=
  match ops[i]? with
  | some o => match xoper P ops o with
    | some x => some ⟨i, ancs.getD i [], x⟩
    | none => none
  | none => none

def pickD (placed : List Nat) (b : Bool) : List DOp → Option (DOp × List DOp)
  | [] => none
  | d :: l => match (d.x.x.light == b) && d.anc.all (fun j => placed.contains j) with
    | true => some (d, l)
    | false => match pickD placed b l with
      | some (d', r) => some (d', d :: r)
      | none => none
def topo : Nat → List Nat → List DOp → List DOp
  | 0, _, _ => []
  | n + 1, placed, l => match pickD placed true l with
    | some (d, r) => d :: topo n (d.i :: placed) r
    | none => match pickD placed false l with
      | some (d, r) => d :: topo n (d.i :: placed) r
      | none => []

def dstsD (π : List DOp) : List Nat := π.filterMap (·.x.dst)

def dokB (ops : Array Oper) (π : List DOp) : Bool :=
  Region.noSelect ops && (backOk ops && (π.all (ancOk ops π) && ((List.range ops.size).all (fun i => π.any fun d => Nat.beq d.i i) && (nodupB (π.map (·.i)) && (ordAll π && π.all fun d => !d.x.x.light || (match d.x.dst with | some t => !d.args.contains t | none => true))))))

def mkDraw (P : Program) (ops : Array Oper) : Option (List DOp) :=
  match (List.range ops.size).mapM (mkD P ops (ancL ops.toList [])) with
  | some l => match dokB ops (topo ops.size [] l) with
    | true => some (topo ops.size [] l)
    | false => none
  | none => none

theorem pickD_mem {placed : List Nat} {b : Bool} : ∀ {l : List DOp} {d : DOp} {r : List DOp}, pickD placed b l = some (d, r) → d ∈ l ∧ ∀ x ∈ r, x ∈ l
  | [], d, r, h => by cases h
  | e :: l, d, r, h => by
    rw [pickD] at h
    split at h
    · cases h; exact ⟨by simp, fun x hx => List.mem_cons_of_mem _ hx⟩
    · split at h
      · rename_i d' r' hp
        cases h
        obtain ⟨h1, h2⟩ := pickD_mem hp
        refine ⟨List.mem_cons_of_mem _ h1, fun x hx => ?_⟩
        rcases List.mem_cons.1 hx with hx | hx
        · rw [hx]; simp
        · exact List.mem_cons_of_mem _ (h2 x hx)
      · cases h
theorem topo_mem : ∀ (n : Nat) (placed : List Nat) (l : List DOp) (d : DOp), d ∈ topo n placed l → d ∈ l
  | 0, _, _, _, h => by simp [topo] at h
  | n + 1, placed, l, d, h => by
    rw [topo] at h
    split at h
    · rename_i e r hp
      obtain ⟨h1, h2⟩ := pickD_mem hp
      rcases List.mem_cons.1 h with h | h
      · rw [h]; exact h1
      · exact h2 _ (topo_mem n _ _ _ h)
    · split at h
      · rename_i e r hp
        obtain ⟨h1, h2⟩ := pickD_mem hp
        rcases List.mem_cons.1 h with h | h
        · rw [h]; exact h1
        · exact h2 _ (topo_mem n _ _ _ h)
      · simp at h

theorem nodupB_spec : ∀ {l : List Nat}, nodupB l = true → l.Nodup
  | [], _ => List.nodup_nil
  | x :: l, h => by
    rw [nodupB, Bool.and_eq_true] at h
    rw [List.nodup_cons]
    exact ⟨by simpa using h.1, nodupB_spec h.2⟩

theorem mapM_mem {α β : Type} {f : α → Option β} : ∀ {l : List α} {xs : List β}, l.mapM f = some xs → ∀ x ∈ xs, ∃ y ∈ l, f y = some x
  | [], xs, h, x, hx => by simp at h; subst h; simp at hx
  | y :: l, xs, h, x, hx => by
    rw [List.mapM_cons] at h
    simp only [bind, Option.bind_eq_some_iff, pure, Option.some.injEq] at h
    obtain ⟨z, hz, zs, hzs, rfl⟩ := h
    rcases List.mem_cons.1 hx with hx | hx
    · subst hx; exact ⟨y, by simp, hz⟩
    · obtain ⟨u, hu, hf⟩ := mapM_mem hzs x hx
      exact ⟨u, List.mem_cons_of_mem _ hu, hf⟩

theorem mkDraw_ok {P : Program} {ops : Array Oper} {π : List DOp} (h : mkDraw P ops = some π) : DOk P ops π (dstsD π) := by
  unfold mkDraw at h
  split at h
  · rename_i l hl
    split at h
    · rename_i hb
      cases h
      simp only [dokB, Bool.and_eq_true, List.all_eq_true, List.mem_range, List.any_eq_true] at hb
      obtain ⟨h1, h2, h3, h4, h5, h6, h7⟩ := hb
      refine ⟨h1, h2, h3, fun d hd => ?_, fun i hi => ?_, nodupB_spec h5, h6, fun d hd t ht => ?_, fun d hd hl t ht => ?_⟩
      · obtain ⟨i, _, hi⟩ := mapM_mem hl d (topo_mem _ _ _ _ hd)
        unfold mkD at hi
        split at hi
        · rename_i o ho
          split at hi
          · rename_i x hx
            cases hi
            exact ⟨o, ho, hx⟩
          · cases hi
        · cases hi
      · obtain ⟨d, hd, he⟩ := h4 i hi
        exact ⟨d, hd, Nat.eq_of_beq_eq_true he⟩
      · simp only [dstsD, List.mem_filterMap]
        exact ⟨d, hd, ht⟩
      · have := h7 d hd
        rw [hl, ht] at this
        simpa using this
    · cases h
  · cases h

end Go.Sx
