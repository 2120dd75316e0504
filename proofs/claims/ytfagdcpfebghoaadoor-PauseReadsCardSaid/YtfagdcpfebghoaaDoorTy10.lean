/- A symbolic executor of my own, second design, part 10: code: from code to a condition, and what the condition is worth. Conditions: none; it speaks of any program. -/
import Derived.Test.YtfagdcpfebghoaaDoorTy9
namespace Go.Sx

/-! ### Blocks named anew -/

mutual
def SV.ren (f : Nat → Nat) : SV → SV
  | .junk => .junk
  | .v x => .v x
  | .ptr k o => .ptr (f k) o
  | .slc k o a b => .slc (f k) o a b
  | .mp k => .mp (f k)
  | .fn h a b => .fn h (renL f a) (renL f b)
  | .iface t x => .iface t (x.ren f)
  | .agg l => .agg (renL f l)
  | .tup l => .tup (renL f l)
def renL (f : Nat → Nat) : List SV → List SV
  | [] => []
  | x :: l => x.ren f :: renL f l
end
mutual
theorem re_ren (f σ : Nat → Nat) : ∀ x : SV, (x.ren f).re σ = x.re (fun k => σ (f k))
  | .junk => rfl
  | .v _ => rfl
  | .ptr k o => rfl
  | .slc k o a b => rfl
  | .mp k => rfl
  | .fn h a b => by simp only [SV.ren, SV.re, reL_ren f σ a, reL_ren f σ b]
  | .iface t x => by simp only [SV.ren, SV.re, re_ren f σ x]
  | .agg l => by simp only [SV.ren, SV.re, reL_ren f σ l]
  | .tup l => by simp only [SV.ren, SV.re, reL_ren f σ l]
theorem reL_ren (f σ : Nat → Nat) : ∀ l : List SV, reL σ (renL f l) = reL (fun k => σ (f k)) l
  | [] => rfl
  | x :: l => by simp only [renL, reL, re_ren f σ x, reL_ren f σ l]
end
theorem ren_junk {f : Nat → Nat} {x : SV} : x.ren f = .junk ↔ x = .junk := by cases x <;> simp [SV.ren]
def Chunk.ren (f : Nat → Nat) : Chunk → Chunk
  | .cells ty c => .cells ty (renL f c)
  | .vals ty c => .vals ty c
  | .raw o => .raw o
  | .gone => .gone
theorem obj_ren (f σ : Nat → Nat) (c : Chunk) : (c.ren f).obj σ = c.obj (fun k => σ (f k)) := by
  cases c with
  | cells ty l => simp only [Chunk.ren, Chunk.obj, reL_ren]
  | _ => rfl
theorem here_ren (f : Nat → Nat) (c : Chunk) : (c.ren f).here = c.here := by cases c <;> rfl

/-- The second state says no more than the first, with some blocks named anew (the first n0 keep their names). -/
structure Weak (n0 : Nat) (ρ : Nat → Nat) (fr : List SV) (L : List Chunk) (g : G) (fr1 : List SV) (L1 : List Chunk) (g1 : G) : Prop where
  fix : ∀ j, j < n0 → ρ j = j
  inj : ∀ i j, i < L1.length → j < L1.length → ρ i = ρ j → i = j
  len : n0 ≤ L1.length
  blocks : ∀ (k : Nat) (c : Chunk), L1[k]? = some c → c.here = true → L[ρ k]? = some (c.ren ρ)
  slots : fr1.length = fr.length ∧ ∀ i, get fr1 i = .junk ∨ get fr i = (get fr1 i).ren ρ
  gs : g1 = g
  scF : scL L1.length fr1 = true
  hscL : scH L1

theorem Weak.live {n0 ρ fr L g fr1 L1 g1} (h : Weak n0 ρ fr L g fr1 L1 g1) {k : Nat} (hk : live L1 k) : live L (ρ k) := by
  obtain ⟨c, hc, hh⟩ := live_get hk
  exact live_of (h.blocks k c hc hh) (by rw [here_ren]; exact hh)

theorem Inv.weak {df n0 ρ fr L g fr1 L1 g1 σ a w} (I : Inv df fr L g σ a w) (h : Weak n0 ρ fr L g fr1 L1 g1) : Inv df fr1 L1 g1 (fun k => σ (ρ k)) a w := by
  refine ⟨⟨h.slots.1.trans I.hfr.1, fun i x hx hj => ?_⟩, ⟨?_, fun k c o hk ho => ?_, fun j k hj hk e => ?_, fun k hk => ?_⟩, h.scF, h.hscL, I.defers⟩
  · rcases h.slots.2 i with h1 | h1
    · rw [hx] at h1; exact absurd h1 hj
    · rw [hx] at h1
      rw [I.hfr.2 i _ h1 (fun e => hj (ren_junk.1 e)), re_ren]
  · rw [h.gs]; exact I.mem.im
  · refine I.mem.lo (ρ k) (c.ren ρ) o (h.blocks k c hk (obj_here ho)) ?_
    rw [obj_ren]; exact ho
  · exact h.inj j k (live_lt hj) (live_lt hk) (I.mem.inj _ _ (h.live hj) (h.live hk) e)
  · rw [h.gs]; exact I.mem.sep _ (h.live hk)

theorem Goes.weak {σ0 L0 g0 w0 ρ fr L g fr1 L1 g1 σ} {w : World} (hg : Goes σ0 L0 g0 w0 σ L g w) (h : Weak L0.length ρ fr L g fr1 L1 g1) : Goes σ0 L0 g0 w0 (fun k => σ (ρ k)) L1 g1 w where
  agree k hk := by rw [h.fix k hk]; exact hg.agree k hk
  len := h.len
  dead k hk hl := by have := h.live hl; rw [h.fix k hk] at this; exact hg.dead k hk this
  fresh k hk hl := by
    have hge : L0.length ≤ ρ k := by
      refine Classical.byContradiction fun hn => ?_
      have h1 : ρ (ρ k) = ρ k := h.fix _ (by omega)
      have := h.inj (ρ k) k (by have := h.len; omega) (live_lt hl) h1
      omega
    rcases hg.fresh (ρ k) hge (h.live hl) with h3 | ⟨m, m1, m2, m3, m4⟩
    · exact .inl h3
    · exact .inr ⟨m, m1, m2, fun hm => m3 (by have := h.live hm; rwa [h.fix m m1] at this), m4⟩
  gle := by rw [h.gs]; exact hg.gle
  gnew b h1 h2 := by
    rw [h.gs] at h2
    rcases hg.gnew b h1 h2 with h3 | ⟨m, m1, m2, m3, m4⟩
    · exact .inl h3
    · exact .inr ⟨m, m1, m2, fun hm => m3 (by have := h.live hm; rwa [h.fix m m1] at this), m4⟩
  os := hg.os
  tape := hg.tape
  output := hg.output
  size := hg.size
  keep := hg.keep

/-! ### Code -/

inductive YC where
  | skip
  | ops (l : List XOper)
  | draw (ds : List Nat) (l : List DOp)
  | seq (a b : YC)
  | cond (c : Operand) (a b : YC)
  | block (id : Nat) (c : YC)
  | loop (m : List Bool) (c : YC)
  | exit (id : Nat)
  | ret
  | jn (m : List Bool) (c : YC)

/-- Code without the places where ways meet. -/
def unj : YC → YC
  | .seq a b => .seq (unj a) (unj b)
  | .cond c a b => .cond c (unj a) (unj b)
  | .block id c => .block id (unj c)
  | .loop m c => .loop m (unj c)
  | .jn _ c => unj c
  | c => c

def vOps (P : Program) : List XOper → List SV → List Chunk → G → KT → Prop
  | [], fr, L, g, K => K .normal fr L g
  | o :: l, fr, L, g, K => dStep P [] ⟨0, [], o⟩ [] fr L g (fun _ fr L g => vOps P l fr L g K) K

/-- The slots that code writes (those that a guard settles among them). -/
def dstsOps : List XOper → List Nat
  | [] => []
  | o :: l => (match o.dst with | some d => [d] | none => []) ++ dstsOps l
def dsts : YC → List Nat
  | .ops l => dstsOps l
  | .draw _ l => dstsOps (l.map (·.x))
  | .seq a b => dsts a ++ dsts b
  | .cond _ a b => dsts a ++ dsts b
  | .block _ c => dsts c
  | .loop _ c => dsts c
  | .jn _ c => dsts c
  | _ => []
theorem dsts_unj : ∀ c : YC, dsts (unj c) = dsts c
  | .seq a b => by simp only [unj, dsts, dsts_unj a, dsts_unj b]
  | .cond _ a b => by simp only [unj, dsts, dsts_unj a, dsts_unj b]
  | .block _ c => by simp only [unj, dsts, dsts_unj c]
  | .loop _ c => by simp only [unj, dsts, dsts_unj c]
  | .jn _ c => by simp only [unj, dsts, dsts_unj c]
  | .skip => rfl
  | .ops _ => rfl
  | .draw _ _ => rfl
  | .exit _ => rfl
  | .ret => rfl

/-- A loop, by an invariant and a measure. -/
@[irreducible] def LoopW (n0 : Nat) (_m : List Bool) (body : List SV → List Chunk → G → KT → Prop) (fr : List SV) (L : List Chunk) (g : G) (K : KT) : Prop :=
  scL L.length fr = true → scH L → n0 ≤ L.length → ∃ (I : Nat → List SV → List Chunk → G → Prop) (n : Nat) (ρ : Nat → Nat) (fr1 : List SV) (L1 : List Chunk) (g1 : G), Weak n0 ρ fr L g fr1 L1 g1 ∧ I n fr1 L1 g1 ∧
    ∀ n fr L g, I n fr L g → body fr L g fun e fr L g => match e with
      | .normal => ∃ m ρ fr1 L1 g1, m < n ∧ Weak n0 ρ fr L g fr1 L1 g1 ∧ I m fr1 L1 g1
      | .exit j => K (.exit j) fr L g
      | .ret => K .ret fr L g
      | .pan x => K (.pan x) fr L g

/-- Where ways meet, a part of what is known may be dropped. -/
@[irreducible] def JoinW (n0 : Nat) (_m : List Bool) (body : List SV → List Chunk → G → KT → Prop) (fr : List SV) (L : List Chunk) (g : G) (K : KT) : Prop :=
  scL L.length fr = true → scH L → n0 ≤ L.length → body fr L g fun e fr L g => match e with
    | .normal => ∃ ρ fr1 L1 g1, Weak n0 ρ fr L g fr1 L1 g1 ∧ K .normal fr1 L1 g1
    | .exit j => K (.exit j) fr L g
    | .ret => K .ret fr L g
    | .pan x => K (.pan x) fr L g

def vC (P : Program) (n0 : Nat) : YC → List SV → List Chunk → G → KT → Prop
  | .skip, fr, L, g, K => K .normal fr L g
  | .ops l, fr, L, g, K => vOps P l fr L g K
  | .draw ds l, fr, L, g, K => dR P ds l [] fr L g K
  | .seq a b, fr, L, g, K => vC P n0 a fr L g fun e fr L g => match e with
    | .normal => vC P n0 b fr L g K
    | .exit j => K (.exit j) fr L g
    | .ret => K .ret fr L g
    | .pan x => K (.pan x) fr L g
  | .cond c a b, fr, L, g, K => match ev fr c with
    | .v (.bool t) => bsplit t (vC P n0 a fr L g K) (vC P n0 b fr L g K)
    | _ => False
  | .block id c, fr, L, g, K => vC P n0 c fr L g fun e fr L g => match e with
    | .normal => K .normal fr L g
    | .exit j => match Nat.beq j id with
      | true => K .normal fr L g
      | false => K (.exit j) fr L g
    | .ret => K .ret fr L g
    | .pan x => K (.pan x) fr L g
  | .loop m c, fr, L, g, K => LoopW n0 m (fun fr L g K => vC P n0 c fr L g K) fr L g K
  | .exit id, fr, L, g, K => K (.exit id) fr L g
  | .ret, fr, L, g, K => K .ret fr L g
  | .jn m c, fr, L, g, K => JoinW n0 m (fun fr L g K => vC P n0 c fr L g K) fr L g K

/-- Which slots. -/
def maskOf (D : List Nat) : List Bool := (List.range (D.foldl max 0 + 1)).map D.contains

/-- The resolved code is the code. -/
def ycode (P : Program) : Code → Option YC
  | .skip => some .skip
  | .region _ ops false => match ops.toList.mapM (xoper P ops) with
    | some l => some (.ops l)
    | none => none
  | .region _ ops true => match mkDraw P ops with
    | some l => some (.draw (dstsD l) l)
    | none => none
  | .seq a b => match ycode P a with
    | some x => match ycode P b with
      | some y => some (.seq x y)
      | none => none
    | none => none
  | .cond c a b => match ycode P a with
    | some x => match ycode P b with
      | some y => some (.cond c x y)
      | none => none
    | none => none
  | .block id c => match ycode P c with
    | some x => some (.block id x)
    | none => none
  | .loop c => match ycode P c with
    | some x => some (.loop (maskOf (dsts x)) x)
    | none => none
  | .exit id => some (.exit id)
  | .ret => some .ret
  | .refuse _ => some (.ops [⟨none, none, .more .bad []⟩])
  | _ => none

theorem ycode_unj {P : Program} : ∀ (c : Code) (X : YC), ycode P c = some X → unj X = X := by
  intro c
  induction c with
  | seq a b iha ihb =>
    intro X h
    simp only [ycode] at h
    split at h
    · rename_i x hx
      split at h
      · rename_i y hy
        cases h
        simp only [unj, iha x hx, ihb y hy]
      · cases h
    · cases h
  | cond c a b iha ihb =>
    intro X h
    simp only [ycode] at h
    split at h
    · rename_i x hx
      split at h
      · rename_i y hy
        cases h
        simp only [unj, iha x hx, ihb y hy]
      · cases h
    · cases h
  | block id a ih =>
    intro X h
    simp only [ycode] at h
    split at h
    · rename_i x hx
      cases h
      simp only [unj, ih x hx]
    · cases h
  | loop a ih =>
    intro X h
    simp only [ycode] at h
    split at h
    · rename_i x hx
      cases h
      simp only [unj, ih x hx]
    · cases h
  | region id ops draw =>
    intro X h
    cases draw <;> simp only [ycode] at h <;> split at h <;> cases h <;> rfl
  | skip => intro X h; cases h; rfl
  | exit id => intro X h; cases h; rfl
  | ret => intro X h; cases h; rfl
  | refuse y => intro X h; cases h; rfl
  | rangeFunc f ps as b => intro X h; simp [ycode] at h
  | scope b => intro X h; simp [ycode] at h
  | label l => intro X h; simp [ycode] at h
  | goto l => intro X h; simp [ycode] at h

/-- What code may have come to, told of where the call began. -/
def liftY (σ0 : Nat → Nat) (L0 : List Chunk) (g0 : G) (w0 : World) (df : List Deferred) (K : KT) : Exit → Act → World → Prop
  | .normal, a, w => ∃ fr L g σ, Inv df fr L g σ a w ∧ Goes σ0 L0 g0 w0 σ L g w ∧ K .normal fr L g
  | .exit j, a, w => ∃ fr L g σ, Inv df fr L g σ a w ∧ Goes σ0 L0 g0 w0 σ L g w ∧ K (.exit j) fr L g
  | .ret, a, w => ∃ fr L g σ, Inv df fr L g σ a w ∧ Goes σ0 L0 g0 w0 σ L g w ∧ K .ret fr L g
  | .panic chain, a, w => ∃ x fr L g σ, chain = [{ v := x.re σ, recovered := false }] ∧ x ≠ .junk ∧ x.sc L.length = true ∧ Inv df fr L g σ a w ∧ Goes σ0 L0 g0 w0 σ L g w ∧ K (.pan x) fr L g
  | _, _, _ => False

section
variable {P : Program} {ops : Array Oper} {σ0 : Nat → Nat} {L0 : List Chunk} {g0 : G} {w0 : World} {df : List Deferred} {K : KT}

theorem Inv.put {fr L g σ} {a : Act} {w : World} (I : Inv df fr L g σ a w) {dst : Option Tmp} {v : Value} {r : SV} {L' : List Chunk} {g' : G} {σ' : Nat → Nat} {w' : World} (hlen : L.length ≤ L'.length) (hag : ∀ k, k < L.length → σ' k = σ k)
    (hv : r ≠ .junk → v = r.re σ') (hr : r.sc L'.length = true) (hm : Mem g' L' σ' w') (hL : scH L') : Inv df (putO fr dst r) L' g' σ' (a.put dst v) w' := by
  have hf : FR σ' fr a.tmps := I.hfr.on (p := fun k => decide (k < L.length)) (fun k hk => (hag k (by simpa using hk)).symm) fun t => by rw [← on_sc]; exact sc_get I.scF t
  have hs := scL_mono hlen _ I.scF
  cases dst with
  | none => exact ⟨hf, hm, hs, hL, I.defers⟩
  | some d => exact ⟨hf.put d hv, hm, sc_put hs d hr, hL, I.defers⟩

theorem selL_all {p : Nat → Bool} (hp : ∀ k, p k = true) (L : List Chunk) : selL p 0 L = L := selL_id hp
theorem selF_all {p : Nat → Bool} (hp : ∀ k, p k = true) (fr : List SV) : selF p 0 fr = fr := by
  have : ∀ (l : List SV) (i : Nat), selF p i l = l := by
    intro l
    induction l with
    | nil => intro i; rfl
    | cons x l ih => intro i; simp only [selF, hp, ih]
  exact this fr 0

theorem seq_step {o : Oper} {X : XOper} (hx : xoper P ops o = some X) {fr L g σ} {a : Act} {w : World} {Q : Exit → Act → World → Prop} {next : List SV → List Chunk → G → Prop} (I : Inv df fr L g σ a w) (hg : Goes σ0 L0 g0 w0 σ L g w)
    (h : dStep P [] ⟨0, [], X⟩ [] fr L g (fun _ fr L g => next fr L g) K)
    (hQ : ∀ x fr L g σ a w, Inv df fr L g σ a w → x ≠ .junk → x.sc L.length = true → Goes σ0 L0 g0 w0 σ L g w → K (.pan x) fr L g → Q (.panic [{ v := x.re σ, recovered := false }]) a w) :
    if Region.wanted o (yielded ops a.tmps) then o.wp P a w (fun a' w' => ∃ fr' L' g' σ', Inv df fr' L' g' σ' a' w' ∧ Goes σ0 L0 g0 w0 σ' L' g' w' ∧ next fr' L' g') Q
    else ∃ fr' L' g' σ', Inv df fr' L' g' σ' (a.put o.dst undef) w ∧ Goes σ0 L0 g0 w0 σ' L' g' w ∧ next fr' L' g' := by
  obtain ⟨hxop, -, hdst⟩ := xoper_spec hx
  have hF := I.hfr.to_sel (fun _ => true)
  rcases dStep_goB h with ⟨hgo, h⟩ | ⟨hgo, h⟩
  · have hw := wanted_goB (d := ⟨0, [], X⟩) hx (p := fun _ => true) (fun _ _ => rfl) hF hgo
    rw [if_pos hw]
    unfold dRun at h
    cases hl : X.x.light with
    | true =>
      simp only [hl, lenK_eq, numK_eq, Nat.zero_add] at h
      obtain ⟨-, h⟩ := ifOk_elim h
      obtain ⟨r, mc, hk, hrun, hj, hsc, hc⟩ := lt_sound (P := P) hxop rfl (ts := fun _ => true) (ks := fun _ => true) (fun _ _ => rfl) (fun _ _ => rfl) I.scF I.hscL h
      rw [selF_all (fun _ => rfl), selL_all (fun _ => rfl)] at hrun
      rw [fR_eq] at hk
      obtain ⟨-, hk⟩ := ifOk_elim hk
      cases mc with
      | none =>
        simp only [forceO_eq] at hk
        unfold Oper.wp
        rw [hrun.2 σ a w I.hfr I.mem.reads]
        refine ⟨putO fr X.dst r, L, g, σ, ?_, hg, hk⟩
        rw [← hdst]
        exact I.put (Nat.le_refl _) (fun _ _ => rfl) (fun _ => rfl) (by simpa using hsc) I.mem I.hscL
      | some c =>
        obtain ⟨hhere, hcs⟩ := hc c rfl
        obtain ⟨-, hk⟩ := ifOk_elim hk
        simp only [forceO_eq, fL_eq] at hk
        obtain ⟨ob, v, hob, hr, hv⟩ := hrun σ a w I.hfr
        unfold Oper.wp
        rw [hr]
        have hL' : scH (L ++ [c]) := by
          intro k ty l hkl
          rcases getElem?_append_one hkl with ⟨_, h2⟩ | ⟨_, rfl⟩
          · exact scL_mono (by simp) _ (I.hscL k ty l h2)
          · exact scL_mono (by simp) _ hcs
        have hoff : ∀ (j : Nat) (c' : Chunk), (L ++ [Chunk.gone])[j]? = some c' → c'.on (fun i => !(i == L.length)) = true := by
          intro j c' hjc
          rcases getElem?_append_one hjc with ⟨_, h2⟩ | ⟨_, rfl⟩
          · refine con_imp (on_true c') (scC_of I.hscL h2) fun k hk _ => ?_
            simp; omega
          · rfl
        have hm := I.mem.place.born (k := L.length) (by simp) hoff c (con_imp (on_true c) hcs fun k hk _ => by simp; omega) ob hob
        have hg' := hg.place.born (k := L.length) hg.len c ob
        rw [set_last] at hm hg'
        refine ⟨putO fr X.dst r, L ++ [c], g, _, ?_, hg', hk⟩
        rw [← hdst]
        exact I.put (by simp) (fun k hk => if_neg (by omega)) (fun _ => hv _ (if_pos rfl)) (by simpa using hsc) hm hL'
    | false =>
      simp only [hl] at h
      obtain ⟨rd, ids, -, hrun⟩ := hv_sound (P := P) hxop (p := fun _ => true) (L' := L) (σ := σ) (a := a) (w := w) (fun _ _ => rfl) ⟨hF, Less.refl _, I.mem, I.scF, I.hscL⟩ h
      refine Oper.wp_mono2 ?_ ?_ (hrun (fun _ _ => rfl) fun _ _ => rfl)
      · rintro a' w' ⟨v, r, L1, g1, σ', rfl, hv, hrsc, hupd, hm, hsc, hg1, hk⟩
        rw [redo_self hupd] at hm hg1
        simp only [fR_eq, fL_eq] at hk
        obtain ⟨-, hk⟩ := ifOk_elim hk
        simp only [forceO_eq] at hk
        refine ⟨putO fr X.dst r, L1, g1, σ', ?_, hg.trans hg1, hk⟩
        rw [← hdst]
        exact I.put hupd.1 hg1.agree hv hrsc hm hsc
      · rintro e a' w' ⟨x, L1, g1, σ', rfl, hj, rfl, hxsc, hupd, hm, hsc, hg1, hk⟩
        rw [redo_self hupd] at hm hg1
        simp only [foes, List.filter_nil, madeOf, List.filterMap_nil] at hk
        rw [selF_all (fun t => by simp), selL_all (fun t => by simp)] at hk
        exact hQ x _ _ _ _ _ _ (I.put (dst := none) (v := undef) (r := .junk) hupd.1 hg1.agree (fun e => absurd rfl e) rfl hm hsc) hj hxsc (hg.trans hg1) hk
  · have hw := wanted_goB (d := ⟨0, [], X⟩) hx (p := fun _ => true) (fun _ _ => rfl) hF hgo
    rw [if_neg (by rw [hw]; simp)]
    unfold dSkip at h
    rw [forceO_eq] at h
    refine ⟨putO fr X.dst (.v undef), L, g, σ, ?_, hg, h⟩
    rw [← hdst]
    exact I.put (r := .v undef) (Nat.le_refl _) (fun _ _ => rfl) (fun _ => rfl) rfl I.mem I.hscL

theorem vOps_sound {Q : Exit → Act → World → Prop} (hN : ∀ fr L g σ a w, Inv df fr L g σ a w → Goes σ0 L0 g0 w0 σ L g w → K .normal fr L g → Q .normal a w)
    (hQ : ∀ x fr L g σ a w, Inv df fr L g σ a w → x ≠ .junk → x.sc L.length = true → Goes σ0 L0 g0 w0 σ L g w → K (.pan x) fr L g → Q (.panic [{ v := x.re σ, recovered := false }]) a w) :
    ∀ (l : List Oper) (xs : List XOper), l.mapM (xoper P ops) = some xs → ∀ {fr L g σ a w}, Inv df fr L g σ a w → Goes σ0 L0 g0 w0 σ L g w → vOps P xs fr L g K → wpList P ops Q l a w := by
  intro l
  induction l with
  | nil =>
    intro xs hx fr L g σ a w I hg h
    simp at hx
    subst hx
    exact hN _ _ _ _ _ _ I hg h
  | cons o l ih =>
    intro xs hx fr L g σ a w I hg h
    rw [List.mapM_cons] at hx
    simp only [bind, Option.bind_eq_some_iff, pure, Option.some.injEq] at hx
    obtain ⟨x, hx1, xs', hx2, rfl⟩ := hx
    have := seq_step (P := P) hx1 (next := fun fr L g => vOps P xs' fr L g K) I hg h hQ
    have next : ∀ a' w', (∃ fr' L' g' σ', Inv df fr' L' g' σ' a' w' ∧ Goes σ0 L0 g0 w0 σ' L' g' w' ∧ vOps P xs' fr' L' g' K) → wpList P ops Q l a' w' := by
      rintro a' w' ⟨fr', L', g', σ', I', hg', hk⟩
      exact ih xs' hx2 I' hg' hk
    unfold wpList
    split
    · rename_i hw
      rw [if_pos hw] at this
      exact .inl (Oper.wp_mono next this)
    · rename_i hw
      rw [if_neg hw] at this
      exact next _ _ this

theorem liftY_mono {K K' : KT} {e : Exit} {a : Act} {w : World} (hN : ∀ fr L g σ, Inv df fr L g σ a w → Goes σ0 L0 g0 w0 σ L g w → K .normal fr L g → K' .normal fr L g) (h1 : ∀ j fr L g, K (.exit j) fr L g → K' (.exit j) fr L g) (h2 : ∀ fr L g, K .ret fr L g → K' .ret fr L g)
    (h3 : ∀ x fr L g, K (.pan x) fr L g → K' (.pan x) fr L g) (h : liftY σ0 L0 g0 w0 df K e a w) : liftY σ0 L0 g0 w0 df K' e a w := by
  cases e with
  | normal => obtain ⟨fr, L, g, σ, a1, a2, a3⟩ := h; exact ⟨fr, L, g, σ, a1, a2, hN _ _ _ _ a1 a2 a3⟩
  | exit j => obtain ⟨fr, L, g, σ, a1, a2, a3⟩ := h; exact ⟨fr, L, g, σ, a1, a2, h1 _ _ _ _ a3⟩
  | ret => obtain ⟨fr, L, g, σ, a1, a2, a3⟩ := h; exact ⟨fr, L, g, σ, a1, a2, h2 _ _ _ a3⟩
  | panic c => obtain ⟨x, fr, L, g, σ, a0, a1, a2, a3, a4, a5⟩ := h; exact ⟨x, fr, L, g, σ, a0, a1, a2, a3, a4, h3 _ _ _ _ a5⟩
  | _ => exact h

theorem wp_loopN {P : Program} {c : Code} {Q : Exit → Act → World → Prop} (J : Nat → Act → World → Prop)
    (round : ∀ n a w, J n a w → c.wp P (Exit.then (fun a' w' => ∃ m, m < n ∧ J m a' w') Q) a w) (n : Nat) (a : Act) (w : World) (h : J n a w) : (Code.loop c).wp P Q a w := by
  intro b k cs
  have key : ∀ n a w, J n a w → ∃ e a' w', Q e a' w' ∧ Arrives P (lone (b.at a (.code c :: .inLoop c :: k)) cs w) b k cs e a' w' := by
    intro n
    induction n using Nat.strongRecOn with
    | _ n ih =>
      intro a w hJ
      obtain ⟨e, a₁, w₁, hq, harr⟩ := round n a w hJ b (.inLoop c :: k) cs
      cases e with
      | normal =>
        obtain ⟨m, hm, hJ₁⟩ := hq
        obtain ⟨e₂, a₂, w₂, hq₂, harr₂⟩ := ih m hm a₁ w₁ hJ₁
        exact ⟨e₂, a₂, w₂, hq₂, .of_steps (Steps.trans harr (.one step_inLoop)) harr₂⟩
      | _ => exact ⟨_, a₁, w₁, hq, .pass (x := .inLoop c) rfl (fun _ _ => .inl (by simp)) harr⟩
  obtain ⟨e, a', w', hq, harr⟩ := key n a w h
  exact ⟨e, a', w', hq, .of_steps (.one step_loop) harr⟩

/-- What the condition of this code is worth. -/
def Snd (P : Program) (σ0 : Nat → Nat) (L0 : List Chunk) (g0 : G) (w0 : World) (df : List Deferred) (c : Code) (X : YC) : Prop :=
  ∀ {fr L g σ a w} {K : KT}, vC P L0.length X fr L g K → Inv df fr L g σ a w → Goes σ0 L0 g0 w0 σ L g w → c.wp P (liftY σ0 L0 g0 w0 df K) a w
def isJn : YC → Bool
  | .jn _ _ => true
  | _ => false
theorem Snd.jn {c : Code} {X : YC} {m : List Bool} (h : Snd P σ0 L0 g0 w0 df c X) : Snd P σ0 L0 g0 w0 df c (.jn m X) := by
  intro fr L g σ a w K hv I hg
  simp only [vC] at hv
  unfold JoinW at hv
  refine Code.wp_mono ?_ (h (hv I.scF I.hscL hg.len) I hg)
  intro e a' w' hl
  cases e with
  | normal =>
    obtain ⟨fr', L', g', σ', I', hg', ρ, fr1, L1, g1, hw, hk⟩ := hl
    exact ⟨fr1, L1, g1, _, I'.weak hw, hg'.weak hw, hk⟩
  | exit j => exact hl
  | ret => exact hl
  | panic ch => exact hl
  | _ => exact hl.elim
theorem Snd.strip {c : Code} (h : ∀ X, isJn X = false → ycode P c = some (unj X) → Snd P σ0 L0 g0 w0 df c X) : ∀ X, ycode P c = some (unj X) → Snd P σ0 L0 g0 w0 df c X := by
  intro X
  induction X with
  | jn m Y ih => intro hX; exact Snd.jn (ih hX)
  | _ => exact h _ rfl

/-- **What the condition is worth.** -/
theorem vC_soundJ (hm : P.follows .mixedOrders = true) : ∀ (c : Code) (X : YC), ycode P c = some (unj X) → Snd P σ0 L0 g0 w0 df c X := by
  intro c
  induction c with
  | skip =>
    refine Snd.strip ?_
    intro X hn hX fr L g σ a w K h I hg
    cases X <;> simp only [ycode, unj, Option.some.injEq, reduceCtorEq] at hX
    case skip => exact wp_skip ⟨fr, L, g, σ, I, hg, h⟩
    case jn => cases hn
  | exit id =>
    refine Snd.strip ?_
    intro X hn hX fr L g σ a w K h I hg
    cases X <;> simp only [ycode, unj, Option.some.injEq, reduceCtorEq, YC.exit.injEq] at hX
    case exit j => subst hX; exact wp_exit ⟨fr, L, g, σ, I, hg, h⟩
    case jn => cases hn
  | ret =>
    refine Snd.strip ?_
    intro X hn hX fr L g σ a w K h I hg
    cases X <;> simp only [ycode, unj, Option.some.injEq, reduceCtorEq] at hX
    case ret => exact wp_ret ⟨fr, L, g, σ, I, hg, h⟩
    case jn => cases hn
  | region id ops draw =>
    refine Snd.strip ?_
    intro X hn hX fr L g σ a w K h I hg
    cases draw with
    | false =>
      simp only [ycode] at hX
      split at hX
      · rename_i xs hxs
        cases X <;> simp only [unj, Option.some.injEq, reduceCtorEq, YC.ops.injEq] at hX
        case jn => cases hn
        subst hX
        exact wp_region_list (vOps_sound (K := K) (fun fr L g σ a w I hg hk => ⟨fr, L, g, σ, I, hg, hk⟩) (fun x fr L g σ a w I hj hs hg hk => ⟨x, fr, L, g, σ, rfl, hj, hs, I, hg, hk⟩) _ xs hxs I hg h)
      · cases hX
    | true =>
      simp only [ycode] at hX
      split at hX
      · rename_i xs hxs
        cases X <;> simp only [unj, Option.some.injEq, reduceCtorEq, YC.draw.injEq] at hX
        case jn => cases hn
        obtain ⟨rfl, rfl⟩ := hX
        exact region_sound hm (mkDraw_ok hxs) I hg h (fun fr L g σ a w I hg hk => ⟨fr, L, g, σ, I, hg, hk⟩) (fun x fr L g σ a w I hj hs hg hk => ⟨x, fr, L, g, σ, rfl, hj, hs, I, hg, hk⟩)
      · cases hX
  | seq x y ihx ihy =>
    refine Snd.strip ?_
    intro X hn hX fr L g σ a w K h I hg
    simp only [ycode] at hX
    split at hX
    · rename_i X1 hx
      split at hX
      · rename_i X2 hy
        cases X <;> simp only [unj, Option.some.injEq, reduceCtorEq, YC.seq.injEq] at hX
        case jn => cases hn
        rename_i Y1 Y2
        obtain ⟨rfl, rfl⟩ := hX
        refine wp_seq (Code.wp_mono ?_ (ihx Y1 hx (show vC P L0.length Y1 fr L g _ from h) I hg))
        intro e a' w' hl
        cases e with
        | normal => obtain ⟨fr', L', g', σ', I', hg', hk⟩ := hl; exact ihy Y2 hy hk I' hg'
        | exit j => exact hl
        | ret => exact hl
        | panic ch => exact hl
        | _ => exact hl.elim
      · cases hX
    · cases hX
  | cond c x y ihx ihy =>
    refine Snd.strip ?_
    intro X hn hX fr L g σ a w K h I hg
    simp only [ycode] at hX
    split at hX
    · rename_i X1 hx
      split at hX
      · rename_i X2 hy
        cases X <;> simp only [unj, Option.some.injEq, reduceCtorEq, YC.cond.injEq] at hX
        case jn => cases hn
        rename_i c' Y1 Y2
        obtain ⟨rfl, rfl, rfl⟩ := hX
        simp only [vC] at h
        split at h
        case h_2 => exact h.elim
        case h_1 t ht =>
          have hc : a.eval c = .bool t := by rw [I.hfr.ev c (by simp [ht]), ht]; rfl
          rcases bsplit_elim h with ⟨rfl, hq⟩ | ⟨rfl, hq⟩
          · exact wp_cond_true hc (ihx Y1 hx hq I hg)
          · exact wp_cond_false hc (ihy Y2 hy hq I hg)
      · cases hX
    · cases hX
  | block id x ih =>
    refine Snd.strip ?_
    intro X hn hX fr L g σ a w K h I hg
    simp only [ycode] at hX
    split at hX
    · rename_i X1 hx
      cases X <;> simp only [unj, Option.some.injEq, reduceCtorEq, YC.block.injEq] at hX
      case jn => cases hn
      rename_i id' Y1
      obtain ⟨rfl, rfl⟩ := hX
      refine wp_block (Code.wp_mono ?_ (ih Y1 hx (show vC P L0.length Y1 fr L g _ from h) I hg))
      intro e a' w' hl
      cases e with
      | exit j =>
        obtain ⟨fr', L', g', σ', I', hg', hk⟩ := hl
        simp only at hk
        simp only [Exit.inBlock]
        split at hk
        case h_1 hb => rw [if_pos (Nat.eq_of_beq_eq_true hb)]; exact ⟨fr', L', g', σ', I', hg', hk⟩
        case h_2 hb => rw [if_neg (by intro e; subst e; simp at hb)]; exact ⟨fr', L', g', σ', I', hg', hk⟩
      | normal => exact hl
      | ret => exact hl
      | panic ch => exact hl
      | _ => exact hl.elim
    · cases hX
  | loop x ih =>
    refine Snd.strip ?_
    intro X hn hX fr L g σ a w K h I hg
    simp only [ycode] at hX
    split at hX
    · rename_i X1 hx
      cases X <;> simp only [unj, Option.some.injEq, reduceCtorEq, YC.loop.injEq] at hX
      case jn => cases hn
      rename_i m' Y1
      obtain ⟨-, rfl⟩ := hX
      simp only [vC] at h
      unfold LoopW at h
      obtain ⟨J, n, ρ, fr1, L1, g1, hw, hJ, hround⟩ := h I.scF I.hscL hg.len
      refine wp_loopN (fun n a w => ∃ fr L g σ, Inv df fr L g σ a w ∧ Goes σ0 L0 g0 w0 σ L g w ∧ J n fr L g) ?_ n a w ⟨fr1, L1, g1, _, I.weak hw, hg.weak hw, hJ⟩
      rintro n a w ⟨fr, L, g, σ, I', hg', hJ⟩
      refine Code.wp_mono ?_ (ih Y1 hx (hround n fr L g hJ) I' hg')
      intro e a' w' hl
      cases e with
      | normal =>
        obtain ⟨fr', L', g', σ', I2, hg2, m, ρ, fr1, L1, g1, hmn, hw', hJ'⟩ := hl
        exact ⟨m, hmn, fr1, L1, g1, _, I2.weak hw', hg2.weak hw', hJ'⟩
      | exit j => exact hl
      | ret => exact hl
      | panic ch => exact hl
      | _ => exact hl.elim
    · cases hX
  | rangeFunc f ps as b => intro X hX; simp [ycode] at hX
  | scope b => intro X hX; simp [ycode] at hX
  | label l => intro X hX; simp [ycode] at hX
  | goto l => intro X hX; simp [ycode] at hX
  | refuse y =>
    refine Snd.strip ?_
    intro X hn hX fr L g σ a w K h I hg
    cases X <;> simp only [ycode, unj, Option.some.injEq, reduceCtorEq, YC.ops.injEq] at hX
    case jn => cases hn
    subst hX
    simp only [vC, vOps, dStep, dRun, XOp.light, lenK_eq, numK_eq] at h
    exact False.elim (show False from (ifOk_elim h).2)
theorem vC_sound (hm : P.follows .mixedOrders = true) (c : Code) (X : YC) (hX : ycode P c = some X) {fr L g σ a w} {K : KT} (h : vC P L0.length X fr L g K) (I : Inv df fr L g σ a w) (hg : Goes σ0 L0 g0 w0 σ L g w) : c.wp P (liftY σ0 L0 g0 w0 df K) a w :=
  vC_soundJ hm c X (by rw [ycode_unj c X hX]; exact hX) h I hg

end
end Go.Sx
