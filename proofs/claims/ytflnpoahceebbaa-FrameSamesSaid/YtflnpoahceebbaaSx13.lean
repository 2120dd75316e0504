/- A symbolic executor of my own, part 13: from a function's condition to its contract; contracts in a larger memory; loops with named slots. Conditions: none; it speaks of any program. -/
import Derived.Test.YtflnpoahceebbaaSx12
namespace Go.Sx

/-! ### Functions -/

inductive XRes where
  | tmp (t : Nat)
  | cell (a : Nat) (agg : Bool) (n : Nat)

def xres (P : Program) : ResultVar → Option XRes
  | .tmp t => some (.tmp t)
  | .cell a t => match xop P (.load t (.tmp a)) with
    | some (.load agg n _) => some (.cell a agg n)
    | _ => none

def resOne (x : XRes) (fr : List SV) (L : List Chunk) (g : G) (K : SV → Prop) : Prop :=
  match x with
  | .tmp t => nj (get fr t) K
  | .cell a agg n => ro (.load agg n (.tmp a)) (ev fr) L g K

def resAll : List XRes → List SV → List Chunk → G → (List SV → Prop) → Prop
  | [], _, _, _, K => K []
  | x :: l, fr, L, g, K => resOne x fr L g fun v => resAll l fr L g fun vs => K (v :: vs)

def pack : List SV → SV
  | [v] => v
  | vs => .tup vs

def scC (n : Nat) : Chunk → Bool
  | .cells _ c => scL n c
  | _ => true
def scHB (n : Nat) : List Chunk → Bool
  | [] => true
  | c :: l => scC n c && scHB n l

/-- What is asked where a function ends: of the blocks at hand the first 'keep' stay. -/
def retK (rs : List XRes) (keep : Nat) (post : SV → List Chunk → G → Prop) (e : Exit) (S : St) : Prop :=
  match e with
  | .normal => resAll rs S.fr S.L S.g fun vs => ifOk ((pack vs).sc keep && scHB keep (S.L.take keep) && Nat.ble keep S.L.length) (post (pack vs) (S.L.take keep) S.g)
  | .ret => resAll rs S.fr S.L S.g fun vs => ifOk ((pack vs).sc keep && scHB keep (S.L.take keep) && Nat.ble keep S.L.length) (post (pack vs) (S.L.take keep) S.g)
  | _ => False

/-- A function with its code looked up. -/
structure XF where
  ntmps : Nat
  results : List XRes
  code : XC

def xfunc (P : Program) (fn : Func) : Option XF :=
  match fn.body with
  | some c => match xcode P c with
    | some x => match fn.results.toList.mapM (xres P) with
      | some rs => some ⟨fn.ntmps, rs, x⟩
      | none => none
    | none => none
  | none => none

/-- The condition of a function. -/
def vcF (P : Program) (X : XF) (args : List SV) (L : List Chunk) (g : G) (keep : Nat) (post : SV → List Chunk → G → Prop) : Prop :=
  vcC P X.code ⟨args ++ List.replicate (X.ntmps - args.length) (.v undef), L, g⟩ (retK X.results keep post)

/-- How a result is read. -/
def resRead (tmps : Array Value) (rv : ResultVar) : Sem Value :=
  match rv with
  | .tmp t => Pure.pure (tmps.getD t undef)
  | .cell b t => do loadVar t (← asAddr (tmps.getD b undef))

theorem results_eq (fn : Func) (tmps : Array Value) : results fn tmps = (do
    let vs ← fn.results.mapM (resRead tmps)
    Pure.pure (if h : vs.size = 1 then vs[0] else .tuple vs)) := rfl

theorem resOne_sound {P : Program} {rv : ResultVar} {x : XRes} (hx : xres P rv = some x) {S : St} {σ : Nat → Nat} {a : Act} {w : World} (I : Inv S σ a w) {K : SV → Prop} (h : resOne x S.fr S.L S.g K) :
    ∃ r, r ≠ .junk ∧ r.sc S.L.length = true ∧ K r ∧ (resRead a.tmps rv).run P w = .ok (r.re σ) w := by
  cases rv with
  | tmp t =>
    simp only [xres, Option.some.injEq] at hx
    subst hx
    obtain ⟨hj, hk⟩ := nj_elim h
    exact ⟨_, hj, sc_get I.scF t, hk, by simp only [resRead]; rw [I.fr.2 t _ rfl hj]; rfl⟩
  | cell b t =>
    simp only [xres] at hx
    cases hl : xop P (.load t (.tmp b)) with
    | none => simp [hl] at hx
    | some X =>
      rw [hl] at hx
      obtain ⟨agg, n, rfl, rfl⟩ : ∃ agg n, X = .load agg n (.tmp b) ∧ x = .cell b agg n := by
        simp only [xop] at hl
        cases hi : P.info? t with
        | none => simp [hi] at hl
        | some i =>
          rw [hi] at hl
          simp only at hl
          split at hl
          · simp only [Option.some.injEq] at hl; subst hl; exact ⟨_, _, rfl, by simpa using hx.symm⟩
          · split at hl
            · simp only [Option.some.injEq] at hl; subst hl; exact ⟨_, _, rfl, by simpa using hx.symm⟩
            · cases hl
      obtain ⟨r, hj, ⟨hk, hs⟩, hy⟩ := ro_sound (P := P) (o := ⟨none, .load t (.tmp b), 0, "", #[], none⟩) hl (ro_sc I.scF I.scL h)
      refine ⟨r, hj, hs, hk, ?_⟩
      have := hy σ a w I.fr I.holds
      simp only [execOp, Act.eval, Instr.loadAt, Sem.run_bind] at this
      simp only [resRead, Sem.run_bind]
      generalize a.tmps.getD b undef = v at *
      cases v with
      | pointer p =>
        cases p with
        | none => simp [Instr.sureAddr] at this
        | some ad =>
          simp only [Instr.sureAddr, Sem.run_pure, Result.andThen_ok] at this
          simp only [asAddr, Sem.run_pure, Result.andThen_ok]
          cases hlv : (loadVar t ad).run P w with
          | ok u w' =>
            rw [hlv] at this
            simp only [Result.andThen_ok, Result.ok.injEq, Next.value.injEq] at this
            rw [this.1, this.2]
          | halt e w' => rw [hlv] at this; simp at this
      | _ => simp [Instr.sureAddr] at this

theorem resAll_sound {P : Program} {S : St} {σ : Nat → Nat} {a : Act} {w : World} (I : Inv S σ a w) : ∀ (rvs : List ResultVar) (xs : List XRes), rvs.mapM (xres P) = some xs → ∀ {K : List SV → Prop}, resAll xs S.fr S.L S.g K →
    ∃ vs : List SV, (∀ v ∈ vs, v ≠ .junk) ∧ scL S.L.length vs = true ∧ K vs ∧ vs.length = rvs.length ∧
      (rvs.mapM (resRead a.tmps)).run P w = Result.ok (reL σ vs) w := by
  intro rvs
  induction rvs with
  | nil => intro xs hx K h; simp at hx; subst hx; exact ⟨[], by simp, rfl, h, rfl, by simp [reL]⟩
  | cons rv rvs ih =>
    intro xs hx K h
    rw [List.mapM_cons] at hx
    simp only [bind, Option.bind_eq_some_iff, pure, Option.some.injEq] at hx
    obtain ⟨x, hx1, xs', hx2, rfl⟩ := hx
    obtain ⟨r, hj, hs, hk, hr⟩ := resOne_sound hx1 I (show resOne x S.fr S.L S.g _ from h)
    obtain ⟨vs, hj', hs', hk', hl', hr'⟩ := ih xs' hx2 hk
    refine ⟨r :: vs, by simpa using ⟨hj, hj'⟩, by simp [scL, hs, hs'], hk', by simp [hl'], ?_⟩
    rw [List.mapM_cons, Sem.run_bind, hr, Result.andThen_ok, Sem.run_bind, hr', Result.andThen_ok]
    rfl

theorem scHB_scH {L : List Chunk} (h : scHB L.length L = true) : scH L := by
  have : ∀ (n : Nat) (L : List Chunk), scHB n L = true → ∀ (k : Nat) (ty : TypeId) (c : List SV), L[k]? = some (Chunk.cells ty c) → scL n c = true := by
    intro n L
    induction L with
    | nil => intro _ k ty c hk; simp at hk
    | cons d L ih =>
      intro h k ty c hk
      simp only [scHB, Bool.and_eq_true] at h
      cases k with
      | zero => simp at hk; subst hk; exact h.1
      | succ k => exact ih h.2 k ty c (by simpa using hk)
  exact this _ _ h

/-- **From a function's condition to its contract.** -/
theorem fn_of_vc {P : Program} {f : FuncId} {fn : Func} {X : XF} {args : List SV} {L : List Chunk} {g : G} {post : SV → List Chunk → G → Prop} (hm : P.follows .mixedOrders = true) (hf : P.funcs[f]? = some fn) (hcl : callable P f = true)
    (hX : xfunc P fn = some X) (keep : Nat) (hkeep : L.length ≤ keep) (h : vcF P X args L g keep post) : Meets P f args L g post := by
  refine ⟨hcl, fun σ w hH hL hsc => ?_⟩
  simp only [xfunc] at hX
  cases hb : fn.body with
  | none => simp [hb] at hX
  | some c =>
    rw [hb] at hX
    simp only at hX
    cases hx : xcode P c with
    | none => simp [hx] at hX
    | some x =>
      rw [hx] at hX
      simp only at hX
      cases hr : fn.results.toList.mapM (xres P) with
      | none => simp [hr] at hX
      | some rs =>
        rw [hr] at hX
        simp only [Option.some.injEq] at hX
        subst hX
        refine calls_of_wp hf hb ?_
        have hlen : (reL σ args).toArray.size = args.length := by simp [reL_length]
        have I : Inv ⟨args ++ List.replicate (fn.ntmps - args.length) (.v undef), L, g⟩ σ { tmps := (reL σ args).toArray ++ Array.replicate (fn.ntmps - (reL σ args).toArray.size) undef, defers := [] } w := by
          refine ⟨⟨by simp [reL_length], fun i y hy hj => ?_⟩, hH, ?_, hL, rfl⟩
          · have key : ∀ (l : List SV) (i : Nat) (y : SV), get l i = y → y ≠ .junk → (reL σ l)[i]? = some (y.re σ) := by
              intro l i y hy hj
              subst hy
              rw [reL_map, List.getElem?_map, get_some hj]
              rfl
            have := key _ i y hy hj
            rw [reL_append] at this
            have e : reL σ (List.replicate (fn.ntmps - args.length) (.v undef)) = List.replicate (fn.ntmps - args.length) undef := by
              simp [reL_map, SV.re]
            rw [e] at this
            rw [hlen, Array.getD_eq_getD_getElem?]
            have e2 : ((reL σ args).toArray ++ Array.replicate (fn.ntmps - args.length) undef)[i]? = (reL σ args ++ List.replicate (fn.ntmps - args.length) undef)[i]? := by
              rw [← List.getElem?_toArray]
              congr 1
              apply Array.ext'
              simp
            rw [e2, this]
            rfl
          · rw [scL_append]
            exact ⟨hsc, scL_mem.2 fun x hx => by rw [List.eq_of_mem_replicate hx]; rfl⟩
        refine Code.wp_mono ?_ (vcC_sound hm c x hx h I (Goes.refl σ L g w))
        have fin : ∀ (S : St) (σ' : Nat → Nat) (a' : Act) (w' : World), Inv S σ' a' w' → Goes σ L g w σ' S.L S.g w' → (resAll rs S.fr S.L S.g fun vs => ifOk ((pack vs).sc keep && scHB keep (S.L.take keep) && Nat.ble keep S.L.length) (post (pack vs) (S.L.take keep) S.g)) →
            a'.defers = [] ∧ ∃ v, (results fn a'.tmps).run P w' = .ok v w' ∧ ∃ r L' g' σ', Ending.returned v = .returned (r.re σ') ∧ r ≠ .junk ∧ Holds g' L' σ' w' ∧ scH L' ∧ r.sc L'.length = true ∧ Goes σ L g w σ' L' g' w' ∧ post r L' g' := by
          intro S σ' a' w' I' hg' hk
          obtain ⟨vs, hj, hs, hok, hl, hrun⟩ := resAll_sound I' _ rs hr hk
          obtain ⟨hb, hp⟩ := ifOk_elim hok
          simp only [Bool.and_eq_true, Nat.ble_eq] at hb
          obtain ⟨⟨hb1, hb2⟩, hb3⟩ := hb
          have htl : (S.L.take keep).length = keep := by simp; omega
          refine ⟨I'.defers, (pack vs).re σ', ?_, pack vs, S.L.take keep, S.g, σ', rfl, ?_, ?_, ?_, by rw [htl]; exact hb1, ?_, hp⟩
          · have e : (results fn a'.tmps).run P w' = .ok (if h : (reL σ' vs).toArray.size = 1 then (reL σ' vs).toArray[0] else .tuple (reL σ' vs).toArray) w' := by
              rw [results_eq, Sem.run_bind, Array.mapM_eq_mapM_toList, Sem.run_map, hrun]
              simp
            rw [e]
            congr 1
            match vs with
            | [] => simp [pack, SV.re, reL]
            | [v] => simp [pack, reL]
            | u :: v :: vs => simp [pack, SV.re, reL]
          · match vs, hj with
            | [], _ => simp [pack]
            | [v], hj => exact hj v (by simp)
            | u :: v :: vs, _ => simp [pack]
          · refine ⟨I'.holds.im, fun k c o hk ho => ?_, fun j k hj hk => I'.holds.inj j k (by omega) (by omega), fun k hk => I'.holds.lt k (by omega), fun k hk => I'.holds.sep k (by omega)⟩
            rw [List.getElem?_take] at hk
            split at hk
            · exact I'.holds.lo k c o hk ho
            · cases hk
          · exact scHB_scH (by rw [htl]; exact hb2)
          · exact ⟨hg'.agree, by omega, fun k h1 h2 => hg'.fresh k h1 (by omega), hg'.gle, hg'.gnew, hg'.os, hg'.tape, hg'.output, hg'.size, hg'.keep⟩
        rintro e a' w' ⟨S, σ', I', hg', hk⟩
        cases e with
        | normal => obtain ⟨h1, v, h2, h3⟩ := fin S σ' a' w' I' hg' hk; exact ⟨h1, v, h2, h3⟩
        | ret => obtain ⟨h1, v, h2, h3⟩ := fin S σ' a' w' I' hg' hk; exact ⟨h1, v, h2, h3⟩
        | _ => exact hk.elim

/-! ### Contracts in a larger memory -/

/-- A function that asks nothing of the blocks at hand leaves them. -/
theorem Meets.pure {P : Program} {f : FuncId} {args : List SV} {g : G} {post : SV → G → Prop} (h : Meets P f args [] g fun r _ g' => r.sc 0 = true ∧ post r g') (hsc0 : scL 0 args = true) (L : List Chunk) : Meets P f args L g fun r L' g' => L' = L ∧ r.sc 0 = true ∧ post r g' := by
  refine ⟨h.1, fun σ w hH hL _ => ?_⟩
  refine (h.2 σ w ⟨hH.im, fun k c o hk => by simp at hk, fun j k hj => by simp at hj, fun k hk => by simp at hk, fun k hk => by simp at hk⟩ (fun k ty c hk => by simp at hk) hsc0).mono ?_
  rintro e w' ⟨r, L', g', σ', rfl, hj, h1, h2, h3, h4, h5, h6⟩
  refine ⟨r, L, g', σ, ?_, hj, ?_, hL, sc_mono (Nat.zero_le _) r h5, ?_, rfl, h5, h6⟩
  · rw [re_congr (n := 0) (fun k hk => by omega) r h5]
  · refine ⟨h1.im, fun k c o hk ho => ?_, hH.inj, fun k hk => Nat.lt_of_lt_of_le (hH.lt k hk) h4.size, fun k hk => ?_⟩
    · rw [h4.keep _ (hH.lt k (List.getElem?_eq_some_iff.1 hk).1) (fun j hj => by simp at hj)]
      exact hH.lo k c o hk ho
    · cases hg : g' (σ k) with
      | none => rfl
      | some o =>
        have := h4.gnew (σ k) (hH.sep k hk) (by simp [hg])
        have := hH.lt k hk
        omega
  · exact ⟨fun _ _ => rfl, Nat.le_refl _, fun k h1 h2 => by omega, h4.gle, h4.gnew, h4.os, h4.tape, h4.output, h4.size, fun b hb _ => h4.keep b hb (fun j hj => by simp at hj)⟩

end Go.Sx
