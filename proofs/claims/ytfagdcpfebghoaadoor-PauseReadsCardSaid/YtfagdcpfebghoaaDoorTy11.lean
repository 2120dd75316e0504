/- A symbolic executor of my own, second design, part 11: functions: their conditions, contracts, calls. Conditions: none; it speaks of any program. -/
import Derived.Test.YtfagdcpfebghoaaDoorTy10
namespace Go.Sx

/-- **A contract**: the call, in any world that meets the symbolic memory, ends as the post allows. -/
def Meets (P : Program) (f : FuncId) (args : List SV) (L : List Chunk) (g : G) (post : Out → List Chunk → G → Prop) : Prop :=
  callable P f = true ∧ ∀ (σ : Nat → Nat) (w : World), Mem g L σ w → scH L → scL L.length args = true →
    Calls P f (reL σ args).toArray w fun e w' => ∃ out L' g' σ', Ends σ' e out ∧ out.sv ≠ .junk ∧ Mem g' L' σ' w' ∧ scH L' ∧ out.sv.sc L'.length = true ∧ Goes σ L g w σ' L' g' w' ∧ post out L' g'

theorem Meets.mono {P : Program} {f : FuncId} {args : List SV} {L : List Chunk} {g : G} {post post' : Out → List Chunk → G → Prop} (h : Meets P f args L g post) (hp : ∀ r L' g', post r L' g' → post' r L' g') : Meets P f args L g post' :=
  ⟨h.1, fun σ w h1 h2 h3 => (h.2 σ w h1 h2 h3).mono fun _ _ ⟨r, L', g', σ', a, b, c, d, e, f, k⟩ => ⟨r, L', g', σ', a, b, c, d, e, f, hp _ _ _ k⟩⟩

/-! ### Results -/

inductive XRes where
  | tmp (t : Nat)
  | cell (a : Nat) (agg : Bool) (n : Nat)

def xres (P : Program) : ResultVar → Option XRes
  | .tmp t => some (.tmp t)
  | .cell a t => match xop0 P (.load t (.tmp a)) with
    | some (.load agg n _) => some (.cell a agg n)
    | _ => none

def resOne (x : XRes) (fr : List SV) (L : List Chunk) (g : G) (K : SV → Prop) : Prop :=
  match x with
  | .tmp t => nj (get fr t) K
  | .cell a agg n => ro (.load agg n (.tmp a)) (ev fr) L g K

def resAll : List XRes → List SV → List Chunk → G → (List SV → Prop) → Prop
  | [], _, _, _, K => K []
  | x :: l, fr, L, g, K => resOne x fr L g fun v => resAll l fr L g fun vs => K (v :: vs)

def pack : List SV → SV
  | [v] => v
  | vs => .tup vs

def ixOf : List Nat → Nat → Nat
  | [], _ => 0
  | x :: l, k => match Nat.beq x k with
    | true => 0
    | false => ixOf l k + 1
def getN : List Nat → Nat → Nat
  | [], j => j
  | x :: _, 0 => x
  | _ :: l, j + 1 => getN l j
def nthC : List Chunk → Nat → Chunk
  | [], _ => .gone
  | c :: _, 0 => c
  | _ :: l, k + 1 => nthC l k

theorem nthC_get : ∀ (L : List Chunk) (k : Nat) (c : Chunk), nthC L k = c → c.here = true → L[k]? = some c
  | [], k, c, h, hh => by simp only [nthC] at h; subst h; cases hh
  | d :: L, 0, c, h, _ => by simpa [nthC] using h
  | d :: L, k + 1, c, h, hh => by simpa using nthC_get L k c h hh
theorem nthC_some : ∀ (L : List Chunk) (k : Nat) (c : Chunk), L[k]? = some c → nthC L k = c
  | [], k, c, h => by simp at h
  | d :: L, 0, c, h => by simpa [nthC] using h
  | d :: L, k + 1, c, h => nthC_some L k c (by simpa using h)

theorem getN_ix : ∀ (ρ : List Nat) (k : Nat), k ∈ ρ → getN ρ (ixOf ρ k) = k ∧ ixOf ρ k < ρ.length
  | [], k, h => by simp at h
  | x :: ρ, k, h => by
    rw [ixOf]
    cases hb : Nat.beq x k with
    | true => exact ⟨Nat.eq_of_beq_eq_true hb, by simp⟩
    | false =>
      have hk : k ∈ ρ := by
        rcases List.mem_cons.1 h with h | h
        · subst h; simp at hb
        · exact h
      obtain ⟨h1, h2⟩ := getN_ix ρ k hk
      exact ⟨h1, by simpa using h2⟩
theorem getN_get : ∀ (ρ : List Nat) (j : Nat), j < ρ.length → ρ[j]? = some (getN ρ j)
  | [], j, h => by simp at h
  | x :: ρ, 0, _ => rfl
  | x :: ρ, j + 1, h => by rw [List.getElem?_cons_succ]; exact getN_get ρ j (by simpa using h)
theorem getN_inj {ρ : List Nat} (h : ρ.Nodup) {i j : Nat} (hi : i < ρ.length) (hj : j < ρ.length) (e : getN ρ i = getN ρ j) : i = j := by
  have h1 := getN_get ρ i hi
  have h2 := getN_get ρ j hj
  rw [← e] at h2
  exact (List.getElem?_inj hi h).1 (h1.trans h2.symm)
theorem getN_range {n : Nat} {ks : List Nat} {j : Nat} (hj : j < n) : getN (List.range n ++ ks) j = j := by
  have := getN_get (List.range n ++ ks) j (by simp; omega)
  rw [List.getElem?_append_left (by simpa using hj)] at this
  simp [hj] at this
  exact this.symm

mutual
theorem ren_ren {f h : Nat → Nat} {p : Nat → Bool} (e : ∀ k, p k = true → h (f k) = k) : ∀ x : SV, x.on p = true → (x.ren f).ren h = x
  | .junk, _ => rfl
  | .v _, _ => rfl
  | .ptr k o, hx => by simp only [SV.ren, e k (by simpa [SV.on] using hx)]
  | .slc k o a b, hx => by simp only [SV.ren, e k (by simpa [SV.on] using hx)]
  | .mp k, hx => by simp only [SV.ren, e k (by simpa [SV.on] using hx)]
  | .fn q a b, hx => by
    simp only [SV.on, Bool.and_eq_true] at hx
    simp only [SV.ren, renL_ren e a hx.1, renL_ren e b hx.2]
  | .iface t x, hx => by simp only [SV.ren, ren_ren e x (by simpa [SV.on] using hx)]
  | .agg l, hx => by simp only [SV.ren, renL_ren e l (by simpa [SV.on] using hx)]
  | .tup l, hx => by simp only [SV.ren, renL_ren e l (by simpa [SV.on] using hx)]
theorem renL_ren {f h : Nat → Nat} {p : Nat → Bool} (e : ∀ k, p k = true → h (f k) = k) : ∀ l : List SV, onL p l = true → renL h (renL f l) = l
  | [], _ => rfl
  | x :: l, hx => by
    simp only [onL, Bool.and_eq_true] at hx
    simp only [renL, ren_ren e x hx.1, renL_ren e l hx.2]
end
mutual
theorem ren_on {f : Nat → Nat} {p q : Nat → Bool} (e : ∀ k, p k = true → q (f k) = true) : ∀ x : SV, x.on p = true → (x.ren f).on q = true
  | .junk, _ => rfl
  | .v _, _ => rfl
  | .ptr k o, hx => by simp only [SV.ren, SV.on]; exact e k hx
  | .slc k o a b, hx => by simp only [SV.ren, SV.on]; exact e k hx
  | .mp k, hx => by simp only [SV.ren, SV.on]; exact e k hx
  | .fn h a b, hx => by
    simp only [SV.on, Bool.and_eq_true] at hx
    simp only [SV.ren, SV.on, Bool.and_eq_true]
    exact ⟨renL_on e a hx.1, renL_on e b hx.2⟩
  | .iface t x, hx => by simp only [SV.ren, SV.on]; exact ren_on e x hx
  | .agg l, hx => by simp only [SV.ren, SV.on]; exact renL_on e l hx
  | .tup l, hx => by simp only [SV.ren, SV.on]; exact renL_on e l hx
theorem renL_on {f : Nat → Nat} {p q : Nat → Bool} (e : ∀ k, p k = true → q (f k) = true) : ∀ l : List SV, onL p l = true → onL q (renL f l) = true
  | [], _ => rfl
  | x :: l, hx => by
    simp only [onL, Bool.and_eq_true] at hx
    simp only [renL, onL, Bool.and_eq_true]
    exact ⟨ren_on e x hx.1, renL_on e l hx.2⟩
end

def pickC (ρ : List Nat) (L : List Chunk) : List Nat → List Chunk
  | [] => []
  | k :: l => (nthC L k).ren (ixOf ρ) :: pickC ρ L l
theorem pickC_length (ρ : List Nat) (L : List Chunk) : ∀ l, (pickC ρ L l).length = l.length
  | [] => rfl
  | k :: l => by simp [pickC, pickC_length ρ L l]
theorem pickC_get (ρ : List Nat) (L : List Chunk) : ∀ (l : List Nat) (j : Nat), (pickC ρ L l)[j]? = (l[j]?).map fun k => (nthC L k).ren (ixOf ρ)
  | [], j => by simp [pickC]
  | k :: l, 0 => by simp [pickC]
  | k :: l, j + 1 => by simpa [pickC] using pickC_get ρ L l j
def allOn (ρ : List Nat) (L : List Chunk) (l : List Nat) : Bool := l.all fun k => (nthC L k).on fun j => ρ.contains j

/-- What is asked where a function ends: these blocks are kept. -/
def retP (ρ : List Nat) (o : SV → Out) (r : SV) (L : List Chunk) (g : G) (post : Out → List Chunk → G → Prop) : Prop :=
  ifOk (nodupB ρ && ((r.on fun j => ρ.contains j) && allOn ρ L ρ)) (fR (r.ren (ixOf ρ)) fun r => fL (pickC ρ L ρ) fun L1 => post (o r) L1 g)
def retQ (n0 : Nat) (kp : Option (List Nat)) (o : SV → Out) (r : SV) (L : List Chunk) (g : G) (post : Out → List Chunk → G → Prop) : Prop :=
  match kp with
  | some ks => retP (List.range n0 ++ ks) o r L g post
  | none => ∃ ks, retP (List.range n0 ++ ks) o r L g post
def retK (n0 : Nat) (kp : Option (List Nat)) (rs : List XRes) (post : Out → List Chunk → G → Prop) : KT := fun e fr L g =>
  match e with
  | .normal => resAll rs fr L g fun vs => fR (pack vs) fun r => retQ n0 kp .ret r L g post
  | .ret => resAll rs fr L g fun vs => fR (pack vs) fun r => retQ n0 kp .ret r L g post
  | .pan x => retQ n0 kp .pan x L g post
  | _ => False

/-- A function with its code looked up. -/
structure YF where
  ntmps : Nat
  results : List XRes
  code : YC

def unjF (X : YF) : YF := ⟨X.ntmps, X.results, unj X.code⟩

def yfunc (P : Program) (fn : Func) : Option YF :=
  match fn.body with
  | some c => match ycode P c with
    | some x => match fn.results.toList.mapM (xres P) with
      | some rs => some ⟨fn.ntmps, rs, x⟩
      | none => none
    | none => none
  | none => none

/-- The condition of a function. -/
def vF (P : Program) (X : YF) (args : List SV) (L : List Chunk) (g : G) (kp : Option (List Nat)) (post : Out → List Chunk → G → Prop) : Prop :=
  force (args ++ List.replicate (X.ntmps - args.length) (.v undef)) fun fr => vC P L.length X.code fr L g (retK L.length kp X.results post)

def resRead (tmps : Array Value) (rv : ResultVar) : Sem Value :=
  match rv with
  | .tmp t => Pure.pure (tmps.getD t undef)
  | .cell b t => do loadVar t (← asAddr (tmps.getD b undef))

theorem results_eq (fn : Func) (tmps : Array Value) : results fn tmps = (do
    let vs ← fn.results.mapM (resRead tmps)
    Pure.pure (if h : vs.size = 1 then vs[0] else .tuple vs)) := rfl

theorem resOne_sound {P : Program} {df : List Deferred} {rv : ResultVar} {x : XRes} (hx : xres P rv = some x) {fr : List SV} {L : List Chunk} {g : G} {σ : Nat → Nat} {a : Act} {w : World} (I : Inv df fr L g σ a w) {K : SV → Prop} (h : resOne x fr L g K) :
    ∃ r, r ≠ .junk ∧ r.sc L.length = true ∧ K r ∧ (resRead a.tmps rv).run P w = .ok (r.re σ) w := by
  cases rv with
  | tmp t =>
    simp only [xres, Option.some.injEq] at hx
    subst hx
    obtain ⟨hj, hk⟩ := nj_elim h
    exact ⟨_, hj, sc_get I.scF t, hk, by simp only [resRead]; rw [I.hfr.2 t _ rfl hj]; rfl⟩
  | cell b t =>
    simp only [xres] at hx
    cases hl : xop0 P (.load t (.tmp b)) with
    | none => simp [hl] at hx
    | some X =>
      rw [hl] at hx
      obtain ⟨agg, n, rfl, rfl⟩ : ∃ agg n, X = .load agg n (.tmp b) ∧ x = .cell b agg n := by
        simp only [xop0] at hl
        cases hi : P.info? t with
        | none => simp [hi] at hl
        | some i =>
          rw [hi] at hl
          simp only at hl
          split at hl
          · simp only [Option.some.injEq] at hl; subst hl; exact ⟨_, _, rfl, by simpa using hx.symm⟩
          · split at hl
            · simp only [Option.some.injEq] at hl; subst hl; exact ⟨_, _, rfl, by simpa using hx.symm⟩
            · cases hl
      obtain ⟨r, hj, ⟨hk, hs⟩, hy⟩ := ro_sound0 (P := P) (o := ⟨none, .load t (.tmp b), 0, "", #[], none⟩) hl (ro_sc I.scF I.hscL h)
      refine ⟨r, hj, hs, hk, ?_⟩
      have := hy σ a w I.hfr I.mem.reads
      simp only [execOp, Act.eval, Instr.loadAt, Sem.run_bind] at this
      simp only [resRead, Sem.run_bind]
      generalize a.tmps.getD b undef = v at *
      cases v with
      | pointer p =>
        cases p with
        | none => simp [Instr.sureAddr] at this
        | some ad =>
          simp only [Instr.sureAddr, Sem.run_pure, Result.andThen_ok] at this
          simp only [asAddr, Sem.run_pure, Result.andThen_ok]
          cases hlv : (loadVar t ad).run P w with
          | ok u w' =>
            rw [hlv] at this
            simp only [Result.andThen_ok, Result.ok.injEq, Next.value.injEq] at this
            rw [this.1, this.2]
          | halt e w' => rw [hlv] at this; simp at this
      | _ => simp [Instr.sureAddr] at this

theorem resAll_sound {P : Program} {df : List Deferred} {fr : List SV} {L : List Chunk} {g : G} {σ : Nat → Nat} {a : Act} {w : World} (I : Inv df fr L g σ a w) : ∀ (rvs : List ResultVar) (xs : List XRes), rvs.mapM (xres P) = some xs → ∀ {K : List SV → Prop}, resAll xs fr L g K →
    ∃ vs : List SV, (∀ v ∈ vs, v ≠ .junk) ∧ scL L.length vs = true ∧ K vs ∧ vs.length = rvs.length ∧
      (rvs.mapM (resRead a.tmps)).run P w = Result.ok (reL σ vs) w := by
  intro rvs
  induction rvs with
  | nil => intro xs hx K h; simp at hx; subst hx; exact ⟨[], by simp, rfl, h, rfl, by simp [reL]⟩
  | cons rv rvs ih =>
    intro xs hx K h
    rw [List.mapM_cons] at hx
    simp only [bind, Option.bind_eq_some_iff, pure, Option.some.injEq] at hx
    obtain ⟨x, hx1, xs', hx2, rfl⟩ := hx
    obtain ⟨r, hj, hs, hk, hr⟩ := resOne_sound hx1 I (show resOne x fr L g _ from h)
    obtain ⟨vs, hj', hs', hk', hl', hr'⟩ := ih xs' hx2 hk
    refine ⟨r :: vs, by simpa using ⟨hj, hj'⟩, by simp [scL, hs, hs'], hk', by simp [hl'], ?_⟩
    rw [List.mapM_cons, Sem.run_bind, hr, Result.andThen_ok, Sem.run_bind, hr', Result.andThen_ok]
    rfl

theorem retP_sound {ρ : List Nat} {n0 : Nat} {ks : List Nat} (hρ : ρ = List.range n0 ++ ks) {o : SV → Out} {df : List Deferred} {fr : List SV} {L : List Chunk} {g : G} {σ : Nat → Nat} {a : Act} {w : World} {post : Out → List Chunk → G → Prop}
    {L0 : List Chunk} {σ0 : Nat → Nat} {g0 : G} {w0 : World} (hn : L0.length = n0) (I : Inv df fr L g σ a w) (hg : Goes σ0 L0 g0 w0 σ L g w) {r : SV} (hj : r ≠ .junk) (h : retP ρ o r L g post) :
    ∃ r' L' σ', r'.re σ' = r.re σ ∧ r' ≠ .junk ∧ Mem g L' σ' w ∧ scH L' ∧ r'.sc L'.length = true ∧ Goes σ0 L0 g0 w0 σ' L' g w ∧ post (o r') L' g := by
  unfold retP at h
  obtain ⟨hb, h⟩ := ifOk_elim h
  rw [fR_eq, fL_eq] at h
  simp only [Bool.and_eq_true] at hb
  obtain ⟨h1, h2, h3⟩ := hb
  have hnd := nodupB_spec h1
  have hlen : (pickC ρ L ρ).length = ρ.length := pickC_length _ _ _
  have key : ∀ k, ρ.contains k = true → getN ρ (ixOf ρ k) = k := fun k hk => (getN_ix ρ k (by simpa using hk)).1
  have key2 : ∀ k, ρ.contains k = true → decide (ixOf ρ k < ρ.length) = true := fun k hk => by simpa using (getN_ix ρ k (by simpa using hk)).2
  have hW : Weak L0.length (getN ρ) fr L g (List.replicate fr.length .junk) (pickC ρ L ρ) g := by
    refine ⟨fun j hj => by rw [hρ]; exact getN_range (by omega), fun i j hi hj e => getN_inj hnd (by omega) (by omega) e, by rw [hlen, hρ]; simp; omega, fun k c hk hh => ?_, ⟨by simp, fun i => .inl ?_⟩, rfl, ?_, ?_⟩
    · rw [pickC_get] at hk
      simp only [Option.map_eq_some_iff] at hk
      obtain ⟨j, hj, rfl⟩ := hk
      have hkl : k < ρ.length := (List.getElem?_eq_some_iff.1 hj).1
      rw [getN_get ρ k hkl] at hj
      cases hj
      have hin : getN ρ k ∈ ρ := List.mem_of_getElem? (getN_get ρ k hkl)
      have hon := List.all_eq_true.1 h3 _ hin
      have hback : ((nthC L (getN ρ k)).ren (ixOf ρ)).ren (getN ρ) = nthC L (getN ρ k) := by
        cases hc : nthC L (getN ρ k) with
        | cells ty l => rw [hc] at hon; simp only [Chunk.ren, renL_ren key l hon]
        | _ => rfl
      rw [hback]
      rw [here_ren] at hh
      exact nthC_get L _ _ rfl hh
    · have : ∀ (n i : Nat), get (List.replicate n SV.junk) i = .junk := by
        intro n
        induction n with
        | zero => intro i; rfl
        | succ n ih => intro i; cases i with | zero => rfl | succ i => exact ih i
      exact this _ _
    · exact scL_mem.2 fun x hx => by rw [List.eq_of_mem_replicate hx]; rfl
    · intro k ty c hk
      rw [pickC_get] at hk
      simp only [Option.map_eq_some_iff] at hk
      obtain ⟨j, hj, hc⟩ := hk
      have hon := List.all_eq_true.1 h3 j (List.mem_of_getElem? hj)
      cases hcj : nthC L j with
      | cells ty' l =>
        rw [hcj] at hon hc
        simp only [Chunk.ren, Chunk.cells.injEq] at hc
        rw [← hc.2, hlen, onL_sc]
        exact renL_on key2 l hon
      | _ => rw [hcj] at hc; cases hc
  refine ⟨r.ren (ixOf ρ), pickC ρ L ρ, fun k => σ (getN ρ k), ?_, fun e => hj (ren_junk.1 e), (I.weak hW).mem, (I.weak hW).hscL, ?_, hg.weak hW, h⟩
  · rw [← re_ren, ren_ren key r h2]
  · rw [hlen, on_sc]; exact ren_on key2 r h2

theorem yfunc_unj {P : Program} {fn : Func} {X : YF} (h : yfunc P fn = some X) : unjF X = X := by
  unfold yfunc at h
  split at h
  · rename_i c hc
    split at h
    · rename_i x hx
      split at h
      · cases h
        simp only [unjF, ycode_unj c x hx]
      · cases h
    · cases h
  · cases h

/-- **From a function's condition to its contract.** -/
theorem meets_ofJ {P : Program} {f : FuncId} {fn : Func} {X : YF} {args : List SV} {L : List Chunk} {g : G} {post : Out → List Chunk → G → Prop} (hm : P.follows .mixedOrders = true) (hf : P.funcs[f]? = some fn) (hcl : callable P f = true)
    (hX : yfunc P fn = some (unjF X)) (kp : Option (List Nat)) (h : vF P X args L g kp post) : Meets P f args L g post := by
  refine ⟨hcl, fun σ w hH hL hsc => ?_⟩
  simp only [yfunc] at hX
  cases hb : fn.body with
  | none => simp [hb] at hX
  | some c =>
    rw [hb] at hX
    simp only at hX
    cases hx : ycode P c with
    | none => simp [hx] at hX
    | some x =>
      rw [hx] at hX
      simp only at hX
      cases hr : fn.results.toList.mapM (xres P) with
      | none => simp [hr] at hX
      | some rs =>
        rw [hr] at hX
        simp only [Option.some.injEq] at hX
        obtain ⟨nt, rs', xc⟩ := X
        simp only [unjF, YF.mk.injEq] at hX
        obtain ⟨rfl, rfl, rfl⟩ := hX
        refine calls_of_wp hf hb ?_
        simp only [vF, force_eq] at h
        have hlen : (reL σ args).toArray.size = args.length := by simp [reL_length]
        have I : Inv [] (args ++ List.replicate (fn.ntmps - args.length) (.v undef)) L g σ { tmps := (reL σ args).toArray ++ Array.replicate (fn.ntmps - (reL σ args).toArray.size) undef, defers := [] } w := by
          refine ⟨⟨by simp [reL_length], fun i y hy hj => ?_⟩, hH, ?_, hL, rfl⟩
          · have key : ∀ (l : List SV) (i : Nat) (y : SV), get l i = y → y ≠ .junk → (reL σ l)[i]? = some (y.re σ) := by
              intro l i y hy hj
              subst hy
              rw [reL_map, List.getElem?_map, get_some hj]
              rfl
            have := key _ i y hy hj
            rw [reL_append] at this
            have e : reL σ (List.replicate (fn.ntmps - args.length) (.v undef)) = List.replicate (fn.ntmps - args.length) undef := by
              simp [reL_map, SV.re]
            rw [e] at this
            rw [hlen, Array.getD_eq_getD_getElem?]
            have e2 : ((reL σ args).toArray ++ Array.replicate (fn.ntmps - args.length) undef)[i]? = (reL σ args ++ List.replicate (fn.ntmps - args.length) undef)[i]? := by
              rw [← List.getElem?_toArray]
              congr 1
              apply Array.ext'
              simp
            rw [e2, this]
            rfl
          · rw [scL_append]
            exact ⟨hsc, scL_mem.2 fun x hx => by rw [List.eq_of_mem_replicate hx]; rfl⟩
        refine Code.wp_mono ?_ (vC_soundJ hm c xc hx h I (Goes.refl σ L g w))
        have fin : ∀ (fr : List SV) (L1 : List Chunk) (g1 : G) (σ' : Nat → Nat) (a' : Act) (w' : World), Inv [] fr L1 g1 σ' a' w' → Goes σ L g w σ' L1 g1 w' → (resAll rs fr L1 g1 fun vs => fR (pack vs) fun r => retQ L.length kp .ret r L1 g1 post) →
            a'.defers = [] ∧ ∃ v, (results fn a'.tmps).run P w' = .ok v w' ∧ ∃ out L' g' σ', Ends σ' (Ending.returned v) out ∧ out.sv ≠ .junk ∧ Mem g' L' σ' w' ∧ scH L' ∧ out.sv.sc L'.length = true ∧ Goes σ L g w σ' L' g' w' ∧ post out L' g' := by
          intro fr L1 g1 σ' a' w' I' hg' hk
          obtain ⟨vs, hj, hs, hok, hl, hrun⟩ := resAll_sound I' _ rs hr hk
          rw [fR_eq] at hok
          have hok' : ∃ ks, retP (List.range L.length ++ ks) .ret (pack vs) L1 g1 post := by
            cases kp with
            | some ks => exact ⟨ks, hok⟩
            | none => exact hok
          obtain ⟨ks, hok'⟩ := hok'
          have hpj : pack vs ≠ .junk := by
            match vs, hj with
            | [], _ => simp [pack]
            | [v], hj => exact hj v (by simp)
            | u :: v :: vs, _ => simp [pack]
          obtain ⟨r', L', σ2, e1, e2, e3, e4, e5, e6, e7⟩ := retP_sound rfl rfl I' hg' hpj hok'
          refine ⟨I'.defers, (pack vs).re σ', ?_, .ret r', L', g1, σ2, ?_, e2, e3, e4, e5, e6, e7⟩
          · have e : (results fn a'.tmps).run P w' = .ok (if h : (reL σ' vs).toArray.size = 1 then (reL σ' vs).toArray[0] else .tuple (reL σ' vs).toArray) w' := by
              rw [results_eq, Sem.run_bind, Array.mapM_eq_mapM_toList, Sem.run_map, hrun]
              simp
            rw [e]
            congr 1
            match vs with
            | [] => simp [pack, SV.re, reL]
            | [v] => simp [pack, reL]
            | u :: v :: vs => simp [pack, SV.re, reL]
          · show Ending.returned _ = Ending.returned _
            rw [e1]
        intro e a' w' hl
        cases e with
        | normal => obtain ⟨fr, L1, g1, σ', I', hg', hk⟩ := hl; obtain ⟨h1, v, h2, h3⟩ := fin fr L1 g1 σ' a' w' I' hg' hk; exact ⟨h1, v, h2, h3⟩
        | ret => obtain ⟨fr, L1, g1, σ', I', hg', hk⟩ := hl; obtain ⟨h1, v, h2, h3⟩ := fin fr L1 g1 σ' a' w' I' hg' hk; exact ⟨h1, v, h2, h3⟩
        | exit j => obtain ⟨fr, L1, g1, σ', I', hg', hk⟩ := hl; exact hk.elim
        | panic ch =>
          obtain ⟨x, fr, L1, g1, σ', rfl, hj, hs, I', hg', hk⟩ := hl
          have hk' : ∃ ks, retP (List.range L.length ++ ks) .pan x L1 g1 post := by
            cases kp with
            | some ks => exact ⟨ks, hk⟩
            | none => exact hk
          obtain ⟨ks, hk'⟩ := hk'
          obtain ⟨r', L', σ2, e1, e2, e3, e4, e5, e6, e7⟩ := retP_sound rfl rfl I' hg' hj hk'
          refine ⟨I'.defers, .pan r', L', g1, σ2, ?_, e2, e3, e4, e5, e6, e7⟩
          show Ending.panicked _ = Ending.panicked _
          rw [e1]
        | _ => exact hl.elim

theorem meets_of {P : Program} {f : FuncId} {fn : Func} {X : YF} {args : List SV} {L : List Chunk} {g : G} {post : Out → List Chunk → G → Prop} (hm : P.follows .mixedOrders = true) (hf : P.funcs[f]? = some fn) (hcl : callable P f = true)
    (hX : yfunc P fn = some X) (kp : Option (List Nat)) (h : vF P X args L g kp post) : Meets P f args L g post :=
  meets_ofJ hm hf hcl (by rw [yfunc_unj hX]; exact hX) kp h

end Go.Sx
