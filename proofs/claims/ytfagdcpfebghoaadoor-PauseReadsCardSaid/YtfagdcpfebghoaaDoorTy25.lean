/- A symbolic executor of my own, part 25: functions that defer calls, and what they defer (recover among it). Conditions: none; it speaks of any program. -/
import Derived.Test.YtfagdcpfebghoaaDoorTy24
import Derived.Recover
namespace Go.Sx

section
variable {P : Program} {ops : Array Oper} {σ0 : Nat → Nat} {L0 : List Chunk} {g0 : G} {w0 : World} {df : List Deferred} {K : KT}

theorem vOps_sound_app {tail : List Oper} {Q : Exit → Act → World → Prop} (hN : ∀ fr L g σ a w, Inv df fr L g σ a w → Goes σ0 L0 g0 w0 σ L g w → K .normal fr L g → wpList P ops Q tail a w)
    (hQ : ∀ x fr L g σ a w, Inv df fr L g σ a w → x ≠ .junk → x.sc L.length = true → Goes σ0 L0 g0 w0 σ L g w → K (.pan x) fr L g → Q (.panic [{ v := x.re σ, recovered := false }]) a w) :
    ∀ (l : List Oper) (xs : List XOper), l.mapM (xoper P ops) = some xs → ∀ {fr L g σ a w}, Inv df fr L g σ a w → Goes σ0 L0 g0 w0 σ L g w → vOps P xs fr L g K → wpList P ops Q (l ++ tail) a w := by
  intro l
  induction l with
  | nil =>
    intro xs hx fr L g σ a w I hg h
    simp at hx
    subst hx
    exact hN _ _ _ _ _ _ I hg h
  | cons o l ih =>
    intro xs hx fr L g σ a w I hg h
    rw [List.mapM_cons] at hx
    simp only [bind, Option.bind_eq_some_iff, pure, Option.some.injEq] at hx
    obtain ⟨x, hx1, xs', hx2, rfl⟩ := hx
    have := seq_step (P := P) hx1 (next := fun fr L g => vOps P xs' fr L g K) I hg h hQ
    have next : ∀ a' w', (∃ fr' L' g' σ', Inv df fr' L' g' σ' a' w' ∧ Goes σ0 L0 g0 w0 σ' L' g' w' ∧ vOps P xs' fr' L' g' K) → wpList P ops Q (l ++ tail) a' w' := by
      rintro a' w' ⟨fr', L', g', σ', I', hg', hk⟩
      exact ih xs' hx2 I' hg' hk
    rw [List.cons_append]
    unfold wpList
    split
    · rename_i hw
      rw [if_pos hw] at this
      exact .inl (Oper.wp_mono next this)
    · rename_i hw
      rw [if_neg hw] at this
      exact next _ _ this
end

/-! ### Calls that wait -/

abbrev DS := List (FuncId × List SV)
def DefIs (P : Program) (σ : Nat → Nat) (x : FuncId × List SV) (d : Deferred) : Prop :=
  ∃ fv cap, d.target = .fn fv cap ∧ ∀ w, (invoke d.target d.args).run P w = .ok (.enter x.1 (reL σ x.2).toArray) w
def DefsAre (P : Program) (σ : Nat → Nat) : DS → List Deferred → Prop
  | [], [] => True
  | x :: D, d :: df => DefIs P σ x d ∧ DefsAre P σ D df
  | _, _ => False
def scD (n : Nat) : DS → Bool
  | [] => true
  | x :: D => scL n x.2 && scD n D
theorem scD_mono {n m : Nat} (h : n ≤ m) : ∀ D : DS, scD n D = true → scD m D = true
  | [], _ => rfl
  | x :: D, hs => by
    simp only [scD, Bool.and_eq_true] at *
    exact ⟨scL_mono h _ hs.1, scD_mono h D hs.2⟩
theorem DefsAre.congr {P : Program} {σ σ' : Nat → Nat} {n : Nat} (h : ∀ k, k < n → σ' k = σ k) : ∀ {D : DS} {df : List Deferred}, scD n D = true → DefsAre P σ D df → DefsAre P σ' D df
  | [], [], _, _ => trivial
  | [], _ :: _, _, hd => hd.elim
  | _ :: _, [], _, hd => hd.elim
  | x :: D, d :: df, hs, hd => by
    simp only [scD, Bool.and_eq_true] at hs
    obtain ⟨⟨fv, cap, h1, h2⟩, h3⟩ := hd
    refine ⟨⟨fv, cap, h1, fun w => ?_⟩, DefsAre.congr h hs.2 h3⟩
    rw [reL_congr h x.2 hs.1]
    exact h2 w

inductive YD where
  | code (c : YC)
  | dfr (l : List XOper) (fn : Operand) (args : List Operand)

def ydef (P : Program) : Code → Option YD
  | .region _ ops false => match ops.toList.reverse with
    | o :: l => match o.op with
      | .defer c => match o.guard with
        | none => match c.callee with
          | .value v => match o.dst with
            | none => match l.reverse.mapM (xoper P ops) with
              | some xs => some (.dfr xs v c.args.toList)
              | none => none
            | some _ => none
          | _ => none
        | some _ => none
      | _ => none
    | [] => none
  | _ => none
def ysplit (P : Program) : Nat → Code → Option (List YD × YC)
  | 0, c => match ycode P c with
    | some x => some ([], x)
    | none => none
  | n + 1, .seq a b => match ysplit P n b with
    | some (l, x) => match ydef P a with
      | some d => some (d :: l, x)
      | none => match ycode P a with
        | some c => some (.code c :: l, x)
        | none => none
    | none => none
  | _, _ => none
structure YFD where
  ntmps : Nat
  results : List XRes
  pre : List YD
  rest : YC
def yfuncD (P : Program) (fn : Func) (n : Nat) : Option YFD :=
  match fn.body with
  | some c => match ysplit P n c with
    | some (l, x) => match fn.results.toList.mapM (xres P) with
      | some rs => some ⟨fn.ntmps, rs, l, x⟩
      | none => none
    | none => none
  | none => none

/-- The calls that wait, gathered. -/
def vD (P : Program) : List YD → List SV → List Chunk → G → DS → (List SV → List Chunk → G → DS → Prop) → Prop
  | [], fr, L, g, D, K => K fr L g D
  | .code c :: ys, fr, L, g, D, K => vC P L.length c fr L g fun e fr L g => match e with
    | .normal => vD P ys fr L g D K
    | _ => False
  | .dfr l f args :: ys, fr, L, g, D, K => vOps P l fr L g fun e fr L g => match e with
    | .normal => match ev fr f with
      | .fn h first cap => callable P h = true ∧ njL (args.map (ev fr)) fun as => vD P ys fr L g ((h, first ++ (as ++ cap)) :: D) K
      | _ => False
    | _ => False

/-! ### What a deferred call does -/

/-- A function that begins by asking for the panic. -/
structure YR where
  ntmps : Nat
  d1 : Nat
  d2 : Nat
  rest : YC
def yrec (P : Program) (fn : Func) : Option YR :=
  match fn.body with
  | some (.seq (.region _ ops false) b) => match ops.toList with
    | [o1, o2] => match o1.op, o1.guard, o1.dst with
      | .call c, none, some d1 => match c.callee with
        | .builtin .recover => match o2.op, o2.guard, o2.dst with
          | .assign (.tmp t), none, some d2 => match Nat.beq t d1 && Nat.blt d1 fn.ntmps, ycode P b with
            | true, some x => some ⟨fn.ntmps, d1, d2, x⟩
            | _, _ => none
          | _, _, _ => none
        | _ => none
      | _, _, _ => none
    | _ => none
  | _ => none

def endOf (m : Option SV) (K : Option SV → List Chunk → G → Prop) : KT := fun e _ L g => match e with
  | .normal => K m L g
  | .ret => K m L g
  | _ => False
def vDef (P : Program) (X : YF) (args : List SV) (L : List Chunk) (g : G) (m : Option SV) (K : Option SV → List Chunk → G → Prop) : Prop :=
  force (args ++ List.replicate (X.ntmps - args.length) (.v undef)) fun fr => vC P L.length X.code fr L g (endOf m K)
def valOf : Option SV → SV
  | none => .v .nilIface
  | some x => x
def vRec (P : Program) (X : YR) (args : List SV) (L : List Chunk) (g : G) (m : Option SV) (K : Option SV → List Chunk → G → Prop) : Prop :=
  force (put (put (args ++ List.replicate (X.ntmps - args.length) (.v undef)) X.d1 (valOf m)) X.d2 (valOf m)) fun fr => vC P L.length X.rest fr L g (endOf none K)
@[irreducible] def DefX (P : Program) (f : FuncId) (as : List SV) (L : List Chunk) (g : G) (m : Option SV) (K : Option SV → List Chunk → G → Prop) : Prop :=
  ∃ fn, P.funcs[f]? = some fn ∧ fn.results.size = 0 ∧ ((∃ X, yfunc P fn = some X ∧ vDef P X as L g m K) ∨ (∃ X, yrec P fn = some X ∧ vRec P X as L g m K))
theorem defx_of {P : Program} {f : FuncId} {as : List SV} {L : List Chunk} {g : G} {m : Option SV} {K : Option SV → List Chunk → G → Prop} {fn : Func} {X : YF} (hf : P.funcs[f]? = some fn) (hr : fn.results.size = 0) (hX : yfunc P fn = some X) (h : vDef P X as L g m K) : DefX P f as L g m K := by
  unfold DefX
  exact ⟨fn, hf, hr, .inl ⟨X, hX, h⟩⟩
theorem recx_of {P : Program} {f : FuncId} {as : List SV} {L : List Chunk} {g : G} {m : Option SV} {K : Option SV → List Chunk → G → Prop} {fn : Func} {X : YR} (hf : P.funcs[f]? = some fn) (hr : fn.results.size = 0) (hX : yrec P fn = some X) (h : vRec P X as L g m K) : DefX P f as L g m K := by
  unfold DefX
  exact ⟨fn, hf, hr, .inr ⟨X, hX, h⟩⟩

def LeaveD (P : Program) : DS → Option SV → List Chunk → G → (Option SV → List Chunk → G → Prop) → Prop
  | [], m, L, g, K => K m L g
  | (f, as) :: D, m, L, g, K => DefX P f as L g m fun m' L' g' => LeaveD P D m' L' g' K
def endD (n0 : Nat) (kp : Option (List Nat)) (rs : List XRes) (fr : List SV) (post : Out → List Chunk → G → Prop) : Option SV → List Chunk → G → Prop
  | none, L, g => resAll rs fr L g fun vs => fR (pack vs) fun r => retQ n0 kp .ret r L g post
  | some x, L, g => retQ n0 kp .pan x L g post
def vFD (P : Program) (X : YFD) (args : List SV) (L : List Chunk) (g : G) (kp : Option (List Nat)) (post : Out → List Chunk → G → Prop) : Prop :=
  force (args ++ List.replicate (X.ntmps - args.length) (.v undef)) fun fr => vD P X.pre fr L g [] fun fr L1 g1 D => vC P L1.length X.rest fr L1 g1 fun e fr2 L2 g2 => match e with
    | .normal => LeaveD P D none L2 g2 (endD L.length kp X.results fr2 post)
    | .ret => LeaveD P D none L2 g2 (endD L.length kp X.results fr2 post)
    | .pan x => LeaveD P D (some x) L2 g2 (endD L.length kp X.results fr2 post)
    | .exit _ => False

/-! ### What it is worth -/

theorem inv_start {fn : Func} {args : List SV} {L : List Chunk} {g : G} {σ : Nat → Nat} {w : World} (hH : Mem g L σ w) (hL : scH L) (hsc : scL L.length args = true) :
    Inv [] (args ++ List.replicate (fn.ntmps - args.length) (.v undef)) L g σ { tmps := (reL σ args).toArray ++ Array.replicate (fn.ntmps - (reL σ args).toArray.size) undef, defers := [] } w := by
  have hlen : (reL σ args).toArray.size = args.length := by simp [reL_length]
  refine ⟨⟨by simp [reL_length], fun i y hy hj => ?_⟩, hH, ?_, hL, rfl⟩
  · have key : ∀ (l : List SV) (i : Nat) (y : SV), get l i = y → y ≠ .junk → (reL σ l)[i]? = some (y.re σ) := by
      intro l i y hy hj
      subst hy
      rw [reL_map, List.getElem?_map, get_some hj]
      rfl
    have := key _ i y hy hj
    rw [reL_append] at this
    have e : reL σ (List.replicate (fn.ntmps - args.length) (.v undef)) = List.replicate (fn.ntmps - args.length) undef := by
      simp [reL_map, SV.re]
    rw [e] at this
    rw [hlen, Array.getD_eq_getD_getElem?]
    have e2 : ((reL σ args).toArray ++ Array.replicate (fn.ntmps - args.length) undef)[i]? = (reL σ args ++ List.replicate (fn.ntmps - args.length) undef)[i]? := by
      rw [← List.getElem?_toArray]
      congr 1
      apply Array.ext'
      simp
    rw [e2, this]
    rfl
  · rw [scL_append]
    exact ⟨hsc, scL_mem.2 fun x hx => by rw [List.eq_of_mem_replicate hx]; rfl⟩

def dmode (σ : Nat → Nat) : Option SV → FrameMode
  | none => .returning
  | some x => .panicking [{ v := x.re σ, recovered := false }]
def scM (n : Nat) : Option SV → Prop
  | none => True
  | some x => x ≠ .junk ∧ x.sc n = true
theorem settle_dmode (σ : Nat → Nat) (m : Option SV) : settle (dmode σ m) = dmode σ m := by
  cases m <;> rfl
theorem dmode_congr {σ σ' : Nat → Nat} {n : Nat} (h : ∀ k, k < n → σ' k = σ k) {m : Option SV} (hs : scM n m) : dmode σ' m = dmode σ m := by
  cases m with
  | none => rfl
  | some x => simp only [dmode, re_congr h x hs.2]
theorem scM_mono {n k : Nat} (h : n ≤ k) {m : Option SV} (hs : scM n m) : scM k m := by
  cases m with
  | none => trivial
  | some x => exact ⟨hs.1, sc_mono h x hs.2⟩
theorem run_results0 {P : Program} {fn : Func} (h : fn.results.size = 0) (tmps : Array Value) (w : World) : (results fn tmps).run P w = .ok (.tuple #[]) w := by
  have e : fn.results = #[] := Array.eq_empty_of_size_eq_zero h
  simp [results, e]

/-- What a deferred call has left. -/
def DLeft (σ : Nat → Nat) (L : List Chunk) (g : G) (w : World) (K : Option SV → List Chunk → G → Prop) (e : Ending) (u' : FrameMode) (w' : World) : Prop :=
  ∃ v m' L' g' σ', e = .returned v ∧ settle u' = dmode σ' m' ∧ Mem g' L' σ' w' ∧ scH L' ∧ scM L'.length m' ∧ Goes σ L g w σ' L' g' w' ∧ K m' L' g'

theorem defx_sound {P : Program} (hm : P.follows .mixedOrders = true) {f : FuncId} {as : List SV} {L : List Chunk} {g : G} {m : Option SV} {K : Option SV → List Chunk → G → Prop} (h : DefX P f as L g m K) {σ : Nat → Nat} {w : World} (hM : Mem g L σ w) (hL : scH L) (hsc : scL L.length as = true) (hs : scM L.length m) :
    CallsD P f (reL σ as).toArray (dmode σ m) w (DLeft σ L g w K) := by
  unfold DefX at h
  obtain ⟨fn, hf, hres, h⟩ := h
  rcases h with ⟨X, hX, h⟩ | ⟨X, hX, h⟩
  · simp only [yfunc] at hX
    cases hb : fn.body with
    | none => simp [hb] at hX
    | some c =>
      rw [hb] at hX
      simp only at hX
      cases hx : ycode P c with
      | none => simp [hx] at hX
      | some x =>
        rw [hx] at hX
        simp only at hX
        cases hr : fn.results.toList.mapM (xres P) with
        | none => simp [hr] at hX
        | some rs =>
          rw [hr] at hX
          simp only [Option.some.injEq] at hX
          subst hX
          simp only [vDef, force_eq] at h
          have I := inv_start (fn := fn) hM hL hsc
          refine (callsD_of_wp (R := fun e w' => DLeft σ L g w K e (dmode σ m) w') hf hb ?_).mono ?_
          · refine Code.wp_mono ?_ (vC_sound hm c x hx h I (Goes.refl σ L g w))
            have fin : ∀ fr L1 g1 σ' a' w', Inv [] fr L1 g1 σ' a' w' → Goes σ L g w σ' L1 g1 w' → K m L1 g1 → a'.defers = [] ∧ ∃ v, (results fn a'.tmps).run P w' = .ok v w' ∧ DLeft σ L g w K (.returned v) (dmode σ m) w' := fun fr L1 g1 σ' a' w' I' hg' hk =>
              ⟨I'.defers, _, run_results0 hres _ _, _, m, L1, g1, σ', rfl, by rw [settle_dmode, dmode_congr hg'.agree hs], I'.mem, I'.hscL, scM_mono hg'.len hs, hg', hk⟩
            intro e a' w' hl
            cases e with
            | normal => obtain ⟨fr, L1, g1, σ', I', hg', hk⟩ := hl; exact fin fr L1 g1 σ' a' w' I' hg' hk
            | ret => obtain ⟨fr, L1, g1, σ', I', hg', hk⟩ := hl; exact fin fr L1 g1 σ' a' w' I' hg' hk
            | exit j => obtain ⟨fr, L1, g1, σ', I', hg', hk⟩ := hl; exact hk.elim
            | panic ch => obtain ⟨x, fr, L1, g1, σ', rfl, hj, hs, I', hg', hk⟩ := hl; exact hk.elim
            | _ => exact hl.elim
          · rintro e u' w' ⟨rfl, hd⟩
            exact hd
  · unfold yrec at hX
    split at hX
    case h_2 => cases hX
    rename_i id ops b hb
    split at hX
    case h_2 => cases hX
    rename_i o1 o2 hops
    split at hX
    case h_2 => cases hX
    rename_i c d1 ho1 hg1 hd1
    split at hX
    case h_2 => cases hX
    rename_i hcal
    split at hX
    case h_2 => cases hX
    rename_i t d2 ho2 hg2 hd2
    split at hX
    case h_2 => cases hX
    rename_i x htd hx
    cases hX
    simp only [Bool.and_eq_true, Nat.blt_eq] at htd
    have htd1 := Nat.eq_of_beq_eq_true htd.1
    subst htd1
    simp only [vRec, force_eq] at h
    have hsize : ops.size = 2 := by rw [← Array.length_toList, hops]; rfl
    have hop0 : ops[0]? = some o1 := by rw [← Array.getElem?_toList, hops]; rfl
    have hop1 : ops[1]? = some o2 := by rw [← Array.getElem?_toList, hops]; rfl
    refine callsD_of_wpS hf hb fun c₀ cs hc₀ => ?_
    -- the state behind the first region
    have I := inv_start (fn := fn) hM hL hsc
    have hvs : (valOf m).sc L.length = true := by
      cases m with
      | none => rfl
      | some y => exact hs.2
    have I1 := I.put (dst := some t) (v := (valOf m).re σ) (r := valOf m) (Nat.le_refl _) (fun _ _ => rfl) (fun _ => rfl) hvs I.mem I.hscL
    have I2 := I1.put (dst := some d2) (v := (valOf m).re σ) (r := valOf m) (Nat.le_refl _) (fun _ _ => rfl) (fun _ => rfl) hvs I.mem I.hscL
    -- the frame below
    obtain ⟨u1, hu1, hrec⟩ : ∃ u1, settle u1 = .returning ∧ ((recoverD (c₀ :: cs) = some ((valOf m).re σ, { c₀ with mode := u1 } :: cs)) ∨ (recoverD (c₀ :: cs) = none ∧ (valOf m).re σ = .nilIface ∧ ({ c₀ with mode := u1 } : Frame) = c₀)) := by
      cases m with
      | none =>
        refine ⟨.returning, rfl, .inr ⟨?_, rfl, ?_⟩⟩
        · simp [recoverD, hc₀, dmode]
        · cases c₀; simp only [dmode] at hc₀; subst hc₀; rfl
      | some y =>
        refine ⟨.panicking [{ v := y.re σ, recovered := true }], rfl, .inl ?_⟩
        simp [recoverD, hc₀, dmode, valOf]
    have body := vC_sound (P := P) hm b x hx h I2 (Goes.refl σ L g w)
    have fin2 : b.wpS P (bodyPostS P fn c₀ cs (DLeft σ L g w K)) ((Act.put { tmps := (reL σ as).toArray ++ Array.replicate (fn.ntmps - (reL σ as).toArray.size) undef, defers := [] } (some t) ((valOf m).re σ)).put (some d2) ((valOf m).re σ)) ({ c₀ with mode := u1 } :: cs) w := by
      refine wpS_of_wp (Code.wp_mono ?_ body)
      have fin : ∀ fr L1 g1 σ' a' w', Inv [] fr L1 g1 σ' a' w' → Goes σ L g w σ' L1 g1 w' → K none L1 g1 → a'.defers = [] ∧ ∃ u', ({ c₀ with mode := u1 } : Frame) :: cs = { c₀ with mode := u' } :: cs ∧ ∃ v, (results fn a'.tmps).run P w' = .ok v w' ∧ DLeft σ L g w K (.returned v) u' w' := fun fr L1 g1 σ' a' w' I' hg' hk =>
        ⟨I'.defers, u1, rfl, _, run_results0 hres _ _, _, none, L1, g1, σ', rfl, hu1, I'.mem, I'.hscL, trivial, hg', hk⟩
      intro e a' w' hl
      cases e with
      | normal => obtain ⟨fr, L1, g1, σ', I', hg', hk⟩ := hl; exact fin fr L1 g1 σ' a' w' I' hg' hk
      | ret => obtain ⟨fr, L1, g1, σ', I', hg', hk⟩ := hl; exact fin fr L1 g1 σ' a' w' I' hg' hk
      | exit j => obtain ⟨fr, L1, g1, σ', I', hg', hk⟩ := hl; exact hk.elim
      | panic ch => obtain ⟨x, fr, L1, g1, σ', rfl, hj, hs, I', hg', hk⟩ := hl; exact hk.elim
      | _ => exact hl.elim
    refine wpS_seq (wpS_region ?_)
    rw [hsize, show List.range 2 = [0, 1] from rfl]
    have hw1 : ∀ y, Region.wanted o1 y = true := fun y => by simp [Region.wanted, hg1]
    have hw2 : ∀ y, Region.wanted o2 y = true := fun y => by simp [Region.wanted, hg2]
    have hr1 : ∀ a : Act, (execOp a.eval o1).run P w = .ok .recover w := fun a => by
      simp [execOp, ho1, resolve, hcal, invoke, builtin]
    have htl : t < ((reL σ as).toArray ++ Array.replicate (fn.ntmps - (reL σ as).toArray.size) undef).size := by
      have key : ∀ x y : Nat, x ≤ y + (x - y) := by intros; omega
      rw [Array.size_append, Array.size_replicate]
      exact Nat.lt_of_lt_of_le htd.2 (key _ _)
    have second : ∀ cs', cs' = { c₀ with mode := u1 } :: cs → wpOpsS P ops (Exit.thenS (b.wpS P (bodyPostS P fn c₀ cs (DLeft σ L g w K))) (bodyPostS P fn c₀ cs (DLeft σ L g w K))) [1] (Act.put { tmps := (reL σ as).toArray ++ Array.replicate (fn.ntmps - (reL σ as).toArray.size) undef, defers := [] } (some t) ((valOf m).re σ)) cs' w := by
      rintro cs' rfl
      have hev : (Act.put { tmps := (reL σ as).toArray ++ Array.replicate (fn.ntmps - (reL σ as).toArray.size) undef, defers := [] } (some t) ((valOf m).re σ)).eval (.tmp t) = (valOf m).re σ := by
        simp only [Act.eval, Act.put, Array.getD_eq_getD_getElem?]
        rw [Array.getElem?_setIfInBounds_self, if_pos htl]
        rfl
      have hr2 : (execOp (Act.put { tmps := (reL σ as).toArray ++ Array.replicate (fn.ntmps - (reL σ as).toArray.size) undef, defers := [] } (some t) ((valOf m).re σ)).eval o2).run P w = .ok (.value ((valOf m).re σ)) w := by
        simp only [execOp, ho2, hev, Sem.run_pure]
      rw [wpOpsS]
      simp only [hop1, hw2, if_true, hr2, Oper.upon, hd2]
      exact fin2
    rw [wpOpsS]
    simp only [hop0, hw1, if_true, hr1, hd1]
    rcases hrec with hrec | ⟨hrec, hnil, hsame⟩
    · rw [hrec]
      exact second _ rfl
    · rw [hrec]
      rw [hnil] at second
      have := second (c₀ :: cs) (by rw [hsame])
      exact this

end Go.Sx
