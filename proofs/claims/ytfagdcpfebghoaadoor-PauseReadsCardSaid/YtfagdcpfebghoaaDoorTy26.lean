/- A symbolic executor of my own, part 26: functions that defer calls: from the condition to the contract. Conditions: none; it speaks of any program. -/
import Derived.Test.YtfagdcpfebghoaaDoorTy25
namespace Go.Sx

/-- What a contract asks of the end. -/
def EndR (σ0 : Nat → Nat) (L0 : List Chunk) (g0 : G) (w0 : World) (post : Out → List Chunk → G → Prop) (e : Ending) (w' : World) : Prop :=
  ∃ out L' g' σ', Ends σ' e out ∧ out.sv ≠ .junk ∧ Mem g' L' σ' w' ∧ scH L' ∧ out.sv.sc L'.length = true ∧ Goes σ0 L0 g0 w0 σ' L' g' w' ∧ post out L' g'

section
variable {P : Program} {σ0 : Nat → Nat} {L0 : List Chunk} {g0 : G} {w0 : World} {post : Out → List Chunk → G → Prop} {kp : Option (List Nat)} {fn : Func} {rs : List XRes}

theorem leaves_sound (hm : P.follows .mixedOrders = true) (hr : fn.results.toList.mapM (xres P) = some rs) {fr2 : List SV} {a : Act} : ∀ (D : DS) (df : List Deferred) (m : Option SV) (L : List Chunk) (g : G) (σ : Nat → Nat) (w : World),
    DefsAre P σ D df → scD L.length D = true → FR σ fr2 a.tmps → scL L.length fr2 = true → Mem g L σ w → scH L → scM L.length m → Goes σ0 L0 g0 w0 σ L g w → LeaveD P D m L g (endD L0.length kp rs fr2 post) → Leaves P fn a.tmps (EndR σ0 L0 g0 w0 post) df (dmode σ m) w
  | [], [], none, L, g, σ, w, _, _, hF, hsF, hM, hL, _, hG, h => by
    have I' : Inv a.defers fr2 L g σ a w := ⟨hF, hM, hsF, hL, rfl⟩
    obtain ⟨vs, hj, hs, hok, hl, hrun⟩ := resAll_sound I' _ rs hr h
    rw [fR_eq] at hok
    have hok' : ∃ ks, retP (List.range L0.length ++ ks) .ret (pack vs) L g post := by
      cases kp with
      | some ks => exact ⟨ks, hok⟩
      | none => exact hok
    obtain ⟨ks, hok'⟩ := hok'
    have hpj : pack vs ≠ .junk := by
      match vs, hj with
      | [], _ => simp [pack]
      | [v], hj => exact hj v (by simp)
      | u :: v :: vs, _ => simp [pack]
    obtain ⟨r', L', σ2, e1, e2, e3, e4, e5, e6, e7⟩ := retP_sound rfl rfl I' hG hpj hok'
    refine ⟨(pack vs).re σ, ?_, .ret r', L', g, σ2, ?_, e2, e3, e4, e5, e6, e7⟩
    · have e : (results fn a.tmps).run P w = .ok (if h : (reL σ vs).toArray.size = 1 then (reL σ vs).toArray[0] else .tuple (reL σ vs).toArray) w := by
        rw [results_eq, Sem.run_bind, Array.mapM_eq_mapM_toList, Sem.run_map, hrun]
        simp
      rw [e]
      congr 1
      match vs with
      | [] => simp [pack, SV.re, reL]
      | [v] => simp [pack, reL]
      | u :: v :: vs => simp [pack, SV.re, reL]
    · show Ending.returned _ = Ending.returned _
      rw [e1]
  | [], [], some x, L, g, σ, w, _, _, hF, hsF, hM, hL, hs, hG, h => by
    have I' : Inv a.defers fr2 L g σ a w := ⟨hF, hM, hsF, hL, rfl⟩
    have hk' : ∃ ks, retP (List.range L0.length ++ ks) .pan x L g post := by
      cases kp with
      | some ks => exact ⟨ks, h⟩
      | none => exact h
    obtain ⟨ks, hk'⟩ := hk'
    obtain ⟨r', L', σ2, e1, e2, e3, e4, e5, e6, e7⟩ := retP_sound rfl rfl I' hG hs.1 hk'
    refine ⟨.pan r', L', g, σ2, ?_, e2, e3, e4, e5, e6, e7⟩
    show Ending.panicked _ = Ending.panicked _
    rw [e1]
  | [], _ :: _, _, _, _, _, _, hd, _, _, _, _, _, _, _, _ => hd.elim
  | _ :: _, [], _, _, _, _, _, hd, _, _, _, _, _, _, _, _ => hd.elim
  | (f, as) :: D, d :: df, m, L, g, σ, w, hd, hsD, hF, hsF, hM, hL, hs, hG, h => by
    obtain ⟨⟨fv, cap, h1, h2⟩, h3⟩ := hd
    simp only [scD, Bool.and_eq_true] at hsD
    refine ⟨by cases m <;> simp [dmode], fv, cap, f, _, h1, h2 w, ?_⟩
    refine (defx_sound hm h hM hL hsD.1 hs).mono ?_
    rintro e u' w' ⟨v, m', L', g', σ', rfl, hset, hM', hL', hs', hG', hk⟩
    show Leaves P fn a.tmps (EndR σ0 L0 g0 w0 post) df (settle u') w'
    rw [hset]
    have hag := hG'.agree
    exact leaves_sound hm hr D df m' L' g' σ' w' (h3.congr hag hsD.2) (scD_mono hG'.len D hsD.2) (hF.on (p := fun k => decide (k < L.length)) (fun k hk => (hag k (by simpa using hk)).symm) fun t => by rw [← on_sc]; exact sc_get hsF t)
      (scL_mono hG'.len _ hsF) hM' hL' hs' (hG.trans hG') hk

theorem defer_run {c : Call} {v : Operand} (hcal : c.callee = .value v) {o : Oper} {a : Act} {w : World} (ho : o.op = .defer c) {σ : Nat → Nat} {h : FuncId} {first cap as : List SV} (hv : a.eval v = (SV.fn h first cap).re σ) (has : c.args.toList.map a.eval = reL σ as) (hc : callable P h = true) :
    ∃ d, (execOp a.eval o).run P w = .ok (.defer d) w ∧ DefIs P σ (h, first ++ (as ++ cap)) d := by
  refine ⟨{ target := .fn (.func h) (reL σ cap).toArray, args := (reL σ first).toArray ++ c.args.map a.eval }, ?_, .func h, _, rfl, fun w => ?_⟩
  · simp only [execOp, ho, resolve, hcal, hv, SV.re, Deferred.ofValue, Sem.run_bind, Sem.run_pure, Result.andThen_ok]
  · have e : c.args.map a.eval = (reL σ as).toArray := by apply Array.ext'; simp [← has]
    have e2 : (reL σ first).toArray ++ (reL σ as).toArray ++ (reL σ cap).toArray = (reL σ (first ++ (as ++ cap))).toArray := by
      apply Array.ext'; simp [reL_append]
    simp only [invoke, e, e2]
    exact callable_run hc _ w

theorem vD_sound (hm : P.follows .mixedOrders = true) {Q : Exit → Act → World → Prop} {K : List SV → List Chunk → G → DS → Prop} {x : YC}
    (hrest : ∀ df D fr L g σ a w, Inv df fr L g σ a w → Goes σ0 L0 g0 w0 σ L g w → DefsAre P σ D df → scD L.length D = true → K fr L g D → ∀ c, ycode P c = some x → c.wp P Q a w) :
    ∀ (n : Nat) (c : Code) (pre : List YD), ysplit P n c = some (pre, x) → ∀ {df D fr L g σ a w}, Inv df fr L g σ a w → Goes σ0 L0 g0 w0 σ L g w → DefsAre P σ D df → scD L.length D = true → vD P pre fr L g D K → c.wp P Q a w := by
  intro n
  induction n with
  | zero =>
    intro c pre hs df D fr L g σ a w I hG hD hsD h
    simp only [ysplit] at hs
    split at hs
    · rename_i x' hx
      cases hs
      exact hrest df D fr L g σ a w I hG hD hsD h c hx
    · cases hs
  | succ n ih =>
    intro c pre hs df D fr L g σ a w I hG hD hsD h
    cases c with
    | seq c1 c2 =>
      simp only [ysplit] at hs
      split at hs
      case h_2 => cases hs
      rename_i l x' hs2
      split at hs
      · -- a deferred call
        rename_i d hd
        simp only [Option.some.injEq, Prod.mk.injEq] at hs
        obtain ⟨rfl, rfl⟩ := hs
        unfold ydef at hd
        split at hd
        case h_2 => cases hd
        rename_i id ops
        split at hd
        case h_2 => cases hd
        rename_i o lr hrev
        split at hd
        case h_2 => cases hd
        rename_i cl ho
        split at hd
        case h_2 => cases hd
        rename_i hg
        split at hd
        case h_2 => cases hd
        rename_i v hcal
        split at hd
        case h_2 => cases hd
        rename_i hdst
        split at hd
        case h_2 => cases hd
        rename_i xs hxs
        cases hd
        have hops : ops.toList = lr.reverse ++ [o] := by
          have := congrArg List.reverse hrev
          simpa using this
        simp only [vD] at h
        refine wp_seq (wp_region_list ?_)
        rw [hops]
        refine vOps_sound_app (K := fun e fr L g => match e with
            | .normal => match ev fr v with
              | .fn h first cap => callable P h = true ∧ njL (cl.args.toList.map (ev fr)) fun as => vD P l fr L g ((h, first ++ (as ++ cap)) :: D) K
              | _ => False
            | _ => False) ?_ ?_ _ xs hxs I (Goes.refl σ L g w) h
        · intro fr' L' g' σ' a' w' I' hG' hk
          simp only at hk
          split at hk
          case h_2 => exact hk.elim
          rename_i hh first cap hv
          obtain ⟨hc, hk⟩ := hk
          obtain ⟨hj, hk⟩ := njL_elim hk
          have hva : a'.eval v = (SV.fn hh first cap).re σ' := by rw [I'.hfr.ev v (by simp [hv]), hv]
          have has : cl.args.toList.map a'.eval = reL σ' (cl.args.toList.map (ev fr')) := by
            rw [reL_map, List.map_map]
            refine List.map_congr_left fun y hy => ?_
            exact I'.hfr.ev y (hj _ (List.mem_map_of_mem hy))
          obtain ⟨d, hrun, hdi⟩ := defer_run (P := P) (w := w') hcal ho hva has hc
          have hw : Region.wanted o (yielded ops a'.tmps) = true := by simp [Region.wanted, hg]
          unfold wpList
          rw [if_pos hw]
          left
          unfold Oper.wp
          rw [hrun]
          simp only [Oper.upon, hdst, Act.put, wpList]
          have hscA : scL L'.length (first ++ ((cl.args.toList.map (ev fr')) ++ cap)) = true := by
            have h1 : (SV.fn hh first cap).sc L'.length = true := by rw [← hv]; exact sc_ev I'.scF v
            simp only [SV.sc, Bool.and_eq_true] at h1
            rw [scL_append, scL_append]
            exact ⟨h1.1, scL_mem.2 fun y hy => by obtain ⟨z, _, rfl⟩ := List.mem_map.1 hy; exact sc_ev I'.scF z, h1.2⟩
          refine ih c2 l hs2 (df := d :: df) (D := (hh, first ++ ((cl.args.toList.map (ev fr')) ++ cap)) :: D) ⟨I'.hfr, I'.mem, I'.scF, I'.hscL, by simp [I'.defers]⟩ (hG.trans hG') ⟨hdi, hD.congr hG'.agree hsD⟩ ?_ hk
          simp only [scD, Bool.and_eq_true]
          exact ⟨hscA, scD_mono hG'.len D hsD⟩
        · intro y fr' L' g' σ' a' w' I' hj hs' hG' hk
          exact hk.elim
      · split at hs
        case h_2 => cases hs
        rename_i X1 hX1
        simp only [Option.some.injEq, Prod.mk.injEq] at hs
        obtain ⟨rfl, rfl⟩ := hs
        simp only [vD] at h
        refine wp_seq (Code.wp_mono ?_ (vC_sound hm c1 X1 hX1 h I (Goes.refl σ L g w)))
        intro e a' w' hl
        cases e with
        | normal =>
          obtain ⟨fr', L', g', σ', I', hG', hk⟩ := hl
          exact ih c2 l hs2 I' (hG.trans hG') (hD.congr hG'.agree hsD) (scD_mono hG'.len D hsD) hk
        | exit j => obtain ⟨fr', L', g', σ', I', hG', hk⟩ := hl; exact hk.elim
        | ret => obtain ⟨fr', L', g', σ', I', hG', hk⟩ := hl; exact hk.elim
        | panic ch => obtain ⟨y, fr', L', g', σ', rfl, hj, hs', I', hG', hk⟩ := hl; exact hk.elim
        | _ => exact hl.elim
    | _ => simp [ysplit] at hs

/-- **From the condition of a function that defers calls to its contract.** -/
def unjFD (X : YFD) : YFD := ⟨X.ntmps, X.results, X.pre, unj X.rest⟩
theorem ysplit_unj : ∀ (n : Nat) (c : Code) (l : List YD) (x : YC), ysplit P n c = some (l, x) → unj x = x := by
  intro n
  induction n with
  | zero =>
    intro c l x h
    simp only [ysplit] at h
    split at h
    · rename_i y hy; cases h; exact ycode_unj c _ hy
    · cases h
  | succ n ih =>
    intro c l x h
    cases c with
    | seq a b =>
      simp only [ysplit] at h
      split at h
      · rename_i l' x' hs
        split at h
        · cases h; exact ih b _ _ hs
        · split at h
          · cases h; exact ih b _ _ hs
          · cases h
      · cases h
    | _ => simp [ysplit] at h
theorem meets_ofDJ {f : FuncId} {X : YFD} {args : List SV} {L : List Chunk} {g : G} {post : Out → List Chunk → G → Prop} {n : Nat} (hm : P.follows .mixedOrders = true) (hf : P.funcs[f]? = some fn) (hcl : callable P f = true)
    (hX : yfuncD P fn n = some (unjFD X)) (kp : Option (List Nat)) (h : vFD P X args L g kp post) : Meets P f args L g post := by
  refine ⟨hcl, fun σ w hH hL hsc => ?_⟩
  simp only [yfuncD] at hX
  cases hb : fn.body with
  | none => simp [hb] at hX
  | some c =>
    rw [hb] at hX
    simp only at hX
    cases hs : ysplit P n c with
    | none => simp [hs] at hX
    | some lx =>
      obtain ⟨l, x⟩ := lx
      rw [hs] at hX
      simp only at hX
      cases hr : fn.results.toList.mapM (xres P) with
      | none => simp [hr] at hX
      | some rs =>
        rw [hr] at hX
        simp only [Option.some.injEq] at hX
        obtain ⟨nt, rs', xp, xr⟩ := X
        simp only [unjFD, YFD.mk.injEq] at hX
        obtain ⟨rfl, rfl, rfl, rfl⟩ := hX
        simp only [vFD, force_eq] at h
        refine calls_of_wp_defers (R := EndR σ L g w post) hf hb ?_
        refine vD_sound (σ0 := σ) (L0 := L) (g0 := g) (w0 := w) hm ?_ n c l hs (inv_start hH hL hsc) (Goes.refl σ L g w) (D := []) (df := []) trivial rfl h
        intro df D fr L1 g1 σ1 a w1 I hG hD hsD hk c' hc'
        refine Code.wp_mono ?_ (vC_soundJ hm c' xr hc' hk I (Goes.refl σ1 L1 g1 w1))
        have fin : ∀ (m : Option SV) fr2 L2 g2 σ2 a2 w2, Inv df fr2 L2 g2 σ2 a2 w2 → Goes σ1 L1 g1 w1 σ2 L2 g2 w2 → scM L2.length m → LeaveD P D m L2 g2 (endD L.length kp rs fr2 post) → Leaves P fn a2.tmps (EndR σ L g w post) a2.defers (dmode σ2 m) w2 := fun m fr2 L2 g2 σ2 a2 w2 I2 hG2 hs2 hk2 => by
          rw [I2.defers]
          exact leaves_sound hm hr D df m L2 g2 σ2 w2 (hD.congr hG2.agree hsD) (scD_mono hG2.len D hsD) I2.hfr I2.scF I2.mem I2.hscL hs2 (hG.trans hG2) hk2
        intro e a2 w2 hl
        cases e with
        | normal => obtain ⟨fr2, L2, g2, σ2, I2, hG2, hk2⟩ := hl; exact fin none fr2 L2 g2 σ2 a2 w2 I2 hG2 trivial hk2
        | ret => obtain ⟨fr2, L2, g2, σ2, I2, hG2, hk2⟩ := hl; exact fin none fr2 L2 g2 σ2 a2 w2 I2 hG2 trivial hk2
        | exit j => obtain ⟨fr2, L2, g2, σ2, I2, hG2, hk2⟩ := hl; exact hk2.elim
        | panic ch => obtain ⟨y, fr2, L2, g2, σ2, rfl, hj, hs', I2, hG2, hk2⟩ := hl; exact fin (some y) fr2 L2 g2 σ2 a2 w2 I2 hG2 ⟨hj, hs'⟩ hk2
        | _ => exact hl.elim
theorem yfuncD_unj {X : YFD} {n : Nat} (h : yfuncD P fn n = some X) : unjFD X = X := by
  unfold yfuncD at h
  split at h
  · rename_i c hc
    split at h
    · rename_i l x hx
      split at h
      · cases h
        simp only [unjFD, ysplit_unj n c l x hx]
      · cases h
    · cases h
  · cases h
theorem meets_ofD {f : FuncId} {X : YFD} {args : List SV} {L : List Chunk} {g : G} {post : Out → List Chunk → G → Prop} {n : Nat} (hm : P.follows .mixedOrders = true) (hf : P.funcs[f]? = some fn) (hcl : callable P f = true)
    (hX : yfuncD P fn n = some X) (kp : Option (List Nat)) (h : vFD P X args L g kp post) : Meets P f args L g post :=
  meets_ofDJ hm hf hcl (by rw [yfuncD_unj hX]; exact hX) kp h
end
end Go.Sx
