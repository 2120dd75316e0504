/- A symbolic executor of my own, part 12: quiet operations, code, loops. Conditions: none; it speaks of any program. -/
import Derived.Test.YtflnpoahceebbaaSx11
namespace Go.Sx

/-- The worlds that meet the memory at hand. -/
def Class (σ0 : Nat → Nat) (L0 : List Chunk) (g0 : G) (w0 : World) (σ : Nat → Nat) (L : List Chunk) (g : G) (w : World) : Prop :=
  Holds g L σ w ∧ Goes σ0 L0 g0 w0 σ L g w

/-- The frame part of a state. -/
structure FInv (frm : List SV) (L : List Chunk) (σ : Nat → Nat) (a : Act) : Prop where
  fr : FR σ frm a.tmps
  scF : scL L.length frm = true
  scL : scH L
  defers : a.defers = []

section
variable {P : Program} {ops : Array Oper} {σ0 : Nat → Nat} {L0 : List Chunk} {g0 : G} {w0 : World} {σ : Nat → Nat} {L : List Chunk} {g : G}

theorem class_back {w w' : World} {σ' : Nat → Nat} {L' : List Chunk} {g' : G} (hL : scH L) (h : Class σ0 L0 g0 w0 σ L g w) (hH : Holds g' L' σ' w') (hg : Goes σ L g w σ' L' g' w') (ht : L'.take L.length = L) : Class σ0 L0 g0 w0 σ L g w' := by
  obtain ⟨h1, h2⟩ := h
  have hg' := h2.trans hg
  refine ⟨⟨fun b o hb => hH.im b o (hg.gle b o hb), fun k c o hk ho => ?_, h1.inj, fun k hk => Nat.lt_of_lt_of_le (h1.lt k hk) hg.size, h1.sep⟩, ⟨h2.agree, h2.len, h2.fresh, h2.gle, h2.gnew, hg'.os, hg'.tape, hg'.output, hg'.size, hg'.keep⟩⟩
  have hkl : k < L.length := (List.getElem?_eq_some_iff.1 hk).1
  have hk' : L'[k]? = some c := by
    rw [← hk, ← ht, List.getElem?_take]
    simp [hkl]
  have := hH.lo k c o hk' (by
    rw [← ho]
    exact (obj_congr (n := L.length) (fun j hj => (hg.agree j hj).symm) (fun ty l e => hL k ty l (by rw [hk, e]))).symm)
  rwa [hg.agree k hkl] at this

theorem quiet_call {f : FuncId} {as : List SV} {r : SV} (hL : scH L) (hsc : scL L.length as = true) (hr : r.sc L.length = true) (h : Meets P f as L g (fun r' L' _ => r' = r ∧ L'.take L.length = L)) {w : World} (hw : Class σ0 L0 g0 w0 σ L g w) :
    Calls P f (reL σ as).toArray w fun e w'' => e = .returned (r.re σ) ∧ Class σ0 L0 g0 w0 σ L g w'' := by
  refine (h.2 σ w hw.1 hL hsc).mono ?_
  rintro e w' ⟨r', L', g', σ', rfl, hj, h1, h2, h3, h4, rfl, h5⟩
  exact ⟨by rw [re_congr (n := L.length) (fun k hk => h4.agree k hk) _ hr], class_back hL hw h1 h4 h5⟩

theorem qp_sound {o : Oper} {X : XOp} (hX : xop P o.op = some X) {fr : List SV} {a : Act} (I : FInv fr L σ a) {K : SV → Prop} (h : qp P X (ev fr) L g K) :
    ∃ r, r ≠ .junk ∧ r.sc L.length = true ∧ K r ∧ ∀ w, Class σ0 L0 g0 w0 σ L g w → o.quietAt P a (Class σ0 L0 g0 w0 σ L g) w (r.re σ) := by
  have gen : (∀ (e : Operand → SV), qp P X e L g K = ro X e L g K) → ∃ r, r ≠ .junk ∧ r.sc L.length = true ∧ K r ∧ ∀ w, Class σ0 L0 g0 w0 σ L g w → o.quietAt P a (Class σ0 L0 g0 w0 σ L g) w (r.re σ) := by
    intro he
    rw [he] at h
    obtain ⟨r, hj, ⟨hk, hsc⟩, hy⟩ := ro_sound hX (ro_sc I.scF I.scL h)
    refine ⟨r, hj, hsc, hk, fun w hw => ?_⟩
    unfold Oper.quietAt
    rw [hy σ a w I.fr hw.1]
    exact ⟨rfl, rfl⟩
  cases ho : o.op with
  | call c =>
    cases hc : c.callee with
    | value x =>
      have sc : ∀ l : List Operand, scL L.length (l.map (ev fr)) = true := fun l => scL_mem.2 fun x hx => by obtain ⟨y, _, rfl⟩ := List.mem_map.1 hx; exact sc_ev I.scF y
      have viaFn : ∀ x, c.callee = .value x → X = .callv x c.args.toList → ∃ r, r ≠ .junk ∧ r.sc L.length = true ∧ K r ∧ ∀ w, Class σ0 L0 g0 w0 σ L g w → o.quietAt P a (Class σ0 L0 g0 w0 σ L g) w (r.re σ) := by
        intro x hc hXe
        subst hXe
        simp only [qp] at h
        split at h
        case h_2 => exact h.elim
        case h_1 f first cap hx =>
          obtain ⟨hj, r, ⟨hrj, hrs⟩, hfn, hk⟩ := njL_elim h
          have hfnsc : (SV.fn f first cap).sc L.length = true := by rw [← hx]; exact sc_ev I.scF x
          simp only [SV.sc, Bool.and_eq_true] at hfnsc
          refine ⟨r, hrj, hrs, hk, fun w hw => ?_⟩
          have hcall := quiet_call I.scL (by rw [scL_append, scL_append]; exact ⟨hfnsc.1, sc _, hfnsc.2⟩) hrs hfn hw
          have e1 : c.args.map a.eval = (reL σ (c.args.toList.map (ev fr))).toArray := by apply Array.ext'; simp [← ev_map I.fr _ hj]
          have e2 : a.eval x = .func (.func f) (reL σ first).toArray (reL σ cap).toArray := by rw [I.fr.ev x (by simp [hx]), hx]; rfl
          have hrun : (execOp a.eval o).run P w = .ok (.enter f (reL σ (first ++ (c.args.toList.map (ev fr) ++ cap))).toArray) w := by
            simp only [execOp, ho, resolve, hc, e2, Deferred.ofValue, Sem.run_bind, Sem.run_pure, Result.andThen_ok, invoke, e1]
            rw [reL_append, reL_append]
            have := callable_run hfn.1 ((reL σ first ++ (reL σ (c.args.toList.map (ev fr)) ++ reL σ cap)).toArray) w
            simpa using this
          unfold Oper.quietAt
          rw [hrun]
          exact ⟨rfl, hcall⟩
      cases x with
      | func f =>
        rw [ho] at hX
        simp only [xop, hc, Option.some.injEq] at hX
        subst hX
        simp only [qp] at h
        obtain ⟨hj, r, ⟨hrj, hrs⟩, hfn, hk⟩ := njL_elim h
        refine ⟨r, hrj, hrs, hk, fun w hw => ?_⟩
        have hcall := quiet_call I.scL (sc _) hrs hfn hw
        have e1 : c.args.map a.eval = (reL σ (c.args.toList.map (ev fr))).toArray := by apply Array.ext'; simp [← ev_map I.fr _ hj]
        have hrun : (execOp a.eval o).run P w = .ok (.enter f (reL σ (c.args.toList.map (ev fr))).toArray) w := by
          simp only [execOp, ho, resolve, hc, Act.eval, Deferred.ofValue, Sem.run_bind, Sem.run_pure, Result.andThen_ok, invoke, e1]
          simpa using callable_run hfn.1 _ w
        unfold Oper.quietAt
        rw [hrun]
        exact ⟨rfl, hcall⟩
      | tmp t => exact viaFn _ hc (by rw [ho] at hX; simp only [xop, hc, Option.some.injEq] at hX; exact hX.symm)
      | const v => exact viaFn _ hc (by rw [ho] at hX; simp only [xop, hc, Option.some.injEq] at hX; exact hX.symm)
      | global g => exact viaFn _ hc (by rw [ho] at hX; simp only [xop, hc, Option.some.injEq] at hX; exact hX.symm)
    | builtin b =>
      refine gen fun e => ?_
      rw [ho] at hX
      cases b <;> simp only [xop, hc] at hX <;> first
        | (cases hX; done)
        | ((repeat' split at hX) <;> first | (rename_i hq; cases hq; done) | (simp only [Option.some.injEq] at hX; subst hX; rfl) | (cases hX; done) | contradiction)
    | invoke r m => rw [ho] at hX; simp [xop, hc] at hX
  | _ =>
    refine gen fun e => ?_
    rw [ho] at hX
    simp only [xop] at hX
    repeat' split at hX
    all_goals first | (simp only [Option.some.injEq] at hX; subst hX; rfl) | (simp only [Option.map_eq_some_iff] at hX; obtain ⟨_, _, rfl⟩ := hX; rfl) | cases hX

theorem FInv.after {fr : List SV} {a : Act} (I : FInv fr L σ a) {dst : Option Tmp} {v : Value} {r : SV} (hv : r ≠ .junk → v = r.re σ) (hr : r.sc L.length = true) : FInv (putO fr dst r) L σ (a.put dst v) := by
  cases dst with
  | none => exact I
  | some d => exact ⟨I.fr.put d hv, sc_put I.scF d hr, I.scL, I.defers⟩

theorem FInv.known {fr : List SV} {a : Act} (I : FInv fr L σ a) {t : Nat} {b : Bool} (h : get fr t = .v (.bool b)) : FInv (put fr t (.v (.bool b))) L σ a := by
  have : ∀ (l : List SV) (i : Nat), get l i = .v (.bool b) → put l i (.v (.bool b)) = l := by
    intro l
    induction l with
    | nil => intro i _; rfl
    | cons x l ih =>
      intro i hi
      cases i with
      | zero => simp only [get] at hi; simp [put, hi]
      | succ i => simp only [put, ih i (by simpa [get] using hi)]
  rw [this _ _ h]
  exact I

theorem vqOp_sound {i : Nat} {o : Oper} (hi : ops[i]? = some o) {X : XOper} (hx : xoper P ops o = some X) {fr : List SV} {a : Act} (I : FInv fr L σ a) {K : St → Prop} {T : Act → Prop} (h : vqOp P X ⟨fr, L, g⟩ K)
    (hT : ∀ fr' a', FInv fr' L σ a' → K ⟨fr', L, g⟩ → T a') : qOp P ops (Class σ0 L0 g0 w0 σ L g) i T a := by
  unfold xoper at hx
  cases hX : xop P o.op with
  | none => simp [hX] at hx
  | some x =>
    rw [hX] at hx
    simp only at hx
    cases hG : guardOf ops o.guard with
    | none => simp [hG] at hx
    | some gd =>
      rw [hG] at hx
      simp only [Option.some.injEq] at hx
      subst hx
      have run : ∀ fr, FInv fr L σ a → (qp P x (ev fr) L g fun r => K ⟨putO fr o.dst r, L, g⟩) → o.quiet P a (Class σ0 L0 g0 w0 σ L g) T := by
        intro fr I h
        obtain ⟨r, hj, hsc, hk, hq⟩ := qp_sound hX I h
        exact ⟨_, hq, hT _ _ (I.after (fun _ => rfl) hsc) hk⟩
      have skip : ∀ fr, FInv fr L σ a → K ⟨putO fr o.dst (.v undef), L, g⟩ → T (a.put o.dst undef) := fun fr I hk => hT _ _ (I.after (r := .v undef) (fun _ => rfl) rfl) hk
      unfold qOp
      simp only [hi]
      unfold vqOp at h
      cases gd with
      | none =>
        rw [wanted_none hG, if_pos rfl]
        exact run fr I h
      | some p =>
        obtain ⟨t, want⟩ := p
        simp only at h
        rw [wanted_some hG]
        split at h
        case h_1 b hb =>
          have ht : a.tmps.getD t undef = .bool b := by rw [I.fr.2 t _ hb (by simp)]; rfl
          simp only [ht]
          rcases bsplit_elim h with ⟨rfl, hq⟩ | ⟨rfl, hq⟩
          · have I' := I.known hb
            cases want
            · rw [if_neg (by simp)]
              exact skip _ I' hq
            · rw [if_pos (by simp)]
              exact run _ I' hq
          · have I' := I.known hb
            cases want
            · rw [if_pos (by simp)]
              exact run _ I' hq
            · rw [if_neg (by simp)]
              exact skip _ I' hq
        case h_2 c hc =>
          have ht : a.tmps.getD t undef = .tuple c := by rw [I.fr.2 t _ hc (by simp)]; rfl
          simp only [ht]
          simpa using skip fr I h
        case h_3 => exact h.elim

theorem vqOps_sound {T : Act → Prop} {K : St → Prop} (hT : ∀ fr' a', FInv fr' L σ a' → K ⟨fr', L, g⟩ → T a') : ∀ (l : List Oper) (xs : List XOper) (k : Nat), l.mapM (xoper P ops) = some xs → (∀ j, j < l.length → l[j]? = ops[k + j]?) →
    ∀ (fr : List SV) (a : Act), FInv fr L σ a → vqOps P xs ⟨fr, L, g⟩ K → qList P ops (Class σ0 L0 g0 w0 σ L g) T (List.range' k l.length) a := by
  intro l
  induction l with
  | nil =>
    intro xs k hx _ fr a I h
    simp at hx
    subst hx
    exact hT fr a I h
  | cons o l ih =>
    intro xs k hx hl fr a I h
    rw [List.mapM_cons] at hx
    simp only [bind, Option.bind_eq_some_iff, pure, Option.some.injEq] at hx
    obtain ⟨x, hx1, xs', hx2, rfl⟩ := hx
    have hi : ops[k]? = some o := by simpa using (hl 0 (by simp)).symm
    simp only [List.length_cons, List.range'_succ]
    refine vqOp_sound hi hx1 I (show vqOp P x ⟨fr, L, g⟩ fun S => vqOps P xs' S K from h) fun fr' a' I' hk => ?_
    exact ih xs' (k + 1) hx2 (fun j hj => by have := hl (j + 1) (by simp; omega); simpa [Nat.add_assoc, Nat.add_comm 1 j] using this) fr' a' I' hk

end

/-! ### Code -/

/-- What code may have come to, told of where the call began. -/
def lift (σ0 : Nat → Nat) (L0 : List Chunk) (g0 : G) (w0 : World) (K : Exit → St → Prop) (e : Exit) (a : Act) (w : World) : Prop :=
  ∃ S σ, Inv S σ a w ∧ Goes σ0 L0 g0 w0 σ S.L S.g w ∧ K e S

theorem wp_loopN {P : Program} {c : Code} {Q : Exit → Act → World → Prop} (J : Nat → Act → World → Prop)
    (round : ∀ n a w, J n a w → c.wp P (Exit.then (fun a' w' => ∃ m, m < n ∧ J m a' w') Q) a w) (n : Nat) (a : Act) (w : World) (h : J n a w) : (Code.loop c).wp P Q a w := by
  intro b k cs
  have key : ∀ n a w, J n a w → ∃ e a' w', Q e a' w' ∧ Arrives P (lone (b.at a (.code c :: .inLoop c :: k)) cs w) b k cs e a' w' := by
    intro n
    induction n using Nat.strongRecOn with
    | _ n ih =>
      intro a w hJ
      obtain ⟨e, a₁, w₁, hq, harr⟩ := round n a w hJ b (.inLoop c :: k) cs
      cases e with
      | normal =>
        obtain ⟨m, hm, hJ₁⟩ := hq
        obtain ⟨e₂, a₂, w₂, hq₂, harr₂⟩ := ih m hm a₁ w₁ hJ₁
        exact ⟨e₂, a₂, w₂, hq₂, .of_steps (Steps.trans harr (.one step_inLoop)) harr₂⟩
      | _ => exact ⟨_, a₁, w₁, hq, .pass (x := .inLoop c) rfl (fun _ _ => .inl (by simp)) harr⟩
  obtain ⟨e, a', w', hq, harr⟩ := key n a w h
  exact ⟨e, a', w', hq, .of_steps (.one step_loop) harr⟩

theorem Inv.weaker {S T : St} {σ : Nat → Nat} {a : Act} {w : World} (I : Inv S σ a w) (h : Weaker S T) : Inv T σ a w := by
  obtain ⟨extra, hL⟩ := h.L
  have hlen : T.L.length ≤ S.L.length := by rw [hL]; simp
  refine ⟨⟨by rw [← h.fr.1]; exact I.fr.1, fun i x hx hj => ?_⟩, ⟨fun b o hb => I.holds.im b o (by rw [← h.g]; exact hb), fun k c o hk ho => ?_, fun j k hj hk => I.holds.inj j k (by omega) (by omega), fun k hk => I.holds.lt k (by omega), fun k hk => by rw [h.g]; exact I.holds.sep k (by omega)⟩, h.scF, h.scL, I.defers⟩
  · rcases h.fr.2 i with h1 | h1
    · rw [hx] at h1; exact absurd h1 hj
    · rw [hx] at h1; exact I.fr.2 i x h1.symm hj
  · refine I.holds.lo k c o ?_ ho
    rw [hL, List.getElem?_append_left (List.getElem?_eq_some_iff.1 hk).1]
    exact hk

theorem Goes.weaker {σ0 L0 g0 w0 σ} {S T : St} {w : World} (hg : Goes σ0 L0 g0 w0 σ S.L S.g w) (h : Weaker S T) (hl : L0.length ≤ T.L.length) : Goes σ0 L0 g0 w0 σ T.L T.g w := by
  obtain ⟨extra, hL⟩ := h.L
  have hlen : T.L.length ≤ S.L.length := by rw [hL]; simp
  exact ⟨hg.agree, hl, fun k h1 h2 => hg.fresh k h1 (by omega), by rw [h.g]; exact hg.gle, by rw [h.g]; exact hg.gnew, hg.os, hg.tape, hg.output, hg.size, hg.keep⟩

theorem mapM_take {α β : Type} (f : α → Option β) : ∀ (l : List α) (xs : List β) (n : Nat), l.mapM f = some xs → (l.take n).mapM f = some (xs.take n) ∧ (l.drop n).mapM f = some (xs.drop n) := by
  intro l
  induction l with
  | nil => intro xs n h; simp at h; subst h; simp
  | cons x l ih =>
    intro xs n h
    cases n with
    | zero => simpa using h
    | succ n =>
      rw [List.mapM_cons] at h
      simp only [bind, Option.bind_eq_some_iff, pure, Option.some.injEq] at h
      obtain ⟨y, hy, ys, hys, rfl⟩ := h
      obtain ⟨h1, h2⟩ := ih ys n hys
      refine ⟨?_, by simpa using h2⟩
      simp only [List.take_succ_cons]
      rw [List.mapM_cons]
      simp [hy, h1]

/-- **What the condition is worth.** -/
theorem vcC_sound {P : Program} (hm : P.follows .mixedOrders = true) {σ0 : Nat → Nat} {L0 : List Chunk} {g0 : G} {w0 : World} : ∀ (c : Code) (X : XC), xcode P c = some X → ∀ {S : St} {σ : Nat → Nat} {a : Act} {w : World} {K : Exit → St → Prop},
    vcC P X S K → Inv S σ a w → Goes σ0 L0 g0 w0 σ S.L S.g w → c.wp P (lift σ0 L0 g0 w0 K) a w := by
  intro c
  induction c with
  | skip => intro X hX S σ a w K h I hg; simp only [xcode, Option.some.injEq] at hX; subst hX; exact wp_skip ⟨S, σ, I, hg, h⟩
  | exit id => intro X hX S σ a w K h I hg; simp only [xcode, Option.some.injEq] at hX; subst hX; exact wp_exit ⟨S, σ, I, hg, h⟩
  | ret => intro X hX S σ a w K h I hg; simp only [xcode, Option.some.injEq] at hX; subst hX; exact wp_ret ⟨S, σ, I, hg, h⟩
  | region id ops draw =>
    intro X hX S σ a w K h I hg
    cases draw with
    | false =>
      simp only [xcode, Option.map_eq_some_iff] at hX
      obtain ⟨xs, hxs, rfl⟩ := hX
      refine wp_region_list (vcOps_sound _ xs hxs I h ?_)
      rintro a' w' ⟨S', σ', I', hg', hk⟩
      exact ⟨S', σ', I', hg.trans hg', hk⟩
    | true =>
      simp only [xcode] at hX
      cases hf : (List.range (ops.size + 1)).reverse.find? (drawOk ops) with
      | none => simp [hf] at hX
      | some n =>
        rw [hf] at hX
        simp only [Option.map_eq_some_iff] at hX
        obtain ⟨xs, hxs, rfl⟩ := hX
        have hok := List.find?_some hf
        have hn : n ≤ ops.size := (drawOk_spec hok).le
        obtain ⟨hx1, hx2⟩ := mapM_take _ _ _ n hxs
        refine wp_region_head (C := Class σ0 L0 g0 w0 σ S.L S.g) hm hok ⟨I.holds.drew, hg.drew⟩ ?_
        have := vqOps_sound (σ0 := σ0) (L0 := L0) (g0 := g0) (w0 := w0) (g := S.g) (T := fun a' => ∀ w', Class σ0 L0 g0 w0 σ S.L S.g w' → wpList P ops (lift σ0 L0 g0 w0 K) (ops.toList.drop n) a' w') (K := fun S => vcOps P (xs.drop n) S (K .normal)) (fun fr' a' I' hk w' hw' => by
          refine vcOps_sound _ _ hx2 (S := ⟨fr', S.L, S.g⟩) ⟨I'.fr, hw'.1, I'.scF, I'.scL, I'.defers⟩ hk ?_
          rintro a2 w2 ⟨S2, σ2, I2, hg2, hk2⟩
          exact ⟨S2, σ2, I2, hw'.2.trans hg2, hk2⟩) (ops.toList.take n) (xs.take n) 0 hx1 (fun j hj => by
          have : j < n := by simp at hj; omega
          simp [this]) S.fr a ⟨I.fr, I.scF, I.scL, I.defers⟩ h
        rwa [← List.range_eq_range', show (ops.toList.take n).length = n by simp; omega] at this
  | seq x y ihx ihy =>
    intro X hX S σ a w K h I hg
    simp only [xcode] at hX
    cases hx : xcode P x with
    | none => simp [hx] at hX
    | some X1 =>
      rw [hx] at hX
      simp only at hX
      cases hy : xcode P y with
      | none => simp [hy] at hX
      | some X2 =>
        rw [hy] at hX
        simp only [Option.some.injEq] at hX
        subst hX
        refine wp_seq (Code.wp_mono ?_ (ihx X1 hx (show vcC P X1 S _ from h) I hg))
        rintro e a' w' ⟨S', σ', I', hg', hk⟩
        cases e <;> simp only at hk <;> first
          | exact ihy X2 hy hk I' hg'
          | exact ⟨S', σ', I', hg', hk⟩
  | cond c x y ihx ihy =>
    intro X hX S σ a w K h I hg
    simp only [xcode] at hX
    cases hx : xcode P x with
    | none => simp [hx] at hX
    | some X1 =>
      rw [hx] at hX
      simp only at hX
      cases hy : xcode P y with
      | none => simp [hy] at hX
      | some X2 =>
        rw [hy] at hX
        simp only [Option.some.injEq] at hX
        subst hX
        simp only [vcC] at h
        split at h
        case h_2 => exact h.elim
        case h_1 t ht =>
          have hc : a.eval c = .bool t := by rw [I.fr.ev c (by simp [ht]), ht]; rfl
          rcases bsplit_elim h with ⟨rfl, hq⟩ | ⟨rfl, hq⟩
          · exact wp_cond_true hc (ihx X1 hx hq I hg)
          · exact wp_cond_false hc (ihy X2 hy hq I hg)
  | block id x ih =>
    intro X hX S σ a w K h I hg
    simp only [xcode, Option.map_eq_some_iff] at hX
    obtain ⟨X1, hx, rfl⟩ := hX
    refine wp_block (Code.wp_mono ?_ (ih X1 hx (show vcC P X1 S _ from h) I hg))
    rintro e a' w' ⟨S', σ', I', hg', hk⟩
    cases e with
    | exit j =>
      simp only at hk
      simp only [Exit.inBlock]
      split at hk
      case h_1 hb => rw [if_pos (Nat.eq_of_beq_eq_true hb)]; exact ⟨S', σ', I', hg', hk⟩
      case h_2 hb => rw [if_neg (by intro e; subst e; simp at hb)]; exact ⟨S', σ', I', hg', hk⟩
    | _ => first | exact hk.elim | exact ⟨S', σ', I', hg', hk⟩
  | loop x ih =>
    intro X hX S σ a w K h I hg
    simp only [xcode, Option.map_eq_some_iff] at hX
    obtain ⟨X1, hx, rfl⟩ := hX
    obtain ⟨J, n, T, hw, hl, _, hJ, hround⟩ := (show scL S.L.length S.fr = true → scH S.L → _ from h) I.scF I.scL
    refine wp_loopN (fun n a w => ∃ T σ, Inv T σ a w ∧ Goes σ0 L0 g0 w0 σ T.L T.g w ∧ J n T) ?_ n a w ⟨T, σ, I.weaker hw, hg.weaker hw (Nat.le_trans hg.len hl), hJ⟩
    rintro n a w ⟨T, σ, I', hg', hJ⟩
    refine Code.wp_mono ?_ (ih X1 hx (hround n T hJ) I' hg')
    rintro e a' w' ⟨S', σ', I2, hg2, hk⟩
    cases e with
    | normal =>
      obtain ⟨m, T', hmn, hw', hl', _, hJ'⟩ := hk
      exact ⟨m, hmn, T', σ', I2.weaker hw', hg2.weaker hw' (Nat.le_trans hg.len hl'), hJ'⟩
    | _ => first | exact hk.elim | exact ⟨S', σ', I2, hg2, hk⟩
  | rangeFunc f ps as b => intro X hX; simp [xcode] at hX
  | scope b => intro X hX; simp [xcode] at hX
  | label l => intro X hX; simp [xcode] at hX
  | goto l => intro X hX; simp [xcode] at hX
  | refuse y => intro X hX; simp [xcode] at hX

end Go.Sx
