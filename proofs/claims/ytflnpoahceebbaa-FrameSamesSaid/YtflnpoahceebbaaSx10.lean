/- A symbolic executor of my own, part 10: every operation, as the model runs it. Conditions: none; it speaks of any program. -/
import Derived.Test.YtflnpoahceebbaaSx9
namespace Go.Sx

section
variable {P : Program} {o : Oper} {S : St} {σ : Nat → Nat} {a : Act} {w : World} {K : SV → List Chunk → G → Prop} {Q : Exit → Act → World → Prop}

theorem hp_ro {X : XOp} (hX : xop P o.op = some X) (I : Inv S σ a w) (h : ro X (ev S.fr) S.L S.g fun r => K r S.L S.g) : o.wp P a w (Left1 o a S.L S.g σ w K) Q := by
  obtain ⟨r, hj, ⟨hk, hsc⟩, hy⟩ := ro_sound hX (ro_sc I.scF I.scL h)
  have := hy σ a w I.fr I.holds
  unfold Oper.wp
  rw [this]
  exact ⟨_, r, S.L, S.g, σ, rfl, fun _ => rfl, hsc, I.holds, I.scL, Goes.refl _ _ _ _, hk⟩

theorem hp_new (I : Inv S σ a w) (c : Chunk) (hc : ∀ ty l, c = .cells ty l → scL S.L.length l = true) (ob : Obj) (ho : c.obj σ = some ob) (r : SV) (v : Value)
    (hr : r.sc (S.L ++ [c]).length = true) (hv : ∀ σ' : Nat → Nat, σ' S.L.length = w.heap.size → v = r.re σ') (hk : K r (S.L ++ [c]) S.g) (hrun : (execOp a.eval o).run P w = .ok (.value v) { w with heap := w.heap.push ob }) :
    o.wp P a w (Left1 o a S.L S.g σ w K) Q := by
  obtain ⟨σ', h1, h2, h3, h4, _⟩ := new_block I.holds I.scL c hc ob ho
  unfold Oper.wp
  rw [hrun]
  exact ⟨v, r, _, _, σ', rfl, fun _ => hv σ' h4, hr, h1, h2, h3, hk⟩

theorem newRow_run (t : TypeId) (c : Array Value) : (newRow t c).run P w = .ok ⟨w.heap.size, 0, none⟩ { w with heap := w.heap.push (.cells c t (0, 0)) } := by
  simp [newRow]

theorem hp_alloc {t : TypeId} {X : XOp} (ho : o.op = .alloc t) (hX : xop P (.alloc t) = some X) (I : Inv S σ a w) (h : hp P X (ev S.fr) S.L S.g K) : o.wp P a w (Left1 o a S.L S.g σ w K) Q := by
  simp only [xop] at hX
  cases hi : P.info? t with
  | none => simp [hi] at hX
  | some i =>
    rw [hi] at hX
    simp only [Option.map_eq_some_iff] at hX
    obtain ⟨z, hz, rfl⟩ := hX
    refine hp_new I (.cells t (z.cells.toList.map .v)) (fun ty l e => by injection e with _ e; subst e; exact scL_v _) (.cells z.cells t (0, 0)) (by simp [Chunk.obj, reL_v]) (.ptr S.L.length 0) (.pointer (some ⟨w.heap.size, 0, none⟩)) (by simp [SV.sc]) (fun σ' e => by simp [SV.re, e]) h ?_
    have hz' : (zeroValue t).run P w = .ok z w := by simp [zeroValue, typeInfo, hi, hz]
    simp only [execOp, ho, Instr.alloc, Sem.run_bind, hz', Result.andThen_ok, newVar, newRow_run, Sem.run_pure]

theorem hp_box {t : TypeId} {x : Operand} (ho : o.op = .box t x) (I : Inv S σ a w) (h : hp P (.box t x) (ev S.fr) S.L S.g K) : o.wp P a w (Left1 o a S.L S.g σ w K) Q := by
  obtain ⟨hj, hk⟩ := nj_elim h
  have hev := I.fr.ev x hj
  have hcl := cells_re σ _ hj
  refine hp_new I (.cells t (ev S.fr x).cells) (fun ty l e => by injection e with _ e; subst e; exact sc_cells (sc_ev I.scF x)) (.cells ((ev S.fr x).re σ).cells t (0, 0)) ?_ (.ptr S.L.length 0) (.pointer (some ⟨w.heap.size, 0, none⟩)) (by simp [SV.sc]) (fun σ' e => by simp [SV.re, e]) hk ?_
  · simp only [Chunk.obj, ← hcl]
  · simp only [execOp, ho, Instr.box, Sem.run_bind, newVar, newRow_run, Result.andThen_ok, Sem.run_pure, hev]

theorem hp_bslice {t : TypeId} {n : Nat} {ps : Array (Nat × Operand)} {X : XOp} (ho : o.op = .buildSlice t n ps) (hX : xop P (.buildSlice t n ps) = some X) (I : Inv S σ a w) (h : hp P X (ev S.fr) S.L S.g K) : o.wp P a w (Left1 o a S.L S.g σ w K) Q := by
  simp only [xop] at hX
  cases hu : P.underlying t with
  | none => simp [hu] at hX
  | some d =>
    rw [hu] at hX
    cases d
    case slice e =>
      simp only at hX
      cases hi : P.info? e with
      | none => simp [hi] at hX
      | some i =>
        rw [hi] at hX
        simp only at hX
        cases hz : i.zero with
        | none => simp [hz] at hX
        | some z =>
          rw [hz] at hX
          simp only at hX
          split at hX
          case isFalse => cases hX
          case isTrue hc =>
            simp only [Option.some.injEq] at hX
            subst hX
            simp only [hp] at h
            split at h
            case h_2 => exact h.elim
            case h_1 l hf =>
              have hnj : ∀ p ∈ ps.toList, ev S.fr p.2 ≠ .junk := fun p hp => by
                have := fillS_nj _ _ _ hf (p.1 * i.size, i.size, ev S.fr p.2) (List.mem_map.2 ⟨(p.1 * i.size, i.size, p.2), List.mem_map.2 ⟨p, hp, rfl⟩, rfl⟩)
                exact this
              have hfill := fill_of (σ := σ) (place := fun j => some (j * i.size, i.size)) (ps.toList.map fun p => (p.1, a.eval p.2)) (((ps.toList.map fun p => (p.1 * i.size, i.size, p.2))).map fun p => (p.1, p.2.1, ev S.fr p.2.2)) _ l (by
                simp only [List.map_map, Function.comp_def]
                apply List.map_congr_left
                intro p hp
                simp [I.fr.ev p.2 (hnj p hp)]) hf
              rw [reL_v] at hfill
              refine hp_new I (.cells e l) (fun ty l' e' => ?_) (.cells (reL σ l).toArray e (0, 0)) rfl (.slc S.L.length 0 n n) (.slice (some ⟨w.heap.size, 0, none⟩) n n) (by simp [SV.sc]) (fun σ' e' => by simp [SV.re, e']) h ?_
              · injection e' with _ e'
                subst e'
                refine fillS_sc _ _ _ (fun q hq => ?_) (scL_v _) hf
                obtain ⟨p, _, rfl⟩ := List.mem_map.1 hq
                exact sc_ev I.scF _
              · have hz' : (zeroValue e).run P w = .ok z w := by simp [zeroValue, typeInfo, hi, hz]
                have hs : (sizeOf e).run P w = .ok i.size w := by simp [sizeOf, typeInfo, hi]
                have harr : (ps.map fun (i, x) => (i, a.eval x)).toList = ps.toList.map fun p => (p.1, a.eval p.2) := by simp
                have hrange : (Array.range (n * i.size)).map (fun j => z.cells[j % z.cells.size]!) = ((List.range (n * i.size)).map fun j => z.cells[j % z.cells.size]!).toArray := by
                  apply Array.ext'; simp
                simp only [execOp, ho, Instr.buildSlice, Sem.run_bind, run_underlying hu, Result.andThen_ok, hs, harr]
                rw [if_neg (by omega)]
                simp only [Sem.run_bind, if_neg hc.2.1, hz', Result.andThen_ok, Sem.run_pure, hrange, hfill, newRow_run]
    all_goals (simp at hX)

theorem world_same {b : Nat} {ob : Obj} (h : w.heap[b]? = some ob) : { w with heap := w.heap.setIfInBounds b ob } = w := by
  have hlt : b < w.heap.size := (Array.getElem?_eq_some_iff.1 h).1
  have hv : w.heap[b] = ob := (Array.getElem?_eq_some_iff.1 h).2
  have : w.heap.setIfInBounds b ob = w.heap := by
    apply Array.ext_getElem?
    intro k
    by_cases hk : b = k
    · subst hk; simp [hlt, hv]
    · rw [Array.getElem?_setIfInBounds_ne hk]
  rw [this]

theorem hp_store {t : TypeId} {ad x : Operand} {X : XOp} (ho : o.op = .store t ad x) (hX : xop P (.store t ad x) = some X) (I : Inv S σ a w) (h : hp P X (ev S.fr) S.L S.g K) : o.wp P a w (Left1 o a S.L S.g σ w K) Q := by
  simp only [xop] at hX
  cases hi : P.info? t with
  | none => simp [hi] at hX
  | some i =>
    rw [hi] at hX
    simp only [Option.some.injEq] at hX
    subst hX
    simp only [hp] at h
    split at h
    case h_2 => exact h.elim
    case h_1 k off ha =>
      have hea : a.eval ad = .pointer (some ⟨σ k, off, none⟩) := by rw [I.fr.ev ad (by simp [ha]), ha]; rfl
      have fin : ∀ (cur : List Value) (ty : TypeId) (v : Value) (c' : Chunk), w.heap[σ k]? = some (.cells cur.toArray ty (0, 0)) → a.eval x = v → v.cells.toList.length = i.size → off + i.size ≤ cur.length → (∀ u ∈ v.cells.toList, u.oneCell' = true) → k < S.L.length →
          (∀ ty l, c' = .cells ty l → scL S.L.length l = true) → c'.obj σ = some (.cells (cur.take off ++ (v.cells.toList ++ cur.drop (off + i.size))).toArray ty (0, 0)) → K .junk (S.L.set k c') S.g → o.wp P a w (Left1 o a S.L S.g σ w K) Q := by
        intro cur ty v c' hw hv hsz hle hone hk hc hob hK
        obtain ⟨w', hr, hw'⟩ := run_storeCells_splice (P := P) (σ k) ty v.cells.toList off 0 cur w hw (by omega) hone
        obtain ⟨h1, h2, h3⟩ := set_block I.holds I.scL hk c' hc _ hob
        have hsz' : v.cells.size = i.size := by rw [← hsz]; simp
        have hrun : (execOp a.eval o).run P w = .ok .skip w' := by
          simp [execOp, ho, hea, hv, Instr.storeAt, Instr.sureAddr, storeVar, sizeOf, typeInfo, hi, hsz', hr]
        unfold Oper.wp
        rw [hrun]
        simp only [Nat.add_zero, hsz] at hw'
        rw [hw']
        exact ⟨undef, .junk, _, _, σ, rfl, fun e => absurd rfl e, rfl, h1, h2, h3, hK⟩
      split at h
      case h_1 ty c hc =>
        obtain ⟨hj, h⟩ := nj_elim h
        obtain ⟨hle, h⟩ := ifle_elim h
        obtain ⟨hb, h⟩ := ifOk_elim h
        obtain ⟨hone, h⟩ := oneAll_elim h
        have hn := Nat.eq_of_beq_eq_true hb
        have hcl := cells_re σ _ hj
        have hkl : k < S.L.length := (List.getElem?_eq_some_iff.1 hc).1
        refine fin (reL σ c) ty _ _ (I.holds.lo k _ _ hc rfl) (I.fr.ev x hj) (by rw [hcl, reL_length]; exact hn) (by rw [reL_length]; exact hle) (fun u hu => ?_) hkl (fun ty' l e => ?_) ?_ h
        · rw [hcl, reL_map] at hu
          obtain ⟨y, hy, rfl⟩ := List.mem_map.1 hu
          exact hone y hy σ
        · injection e with _ e
          subst e
          rw [scL_append, scL_append]
          exact ⟨scL_take _ (I.scL _ _ _ hc), sc_cells (sc_ev I.scF x), scL_drop _ (I.scL _ _ _ hc)⟩
        · simp only [Chunk.obj, reL_append, reL_take, reL_drop, hcl]
      case h_2 ty c hc =>
        have hkl : k < S.L.length := (List.getElem?_eq_some_iff.1 hc).1
        split at h
        case h_2 => exact h.elim
        case h_1 y hx =>
          obtain ⟨hone, hn, hlt, h⟩ := h
          have hcs : y.cells.toList = [y] := by cases y <;> first | (simp [Value.oneCell'] at hone; done) | rfl
          refine fin c ty y (.vals ty (c.set off y)) (I.holds.lo k _ _ hc rfl) (by rw [I.fr.ev x (by simp [hx]), hx]; rfl) (by rw [hcs]; simpa using hn.symm) (by omega) (by rw [hcs]; simpa using hone) hkl (fun ty' l e => by cases e) ?_ h
          simp only [Chunk.obj, hcs, hn]
          congr 3
          rw [List.set_eq_take_append_cons_drop, if_pos hlt]
          simp
      case h_3 => exact h.elim

theorem call_wp {f : FuncId} {as : List SV} (I : Inv S σ a w) (hsc : scL S.L.length as = true) (h : Meets P f as S.L S.g K) (hrun : callable P f = true → (execOp a.eval o).run P w = .ok (.enter f (reL σ as).toArray) w) :
    o.wp P a w (Left1 o a S.L S.g σ w K) Q := by
  unfold Oper.wp
  rw [hrun h.1]
  show Calls P f _ w _
  refine (h.2 σ w I.holds I.scL hsc).mono ?_
  rintro e w' ⟨r, L', g', σ', rfl, hj, h1, h2, h3, h4, h5⟩
  exact ⟨_, r, L', g', σ', rfl, fun _ => rfl, h3, h1, h2, h4, h5⟩

theorem callable_run {f : FuncId} (h : callable P f = true) (args : Array Value) (w : World) : (callFunc f args).run P w = .ok (.enter f args) w := by
  unfold callable at h
  split at h
  · rename_i fn hf
    simp only [Bool.and_eq_true, Bool.not_eq_true'] at h
    obtain ⟨b, hb⟩ := Option.isSome_iff_exists.1 h.1
    have hn : ¬ fn.name = "runtime.NumGoroutine" := by simpa using h.2
    simp [callFunc, hf, hn, hb]
  · cases h

theorem hp_call {c : Call} {f : FuncId} (ho : o.op = .call c) (hc : c.callee = .value (.func f)) (I : Inv S σ a w) (h : hp P (.call f c.args.toList) (ev S.fr) S.L S.g K) : o.wp P a w (Left1 o a S.L S.g σ w K) Q := by
  simp only [hp] at h
  obtain ⟨hj, h⟩ := njL_elim h
  have hsc : scL S.L.length (c.args.toList.map (ev S.fr)) = true := scL_mem.2 fun x hx => by obtain ⟨y, _, rfl⟩ := List.mem_map.1 hx; exact sc_ev I.scF y
  refine call_wp I hsc h fun hcb => ?_
  have e1 : c.args.map a.eval = (reL σ (c.args.toList.map (ev S.fr))).toArray := by apply Array.ext'; simp [← ev_map I.fr _ hj]
  simp only [execOp, ho, resolve, hc, Act.eval, Deferred.ofValue, Sem.run_bind, Sem.run_pure, Result.andThen_ok, invoke, e1]
  simpa using callable_run hcb _ w

theorem hp_callv {c : Call} {x : Operand} (ho : o.op = .call c) (hc : c.callee = .value x) (I : Inv S σ a w) (h : hp P (.callv x c.args.toList) (ev S.fr) S.L S.g K) : o.wp P a w (Left1 o a S.L S.g σ w K) Q := by
  simp only [hp] at h
  split at h
  case h_2 => exact h.elim
  case h_1 f first cap hx =>
    obtain ⟨hj, h⟩ := njL_elim h
    have hfn : (SV.fn f first cap).sc S.L.length = true := by rw [← hx]; exact sc_ev I.scF x
    simp only [SV.sc, Bool.and_eq_true] at hfn
    have hsc : scL S.L.length (c.args.toList.map (ev S.fr)) = true := scL_mem.2 fun x hx => by obtain ⟨y, _, rfl⟩ := List.mem_map.1 hx; exact sc_ev I.scF y
    refine call_wp I (by rw [scL_append, scL_append]; exact ⟨hfn.1, hsc, hfn.2⟩) h fun hcb => ?_
    have e1 : c.args.map a.eval = (reL σ (c.args.toList.map (ev S.fr))).toArray := by apply Array.ext'; simp [← ev_map I.fr _ hj]
    have e2 : a.eval x = .func (.func f) (reL σ first).toArray (reL σ cap).toArray := by rw [I.fr.ev x (by simp [hx]), hx]; rfl
    simp only [execOp, ho, resolve, hc, e2, Deferred.ofValue, Sem.run_bind, Sem.run_pure, Result.andThen_ok, invoke, e1]
    rw [reL_append, reL_append]
    have := callable_run hcb ((reL σ first ++ (reL σ (c.args.toList.map (ev S.fr)) ++ reL σ cap)).toArray) w
    simpa using this

/-- **Every operation.** -/
theorem hp_sound {X : XOp} (hX : xop P o.op = some X) (I : Inv S σ a w) (h : hp P X (ev S.fr) S.L S.g K) : o.wp P a w (Left1 o a S.L S.g σ w K) Q := by
  have gen : (∀ (e : Operand → SV), hp P X e S.L S.g K = ro X e S.L S.g fun r => K r S.L S.g) → o.wp P a w (Left1 o a S.L S.g σ w K) Q := fun he => hp_ro hX I (by rw [← he]; exact h)
  cases ho : o.op with
  | alloc t => exact hp_alloc ho (by rw [← ho]; exact hX) I h
  | box t x => rw [ho] at hX; simp only [xop, Option.some.injEq] at hX; subst hX; exact hp_box ho I h
  | buildSlice t n ps => exact hp_bslice ho (by rw [← ho]; exact hX) I h
  | store t ad x => exact hp_store ho (by rw [← ho]; exact hX) I h
  | call c =>
    cases hc : c.callee with
    | value x =>
      cases x with
      | func f => rw [ho] at hX; simp only [xop, hc, Option.some.injEq] at hX; subst hX; exact hp_call ho hc I h
      | tmp t => rw [ho] at hX; simp only [xop, hc, Option.some.injEq] at hX; subst hX; exact hp_callv ho hc I h
      | const v => rw [ho] at hX; simp only [xop, hc, Option.some.injEq] at hX; subst hX; exact hp_callv ho hc I h
      | global g => rw [ho] at hX; simp only [xop, hc, Option.some.injEq] at hX; subst hX; exact hp_callv ho hc I h
    | builtin b =>
      refine gen fun e => ?_
      rw [ho] at hX
      cases b <;> simp only [xop, hc] at hX <;> first
        | (cases hX; done)
        | ((repeat' split at hX) <;> first | (rename_i hq; cases hq; done) | (simp only [Option.some.injEq] at hX; subst hX; rfl) | (cases hX; done) | contradiction)
    | invoke r m => rw [ho] at hX; simp [xop, hc] at hX
  | _ =>
    refine gen fun e => ?_
    rw [ho] at hX
    simp only [xop] at hX
    repeat' split at hX
    all_goals first | (simp only [Option.some.injEq] at hX; subst hX; rfl) | (simp only [Option.map_eq_some_iff] at hX; obtain ⟨_, _, rfl⟩ := hX; rfl) | cases hX

end
end Go.Sx
