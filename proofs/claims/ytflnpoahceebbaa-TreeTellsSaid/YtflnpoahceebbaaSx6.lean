/- A symbolic executor of my own, part 6: the other operations that only read; all of them together. Conditions: none; it speaks of any program. -/
import Derived.Test.YtflnpoahceebbaaSx5
namespace Go.Sx

section
variable {P : Program} {o : Oper} {fr : List SV} {L : List Chunk} {g : G} {K : SV → Prop}

theorem ro_un {op : UnOp} {t : TypeId} {x : Operand} (ho : o.op = .unOp op t x) (h : ro (.un op x) (ev fr) L g K) : ∃ r, r ≠ .junk ∧ K r ∧ Yields1 P o fr L g r := by
  simp only [ro] at h
  split at h
  case h_1 b hx =>
    cases op <;> simp only at h
    exact ⟨_, by simp, h, fun σ A w hf _ => by simp [execOp, ho, hf.ev x (by simp [hx]), hx, SV.re, Op.unary]⟩
  case h_2 k n hx =>
    cases op <;> simp only at h
    · exact ⟨_, by simp, h, fun σ A w hf _ => by simp [execOp, ho, hf.ev x (by simp [hx]), hx, SV.re, Op.unary, Op.intArith]⟩
    · exact ⟨_, by simp, h, fun σ A w hf _ => by simp [execOp, ho, hf.ev x (by simp [hx]), hx, SV.re, Op.unary, Op.intBits]⟩
  case h_3 => exact h.elim

theorem ro_conv {s d : TypeId} {x : Operand} {X : XOp} (ho : o.op = .convert s d x) (hX : xop P (.convert s d x) = some X) (h : ro X (ev fr) L g K) : ∃ r, r ≠ .junk ∧ K r ∧ Yields1 P o fr L g r := by
  simp only [xop] at hX
  cases hs : P.underlying s with
  | none => simp [hs] at hX
  | some sd =>
    rw [hs] at hX
    cases sd
    case int k0 =>
      simp only at hX
      cases hd : P.underlying d with
      | none => simp [hd] at hX
      | some dd =>
        rw [hd] at hX
        cases dd
        case int k =>
          simp only [Option.some.injEq] at hX
          subst hX
          simp only [ro] at h
          split at h
          case h_1 k1 n hx =>
            exact ⟨_, by simp, h, fun σ A w hf _ => by simp [execOp, ho, hf.ev x (by simp [hx]), hx, SV.re, convert, run_underlying hs, run_underlying hd, Conv.intToInt]⟩
          case h_2 => exact h.elim
        all_goals (simp at hX)
    all_goals (simp at hX)

theorem ro_fieldA {s : TypeId} {x : Operand} {f : Nat} {X : XOp} (ho : o.op = .fieldAddr s x f) (hX : xop P (.fieldAddr s x f) = some X) (h : ro X (ev fr) L g K) : ∃ r, r ≠ .junk ∧ K r ∧ Yields1 P o fr L g r := by
  simp only [xop] at hX
  cases hs : P.underlying s with
  | none => simp [hs] at hX
  | some sd =>
    rw [hs] at hX
    cases sd
    case struct fs =>
      simp only at hX
      cases hfd : fs[f]? with
      | none => simp [hfd] at hX
      | some fd =>
        rw [hfd] at hX
        simp only at hX
        split at hX
        case isFalse => cases hX
        case isTrue hc =>
          simp only [Option.some.injEq] at hX
          subst hX
          obtain ⟨i, hi⟩ := Option.isSome_iff_exists.1 hc.1
          have hz : i.size ≠ 0 := by have := hc.2; simpa [Program.cellsOf, hi] using this
          have hp : ∀ (a : Addr) (w : World), (fieldPlace a fd).run P w = .ok (a.add fd.offset) w := by
            intro a w
            simp [fieldPlace, sizeOf, typeInfo, hi, hz]
          have exe : ∀ (A : Act) (a : Addr) (w : World), A.eval x = .pointer (some a) → (execOp A.eval o).run P w = .ok (.value (.pointer (some (a.add fd.offset)))) w := by
            intro A a w h1
            simp only [execOp, ho, h1, Instr.fieldAt, Sem.run_bind, run_underlying hs, Result.andThen_ok, hfd, Instr.sureAddr, Sem.run_pure, hp]
          simp only [ro] at h
          split at h
          case h_1 k off hx =>
            exact ⟨_, by simp, h, fun σ A w hf _ => by rw [exe A ⟨σ k, off, none⟩ w (by rw [hf.ev x (by simp [hx]), hx]; rfl), add_cell]; rfl⟩
          case h_2 a hx =>
            exact ⟨_, by simp, h, fun σ A w hf _ => by rw [exe A a w (by rw [hf.ev x (by simp [hx]), hx]; rfl)]; rfl⟩
          case h_3 => exact h.elim
    all_goals (simp at hX)

theorem part_val1 {t : TypeId} {agg : Bool} {l : List SV} {off n : Nat} (hi : (P.info? t).isSome) (hu : (P.underlying t).isSome) (ha : aggT P t = agg) (hn : agg = true → n = P.cellsOf t) (_hn1 : agg = false → n = 1) (_hle : off + n ≤ l.length)
    (h : val1 agg (slice1 l off n) K) : ∃ r, r ≠ .junk ∧ K r ∧ ∀ σ w, (part t (reL σ l).toArray off).run P w = .ok (r.re σ) w := by
  rcases val1_elim h with ⟨ht, hk⟩ | ⟨ht, y, hy, hj, hk⟩
  · refine ⟨_, by simp, hk, fun σ w => ?_⟩
    rw [run_part_agg hi (by rw [ha, ht]) _ off w, ← hn ht, ← reL_drop, ← reL_take]
    rfl
  · refine ⟨y, hj, hk, fun σ w => ?_⟩
    refine run_part_one hu (by rw [ha, ht]) _ off _ w ?_
    have h0 : (slice1 l off n)[0]? = some y := by rw [hy]; rfl
    have := get_slice1 h0
    simp only [Nat.add_zero] at this
    rw [reL_map, List.getElem?_map, this]
    rfl

theorem ro_fieldV {s : TypeId} {x : Operand} {f : Nat} {X : XOp} (ho : o.op = .field s x f) (hX : xop P (.field s x f) = some X) (h : ro X (ev fr) L g K) : ∃ r, r ≠ .junk ∧ K r ∧ Yields1 P o fr L g r := by
  simp only [xop] at hX
  cases hs : P.underlying s with
  | none => simp [hs] at hX
  | some sd =>
    rw [hs] at hX
    cases sd
    case struct fs =>
      simp only at hX
      cases hfd : fs[f]? with
      | none => simp [hfd] at hX
      | some fd =>
        rw [hfd] at hX
        simp only at hX
        split at hX
        case isFalse => cases hX
        case isTrue hc =>
          simp only [Option.some.injEq] at hX
          subst hX
          simp only [ro] at h
          split at h
          case h_2 => exact h.elim
          case h_1 l hx =>
            obtain ⟨hle, h⟩ := ifle_elim h
            obtain ⟨r, hj, hk, hr⟩ := part_val1 (P := P) (t := fd.type) hc.1 hc.2 rfl (fun ha => by simp [ha]) (fun ha => by simp [ha]) hle h
            refine ⟨r, hj, hk, fun σ A w hf _ => ?_⟩
            simp only [execOp, ho, hf.ev x (by simp [hx]), hx, SV.re, Instr.field, Sem.run_bind, run_underlying hs, Result.andThen_ok, hfd, asAgg, Sem.run_pure, hr]
    all_goals (simp at hX)

theorem run_sizeOf' {t : TypeId} (hi : (P.info? t).isSome) (w : World) : (sizeOf t).run P w = .ok (P.cellsOf t) w := by
  obtain ⟨i, hi⟩ := Option.isSome_iff_exists.1 hi
  simp [sizeOf, typeInfo, hi, Program.cellsOf]

theorem ro_indexA {t : TypeId} {x i : Operand} {X : XOp} (ho : o.op = .indexAddr t x i) (hX : xop P (.indexAddr t x i) = some X) (h : ro X (ev fr) L g K) : ∃ r, r ≠ .junk ∧ K r ∧ Yields1 P o fr L g r := by
  simp only [xop] at hX
  cases hs : P.underlying t with
  | none => simp [hs] at hX
  | some sd =>
    rw [hs] at hX
    cases sd
    case slice e =>
      simp only at hX
      split at hX
      case isFalse => cases hX
      case isTrue he =>
        simp only [Option.some.injEq] at hX
        subst hX
        simp only [ro] at h
        split at h
        case h_2 => exact h.elim
        case h_1 k n hi =>
          split at h
          case h_1 a len cap hx =>
            obtain ⟨hb, ad, rfl, hk⟩ := h
            refine ⟨_, by simp, hk, fun σ A w hf _ => ?_⟩
            simp only [execOp, ho, hf.ev x (by simp [hx]), hx, hf.ev i (by simp [hi]), hi, SV.re, Instr.indexAt, asIntOf, Sem.run_bind, Sem.run_pure, run_underlying hs, Result.andThen_ok, hb, and_self, if_true, run_sizeOf' he]
          case h_2 k off len cap hx =>
            obtain ⟨hb, hk⟩ := h
            refine ⟨_, by simp, hk, fun σ A w hf _ => ?_⟩
            simp only [execOp, ho, hf.ev x (by simp [hx]), hx, hf.ev i (by simp [hi]), hi, SV.re, Instr.indexAt, asIntOf, Sem.run_bind, Sem.run_pure, run_underlying hs, Result.andThen_ok, hb, and_self, if_true, run_sizeOf' he, add_cell]
          case h_3 => exact h.elim
    case array m e =>
      simp only at hX
      split at hX
      case isFalse => cases hX
      case isTrue he =>
        simp only [Option.some.injEq] at hX
        subst hX
        simp only [ro] at h
        split at h
        case h_2 => exact h.elim
        case h_1 k n hi =>
          split at h
          case h_1 k off hx =>
            obtain ⟨hb, hk⟩ := h
            refine ⟨_, by simp, hk, fun σ A w hf _ => ?_⟩
            simp only [execOp, ho, hf.ev x (by simp [hx]), hx, hf.ev i (by simp [hi]), hi, SV.re, Instr.indexAt, asIntOf, Sem.run_bind, Sem.run_pure, run_underlying hs, Instr.sureAddr, Result.andThen_ok, hb, and_self, if_true, run_sizeOf' he, add_cell]
          case h_2 a hx =>
            obtain ⟨hb, hk⟩ := h
            refine ⟨_, by simp, hk, fun σ A w hf _ => ?_⟩
            simp only [execOp, ho, hf.ev x (by simp [hx]), hx, hf.ev i (by simp [hi]), hi, SV.re, Instr.indexAt, asIntOf, Sem.run_bind, Sem.run_pure, run_underlying hs, Instr.sureAddr, Result.andThen_ok, hb, and_self, if_true, run_sizeOf' he]
          case h_3 => exact h.elim
    all_goals (simp at hX)

theorem ro_index {t : TypeId} {x i : Operand} {X : XOp} (ho : o.op = .index t x i) (hX : xop P (.index t x i) = some X) (h : ro X (ev fr) L g K) : ∃ r, r ≠ .junk ∧ K r ∧ Yields1 P o fr L g r := by
  simp only [xop] at hX
  cases hs : P.underlying t with
  | none => simp [hs] at hX
  | some sd =>
    rw [hs] at hX
    cases sd
    case array m e =>
      simp only at hX
      split at hX
      case isFalse => cases hX
      case isTrue he =>
        simp only [Option.some.injEq] at hX
        subst hX
        simp only [ro] at h
        split at h
        case h_2 => exact h.elim
        case h_1 k n hi =>
          split at h
          case h_2 => exact h.elim
          case h_1 l hx =>
            obtain ⟨hb, h⟩ := h
            obtain ⟨hle, h⟩ := ifle_elim h
            obtain ⟨r, hj, hk, hr⟩ := part_val1 (P := P) (t := e) he.1 he.2.1 rfl (fun _ => rfl) he.2.2 hle h
            refine ⟨r, hj, hk, fun σ A w hf _ => ?_⟩
            simp only [execOp, ho, hf.ev x (by simp [hx]), hx, hf.ev i (by simp [hi]), hi, SV.re, Instr.index, asIntOf, Sem.run_bind, Sem.run_pure, run_underlying hs, Result.andThen_ok, hb, and_self, if_true, run_sizeOf' he.1, hr]
    case string =>
      simp only [Option.some.injEq] at hX
      subst hX
      simp only [ro] at h
      split at h
      case h_2 => exact h.elim
      case h_1 k n hi =>
        split at h
        case h_2 => exact h.elim
        case h_1 s hx =>
          obtain ⟨hb, hk⟩ := h
          refine ⟨_, by simp, hk, fun σ A w hf _ => ?_⟩
          have hlt : n.toNat < s.size := by omega
          have hget : s[n.toNat]? = some (s.data.toList.getD n.toNat 0) := by
            rw [getElem?_pos s n.toNat hlt]
            congr 1
            have h1 : n.toNat < s.data.size := hlt
            have h2 : s.data.toList.getD n.toNat 0 = s.data[n.toNat] := by
              simp [List.getD, Array.getElem?_eq_getElem h1]
            rw [h2]
            rfl
          simp only [execOp, ho, hf.ev x (by simp [hx]), hx, hf.ev i (by simp [hi]), hi, SV.re, Instr.index, asIntOf, Sem.run_bind, Sem.run_pure, run_underlying hs, Result.andThen_ok, hb.1, if_true, hget]
    all_goals (simp at hX)

theorem get_some {l : List SV} {i : Nat} (h : get l i ≠ .junk) : l[i]? = some (get l i) := by
  induction l generalizing i with
  | nil => simp [get] at h
  | cons x l ih =>
    cases i with
    | zero => rfl
    | succ i => simpa [get] using ih (by simpa [get] using h)

theorem ro_ext {x : Operand} {i : Nat} (ho : o.op = .extract x i) (h : ro (.ext x i) (ev fr) L g K) : ∃ r, r ≠ .junk ∧ K r ∧ Yields1 P o fr L g r := by
  simp only [ro] at h
  split at h
  case h_1 l hx =>
    obtain ⟨hj, hk⟩ := nj_elim h
    refine ⟨_, hj, hk, fun σ A w hf _ => ?_⟩
    have := get_some hj
    simp [execOp, ho, hf.ev x (by simp [hx]), hx, SV.re, Instr.extract, reL_map, this]
  case h_2 c hx =>
    split at h
    case h_1 y hy => exact ⟨_, by simp, h, fun σ A w hf _ => by simp [execOp, ho, hf.ev x (by simp [hx]), hx, SV.re, Instr.extract, hy]⟩
    case h_2 => exact h.elim
  case h_3 => exact h.elim

theorem ro_mkI {t : TypeId} {x : Operand} {X : XOp} (ho : o.op = .makeInterface t x) (hX : xop P (.makeInterface t x) = some X) (h : ro X (ev fr) L g K) : ∃ r, r ≠ .junk ∧ K r ∧ Yields1 P o fr L g r := by
  simp only [xop] at hX
  have hh : ∀ (v : Value) w, X = .mkI t x ∧ (Instr.makeInterface t v).run P w = .ok (.iface t v) w := by
    intro v w
    cases hs : P.underlying t with
    | none => simp [hs] at hX
    | some d =>
      rw [hs] at hX
      cases d <;> simp at hX <;> exact ⟨hX.symm, by simp [Instr.makeInterface, run_underlying hs]⟩
  have h0 := (hh (.bool true) default).1
  subst h0
  simp only [ro] at h
  split at h
  case h_1 y hx =>
    exact ⟨_, by simp, h, fun σ A w hf _ => by simp [execOp, ho, hf.ev x (by simp [hx]), hx, SV.re, (hh y w).2]⟩
  case h_2 => exact h.elim
  case h_3 y hy hy2 =>
    refine ⟨_, by simp, h, fun σ A w hf _ => ?_⟩
    have hj : ev fr x ≠ .junk := fun e => hy2 e
    simp [execOp, ho, hf.ev x hj, SV.re, (hh _ w).2]

theorem ro_mkF {fn : Fn} {a b : Array Operand} {X : XOp} (ho : o.op = .makeFunc fn a b) (hX : xop P (.makeFunc fn a b) = some X) (h : ro X (ev fr) L g K) : ∃ r, r ≠ .junk ∧ K r ∧ Yields1 P o fr L g r := by
  simp only [xop] at hX
  cases fn <;> simp at hX
  subst hX
  simp only [ro] at h
  obtain ⟨h1, h⟩ := njL_elim h
  obtain ⟨h2, h⟩ := njL_elim h
  refine ⟨_, by simp, h, fun σ A w hf _ => ?_⟩
  have e1 : a.map A.eval = (reL σ (a.toList.map (ev fr))).toArray := by apply Array.ext'; simp [← ev_map hf _ h1]
  have e2 : b.map A.eval = (reL σ (b.toList.map (ev fr))).toArray := by apply Array.ext'; simp [← ev_map hf _ h2]
  simp [execOp, ho, Instr.makeFunc, e1, e2, SV.re]

theorem ro_len {c : Call} {X : XOp} (ho : o.op = .call c) (hc : c.callee = .builtin .len) (hX : xop P (.call c) = some X) (h : ro X (ev fr) L g K) : ∃ r, r ≠ .junk ∧ K r ∧ Yields1 P o fr L g r := by
  obtain ⟨cal, ⟨args⟩, ⟨tys⟩⟩ := c
  simp only at hc
  subst hc
  simp only [xop] at hX
  match args, tys, hX with
  | [x], [t], hX =>
    simp only at hX
    cases hu : P.underlying t with
    | none => simp [hu] at hX
    | some d =>
      rw [hu] at hX
      cases d <;> simp at hX
      · subst hX
        simp only [ro] at h
        split at h
        case h_1 s hx =>
          exact ⟨_, by simp, h, fun σ A w hf _ => by simp [execOp, ho, resolve, invoke, builtin, Builtin.len_, run_underlying hu, hf.ev x (by simp [hx]), hx, SV.re, goInt]⟩
        case h_2 => exact h.elim
      · subst hX
        simp only [ro] at h
        split at h
        case h_1 a n cap hx =>
          exact ⟨_, by simp, h, fun σ A w hf _ => by simp [execOp, ho, resolve, invoke, builtin, Builtin.len_, run_underlying hu, hf.ev x (by simp [hx]), hx, SV.re, goInt]⟩
        case h_2 k off n cap hx =>
          exact ⟨_, by simp, h, fun σ A w hf _ => by simp [execOp, ho, resolve, invoke, builtin, Builtin.len_, run_underlying hu, hf.ev x (by simp [hx]), hx, SV.re, goInt]⟩
        case h_3 => exact h.elim

/-- **What an operation that only reads yields symbolically it yields in the model.** -/
theorem ro_sound {X : XOp} (hX : xop P o.op = some X) (h : ro X (ev fr) L g K) : ∃ r, r ≠ .junk ∧ K r ∧ Yields1 P o fr L g r := by
  cases ho : o.op <;> rw [ho] at hX
  case move x =>
    simp only [xop, Option.some.injEq] at hX
    subst hX
    obtain ⟨dst, op, ty, pos, af, gd⟩ := o
    exact ro_mov (.inl ho) h
  case assign x =>
    simp only [xop, Option.some.injEq] at hX
    subst hX
    obtain ⟨dst, op, ty, pos, af, gd⟩ := o
    exact ro_mov (.inr ho) h
  case pick c a b => simp only [xop, Option.some.injEq] at hX; subst hX; exact ro_pick ho h
  case build t ps => exact ro_build ho hX h
  case load t a => exact ro_load ho hX h
  case binOp op t x y yt => exact ro_bin ho hX h
  case unOp op t x => simp only [xop, Option.some.injEq] at hX; subst hX; exact ro_un ho h
  case convert s d x => exact ro_conv ho hX h
  case fieldAddr s x f => exact ro_fieldA ho hX h
  case field s x f => exact ro_fieldV ho hX h
  case indexAddr t x i => exact ro_indexA ho hX h
  case index t x i => exact ro_index ho hX h
  case extract x i => simp only [xop, Option.some.injEq] at hX; subst hX; exact ro_ext ho h
  case makeInterface t x => exact ro_mkI ho hX h
  case makeFunc fn a b => exact ro_mkF ho hX h
  case call c =>
    cases hc : c.callee with
    | builtin b =>
      by_cases hb : b = .len
      · subst hb; exact ro_len ho hc hX h
      · exfalso
        simp only [xop, hc] at hX
        cases b <;> first | exact hb rfl | simp at hX
    | value f =>
      exfalso
      simp only [xop, hc] at hX
      cases f with
      | func f => simp only [Option.some.injEq] at hX; subst hX; exact h
      | _ => simp only [Option.some.injEq] at hX; subst hX; exact h
    | invoke r m => exfalso; simp [xop, hc] at hX
  case alloc t =>
    exfalso
    simp only [xop] at hX
    split at hX
    · rw [Option.map_eq_some_iff] at hX; obtain ⟨z, _, rfl⟩ := hX; exact h
    · cases hX
  case box t x => exfalso; simp only [xop, Option.some.injEq] at hX; subst hX; exact h
  case store t a x =>
    exfalso
    simp only [xop] at hX
    split at hX
    · simp only [Option.some.injEq] at hX; subst hX; exact h
    · cases hX
  case buildSlice t n ps =>
    exfalso
    simp only [xop] at hX
    repeat' split at hX
    all_goals first | (simp only [Option.some.injEq] at hX; subst hX; exact h) | cases hX
  all_goals (simp [xop] at hX)

end
end Go.Sx
