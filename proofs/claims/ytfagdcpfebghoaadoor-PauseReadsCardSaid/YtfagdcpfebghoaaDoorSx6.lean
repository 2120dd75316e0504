/- A symbolic executor of my own, part 6: the other operations that only read; all of them together. Conditions: none; it speaks of any program. -/
import Derived.Test.YtfagdcpfebghoaaDoorSx5
namespace Go.Sx

section
variable {P : Program} {o : Oper} {fr : List SV} {L : List Chunk} {g : G} {K : SV → Prop}

theorem ro_un {op : UnOp} {t : TypeId} {x : Operand} (ho : o.op = .unOp op t x) (h : ro (.un op x) (ev fr) L g K) : ∃ r, r ≠ .junk ∧ K r ∧ Yields1 P o fr L g r := by
  simp only [ro] at h
  split at h
  case h_1 b hx =>
    cases op <;> simp only at h
    exact ⟨_, by simp, h, fun σ A w hf _ => by simp [execOp, ho, hf.ev x (by simp [hx]), hx, SV.re, Op.unary]⟩
  case h_2 k n hx =>
    cases op <;> simp only at h
    · exact ⟨_, by simp, h, fun σ A w hf _ => by simp [execOp, ho, hf.ev x (by simp [hx]), hx, SV.re, Op.unary, Op.intArith]⟩
    · exact ⟨_, by simp, h, fun σ A w hf _ => by simp [execOp, ho, hf.ev x (by simp [hx]), hx, SV.re, Op.unary, Op.intBits]⟩
  case h_3 => exact h.elim

theorem run_sizeOf' {t : TypeId} (hi : (P.info? t).isSome) (w : World) : (sizeOf t).run P w = .ok (P.cellsOf t) w := by
  obtain ⟨i, hi⟩ := Option.isSome_iff_exists.1 hi
  simp [sizeOf, typeInfo, hi, Program.cellsOf]

/-! ### More operations that only read -/

theorem boundsK_elim {isSlice : Bool} {len cap : Nat} {lo hi : Option Operand} {K' : Nat → Nat → Prop} (h : boundsK len cap lo.isSome hi.isSome ((lo.toList ++ hi.toList).map (ev fr)) K') :
    ∃ l u, K' l u ∧ (lo = none → l = 0) ∧ ∀ (σ : Nat → Nat) (a : Act) (w : World), FR σ fr a.tmps → (Instr.sliceBounds isSlice len cap (lo.map a.eval) (hi.map a.eval) none).run P w = .ok (l, u, cap) w := by
  have val : ∀ (y : Operand) (k : IntKind) (n : Int), ev fr y = .v (.int k n) → ∀ (σ : Nat → Nat) (a : Act), FR σ fr a.tmps → a.eval y = .int k n := fun y k n hy σ a hf => by rw [hf.ev y (by simp [hy]), hy]; rfl
  have bound : ∀ (k : IntKind) (n : Int) (m : Nat) (code : BoundsCode) (w : World), 0 ≤ n ∧ n ≤ m → (Instr.sliceBound (.int k n) m code).run P w = .ok n.toNat w := fun k n m code w hb => by
    simp [Instr.sliceBound, asIntOf, hb.1, hb.2]
  cases lo with
  | none =>
    cases hi with
    | none => exact ⟨0, len, h, fun _ => rfl, fun σ a w hf => by simp [Instr.sliceBounds]⟩
    | some y =>
      simp only [boundsK, Option.isSome_none, Option.isSome_some, Option.toList, List.nil_append, List.map_cons, List.map_nil] at h
      split at h
      case h_2 => exact h.elim
      case h_1 k n hy =>
        have hy' : ev fr y = .v (.int k n) := by simpa using hy
        refine ⟨0, n.toNat, h.2, fun _ => rfl, fun σ a w hf => ?_⟩
        simp only [Option.map_none, Option.map_some, val y k n hy' σ a hf]
        unfold Instr.sliceBounds
        simp [bound k n cap _ w h.1]
  | some x =>
    cases hi with
    | none =>
      simp only [boundsK, Option.isSome_none, Option.isSome_some, Option.toList, List.append_nil, List.map_cons, List.map_nil] at h
      split at h
      case h_2 => exact h.elim
      case h_1 k n hy =>
        have hy' : ev fr x = .v (.int k n) := by simpa using hy
        refine ⟨n.toNat, len, h.2, nofun, fun σ a w hf => ?_⟩
        simp only [Option.map_none, Option.map_some, val x k n hy' σ a hf]
        unfold Instr.sliceBounds
        simp [bound k n len _ w h.1]
    | some y =>
      simp only [boundsK, Option.isSome_some, Option.toList, List.cons_append, List.nil_append, List.map_cons, List.map_nil] at h
      split at h
      case h_2 => exact h.elim
      case h_1 k n k2 n2 hy =>
        obtain ⟨hx', hy'⟩ : ev fr x = .v (.int k n) ∧ ev fr y = .v (.int k2 n2) := by simpa using hy
        refine ⟨n.toNat, n2.toNat, h.2.2, nofun, fun σ a w hf => ?_⟩
        simp only [Option.map_some, val x k n hx' σ a hf, val y k2 n2 hy' σ a hf]
        unfold Instr.sliceBounds
        have hb : 0 ≤ n ∧ n ≤ (n2.toNat : Int) := by omega
        simp [bound k2 n2 cap _ w h.1, bound k n n2.toNat _ w hb]

theorem moved_eq {lo : Option Operand} {m l sz : Nat} (h0 : lo = none → l = 0) (a : Addr) : (if m = l then a else a.add (l * sz)) = a.add (moved lo.isSome m l sz) := by
  have add0 : ∀ a : Addr, a.add 0 = a := fun a => by simp [Addr.add]
  cases lo with
  | none =>
    rw [h0 rfl]
    simp [moved, add0]
  | some x =>
    simp only [Option.isSome_some, moved]
    split <;> simp [add0]

theorem roY_slice {t : TypeId} {x : Operand} {lo hi : Option Operand} {X : XOp} (ho : o.op = .slice t x lo hi none) (hX : xop0 P (.slice t x lo hi none) = some X) (h : ro X (ev fr) L g K) : ∃ r, r ≠ .junk ∧ K r ∧ Yields1 P o fr L g r := by
  simp only [xop0] at hX
  cases hs : P.underlying t with
  | none => simp [hs] at hX
  | some sd =>
    rw [hs] at hX
    cases sd
    case string =>
      simp only [Option.some.injEq] at hX
      subst hX
      simp only [ro, List.cons_append, List.map_cons, roY] at h
      split at h
      case h_2 => exact h.elim
      case h_1 s bs hv =>
        obtain ⟨hx, rfl⟩ : ev fr x = .v (.string s) ∧ (lo.toList ++ hi.toList).map (ev fr) = bs := by simpa using hv
        obtain ⟨l, u, hk, _, hr⟩ := boundsK_elim (P := P) (isSlice := false) h
        refine ⟨_, by simp, hk, fun σ A w hf _ => ?_⟩
        simp only [execOp, ho, hf.ev x (by simp [hx]), hx, SV.re, Instr.sliceAt, Instr.slice, Sem.run_bind, run_underlying hs, Result.andThen_ok, Option.map_none]
        simp [hr σ A w hf]
    case slice e =>
      simp only at hX
      split at hX
      case isFalse => cases hX
      case isTrue he =>
        simp only [Option.some.injEq] at hX
        subst hX
        simp only [ro, List.cons_append, List.map_cons, roY] at h
        split at h
        case h_1 k off len cap bs hv =>
          obtain ⟨hx, rfl⟩ : ev fr x = .slc k off len cap ∧ (lo.toList ++ hi.toList).map (ev fr) = bs := by simpa using hv
          obtain ⟨l, u, hk, h0, hr⟩ := boundsK_elim (P := P) (isSlice := true) h
          refine ⟨_, by simp, hk, fun σ A w hf _ => ?_⟩
          simp only [execOp, ho, hf.ev x (by simp [hx]), hx, SV.re, Instr.sliceAt, Instr.slice, Sem.run_bind, run_underlying hs, Result.andThen_ok, Option.map_none, hr σ A w hf, run_sizeOf' he, Sem.run_pure]
          have := moved_eq (m := cap) (sz := P.cellsOf e) h0 ⟨σ k, off, none⟩
          rw [add_cell (i := moved lo.isSome cap l (P.cellsOf e))] at this
          congr 3
          rw [← this]
          split <;> simp
        case h_2 a len cap bs hv =>
          obtain ⟨hx, rfl⟩ : ev fr x = .v (.slice a len cap) ∧ (lo.toList ++ hi.toList).map (ev fr) = bs := by simpa using hv
          obtain ⟨l, u, hk, h0, hr⟩ := boundsK_elim (P := P) (isSlice := true) h
          refine ⟨_, by simp, hk, fun σ A w hf _ => ?_⟩
          simp only [execOp, ho, hf.ev x (by simp [hx]), hx, SV.re, Instr.sliceAt, Instr.slice, Sem.run_bind, run_underlying hs, Result.andThen_ok, Option.map_none, hr σ A w hf, run_sizeOf' he, Sem.run_pure]
          congr 3
          cases a with
          | none => simp
          | some a =>
            have := moved_eq (m := cap) (sz := P.cellsOf e) h0 a
            simp only [Option.map_some, ← this]
            split <;> rfl
        case h_3 => exact h.elim
    case array n e =>
      simp only at hX
      split at hX
      case isFalse => cases hX
      case isTrue he =>
        simp only [Option.some.injEq] at hX
        subst hX
        simp only [ro, List.cons_append, List.map_cons, roY] at h
        split at h
        case h_1 k off bs hv =>
          obtain ⟨hx, rfl⟩ : ev fr x = .ptr k off ∧ (lo.toList ++ hi.toList).map (ev fr) = bs := by simpa using hv
          obtain ⟨l, u, hk, h0, hr⟩ := boundsK_elim (P := P) (isSlice := false) h
          refine ⟨_, by simp, hk, fun σ A w hf _ => ?_⟩
          simp only [execOp, ho, hf.ev x (by simp [hx]), hx, SV.re, Instr.sliceAt, Instr.sureAddr, Sem.run_bind, run_underlying hs, Result.andThen_ok, Option.map_none, hr σ A w hf, run_sizeOf' he, Sem.run_pure]
          have := moved_eq (m := n) (sz := P.cellsOf e) h0 ⟨σ k, off, none⟩
          rw [add_cell (i := moved lo.isSome n l (P.cellsOf e))] at this
          rw [this]
        case h_2 a bs hv =>
          obtain ⟨hx, rfl⟩ : ev fr x = .v (.pointer (some a)) ∧ (lo.toList ++ hi.toList).map (ev fr) = bs := by simpa using hv
          obtain ⟨l, u, hk, h0, hr⟩ := boundsK_elim (P := P) (isSlice := false) h
          refine ⟨_, by simp, hk, fun σ A w hf _ => ?_⟩
          simp only [execOp, ho, hf.ev x (by simp [hx]), hx, SV.re, Instr.sliceAt, Instr.sureAddr, Sem.run_bind, run_underlying hs, Result.andThen_ok, Option.map_none, hr σ A w hf, run_sizeOf' he, Sem.run_pure]
          rw [moved_eq (m := n) (sz := P.cellsOf e) h0 a]
        case h_3 => exact h.elim
    all_goals (simp at hX)

theorem u8s_spec : ∀ {l : List SV} {ns : List Int}, u8s l = some ns → l = (ns.map (Value.int .u8)).map .v
  | [], ns, h => by simp only [u8s, Option.some.injEq] at h; subst h; rfl
  | x :: l, ns, h => by
    unfold u8s at h
    split at h
    · rename_i h0; cases h0
    · rename_i n l' heq
      cases heq
      split at h
      · rename_i ns' hns
        cases h
        rw [u8s_spec hns]
        rfl
      · cases h
    · cases h

theorem roY_b2s {s d : TypeId} {x : Operand} {e : TypeId} (ho : o.op = .convert s d x) (hs : P.underlying s = some (.slice e)) (he : P.underlying e = some (.int .u8)) (hd : P.underlying d = some .string) (h : ro (.more .b2s [x]) (ev fr) L g K) : ∃ r, r ≠ .junk ∧ K r ∧ Yields1 P o fr L g r := by
  have key : ∀ (b off len cap : Nat) (ns : List Int) (w : World), ns.length = len → (∀ i, i < len → w.cell? ⟨b, off + i, none⟩ = some (.int .u8 (ns.getD i 0))) → (convert s d (.slice (some ⟨b, off, none⟩) len cap)).run P w = .ok (.string (bytesOfInts ns)) w :=
    fun b off len cap ns w hl hc => run_convert_bytes_arg w s e hs he b off len cap ns hl hc d hd
  simp only [ro, List.map_cons, List.map_nil, roY] at h
  split at h
  case h_1 k off n cap hv =>
    have hx : ev fr x = .slc k off n cap := by simpa using hv
    split at h
    case h_1 ty c hc =>
      obtain ⟨hb, h⟩ := ifOk_elim h
      have hle := Nat.le_of_ble_eq_true hb
      split at h
      case h_2 => exact h.elim
      case h_1 ns hns =>
        refine ⟨_, by simp, h, fun σ A w hf hR => ?_⟩
        have hsp := u8s_spec hns
        have hlen : ns.length = n := by
          have := congrArg List.length hsp
          simp [slice1] at this
          omega
        have := key (σ k) off n cap ns w hlen fun i hi => by
          rw [hR.cell hc]
          have h1 : (reL σ (slice1 c off n))[i]? = some (.int .u8 (ns.getD i 0)) := by
            rw [hsp, reL_v, List.getElem?_map, List.getElem?_eq_getElem (by omega)]
            simp [List.getD, List.getElem?_eq_getElem (show i < ns.length by omega)]
          rw [slice1, reL_take, reL_drop, List.getElem?_take, if_pos hi, List.getElem?_drop] at h1
          exact h1
        simp only [execOp, ho, hf.ev x (by simp [hx]), hx, SV.re, Sem.run_bind, this, Result.andThen_ok, Sem.run_pure]
    case h_2 ty c hc =>
      obtain ⟨hle, ns, hsp, h⟩ := h
      refine ⟨_, by simp, h, fun σ A w hf hR => ?_⟩
      have hlen : ns.length = n := by
        have := congrArg List.length hsp
        simp at this
        omega
      have := key (σ k) off n cap ns w hlen fun i hi => by
        rw [hR.cellV hc]
        have h1 : ((c.drop off).take n)[i]? = some (.int .u8 (ns.getD i 0)) := by
          rw [hsp, List.getElem?_map, List.getElem?_eq_getElem (by omega)]
          simp [List.getD, List.getElem?_eq_getElem (show i < ns.length by omega)]
        rw [List.getElem?_take, if_pos hi, List.getElem?_drop] at h1
        exact h1
      simp only [execOp, ho, hf.ev x (by simp [hx]), hx, SV.re, Sem.run_bind, this, Result.andThen_ok, Sem.run_pure]
    case h_3 => exact h.elim
  case h_2 a n cap hv =>
    have hx : ev fr x = .v (.slice (some a) n cap) := by simpa using hv
    obtain ⟨ns, hlen, ⟨hsp, c, ty, fz, hg, hc⟩, h⟩ := h
    refine ⟨_, by simp, h, fun σ A w hf hR => ?_⟩
    obtain ⟨b, off, sp⟩ := a
    simp only at hsp
    subst hsp
    have := key b off n cap ns w hlen fun i hi => by
      have h1 := hc i (by simp; omega)
      simp only [World.cell?, hR.im _ _ hg, Option.isSome_none, Bool.false_eq_true, if_false]
      rw [h1, List.getElem?_map, List.getElem?_eq_getElem (by omega)]
      simp [List.getD, List.getElem?_eq_getElem (show i < ns.length by omega)]
    simp only [execOp, ho, hf.ev x (by simp [hx]), hx, SV.re, Sem.run_bind, this, Result.andThen_ok, Sem.run_pure]
  case h_3 n cap hv =>
    have hx : ev fr x = .v (.slice none n cap) := by simpa using hv
    refine ⟨_, by simp, h, fun σ A w hf hR => ?_⟩
    have := run_convert_bytes_nil (P := P) w s e hs he n cap d hd
    simp only [execOp, ho, hf.ev x (by simp [hx]), hx, SV.re, Sem.run_bind, this, Result.andThen_ok, Sem.run_pure]
  case h_4 => exact h.elim

theorem roY_cmps {c : Call} {f : FuncId} {fn : Func} (ho : o.op = .call c) (hc : c.callee = .value (.func f)) (hf : P.funcs[f]? = some fn) (hn : fn.name = "internal/bytealg.abigen_runtime_cmpstring") (hor : fn.origin = "") (hb : fn.body.isNone) (h : ro (.more .cmps c.args.toList) (ev fr) L g K) : ∃ r, r ≠ .junk ∧ K r ∧ Yields1 P o fr L g r := by
  simp only [ro, roY] at h
  split at h
  case h_2 => exact h.elim
  case h_1 a b hv =>
    refine ⟨_, by simp, h, fun σ A w hF _ => ?_⟩
    have hargs : c.args.toList.map A.eval = [.string a, .string b] := by
      rw [ev_map hF _ (by rw [hv]; simp), hv]
      rfl
    have e1 : c.args.map A.eval = #[.string a, .string b] := by apply Array.ext'; simpa using hargs
    have hb : fn.body = none := by simpa using hb
    have h1 : Extern.findNext fn = none := by
      unfold Extern.findNext
      simp only [hn, hor]
      rw [show Extern.allNextRows.lookup "internal/bytealg.abigen_runtime_cmpstring" = none from by kernel_rfl, show Extern.allNextRows.lookup "" = none from by kernel_rfl]
      rfl
    have h2 : Extern.find fn = some Extern.BytealgCompare.compare := by
      unfold Extern.find
      simp only [hn, hor]
      rw [show Extern.allGenericRows.lookup "internal/bytealg.abigen_runtime_cmpstring" = none from by kernel_rfl, show Extern.allTypedRows.lookup "internal/bytealg.abigen_runtime_cmpstring" = none from by kernel_rfl, show Extern.allRows.lookup "internal/bytealg.abigen_runtime_cmpstring" = some Extern.BytealgCompare.compare from by kernel_rfl]
      rfl
    simp only [execOp, ho, resolve, hc, Act.eval, Deferred.ofValue, Sem.run_bind, Sem.run_pure, Result.andThen_ok, invoke, e1, SV.re]
    simp [callFunc, hf, hn, hb, h1, h2, Lib.run_compareString]

theorem ro_conv {s d : TypeId} {x : Operand} {X : XOp} (ho : o.op = .convert s d x) (hX : xop0 P (.convert s d x) = some X) (h : ro X (ev fr) L g K) : ∃ r, r ≠ .junk ∧ K r ∧ Yields1 P o fr L g r := by
  simp only [xop0] at hX
  cases hs : P.underlying s with
  | none => simp [hs] at hX
  | some sd =>
    rw [hs] at hX
    cases sd
    case int k0 =>
      simp only at hX
      cases hd : P.underlying d with
      | none => simp [hd] at hX
      | some dd =>
        rw [hd] at hX
        cases dd
        case int k =>
          simp only [Option.some.injEq] at hX
          subst hX
          simp only [ro] at h
          split at h
          case h_1 k1 n hx =>
            exact ⟨_, by simp, h, fun σ A w hf _ => by simp [execOp, ho, hf.ev x (by simp [hx]), hx, SV.re, convert, run_underlying hs, run_underlying hd, Conv.intToInt]⟩
          case h_2 => exact h.elim
        all_goals (simp at hX)
    case slice e =>
      simp only at hX
      cases he : P.underlying e with
      | none => simp [he] at hX
      | some ed =>
        rw [he] at hX
        cases ed
        case int k =>
          cases k
          case u8 =>
            simp only at hX
            cases hd : P.underlying d with
            | none => simp [hd] at hX
            | some dd =>
              rw [hd] at hX
              cases dd
              case string =>
                simp only [Option.some.injEq] at hX
                subst hX
                exact roY_b2s ho hs he hd h
              all_goals (simp at hX)
          all_goals (simp at hX)
        all_goals (simp at hX)
    all_goals (simp at hX)

theorem ro_fieldA {s : TypeId} {x : Operand} {f : Nat} {X : XOp} (ho : o.op = .fieldAddr s x f) (hX : xop0 P (.fieldAddr s x f) = some X) (h : ro X (ev fr) L g K) : ∃ r, r ≠ .junk ∧ K r ∧ Yields1 P o fr L g r := by
  simp only [xop0] at hX
  cases hs : P.underlying s with
  | none => simp [hs] at hX
  | some sd =>
    rw [hs] at hX
    cases sd
    case struct fs =>
      simp only at hX
      cases hfd : fs[f]? with
      | none => simp [hfd] at hX
      | some fd =>
        rw [hfd] at hX
        simp only at hX
        split at hX
        case isFalse => cases hX
        case isTrue hc =>
          simp only [Option.some.injEq] at hX
          subst hX
          obtain ⟨i, hi⟩ := Option.isSome_iff_exists.1 hc.1
          have hz : i.size ≠ 0 := by have := hc.2; simpa [Program.cellsOf, hi] using this
          have hp : ∀ (a : Addr) (w : World), (fieldPlace a fd).run P w = .ok (a.add fd.offset) w := by
            intro a w
            simp [fieldPlace, sizeOf, typeInfo, hi, hz]
          have exe : ∀ (A : Act) (a : Addr) (w : World), A.eval x = .pointer (some a) → (execOp A.eval o).run P w = .ok (.value (.pointer (some (a.add fd.offset)))) w := by
            intro A a w h1
            simp only [execOp, ho, h1, Instr.fieldAt, Sem.run_bind, run_underlying hs, Result.andThen_ok, hfd, Instr.sureAddr, Sem.run_pure, hp]
          simp only [ro] at h
          split at h
          case h_1 k off hx =>
            exact ⟨_, by simp, h, fun σ A w hf _ => by rw [exe A ⟨σ k, off, none⟩ w (by rw [hf.ev x (by simp [hx]), hx]; rfl), add_cell]; rfl⟩
          case h_2 a hx =>
            exact ⟨_, by simp, h, fun σ A w hf _ => by rw [exe A a w (by rw [hf.ev x (by simp [hx]), hx]; rfl)]; rfl⟩
          case h_3 => exact h.elim
    all_goals (simp at hX)

theorem part_val1 {t : TypeId} {agg : Bool} {l : List SV} {off n : Nat} (hi : (P.info? t).isSome) (hu : (P.underlying t).isSome) (ha : aggT P t = agg) (hn : agg = true → n = P.cellsOf t) (_hn1 : agg = false → n = 1) (_hle : off + n ≤ l.length)
    (h : val1 agg (slice1 l off n) K) : ∃ r, r ≠ .junk ∧ K r ∧ ∀ σ w, (part t (reL σ l).toArray off).run P w = .ok (r.re σ) w := by
  rcases val1_elim h with ⟨ht, hk⟩ | ⟨ht, y, hy, hj, hk⟩
  · refine ⟨_, by simp, hk, fun σ w => ?_⟩
    rw [run_part_agg hi (by rw [ha, ht]) _ off w, ← hn ht, ← reL_drop, ← reL_take]
    rfl
  · refine ⟨y, hj, hk, fun σ w => ?_⟩
    refine run_part_one hu (by rw [ha, ht]) _ off _ w ?_
    have h0 : (slice1 l off n)[0]? = some y := by rw [hy]; rfl
    have := get_slice1 h0
    simp only [Nat.add_zero] at this
    rw [reL_map, List.getElem?_map, this]
    rfl

theorem ro_fieldV {s : TypeId} {x : Operand} {f : Nat} {X : XOp} (ho : o.op = .field s x f) (hX : xop0 P (.field s x f) = some X) (h : ro X (ev fr) L g K) : ∃ r, r ≠ .junk ∧ K r ∧ Yields1 P o fr L g r := by
  simp only [xop0] at hX
  cases hs : P.underlying s with
  | none => simp [hs] at hX
  | some sd =>
    rw [hs] at hX
    cases sd
    case struct fs =>
      simp only at hX
      cases hfd : fs[f]? with
      | none => simp [hfd] at hX
      | some fd =>
        rw [hfd] at hX
        simp only at hX
        split at hX
        case isFalse => cases hX
        case isTrue hc =>
          simp only [Option.some.injEq] at hX
          subst hX
          simp only [ro] at h
          split at h
          case h_2 => exact h.elim
          case h_1 l hx =>
            obtain ⟨hle, h⟩ := ifle_elim h
            obtain ⟨r, hj, hk, hr⟩ := part_val1 (P := P) (t := fd.type) hc.1 hc.2 rfl (fun ha => by simp [ha]) (fun ha => by simp [ha]) hle h
            refine ⟨r, hj, hk, fun σ A w hf _ => ?_⟩
            simp only [execOp, ho, hf.ev x (by simp [hx]), hx, SV.re, Instr.field, Sem.run_bind, run_underlying hs, Result.andThen_ok, hfd, asAgg, Sem.run_pure, hr]
    all_goals (simp at hX)

theorem ro_indexA {t : TypeId} {x i : Operand} {X : XOp} (ho : o.op = .indexAddr t x i) (hX : xop0 P (.indexAddr t x i) = some X) (h : ro X (ev fr) L g K) : ∃ r, r ≠ .junk ∧ K r ∧ Yields1 P o fr L g r := by
  simp only [xop0] at hX
  cases hs : P.underlying t with
  | none => simp [hs] at hX
  | some sd =>
    rw [hs] at hX
    cases sd
    case slice e =>
      simp only at hX
      split at hX
      case isFalse => cases hX
      case isTrue he =>
        simp only [Option.some.injEq] at hX
        subst hX
        simp only [ro] at h
        split at h
        case h_2 => exact h.elim
        case h_1 k n hi =>
          split at h
          case h_1 a len cap hx =>
            obtain ⟨hb, ad, rfl, hk⟩ := h
            refine ⟨_, by simp, hk, fun σ A w hf _ => ?_⟩
            simp only [execOp, ho, hf.ev x (by simp [hx]), hx, hf.ev i (by simp [hi]), hi, SV.re, Instr.indexAt, asIntOf, Sem.run_bind, Sem.run_pure, run_underlying hs, Result.andThen_ok, hb, and_self, if_true, run_sizeOf' he]
          case h_2 k off len cap hx =>
            obtain ⟨hb, hk⟩ := h
            refine ⟨_, by simp, hk, fun σ A w hf _ => ?_⟩
            simp only [execOp, ho, hf.ev x (by simp [hx]), hx, hf.ev i (by simp [hi]), hi, SV.re, Instr.indexAt, asIntOf, Sem.run_bind, Sem.run_pure, run_underlying hs, Result.andThen_ok, hb, and_self, if_true, run_sizeOf' he, add_cell]
          case h_3 => exact h.elim
    case array m e =>
      simp only at hX
      split at hX
      case isFalse => cases hX
      case isTrue he =>
        simp only [Option.some.injEq] at hX
        subst hX
        simp only [ro] at h
        split at h
        case h_2 => exact h.elim
        case h_1 k n hi =>
          split at h
          case h_1 k off hx =>
            obtain ⟨hb, hk⟩ := h
            refine ⟨_, by simp, hk, fun σ A w hf _ => ?_⟩
            simp only [execOp, ho, hf.ev x (by simp [hx]), hx, hf.ev i (by simp [hi]), hi, SV.re, Instr.indexAt, asIntOf, Sem.run_bind, Sem.run_pure, run_underlying hs, Instr.sureAddr, Result.andThen_ok, hb, and_self, if_true, run_sizeOf' he, add_cell]
          case h_2 a hx =>
            obtain ⟨hb, hk⟩ := h
            refine ⟨_, by simp, hk, fun σ A w hf _ => ?_⟩
            simp only [execOp, ho, hf.ev x (by simp [hx]), hx, hf.ev i (by simp [hi]), hi, SV.re, Instr.indexAt, asIntOf, Sem.run_bind, Sem.run_pure, run_underlying hs, Instr.sureAddr, Result.andThen_ok, hb, and_self, if_true, run_sizeOf' he]
          case h_3 => exact h.elim
    all_goals (simp at hX)

theorem ro_index {t : TypeId} {x i : Operand} {X : XOp} (ho : o.op = .index t x i) (hX : xop0 P (.index t x i) = some X) (h : ro X (ev fr) L g K) : ∃ r, r ≠ .junk ∧ K r ∧ Yields1 P o fr L g r := by
  simp only [xop0] at hX
  cases hs : P.underlying t with
  | none => simp [hs] at hX
  | some sd =>
    rw [hs] at hX
    cases sd
    case array m e =>
      simp only at hX
      split at hX
      case isFalse => cases hX
      case isTrue he =>
        simp only [Option.some.injEq] at hX
        subst hX
        simp only [ro] at h
        split at h
        case h_2 => exact h.elim
        case h_1 k n hi =>
          split at h
          case h_2 => exact h.elim
          case h_1 l hx =>
            obtain ⟨hb, h⟩ := h
            obtain ⟨hle, h⟩ := ifle_elim h
            obtain ⟨r, hj, hk, hr⟩ := part_val1 (P := P) (t := e) he.1 he.2.1 rfl (fun _ => rfl) he.2.2 hle h
            refine ⟨r, hj, hk, fun σ A w hf _ => ?_⟩
            simp only [execOp, ho, hf.ev x (by simp [hx]), hx, hf.ev i (by simp [hi]), hi, SV.re, Instr.index, asIntOf, Sem.run_bind, Sem.run_pure, run_underlying hs, Result.andThen_ok, hb, and_self, if_true, run_sizeOf' he.1, hr]
    case string =>
      simp only [Option.some.injEq] at hX
      subst hX
      simp only [ro] at h
      split at h
      case h_2 => exact h.elim
      case h_1 k n hi =>
        split at h
        case h_2 => exact h.elim
        case h_1 s hx =>
          obtain ⟨hb, hk⟩ := h
          refine ⟨_, by simp, hk, fun σ A w hf _ => ?_⟩
          have hlt : n.toNat < s.size := by omega
          have hget : s[n.toNat]? = some (s.data.toList.getD n.toNat 0) := by
            rw [getElem?_pos s n.toNat hlt]
            congr 1
            have h1 : n.toNat < s.data.size := hlt
            have h2 : s.data.toList.getD n.toNat 0 = s.data[n.toNat] := by
              simp [List.getD, Array.getElem?_eq_getElem h1]
            rw [h2]
            rfl
          simp only [execOp, ho, hf.ev x (by simp [hx]), hx, hf.ev i (by simp [hi]), hi, SV.re, Instr.index, asIntOf, Sem.run_bind, Sem.run_pure, run_underlying hs, Result.andThen_ok, hb.1, if_true, hget]
    all_goals (simp at hX)

theorem get_some {l : List SV} {i : Nat} (h : get l i ≠ .junk) : l[i]? = some (get l i) := by
  induction l generalizing i with
  | nil => simp [get] at h
  | cons x l ih =>
    cases i with
    | zero => rfl
    | succ i => simpa [get] using ih (by simpa [get] using h)

theorem ro_ext {x : Operand} {i : Nat} (ho : o.op = .extract x i) (h : ro (.ext x i) (ev fr) L g K) : ∃ r, r ≠ .junk ∧ K r ∧ Yields1 P o fr L g r := by
  simp only [ro] at h
  split at h
  case h_1 l hx =>
    obtain ⟨hj, hk⟩ := nj_elim h
    refine ⟨_, hj, hk, fun σ A w hf _ => ?_⟩
    have := get_some hj
    simp [execOp, ho, hf.ev x (by simp [hx]), hx, SV.re, Instr.extract, reL_map, this]
  case h_2 c hx =>
    split at h
    case h_1 y hy => exact ⟨_, by simp, h, fun σ A w hf _ => by simp [execOp, ho, hf.ev x (by simp [hx]), hx, SV.re, Instr.extract, hy]⟩
    case h_2 => exact h.elim
  case h_3 => exact h.elim

theorem ro_mkI {t : TypeId} {x : Operand} {X : XOp} (ho : o.op = .makeInterface t x) (hX : xop0 P (.makeInterface t x) = some X) (h : ro X (ev fr) L g K) : ∃ r, r ≠ .junk ∧ K r ∧ Yields1 P o fr L g r := by
  simp only [xop0] at hX
  have hh : ∀ (v : Value) w, X = .mkI t x ∧ (Instr.makeInterface t v).run P w = .ok (.iface t v) w := by
    intro v w
    cases hs : P.underlying t with
    | none => simp [hs] at hX
    | some d =>
      rw [hs] at hX
      cases d <;> simp at hX <;> exact ⟨hX.symm, by simp [Instr.makeInterface, run_underlying hs]⟩
  have h0 := (hh (.bool true) default).1
  subst h0
  simp only [ro] at h
  split at h
  case h_1 y hx =>
    exact ⟨_, by simp, h, fun σ A w hf _ => by simp [execOp, ho, hf.ev x (by simp [hx]), hx, SV.re, (hh y w).2]⟩
  case h_2 => exact h.elim
  case h_3 y hy hy2 =>
    refine ⟨_, by simp, h, fun σ A w hf _ => ?_⟩
    have hj : ev fr x ≠ .junk := fun e => hy2 e
    simp [execOp, ho, hf.ev x hj, SV.re, (hh _ w).2]

theorem ro_mkF {fn : Fn} {a b : Array Operand} {X : XOp} (ho : o.op = .makeFunc fn a b) (hX : xop0 P (.makeFunc fn a b) = some X) (h : ro X (ev fr) L g K) : ∃ r, r ≠ .junk ∧ K r ∧ Yields1 P o fr L g r := by
  simp only [xop0] at hX
  cases fn <;> simp at hX
  subst hX
  simp only [ro] at h
  obtain ⟨h1, h⟩ := njL_elim h
  obtain ⟨h2, h⟩ := njL_elim h
  refine ⟨_, by simp, h, fun σ A w hf _ => ?_⟩
  have e1 : a.map A.eval = (reL σ (a.toList.map (ev fr))).toArray := by apply Array.ext'; simp [← ev_map hf _ h1]
  have e2 : b.map A.eval = (reL σ (b.toList.map (ev fr))).toArray := by apply Array.ext'; simp [← ev_map hf _ h2]
  simp [execOp, ho, Instr.makeFunc, e1, e2, SV.re]

theorem ro_len {c : Call} {X : XOp} (ho : o.op = .call c) (hc : c.callee = .builtin .len) (hX : xop0 P (.call c) = some X) (h : ro X (ev fr) L g K) : ∃ r, r ≠ .junk ∧ K r ∧ Yields1 P o fr L g r := by
  obtain ⟨cal, ⟨args⟩, ⟨tys⟩⟩ := c
  simp only at hc
  subst hc
  simp only [xop0] at hX
  match args, tys, hX with
  | [x], [t], hX =>
    simp only at hX
    cases hu : P.underlying t with
    | none => simp [hu] at hX
    | some d =>
      rw [hu] at hX
      cases d <;> simp at hX
      · subst hX
        simp only [ro] at h
        split at h
        case h_1 s hx =>
          exact ⟨_, by simp, h, fun σ A w hf _ => by simp [execOp, ho, resolve, invoke, builtin, Builtin.len_, run_underlying hu, hf.ev x (by simp [hx]), hx, SV.re, goInt]⟩
        case h_2 => exact h.elim
      · subst hX
        simp only [ro] at h
        split at h
        case h_1 a n cap hx =>
          exact ⟨_, by simp, h, fun σ A w hf _ => by simp [execOp, ho, resolve, invoke, builtin, Builtin.len_, run_underlying hu, hf.ev x (by simp [hx]), hx, SV.re, goInt]⟩
        case h_2 k off n cap hx =>
          exact ⟨_, by simp, h, fun σ A w hf _ => by simp [execOp, ho, resolve, invoke, builtin, Builtin.len_, run_underlying hu, hf.ev x (by simp [hx]), hx, SV.re, goInt]⟩
        case h_3 => exact h.elim

theorem roY_nilC {x : Operand} (ho : o.op = .nilCheck x) (h : ro (.more .nilC [x]) (ev fr) L g K) : ∃ r, r ≠ .junk ∧ K r ∧ Yields1 P o fr L g r := by
  simp only [ro, roY, List.map_cons, List.map_nil] at h
  split at h
  case h_1 k off hv =>
    have hx : ev fr x = .ptr k off := by simpa using hv
    exact ⟨_, by simp, h, fun σ A w hf _ => by simp [execOp, ho, hf.ev x (by simp [hx]), hx, SV.re]⟩
  case h_2 a hv =>
    have hx : ev fr x = .v (.pointer (some a)) := by simpa using hv
    exact ⟨_, by simp, h, fun σ A w hf _ => by simp [execOp, ho, hf.ev x (by simp [hx]), hx, SV.re]⟩
  case h_3 => exact h.elim

theorem roY_tassert {x : Operand} {st t : TypeId} {c : Bool} {X : XOp} (ho : o.op = .typeAssert x st t c) (hX : xop0 P (.typeAssert x st t c) = some X) (h : ro X (ev fr) L g K) : ∃ r, r ≠ .junk ∧ K r ∧ Yields1 P o fr L g r := by
  cases c with
  | false => simp [xop0] at hX
  | true =>
    simp only [xop0] at hX
    cases hi : P.info? t with
    | none => simp [hi] at hX
    | some i =>
      rw [hi] at hX
      simp only at hX
      cases hz : i.zero with
      | none => simp [hz] at hX
      | some z =>
        rw [hz] at hX
        simp only at hX
        have hz' : ∀ w, (zeroValue t).run P w = .ok z w := fun w => by simp [zeroValue, typeInfo, hi, hz]
        cases hu : P.underlying t with
        | none => simp [hu] at hX
        | some d =>
          rw [hu] at hX
          by_cases hd : ∃ want, d = .interface want
          · obtain ⟨want, rfl⟩ := hd
            simp at hX
          · have hX' : X = .more (.tass t z) [x] := by
              cases d <;> first | exact absurd ⟨_, rfl⟩ hd | (simp only [Option.some.injEq] at hX; exact hX.symm)
            clear hX
            subst hX'
            have key : ∀ (u : TypeId) (y : Value) (w : World), (Instr.typeAssert (.iface u y) st t true).run P w = .ok (if u = t then .tuple #[y, .bool true] else .tuple #[z, .bool false]) w := by
              intro u y w
              by_cases hut : u = t
              · rw [if_pos hut]
                cases d <;> first | exact absurd ⟨_, rfl⟩ hd | simp only [Instr.typeAssert, Sem.run_bind, run_underlying hu, Result.andThen_ok, if_pos hut, if_true, Sem.run_pure]
              · rw [if_neg hut]
                cases d <;> first | exact absurd ⟨_, rfl⟩ hd | simp only [Instr.typeAssert, Sem.run_bind, run_underlying hu, Result.andThen_ok, if_neg hut, if_true, Sem.run_pure, hz']
            simp only [ro, roY, List.map_cons, List.map_nil] at h
            split at h
            case h_1 hv =>
              have hx : ev fr x = .v .nilIface := by simpa using hv
              refine ⟨_, by simp, h, fun σ A w hf _ => ?_⟩
              cases d <;> first | exact absurd ⟨_, rfl⟩ hd | simp only [execOp, ho, hf.ev x (by simp [hx]), hx, SV.re, reL, Instr.typeAssert, Sem.run_bind, run_underlying hu, Result.andThen_ok, if_true, hz', Sem.run_pure]
            case h_2 u y hv =>
              have hx : ev fr x = .iface u y := by simpa using hv
              split at h
              · rename_i hb
                have := Nat.eq_of_beq_eq_true hb
                exact ⟨_, by simp, h, fun σ A w hf _ => by simp only [execOp, ho, hf.ev x (by simp [hx]), hx, SV.re, reL, Sem.run_bind, key u (y.re σ) w, if_pos this, Result.andThen_ok, Sem.run_pure]⟩
              · rename_i hb
                have : u ≠ t := fun e => by rw [e, Nat.beq_refl] at hb; cases hb
                exact ⟨_, by simp, h, fun σ A w hf _ => by simp only [execOp, ho, hf.ev x (by simp [hx]), hx, SV.re, reL, Sem.run_bind, key u (y.re σ) w, if_neg this, Result.andThen_ok, Sem.run_pure]⟩
            case h_3 u y hv =>
              have hx : ev fr x = .v (.iface u y) := by simpa using hv
              split at h
              · rename_i hb
                have := Nat.eq_of_beq_eq_true hb
                exact ⟨_, by simp, h, fun σ A w hf _ => by simp only [execOp, ho, hf.ev x (by simp [hx]), hx, SV.re, reL, Sem.run_bind, key u y w, if_pos this, Result.andThen_ok, Sem.run_pure]⟩
              · rename_i hb
                have : u ≠ t := fun e => by rw [e, Nat.beq_refl] at hb; cases hb
                exact ⟨_, by simp, h, fun σ A w hf _ => by simp only [execOp, ho, hf.ev x (by simp [hx]), hx, SV.re, reL, Sem.run_bind, key u y w, if_neg this, Result.andThen_ok, Sem.run_pure]⟩
            case h_4 => exact h.elim

/-- **What an operation that only reads yields symbolically it yields in the model.** -/
theorem ro_sound0 {X : XOp} (hX : xop0 P o.op = some X) (h : ro X (ev fr) L g K) : ∃ r, r ≠ .junk ∧ K r ∧ Yields1 P o fr L g r := by
  cases ho : o.op <;> rw [ho] at hX
  case move x =>
    simp only [xop0, Option.some.injEq] at hX
    subst hX
    obtain ⟨dst, op, ty, pos, af, gd⟩ := o
    exact ro_mov (.inl ho) h
  case assign x =>
    simp only [xop0, Option.some.injEq] at hX
    subst hX
    exact h.elim
  case nilCheck x => simp only [xop0, Option.some.injEq] at hX; subst hX; exact roY_nilC ho h
  case typeAssert x st t c => exact roY_tassert ho hX h
  case pick c a b => simp only [xop0, Option.some.injEq] at hX; subst hX; exact ro_pick ho h
  case build t ps => exact ro_build ho hX h
  case load t a => exact ro_load ho hX h
  case binOp op t x y yt => exact ro_bin ho hX h
  case unOp op t x => simp only [xop0, Option.some.injEq] at hX; subst hX; exact ro_un ho h
  case convert s d x => exact ro_conv ho hX h
  case fieldAddr s x f => exact ro_fieldA ho hX h
  case field s x f => exact ro_fieldV ho hX h
  case indexAddr t x i => exact ro_indexA ho hX h
  case index t x i => exact ro_index ho hX h
  case extract x i => simp only [xop0, Option.some.injEq] at hX; subst hX; exact ro_ext ho h
  case makeInterface t x => exact ro_mkI ho hX h
  case makeFunc fn a b => exact ro_mkF ho hX h
  case slice t x lo hi mx =>
    cases mx with
    | none => exact roY_slice ho hX h
    | some m => exfalso; simp [xop0] at hX
  case call c =>
    cases hc : c.callee with
    | builtin b =>
      by_cases hb : b = .len
      · subst hb; exact ro_len ho hc hX h
      · exfalso
        simp only [xop0, hc] at hX
        cases b
        case len => exact hb rfl
        case append =>
          simp only at hX
          have key : ∀ z args, some (XOp.eff z args) = some X → False := fun z args e => by
            simp only [Option.some.injEq] at e
            subst e
            exact h
          repeat' split at hX
          all_goals first
            | exact key _ _ hX
            | cases hX
        all_goals (cases hX)
    | value f =>
      simp only [xop0, hc] at hX
      cases f with
      | func f =>
        simp only at hX
        split at hX
        · rename_i fn hf
          split at hX
          · rename_i hn
            simp only [Option.some.injEq] at hX
            subst hX
            exact roY_cmps ho hc hf hn.1 hn.2.1 hn.2.2 h
          · exfalso
            split at hX
            · cases hX
            · simp only [Option.some.injEq] at hX; subst hX; exact h
        · cases hX
      | _ => exfalso; simp only [Option.some.injEq] at hX; subst hX; exact h
    | invoke r m => exfalso; simp [xop0, hc] at hX
  case alloc t =>
    exfalso
    simp only [xop0] at hX
    split at hX
    · rw [Option.map_eq_some_iff] at hX; obtain ⟨z, _, rfl⟩ := hX; exact h
    · cases hX
  case box t x => exfalso; simp only [xop0, Option.some.injEq] at hX; subst hX; exact h
  case store t a x =>
    exfalso
    simp only [xop0] at hX
    split at hX
    · simp only [Option.some.injEq] at hX; subst hX; exact h
    · cases hX
  case buildSlice t n ps =>
    exfalso
    simp only [xop0] at hX
    repeat' split at hX
    all_goals first | (simp only [Option.some.injEq] at hX; subst hX; exact h) | cases hX
  all_goals (simp [xop0] at hX)

theorem ro_sound {X : XOp} (hX : xop P o.op = some X) (h : ro X (ev fr) L g K) : ∃ r, r ≠ .junk ∧ K r ∧ Yields1 P o fr L g r := by
  rcases xop_cases hX with h1 | rfl | ⟨as, rfl⟩
  · exact ro_sound0 h1 h
  · exact h.elim
  · exact h.elim

end
end Go.Sx
