/- A symbolic executor of my own, second design, part 2: operations that only read, or make one block: what they look at, what they yield. Conditions: none; it speaks of any program. -/
import Derived.Test.YtfagdcpfebghoaaDoorTy1
namespace Go.Sx

/-- The operands of an operation. -/
def XOp.args : XOp → List Operand
  | .more _ args => args
  | .eff _ args => args
  | .prim _ args => args
  | .mov x => [x]
  | .pick c a b => [c, a, b]
  | .alloc _ _ => []
  | .box _ x => [x]
  | .build _ parts => parts.map fun p => p.2.2
  | .bslice _ _ _ parts => parts.map fun p => p.2.2
  | .load _ _ a => [a]
  | .store _ a x => [a, x]
  | .bin _ x y => [x, y]
  | .eqB _ x y => [x, y]
  | .eqAgg _ _ x y => [x, y]
  | .un _ x => [x]
  | .conv _ x => [x]
  | .fieldA _ x => [x]
  | .fieldV _ _ _ x => [x]
  | .indexS _ x i => [x, i]
  | .indexP _ _ x i => [x, i]
  | .indexV _ _ _ x i => [x, i]
  | .indexStr x i => [x, i]
  | .ext x _ => [x]
  | .call _ args => args
  | .callv x args => x :: args
  | .len _ x => [x]
  | .mkI _ x => [x]
  | .mkF _ a b => a ++ b

theorem map_congr_parts {e e' : Operand → SV} : ∀ (l : List (Nat × Nat × Operand)), (∀ x ∈ l.map (fun p => p.2.2), e x = e' x) → (l.map fun p => (p.1, p.2.1, e p.2.2)) = l.map fun p => (p.1, p.2.1, e' p.2.2) := by
  intro l h
  apply List.map_congr_left
  intro p hp
  rw [h p.2.2 (List.mem_map_of_mem hp)]
theorem map_congr_ev {e e' : Operand → SV} {l : List Operand} (h : ∀ x ∈ l, e x = e' x) : l.map e = l.map e' := List.map_congr_left h

/-- What only reads looks at its operands alone. -/
theorem ro_congr {X : XOp} {e e' : Operand → SV} {L : List Chunk} {g : G} {K : SV → Prop} (h : ∀ x ∈ X.args, e x = e' x) : ro X e L g K = ro X e' L g K := by
  cases X
  case more y args => simp only [ro, map_congr_ev (l := args) h]
  case eff => rfl
  case build zs parts => simp only [ro, map_congr_parts parts h]
  case bslice => rfl
  case mkF f a b => simp only [ro, map_congr_ev (l := a) (fun x hx => h x (List.mem_append_left _ hx)), map_congr_ev (l := b) (fun x hx => h x (List.mem_append_right _ hx))]
  case call => rfl
  case callv => rfl
  case prim => rfl
  all_goals
    simp only [XOp.args, List.mem_cons, List.not_mem_nil, or_false, forall_eq_or_imp, forall_eq] at h
    simp only [ro, h]

/-- The blocks at hand that an operation that only reads looks at. -/
def XOp.looks (X : XOp) (e : Operand → SV) : List Nat :=
  match X with
  | .load _ _ a => match e a with
    | .ptr k _ => [k]
    | _ => []
  | .more .b2s args => match args.map e with
    | [.slc k _ _ _] => [k]
    | _ => []
  | _ => []

theorem ro_mem {X : XOp} {e : Operand → SV} {L L' : List Chunk} {g : G} {K : SV → Prop} (h : ∀ k ∈ X.looks e, L[k]? = L'[k]?) : ro X e L g K = ro X e L' g K := by
  cases X
  case more y args =>
    cases y
    case b2s =>
      simp only [ro, XOp.looks] at h ⊢
      generalize args.map e = vs at h ⊢
      simp only [roY]
      split
      · simp only [List.mem_singleton, forall_eq] at h
        simp only [h]
      all_goals rfl
    all_goals rfl
  case load agg n a =>
    simp only [ro, XOp.looks] at h ⊢
    cases ha : e a
    case ptr k off =>
      rw [ha] at h
      simp only [List.mem_singleton, forall_eq] at h
      simp only [h]
    case v y =>
      cases y
      case pointer p => cases p <;> rfl
      all_goals rfl
    all_goals rfl
  all_goals rfl

theorem newRow_run {P : Program} {w : World} (t : TypeId) (c : Array Value) : (newRow t c).run P w = .ok ⟨w.heap.size, 0, none⟩ { w with heap := w.heap.push (.cells c t (0, 0)) } := by
  simp [newRow]

/-- The block that an operation makes, and what it yields where the block is k. -/
def mk (X : XOp) (e : Operand → SV) (k : Nat) : Option (Chunk × SV) :=
  match X with
  | .alloc t zs => some (.cells t (zs.map .v), .ptr k 0)
  | .box t x => match isJunk (e x) with
    | true => none
    | false => some (.cells t (e x).cells, .ptr k 0)
  | .bslice t n zs parts => match fillS (zs.map .v) (parts.map fun p => (p.1, p.2.1, e p.2.2)) with
    | some l => some (.cells t l, .slc k 0 n n)
    | none => none
  | _ => none

/-- What running such an operation does. -/
def Makes (P : Program) (o : Oper) (fr : List SV) (c : Chunk) (k : Nat) (r : SV) : Prop :=
  ∀ (σ : Nat → Nat) (a : Act) (w : World), FR σ fr a.tmps → ∃ ob v, c.obj σ = some ob ∧ (execOp a.eval o).run P w = .ok (.value v) { w with heap := w.heap.push ob } ∧ ∀ σ' : Nat → Nat, σ' k = w.heap.size → v = r.re σ'

theorem mk_alloc {P : Program} {o : Oper} {fr : List SV} {t : TypeId} {X : XOp} {k : Nat} {c : Chunk} {r : SV} (ho : o.op = .alloc t) (hX : xop0 P (.alloc t) = some X) (h : mk X (ev fr) k = some (c, r)) : Makes P o fr c k r := by
  simp only [xop0] at hX
  cases hi : P.info? t with
  | none => simp [hi] at hX
  | some i =>
    rw [hi] at hX
    simp only [Option.map_eq_some_iff] at hX
    obtain ⟨z, hz, rfl⟩ := hX
    simp only [mk, Option.some.injEq, Prod.mk.injEq] at h
    obtain ⟨rfl, rfl⟩ := h
    intro σ a w _
    have hz' : (zeroValue t).run P w = .ok z w := by simp [zeroValue, typeInfo, hi, hz]
    refine ⟨.cells z.cells t (0, 0), .pointer (some ⟨w.heap.size, 0, none⟩), by simp [Chunk.obj, reL_v], ?_, fun σ' e => by simp [SV.re, e]⟩
    simp only [execOp, ho, Instr.alloc, Sem.run_bind, hz', Result.andThen_ok, newVar, newRow_run, Sem.run_pure]

theorem mk_box {P : Program} {o : Oper} {fr : List SV} {t : TypeId} {x : Operand} {k : Nat} {c : Chunk} {r : SV} (ho : o.op = .box t x) (h : mk (.box t x) (ev fr) k = some (c, r)) : Makes P o fr c k r := by
  simp only [mk] at h
  cases hb : isJunk (ev fr x) with
  | true => rw [hb] at h; cases h
  | false =>
    rw [hb] at h
    simp only [Option.some.injEq, Prod.mk.injEq] at h
    obtain ⟨rfl, rfl⟩ := h
    have hj : ev fr x ≠ .junk := by
      intro e
      rw [e] at hb
      cases hb
    intro σ a w hf
    have hev := hf.ev x hj
    have hcl := cells_re σ _ hj
    refine ⟨.cells ((ev fr x).re σ).cells t (0, 0), .pointer (some ⟨w.heap.size, 0, none⟩), by simp only [Chunk.obj, ← hcl], ?_, fun σ' e => by simp [SV.re, e]⟩
    simp only [execOp, ho, Instr.box, Sem.run_bind, newVar, newRow_run, Result.andThen_ok, Sem.run_pure, hev]

theorem mk_bslice {P : Program} {o : Oper} {fr : List SV} {t : TypeId} {n : Nat} {ps : Array (Nat × Operand)} {X : XOp} {k : Nat} {c : Chunk} {r : SV} (ho : o.op = .buildSlice t n ps) (hX : xop0 P (.buildSlice t n ps) = some X) (h : mk X (ev fr) k = some (c, r)) : Makes P o fr c k r := by
  simp only [xop0] at hX
  cases hu : P.underlying t with
  | none => simp [hu] at hX
  | some d =>
    rw [hu] at hX
    cases d
    case slice e =>
      simp only at hX
      cases hi : P.info? e with
      | none => simp [hi] at hX
      | some i =>
        rw [hi] at hX
        simp only at hX
        cases hz : i.zero with
        | none => simp [hz] at hX
        | some z =>
          rw [hz] at hX
          simp only at hX
          split at hX
          case isFalse => cases hX
          case isTrue hc =>
            simp only [Option.some.injEq] at hX
            subst hX
            simp only [mk] at h
            split at h
            case h_2 => cases h
            case h_1 l hf =>
              simp only [Option.some.injEq, Prod.mk.injEq] at h
              obtain ⟨rfl, rfl⟩ := h
              intro σ a w hF
              have hnj : ∀ p ∈ ps.toList, ev fr p.2 ≠ .junk := fun p hp => by
                have := fillS_nj _ _ _ hf (p.1 * i.size, i.size, ev fr p.2) (List.mem_map.2 ⟨(p.1 * i.size, i.size, p.2), List.mem_map.2 ⟨p, hp, rfl⟩, rfl⟩)
                exact this
              have hfill := fill_of (σ := σ) (place := fun j => some (j * i.size, i.size)) (ps.toList.map fun p => (p.1, a.eval p.2)) (((ps.toList.map fun p => (p.1 * i.size, i.size, p.2))).map fun p => (p.1, p.2.1, ev fr p.2.2)) _ l (by
                simp only [List.map_map, Function.comp_def]
                apply List.map_congr_left
                intro p hp
                simp [hF.ev p.2 (hnj p hp)]) hf
              rw [reL_v] at hfill
              refine ⟨.cells (reL σ l).toArray e (0, 0), .slice (some ⟨w.heap.size, 0, none⟩) n n, rfl, ?_, fun σ' e' => by simp [SV.re, e']⟩
              have hz' : (zeroValue e).run P w = .ok z w := by simp [zeroValue, typeInfo, hi, hz]
              have hs : (sizeOf e).run P w = .ok i.size w := by simp [sizeOf, typeInfo, hi]
              have harr : (ps.map fun (i, x) => (i, a.eval x)).toList = ps.toList.map fun p => (p.1, a.eval p.2) := by simp
              have hrange : (Array.range (n * i.size)).map (fun j => z.cells[j % z.cells.size]!) = ((List.range (n * i.size)).map fun j => z.cells[j % z.cells.size]!).toArray := by
                apply Array.ext'; simp
              simp only [execOp, ho, Instr.buildSlice, Sem.run_bind, run_underlying hu, Result.andThen_ok, hs, harr]
              rw [if_neg (by omega)]
              simp only [Sem.run_bind, if_neg hc.2.1, hz', Result.andThen_ok, Sem.run_pure, hrange, hfill, newRow_run]
    all_goals (simp at hX)

/-- The slots that an operation names. -/
def slotsOf : List Operand → List Nat
  | [] => []
  | .tmp t :: l => t :: slotsOf l
  | _ :: l => slotsOf l
def XOp.slots (X : XOp) : List Nat := slotsOf X.args

/-- A frame of which only some slots are known. -/
def selF (p : Nat → Bool) : Nat → List SV → List SV
  | _, [] => []
  | i, x :: l => (match p i with | true => x | false => .junk) :: selF p (i + 1) l
theorem selF_length (p : Nat → Bool) : ∀ (l : List SV) (i : Nat), (selF p i l).length = l.length
  | [], _ => rfl
  | x :: l, i => by simp [selF, selF_length p l]
theorem get_selF (p : Nat → Bool) : ∀ (l : List SV) (i t : Nat), get (selF p i l) t = if p (i + t) then get l t else .junk
  | [], i, t => by simp [selF, get]
  | x :: l, i, 0 => by
    simp only [selF, get, Nat.add_zero]
    cases p i <;> simp
  | x :: l, i, t + 1 => by
    have := get_selF p l (i + 1) t
    simpa only [selF, get, show i + (t + 1) = i + 1 + t by omega] using this

theorem mem_slotsOf {t : Nat} : ∀ {l : List Operand}, Operand.tmp t ∈ l → t ∈ slotsOf l
  | x :: l, h => by
    rcases List.mem_cons.1 h with h | h
    · subst h; simp [slotsOf]
    · have := mem_slotsOf h
      cases x <;> simp [slotsOf, this]

theorem ev_selF {X : XOp} {fr : List SV} {p : Nat → Bool} (hts : ∀ t, t ∈ X.slots → p t = true) : ∀ x ∈ X.args, ev fr x = ev (selF p 0 fr) x := by
  intro x hx
  cases x with
  | tmp t =>
    have := hts t (mem_slotsOf hx)
    simp only [ev, get_selF, Nat.zero_add]
    rw [if_pos this]
  | _ => rfl

/-- A memory of which only some blocks are known. -/
def selL (p : Nat → Bool) : Nat → List Chunk → List Chunk
  | _, [] => []
  | i, c :: l => (match p i with | true => c | false => .gone) :: selL p (i + 1) l
theorem selL_length (p : Nat → Bool) : ∀ (l : List Chunk) (i : Nat), (selL p i l).length = l.length
  | [], _ => rfl
  | x :: l, i => by simp [selL, selL_length p l]
theorem get_selL (p : Nat → Bool) : ∀ (l : List Chunk) (i k : Nat), (selL p i l)[k]? = if p (i + k) then l[k]? else (l[k]?).map fun _ => Chunk.gone
  | [], i, k => by simp [selL]
  | x :: l, i, 0 => by
    simp only [selL, Nat.add_zero]
    cases p i <;> simp
  | x :: l, i, k + 1 => by
    have := get_selL p l (i + 1) k
    simpa only [selL, List.getElem?_cons_succ, show i + (k + 1) = i + 1 + k by omega] using this

/-- What an operation that only reads or makes one block comes to: what it yields, and the block that it makes (at the place k). -/
def lt (X : XOp) (e : Operand → SV) (L : List Chunk) (g : G) (k : Nat) (K : SV → Option Chunk → Prop) : Prop :=
  match X with
  | .alloc t zs => K (.ptr k 0) (some (.cells t (zs.map .v)))
  | .box t x => nj (e x) fun y => K (.ptr k 0) (some (.cells t y.cells))
  | .bslice t n zs parts => match fillS (zs.map .v) (parts.map fun p => (p.1, p.2.1, e p.2.2)) with
    | some l => K (.slc k 0 n n) (some (.cells t l))
    | none => False
  | X => ro X e L g fun r => K r none

def LRun (P : Program) (o : Oper) (frI : List SV) (LI : List Chunk) (g : G) (k : Nat) (r : SV) (mc : Option Chunk) : Prop :=
  match mc with
  | none => r ≠ .junk ∧ Yields1 P o frI LI g r
  | some c => Makes P o frI c k r

/-- Operations that 'lt' speaks of. -/
def XOp.light : XOp → Bool
  | .store _ _ _ => false
  | .call _ _ => false
  | .callv _ _ => false
  | .eff _ _ => false
  | .prim _ _ => false
  | _ => true

theorem mk_sound0 {P : Program} {o : Oper} {X : XOp} (hX : xop0 P o.op = some X) {fr frI : List SV} (he : ∀ x ∈ X.args, ev fr x = ev frI x) {k : Nat} {c : Chunk} {r : SV} (h : mk X (ev fr) k = some (c, r)) : Makes P o frI c k r := by
  have h' : mk X (ev frI) k = some (c, r) := by
    rw [← h]
    cases X
    case box t x => simp only [mk, he x (by simp [XOp.args])]
    case bslice t n zs parts => simp only [mk, map_congr_parts parts he]
    all_goals rfl
  have shape : (∃ t, o.op = .alloc t) ∨ (∃ t x, o.op = .box t x) ∨ (∃ t n ps, o.op = .buildSlice t n ps) := by
    cases ho : o.op with
    | alloc t => exact .inl ⟨t, rfl⟩
    | box t x => exact .inr (.inl ⟨t, x, rfl⟩)
    | buildSlice t n ps => exact .inr (.inr ⟨t, n, ps, rfl⟩)
    | _ =>
      exfalso
      rw [ho] at hX
      cases X with
      | alloc t zs => clear h h' he; revert hX; simp only [xop0]; (repeat' split) <;> first | (simp; done) | (rename_i hq _; cases hq; done) | simp_all
      | box t x => clear h h' he; revert hX; simp only [xop0]; (repeat' split) <;> first | (simp; done) | (rename_i hq _; cases hq; done) | simp_all
      | bslice t n zs ps => clear h h' he; revert hX; simp only [xop0]; (repeat' split) <;> first | (simp; done) | (rename_i hq _; cases hq; done) | simp_all
      | _ => cases h
  rcases shape with ⟨t, ho⟩ | ⟨t, x, ho⟩ | ⟨t, n, ps, ho⟩
  · rw [ho] at hX; exact mk_alloc ho hX h'
  · rw [ho] at hX; simp only [xop0, Option.some.injEq] at hX; subst hX; exact mk_box ho h'
  · rw [ho] at hX; exact mk_bslice ho hX h'

theorem mk_sound {P : Program} {o : Oper} {X : XOp} (hX : xop P o.op = some X) {fr frI : List SV} (he : ∀ x ∈ X.args, ev fr x = ev frI x) {k : Nat} {c : Chunk} {r : SV} (h : mk X (ev fr) k = some (c, r)) : Makes P o frI c k r := by
  rcases xop_cases hX with h1 | rfl | ⟨as, rfl⟩
  · exact mk_sound0 h1 he h
  · cases h
  · cases h

theorem lt_sound {P : Program} {o : Oper} {X : XOp} (hX : xop P o.op = some X) {fr : List SV} {L : List Chunk} {g : G} {k : Nat} {K : SV → Option Chunk → Prop} (hk : k = L.length) {ts ks : Nat → Bool} (hts : ∀ t, t ∈ X.slots → ts t = true) (hks : ∀ j, j ∈ X.looks (ev fr) → ks j = true)
    (hfr : scL L.length fr = true) (hL : scH L) (h : lt X (ev fr) L g k K) :
    ∃ r mc, K r mc ∧ LRun P o (selF ts 0 fr) (selL ks 0 L) g k r mc ∧ r ≠ .junk ∧ r.sc (L.length + mc.toList.length) = true ∧ ∀ c, mc = some c → c.here = true ∧ scC L.length c = true := by
  have he := ev_selF (fr := fr) hts
  have hlk : ∀ j ∈ X.looks (ev fr), L[j]? = (selL ks 0 L)[j]? := fun j hj => by
    rw [get_selL, Nat.zero_add, if_pos (hks j hj)]
  have gen : ∀ K' : SV → Prop, ro X (ev fr) L g K' → ∃ r, K' r ∧ LRun P o (selF ts 0 fr) (selL ks 0 L) g k r none ∧ r ≠ .junk ∧ r.sc L.length = true := by
    intro K' h
    have h1 := ro_sc hfr hL h
    rw [ro_mem hlk, ro_congr he] at h1
    obtain ⟨r, hj, ⟨hr, hs⟩, hy⟩ := ro_sound hX h1
    exact ⟨r, hr, ⟨hj, hy⟩, hj, hs⟩
  have made : ∀ c r, mk X (ev fr) k = some (c, r) → Makes P o (selF ts 0 fr) c k r := fun c r hm => mk_sound hX he hm
  cases X
  case alloc t zs =>
    refine ⟨_, _, h, made _ _ rfl, by simp, by simp [SV.sc, hk], ?_⟩
    rintro c ⟨⟩
    exact ⟨rfl, scL_v _⟩
  case box t x =>
    obtain ⟨hj, h⟩ := nj_elim h
    have hb : isJunk (ev fr x) = false := by cases he : ev fr x <;> first | rfl | exact absurd he hj
    refine ⟨_, _, h, made _ _ (by simp only [mk, hb]), by simp, by simp [SV.sc, hk], ?_⟩
    rintro c ⟨⟩
    exact ⟨rfl, sc_cells (sc_ev hfr x)⟩
  case bslice t n zs parts =>
    simp only [lt] at h
    split at h
    case h_2 => exact h.elim
    case h_1 l hl =>
      refine ⟨_, _, h, made _ _ (by simp only [mk, hl]), by simp, by simp [SV.sc, hk], ?_⟩
      rintro c ⟨⟩
      refine ⟨rfl, fillS_sc _ _ _ (fun q hq => ?_) (scL_v _) hl⟩
      obtain ⟨p, _, rfl⟩ := List.mem_map.1 hq
      exact sc_ev hfr _
  all_goals
    obtain ⟨r, h1, h2, h3, h4⟩ := gen (fun r => K r none) h
    exact ⟨r, none, h1, h2, h3, by simpa using h4, nofun⟩

end Go.Sx
