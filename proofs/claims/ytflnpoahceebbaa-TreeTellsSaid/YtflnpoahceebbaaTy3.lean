/- A symbolic executor of my own, second design, part 3: operations that write or call. Conditions: none; it speaks of any program. -/
import Derived.Test.YtflnpoahceebbaaTy2
namespace Go.Sx

/-- How a call ends. -/
inductive Out where
  | ret (r : SV)
  | pan (x : SV)

def Out.sv : Out → SV
  | .ret r => r
  | .pan x => x
def Ends (σ : Nat → Nat) (e : Ending) : Out → Prop
  | .ret r => e = .returned (r.re σ)
  | .pan x => e = .panicked [{ v := x.re σ, recovered := false }]

/-- Only these blocks may have been turned; others may have come. -/
def Upd (ids : List Nat) (L L1 : List Chunk) : Prop := L.length ≤ L1.length ∧ ∀ k, k < L.length → k ∉ ids → L1[k]? = L[k]?

/-- The same turn, of a memory of which less is known. -/
def redo (ids : List Nat) : Nat → List Chunk → List Chunk → List Chunk
  | _, [], M => M
  | _, _ :: _, [] => []
  | i, c :: L, d :: M => (match ids.contains i with | true => d | false => c) :: redo ids (i + 1) L M
theorem redo_get (ids : List Nat) : ∀ (L M : List Chunk) (i k : Nat), L.length ≤ M.length → (redo ids i L M)[k]? = if k < L.length ∧ i + k ∉ ids then L[k]? else M[k]?
  | [], M, i, k, _ => by simp [redo]
  | c :: L, [], i, k, h => by simp at h
  | c :: L, d :: M, i, 0, h => by
    simp only [redo, Nat.add_zero]
    cases hc : ids.contains i <;> simp at hc <;> simp [hc]
  | c :: L, d :: M, i, k + 1, h => by
    have := redo_get ids L M (i + 1) k (by simpa using h)
    simp only [redo, List.getElem?_cons_succ, this, List.length_cons, Nat.add_lt_add_iff_right, show i + (k + 1) = i + 1 + k by omega]
theorem redo_length (ids : List Nat) : ∀ (L M : List Chunk) (i : Nat), L.length ≤ M.length → (redo ids i L M).length = M.length
  | [], M, i, _ => rfl
  | c :: L, [], i, h => by simp at h
  | c :: L, d :: M, i, h => by simp only [redo, List.length_cons, redo_length ids L M (i + 1) (by simpa using h)]
theorem redo_self {ids : List Nat} {L L1 : List Chunk} (h : Upd ids L L1) : redo ids 0 L L1 = L1 := by
  apply List.ext_getElem?
  intro k
  rw [redo_get ids L L1 0 k h.1, Nat.zero_add]
  split
  · rename_i hc; exact (h.2 k hc.1 hc.2).symm
  · rfl

def callable (P : Program) (f : FuncId) : Bool :=
  match P.funcs[f]? with
  | some fn => fn.body.isSome && !(fn.name == "runtime.NumGoroutine")
  | none => false

theorem callable_run {P : Program} {f : FuncId} (h : callable P f = true) (args : Array Value) (w : World) : (callFunc f args).run P w = .ok (.enter f args) w := by
  unfold callable at h
  split at h
  · rename_i fn hf
    simp only [Bool.and_eq_true, Bool.not_eq_true'] at h
    obtain ⟨b, hb⟩ := Option.isSome_iff_exists.1 h.1
    have hn : ¬ fn.name = "runtime.NumGoroutine" := by simpa using h.2
    simp [callFunc, hf, hn, hb]
  · cases h

/-- A call that looks at, and turns, these blocks alone. -/
def CallV (P : Program) (f : FuncId) (as : List SV) (L : List Chunk) (g : G) (ids : List Nat) (K : Out → List Chunk → G → Prop) : Prop :=
  callable P f = true ∧ ∀ (L' : List Chunk) (σ : Nat → Nat) (w : World), Less L' L → (∀ k, k ∈ ids → L'[k]? = L[k]?) → Mem g L' σ w → scH L → scL L.length as = true →
    Calls P f (reL σ as).toArray w fun e w' => ∃ out L1 g' σ', Ends σ' e out ∧ out.sv ≠ .junk ∧ Upd ids L L1 ∧ Mem g' (redo ids 0 L' L1) σ' w' ∧ scH L1 ∧ out.sv.sc L1.length = true ∧ Goes σ L' g w σ' (redo ids 0 L' L1) g' w' ∧ K out L1 g'

@[irreducible] def CallX (P : Program) (f : FuncId) (as : List SV) (L : List Chunk) (g : G) (chk : List Nat → Bool) (K : Out → List Chunk → G → Prop) : Prop :=
  ∃ ids, chk ids = true ∧ CallV P f as L g ids K

/-- Each is one cell. -/
def one1 : SV → Prop → Prop
  | .v x, p => match x with
    | .int _ _ => p
    | .bool _ => p
    | .string _ => p
    | .pointer _ => p
    | .slice _ _ _ => p
    | .map _ => p
    | .nilIface => p
    | .iface _ _ => p
    | x => x.oneCell' = true ∧ p
  | .ptr _ _, p => p
  | .slc _ _ _ _, p => p
  | .fn _ _ _, p => p
  | .iface _ _, p => p
  | _, _ => False
def oneAll : List SV → Prop → Prop
  | [], p => p
  | x :: l, p => one1 x (oneAll l p)

theorem oneAll_elim {l : List SV} {p : Prop} (h : oneAll l p) : (∀ x ∈ l, ∀ σ, (x.re σ).oneCell' = true) ∧ p := by
  induction l with
  | nil => exact ⟨by simp, h⟩
  | cons x l ih =>
    have key : one1 x (oneAll l p) → (∀ σ, (x.re σ).oneCell' = true) ∧ oneAll l p := by
      intro h
      cases x with
      | v y => cases y <;> first | exact ⟨fun σ => h.1, h.2⟩ | exact ⟨fun σ => rfl, h⟩
      | _ => first | exact h.elim | exact ⟨fun σ => rfl, h⟩
    obtain ⟨h1, h2⟩ := key h
    obtain ⟨h3, h4⟩ := ih h2
    exact ⟨by simpa using ⟨h1, h3⟩, h4⟩

/-- What an operation that writes or calls comes to. -/
def hv (P : Program) (X : XOp) (e : Operand → SV) (L : List Chunk) (g : G) (chk : List Nat → Bool) (K : Out → List Chunk → G → Prop) : Prop :=
  match X with
  | .store n a x => match e a with
    | .ptr k off => ifOk (chk [k]) (match L[k]? with
      | some (.cells ty c) => nj (e x) fun y => ifle (off + n) c.length (ifOk (Nat.beq y.cells.length n) (oneAll y.cells (K (.ret .junk) (L.set k (.cells ty (c.take off ++ (y.cells ++ c.drop (off + n))))) g)))
      | some (.vals ty c) => match e x with
        | .v y => y.cells.size = n ∧ (∀ u ∈ y.cells.toList, u.oneCell' = true) ∧ off + n ≤ c.length ∧ K (.ret .junk) (L.set k (.vals ty (c.take off ++ (y.cells.toList ++ c.drop (off + n))))) g
        | _ => False
      | _ => False)
    | _ => False
  | .call f args => njL (args.map e) fun as => CallX P f as L g chk K
  | .callv x args => match e x with
    | .fn f first cap => njL (args.map e) fun as => CallX P f (first ++ (as ++ cap)) L g chk K
    | _ => False
  | _ => False

theorem run_storeCells_splice {P : Program} (b : Nat) (t : TypeId) : ∀ (vs : List Value) (off i : Nat) (cur : List Value) (w : World), w.heap[b]? = some (.cells cur.toArray t (0, 0)) → off + i + vs.length ≤ cur.length → (∀ v ∈ vs, v.oneCell' = true) →
    ∃ w', (storeCells ⟨b, off, none⟩ vs i).run P w = .ok () w' ∧ w' = { w with heap := w.heap.setIfInBounds b (.cells (cur.take (off + i) ++ (vs ++ cur.drop (off + i + vs.length))).toArray t (0, 0)) } := by
  intro vs
  induction vs with
  | nil =>
    intro off i cur w hg hl _
    refine ⟨w, by simp [storeCells], ?_⟩
    have hlt : b < w.heap.size := (Array.getElem?_eq_some_iff.1 hg).1
    have hv : w.heap[b] = .cells cur.toArray t (0, 0) := (Array.getElem?_eq_some_iff.1 hg).2
    have : w.heap.setIfInBounds b (.cells cur.toArray t (0, 0)) = w.heap := by
      apply Array.ext_getElem?
      intro k
      by_cases hk : b = k
      · subst hk; simp [hlt, hv]
      · rw [Array.getElem?_setIfInBounds_ne hk]
    simp [this]
  | cons v vs ih =>
    intro off i cur w hg hl h1
    have hi : off + i < cur.length := by simp at hl; omega
    have hlt : b < w.heap.size := (Array.getElem?_eq_some_iff.1 hg).1
    have hcell : w.cell? ⟨b, off + i, none⟩ = some cur[off + i] := by simp [World.cell?, hg, hi]
    have hfro : w.frozen? ⟨b, off + i, none⟩ = false := by simp [World.frozen?, hg]
    have hset : w.setCell ⟨b, off + i, none⟩ v = { w with heap := w.heap.setIfInBounds b (.cells (cur.set (off + i) v).toArray t (0, 0)) } := by
      unfold World.setCell
      congr 1
      apply Array.ext_getElem?
      intro k
      by_cases hk : b = k
      · subst hk
        rw [Array.getElem?_modify, if_pos rfl, hg, Array.getElem?_setIfInBounds_self, if_pos hlt]
        simp
      · rw [Array.getElem?_setIfInBounds_ne hk, Array.getElem?_modify, if_neg hk]
    have hst : (store ((⟨b, off, none⟩ : Addr).add i) v).run P w = .ok () { w with heap := w.heap.setIfInBounds b (.cells (cur.set (off + i) v).toArray t (0, 0)) } := by
      rw [add_cell, run_store P w _ v _ (h1 v (by simp)), hcell]
      simp [hfro, hset]
    obtain ⟨w', hr, hw⟩ := ih off (i + 1) (cur.set (off + i) v) { w with heap := w.heap.setIfInBounds b (.cells (cur.set (off + i) v).toArray t (0, 0)) } (by simp [hlt]) (by simp at hl ⊢; omega) (fun x hx => h1 x (by simp [hx]))
    refine ⟨w', by simp [storeCells, hst, hr], ?_⟩
    rw [hw]
    congr 1
    apply Array.ext_getElem?
    intro k
    by_cases hk : b = k
    case neg =>
      simp only []
      rw [Array.getElem?_setIfInBounds_ne hk, Array.getElem?_setIfInBounds_ne hk, Array.getElem?_setIfInBounds_ne hk]
    case pos =>
        subst hk
        simp only [Array.getElem?_setIfInBounds_self, Array.size_setIfInBounds, hlt, if_true, List.length_cons]
        refine congrArg (fun l : List Value => some (Obj.cells l.toArray t (0, 0))) ?_
        apply List.ext_getElem?
        intro j
        simp only [List.getElem?_append, List.length_take, List.length_set, List.getElem?_take, List.getElem?_drop, List.getElem?_set, List.length_cons]
        by_cases c1 : j < off + i
        · simp [show j < min (off + (i + 1)) cur.length by omega, show j < min (off + i) cur.length by omega, show j < off + (i + 1) by omega, c1, show ¬ off + i = j by omega]
        · by_cases c2 : j = off + i
          · subst c2
            simp [show off + i < min (off + (i + 1)) cur.length by omega, show min (off + i) cur.length = off + i by omega, hi, show off + i < off + (i + 1) by omega]
          · have e1 : min (off + (i + 1)) cur.length = off + i + 1 := by omega
            have e2 : min (off + i) cur.length = off + i := by omega
            have e3 : j - (off + i) = (j - (off + i + 1)) + 1 := by omega
            simp only [e1, e2, show ¬ j < off + i + 1 by omega, c1, if_false, e3, List.getElem?_cons_succ]
            by_cases c3 : j - (off + i + 1) < vs.length
            · simp only [c3, if_true, show j - (off + i + 1) + 1 < vs.length + 1 by omega]
            · simp only [c3, if_false, show ¬ j - (off + i + 1) + 1 < vs.length + 1 by omega]
              rw [if_neg (by omega)]
              congr 1
              omega


section
variable {P : Program} {o : Oper} {fr : List SV} {L L' : List Chunk} {g : G} {σ : Nat → Nat} {a : Act} {w : World} {p : Nat → Bool} {chk : List Nat → Bool} {K : Out → List Chunk → G → Prop}

/-- What an operation that writes or calls leaves, if it goes on. -/
def HNext (o : Oper) (a : Act) (L L' : List Chunk) (g : G) (σ : Nat → Nat) (w : World) (ids : List Nat) (K : Out → List Chunk → G → Prop) (a' : Act) (w' : World) : Prop :=
  ∃ v r L1 g' σ', a' = a.put o.dst v ∧ (r ≠ .junk → v = r.re σ') ∧ r.sc L1.length = true ∧ Upd ids L L1 ∧ Mem g' (redo ids 0 L' L1) σ' w' ∧ scH L1 ∧ Goes σ L' g w σ' (redo ids 0 L' L1) g' w' ∧ K (.ret r) L1 g'
/-- And if it panics. -/
def HPan (a : Act) (L L' : List Chunk) (g : G) (σ : Nat → Nat) (w : World) (ids : List Nat) (K : Out → List Chunk → G → Prop) (e : Exit) (a' : Act) (w' : World) : Prop :=
  ∃ x L1 g' σ', e = .panic [{ v := x.re σ', recovered := false }] ∧ x ≠ .junk ∧ a' = a ∧ x.sc L1.length = true ∧ Upd ids L L1 ∧ Mem g' (redo ids 0 L' L1) σ' w' ∧ scH L1 ∧ Goes σ L' g w σ' (redo ids 0 L' L1) g' w' ∧ K (.pan x) L1 g'

theorem scH_set {k : Nat} {c : Chunk} (hL : scH L) (hc : scC L.length c = true) : scH (L.set k c) := by
  intro j ty l hj
  rw [List.length_set]
  by_cases hjk : k = j
  · subst hjk
    rw [List.getElem?_set] at hj
    split at hj
    · split at hj
      · cases hj; exact hc
      · cases hj
    · exact hL _ ty l hj
  · rw [List.getElem?_set_ne hjk] at hj
    exact hL j ty l hj

theorem redo_set {k : Nat} {c : Chunk} (hlen : L'.length = L.length) (_ : L'[k]? = L[k]?) : redo [k] 0 L' (L.set k c) = L'.set k c := by
  apply List.ext_getElem?
  intro j
  rw [redo_get _ _ _ _ _ (by rw [List.length_set]; omega), Nat.zero_add]
  by_cases hjk : k = j
  · subst hjk
    rw [if_neg (by simp)]
    rw [List.getElem?_set, List.getElem?_set, hlen]
    simp
  · rw [List.getElem?_set_ne hjk, List.getElem?_set_ne hjk]
    split
    · rfl
    · rename_i hn
      have : ¬ j < L'.length := fun hl => hn ⟨hl, by simpa using fun e => hjk e.symm⟩
      rw [List.getElem?_eq_none (by omega), List.getElem?_eq_none (by omega)]

/-- What running an operation that writes or calls needs. -/
structure HPre (fr : List SV) (L L' : List Chunk) (g : G) (σ : Nat → Nat) (a : Act) (w : World) (p : Nat → Bool) : Prop where
  hfr : FR σ (selF p 0 fr) a.tmps
  less : Less L' L
  mem : Mem g L' σ w
  scF : scL L.length fr = true
  scL : scH L

theorem HPre.ev (H : HPre fr L L' g σ a w p) {X : XOp} (hp : ∀ t, t ∈ X.slots → p t = true) {x : Operand} (hx : x ∈ X.args) (hj : Sx.ev fr x ≠ .junk) : a.eval x = (Sx.ev fr x).re σ := by
  have := ev_selF (fr := fr) hp x hx
  rw [this] at hj ⊢
  exact H.hfr.ev x hj

theorem hv_store {t : TypeId} {ad x : Operand} {X : XOp} (ho : o.op = .store t ad x) (hX : xop P (.store t ad x) = some X) (hp : ∀ t, t ∈ X.slots → p t = true) (H : HPre fr L L' g σ a w p)
    (h : hv P X (ev fr) L g chk K) : ∃ ids, chk ids = true ∧ ((∀ k, k ∈ ids → L'[k]? = L[k]?) → o.wp P a w (HNext o a L L' g σ w ids K) (HPan a L L' g σ w ids K)) := by
  simp only [xop] at hX
  cases hi : P.info? t with
  | none => simp [hi] at hX
  | some i =>
    rw [hi] at hX
    simp only [Option.some.injEq] at hX
    subst hX
    simp only [hv] at h
    split at h
    case h_2 => exact h.elim
    case h_1 k off ha =>
      obtain ⟨hck, h⟩ := ifOk_elim h
      refine ⟨[k], hck, fun hids => ?_⟩
      have hLk := hids k (by simp)
      have hea : a.eval ad = .pointer (some ⟨σ k, off, none⟩) := by rw [H.ev hp (by simp [XOp.args]) (by simp [ha]), ha]; rfl
      have fin : ∀ (cur : List Value) (ty : TypeId) (v : Value) (c' : Chunk), w.heap[σ k]? = some (.cells cur.toArray ty (0, 0)) → a.eval x = v → v.cells.toList.length = i.size → off + i.size ≤ cur.length → (∀ u ∈ v.cells.toList, u.oneCell' = true) → live L' k →
          scC L.length c' = true → c'.obj σ = some (.cells (cur.take off ++ (v.cells.toList ++ cur.drop (off + i.size))).toArray ty (0, 0)) → K (.ret .junk) (L.set k c') g → o.wp P a w (HNext o a L L' g σ w [k] K) (HPan a L L' g σ w [k] K) := by
        intro cur ty v c' hw hv hsz hle hone hk hc hob hK
        obtain ⟨w', hr, hw'⟩ := run_storeCells_splice (P := P) (σ k) ty v.cells.toList off 0 cur w hw (by omega) hone
        have hsz' : v.cells.size = i.size := by rw [← hsz]; simp
        have hrun : (execOp a.eval o).run P w = .ok .skip w' := by
          simp [execOp, ho, hea, hv, Instr.storeAt, Instr.sureAddr, storeVar, sizeOf, typeInfo, hi, hsz', hr]
        unfold Oper.wp
        rw [hrun]
        simp only [Nat.add_zero, hsz] at hw'
        rw [hw']
        have hrs := redo_set (c := c') H.less.1 hLk
        refine ⟨undef, .junk, L.set k c', g, σ, rfl, fun e => absurd rfl e, rfl, ⟨by simp, fun j _ hj => List.getElem?_set_ne (fun e => hj (by simp [e]))⟩, ?_, scH_set H.scL hc, ?_, hK⟩
        · rw [hrs]; exact H.mem.write hk c' _ hob
        · rw [hrs]; exact (Goes.refl σ L' g w).write hk c' _
      split at h
      case h_1 ty c hc =>
        obtain ⟨hj, h⟩ := nj_elim h
        obtain ⟨hle, h⟩ := ifle_elim h
        obtain ⟨hb, h⟩ := ifOk_elim h
        obtain ⟨hone, h⟩ := oneAll_elim h
        have hn := Nat.eq_of_beq_eq_true hb
        have hcl := cells_re σ _ hj
        have hc' : L'[k]? = some (.cells ty c) := by rw [hLk, hc]
        refine fin (reL σ c) ty _ _ (H.mem.lo k _ _ hc' rfl) (H.ev hp (by simp [XOp.args]) hj) (by rw [hcl, reL_length]; exact hn) (by rw [reL_length]; exact hle) (fun u hu => ?_) (live_of hc' rfl) ?_ ?_ h
        · rw [hcl, reL_map] at hu
          obtain ⟨y, hy, rfl⟩ := List.mem_map.1 hu
          exact hone y hy σ
        · show scL L.length _ = true
          rw [scL_append, scL_append]
          exact ⟨scL_take _ (H.scL _ _ _ hc), sc_cells (sc_ev H.scF x), scL_drop _ (H.scL _ _ _ hc)⟩
        · simp only [Chunk.obj, reL_append, reL_take, reL_drop, hcl]
      case h_2 ty c hc =>
        have hc' : L'[k]? = some (.vals ty c) := by rw [hLk, hc]
        split at h
        case h_2 => exact h.elim
        case h_1 y hx =>
          obtain ⟨hn, hone, hlt, h⟩ := h
          exact fin c ty y _ (H.mem.lo k _ _ hc' rfl) (by rw [H.ev hp (by simp [XOp.args]) (by simp [hx]), hx]; rfl) (by simpa using hn) hlt hone (live_of hc' rfl) rfl rfl h
      case h_3 => exact h.elim

theorem call_wp {f : FuncId} {as : List SV} {ids : List Nat} (H : HPre fr L L' g σ a w p) (hsc : scL L.length as = true) (h : CallV P f as L g ids K) (hids : ∀ k, k ∈ ids → L'[k]? = L[k]?) (hrun : callable P f = true → (execOp a.eval o).run P w = .ok (.enter f (reL σ as).toArray) w) :
    o.wp P a w (HNext o a L L' g σ w ids K) (HPan a L L' g σ w ids K) := by
  unfold Oper.wp
  rw [hrun h.1]
  show Calls P f _ w _
  refine (h.2 L' σ w H.less hids H.mem H.scL hsc).mono ?_
  rintro e w' ⟨out, L1, g', σ', he, hj, h1, h2, h3, h4, h5, h6⟩
  cases out with
  | ret r =>
    cases he
    exact ⟨_, r, L1, g', σ', rfl, fun _ => rfl, h4, h1, h2, h3, h5, h6⟩
  | pan x =>
    cases he
    exact ⟨x, L1, g', σ', rfl, hj, rfl, h4, h1, h2, h3, h5, h6⟩

theorem ev_mapH (H : HPre fr L L' g σ a w p) {X : XOp} (hp : ∀ t, t ∈ X.slots → p t = true) (l : List Operand) (hl : ∀ x ∈ l, x ∈ X.args) (h : ∀ x ∈ l.map (Sx.ev fr), x ≠ .junk) : l.map a.eval = reL σ (l.map (Sx.ev fr)) := by
  rw [reL_map, List.map_map]
  apply List.map_congr_left
  intro x hx
  exact H.ev hp (hl x hx) (h _ (List.mem_map_of_mem hx))

theorem hv_sound {X : XOp} (hX : xop P o.op = some X) (hp : ∀ t, t ∈ X.slots → p t = true) (H : HPre fr L L' g σ a w p) (h : hv P X (ev fr) L g chk K) :
    ∃ ids, chk ids = true ∧ ((∀ k, k ∈ ids → L'[k]? = L[k]?) → o.wp P a w (HNext o a L L' g σ w ids K) (HPan a L L' g σ w ids K)) := by
  have viaFn : ∀ (c : Call) (x : Operand), o.op = .call c → c.callee = .value x → X = .callv x c.args.toList → ∃ ids, chk ids = true ∧ ((∀ k, k ∈ ids → L'[k]? = L[k]?) → o.wp P a w (HNext o a L L' g σ w ids K) (HPan a L L' g σ w ids K)) := by
    intro c x ho hc hXe
    subst hXe
    simp only [hv] at h
    split at h
    case h_2 => exact h.elim
    case h_1 f first cap hx =>
      obtain ⟨hj, h⟩ := njL_elim h
      unfold CallX at h
      obtain ⟨ids, hck, h⟩ := h
      refine ⟨ids, hck, fun hids => ?_⟩
      have hfn : (SV.fn f first cap).sc L.length = true := by rw [← hx]; exact sc_ev H.scF x
      simp only [SV.sc, Bool.and_eq_true] at hfn
      have hsc : scL L.length (c.args.toList.map (ev fr)) = true := scL_mem.2 fun x hx => by obtain ⟨y, _, rfl⟩ := List.mem_map.1 hx; exact sc_ev H.scF y
      refine call_wp H (by rw [scL_append, scL_append]; exact ⟨hfn.1, hsc, hfn.2⟩) h hids fun hcb => ?_
      have e1 : c.args.map a.eval = (reL σ (c.args.toList.map (ev fr))).toArray := by apply Array.ext'; simp [← ev_mapH H hp c.args.toList (fun y hy => by simp [XOp.args]; right; simpa using hy) hj]
      have e2 : a.eval x = .func (.func f) (reL σ first).toArray (reL σ cap).toArray := by rw [H.ev hp (by simp [XOp.args]) (by simp [hx]), hx]; rfl
      simp only [execOp, ho, resolve, hc, e2, Deferred.ofValue, Sem.run_bind, Sem.run_pure, Result.andThen_ok, invoke, e1]
      rw [reL_append, reL_append]
      have := callable_run hcb ((reL σ first ++ (reL σ (c.args.toList.map (ev fr)) ++ reL σ cap)).toArray) w
      simpa using this
  cases ho : o.op with
  | store t ad x => exact hv_store ho (by rw [← ho]; exact hX) hp H h
  | call c =>
    rw [ho] at hX
    cases hc : c.callee with
    | value x =>
      cases x with
      | func f =>
        simp only [xop, hc, Option.some.injEq] at hX
        subst hX
        simp only [hv] at h
        obtain ⟨hj, h⟩ := njL_elim h
        unfold CallX at h
        obtain ⟨ids, hck, h⟩ := h
        refine ⟨ids, hck, fun hids => ?_⟩
        have hsc : scL L.length (c.args.toList.map (ev fr)) = true := scL_mem.2 fun x hx => by obtain ⟨y, _, rfl⟩ := List.mem_map.1 hx; exact sc_ev H.scF y
        refine call_wp H hsc h hids fun hcb => ?_
        have e1 : c.args.map a.eval = (reL σ (c.args.toList.map (ev fr))).toArray := by apply Array.ext'; simp [← ev_mapH H hp c.args.toList (fun y hy => by simpa [XOp.args] using hy) hj]
        simp only [execOp, ho, resolve, hc, Act.eval, Deferred.ofValue, Sem.run_bind, Sem.run_pure, Result.andThen_ok, invoke, e1]
        simpa using callable_run hcb _ w
      | tmp t => exact viaFn c _ ho hc (by simp only [xop, hc, Option.some.injEq] at hX; exact hX.symm)
      | const v => exact viaFn c _ ho hc (by simp only [xop, hc, Option.some.injEq] at hX; exact hX.symm)
      | global g => exact viaFn c _ ho hc (by simp only [xop, hc, Option.some.injEq] at hX; exact hX.symm)
    | builtin b =>
      exfalso
      cases b <;> simp only [xop, hc] at hX <;> first
        | (cases hX; done)
        | ((repeat' split at hX) <;> first | (rename_i hq; cases hq; done) | (simp only [Option.some.injEq] at hX; subst hX; exact h) | (cases hX; done) | contradiction)
    | invoke r m => simp [xop, hc] at hX
  | _ =>
    exfalso
    rw [ho] at hX
    simp only [xop] at hX
    repeat' split at hX
    all_goals first | (simp only [Option.some.injEq] at hX; subst hX; exact h) | (simp only [Option.map_eq_some_iff] at hX; obtain ⟨_, _, rfl⟩ := hX; exact h) | cases hX

end
end Go.Sx
