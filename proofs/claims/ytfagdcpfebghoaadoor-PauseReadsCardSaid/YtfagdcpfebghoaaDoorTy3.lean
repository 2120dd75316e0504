/- A symbolic executor of my own, second design, part 3: operations that write or call. Conditions: none; it speaks of any program. -/
import Derived.Test.YtfagdcpfebghoaaDoorTy2
namespace Go.Sx

/-- How a call ends. -/
inductive Out where
  | ret (r : SV)
  | pan (x : SV)

def Out.sv : Out → SV
  | .ret r => r
  | .pan x => x
def Ends (σ : Nat → Nat) (e : Ending) : Out → Prop
  | .ret r => e = .returned (r.re σ)
  | .pan x => e = .panicked [{ v := x.re σ, recovered := false }]

/-- Only these blocks may have been turned; others may have come. -/
def Upd (ids : List Nat) (L L1 : List Chunk) : Prop := L.length ≤ L1.length ∧ ∀ k, k < L.length → k ∉ ids → L1[k]? = L[k]?

/-- The same turn, of a memory of which less is known. -/
def redo (ids : List Nat) : Nat → List Chunk → List Chunk → List Chunk
  | _, [], M => M
  | _, _ :: _, [] => []
  | i, c :: L, d :: M => (match ids.contains i with | true => d | false => c) :: redo ids (i + 1) L M
theorem redo_get (ids : List Nat) : ∀ (L M : List Chunk) (i k : Nat), L.length ≤ M.length → (redo ids i L M)[k]? = if k < L.length ∧ i + k ∉ ids then L[k]? else M[k]?
  | [], M, i, k, _ => by simp [redo]
  | c :: L, [], i, k, h => by simp at h
  | c :: L, d :: M, i, 0, h => by
    simp only [redo, Nat.add_zero]
    cases hc : ids.contains i <;> simp at hc <;> simp [hc]
  | c :: L, d :: M, i, k + 1, h => by
    have := redo_get ids L M (i + 1) k (by simpa using h)
    simp only [redo, List.getElem?_cons_succ, this, List.length_cons, Nat.add_lt_add_iff_right, show i + (k + 1) = i + 1 + k by omega]
theorem redo_length (ids : List Nat) : ∀ (L M : List Chunk) (i : Nat), L.length ≤ M.length → (redo ids i L M).length = M.length
  | [], M, i, _ => rfl
  | c :: L, [], i, h => by simp at h
  | c :: L, d :: M, i, h => by simp only [redo, List.length_cons, redo_length ids L M (i + 1) (by simpa using h)]
theorem redo_self {ids : List Nat} {L L1 : List Chunk} (h : Upd ids L L1) : redo ids 0 L L1 = L1 := by
  apply List.ext_getElem?
  intro k
  rw [redo_get ids L L1 0 k h.1, Nat.zero_add]
  split
  · rename_i hc; exact (h.2 k hc.1 hc.2).symm
  · rfl

def callable (P : Program) (f : FuncId) : Bool :=
  match P.funcs[f]? with
  | some fn => fn.body.isSome && !(fn.name == "runtime.NumGoroutine")
  | none => false

theorem callable_run {P : Program} {f : FuncId} (h : callable P f = true) (args : Array Value) (w : World) : (callFunc f args).run P w = .ok (.enter f args) w := by
  unfold callable at h
  split at h
  · rename_i fn hf
    simp only [Bool.and_eq_true, Bool.not_eq_true'] at h
    obtain ⟨b, hb⟩ := Option.isSome_iff_exists.1 h.1
    have hn : ¬ fn.name = "runtime.NumGoroutine" := by simpa using h.2
    simp [callFunc, hf, hn, hb]
  · cases h

/-- A call that looks at, and turns, these blocks alone. -/
def CallV (P : Program) (f : FuncId) (as : List SV) (L : List Chunk) (g : G) (rd ids : List Nat) (K : Out → List Chunk → G → Prop) : Prop :=
  callable P f = true ∧ ∀ (L' : List Chunk) (σ : Nat → Nat) (w : World), Less L' L → (∀ k, k ∈ rd → L'[k]? = L[k]?) → (∀ k, k ∈ ids → L'[k]? = L[k]?) → Mem g L' σ w → scH L → scL L.length as = true →
    Calls P f (reL σ as).toArray w fun e w' => ∃ out L1 g' σ', Ends σ' e out ∧ out.sv ≠ .junk ∧ Upd ids L L1 ∧ Mem g' (redo ids 0 L' L1) σ' w' ∧ scH L1 ∧ out.sv.sc L1.length = true ∧ Goes σ L' g w σ' (redo ids 0 L' L1) g' w' ∧ K out L1 g'

@[irreducible] def CallX (P : Program) (f : FuncId) (as : List SV) (L : List Chunk) (g : G) (chk : List Nat → List Nat → Bool) (K : Out → List Chunk → G → Prop) : Prop :=
  ∃ rd ids, chk rd ids = true ∧ CallV P f as L g rd ids K

/-- Each is one cell. -/
def one1 : SV → Prop → Prop
  | .v x, p => match x with
    | .int _ _ => p
    | .bool _ => p
    | .string _ => p
    | .pointer _ => p
    | .slice _ _ _ => p
    | .map _ => p
    | .nilIface => p
    | .iface _ _ => p
    | x => x.oneCell' = true ∧ p
  | .ptr _ _, p => p
  | .slc _ _ _ _, p => p
  | .fn _ _ _, p => p
  | .iface _ _, p => p
  | _, _ => False
def oneAll : List SV → Prop → Prop
  | [], p => p
  | x :: l, p => one1 x (oneAll l p)

theorem oneAll_elim {l : List SV} {p : Prop} (h : oneAll l p) : (∀ x ∈ l, ∀ σ, (x.re σ).oneCell' = true) ∧ p := by
  induction l with
  | nil => exact ⟨by simp, h⟩
  | cons x l ih =>
    have key : one1 x (oneAll l p) → (∀ σ, (x.re σ).oneCell' = true) ∧ oneAll l p := by
      intro h
      cases x with
      | v y => cases y <;> first | exact ⟨fun σ => h.1, h.2⟩ | exact ⟨fun σ => rfl, h⟩
      | _ => first | exact h.elim | exact ⟨fun σ => rfl, h⟩
    obtain ⟨h1, h2⟩ := key h
    obtain ⟨h3, h4⟩ := ih h2
    exact ⟨by simpa using ⟨h1, h3⟩, h4⟩

def valsOf : List SV → Option (List Value)
  | [] => some []
  | .v x :: l => match valsOf l with
    | some xs => some (x :: xs)
    | none => none
  | _ :: _ => none
/-- A block's cells, all of them plain values. -/
def Chunk.plain : Chunk → Option (TypeId × List Value)
  | .vals ty c => some (ty, c)
  | .cells ty c => match valsOf c with
    | some xs => some (ty, xs)
    | none => none
  | .raw _ => none
  | .gone => none
def plainAt (L : List Chunk) (k : Nat) : Option (TypeId × List Value) :=
  match L[k]? with
  | some c => c.plain
  | none => none
/-- The elements of a slice that is read. -/
def srcK (x : SV) (sz : Nat) (L : List Chunk) (g : G) (K : List Nat → Nat → List Value → Prop) : Prop :=
  match x with
  | .slc k off m _ => match plainAt L k with
    | some (_, c) => off + m * sz ≤ c.length ∧ K [k] m ((c.drop off).take (m * sz))
    | none => False
  | .v (.slice a m _) => ∃ xs : List Value, (xs.length = m * sz ∧ (0 < m → ∃ ad, a = some ad ∧ g.at ad xs)) ∧ K [] m xs
  | _ => False
def natz (m : Nat) (p q : Prop) : Prop := match m with | 0 => p | _ + 1 => q
def allOne : List Value → Prop → Prop
  | [], p => p
  | .int _ _ :: l, p => allOne l p
  | .bool _ :: l, p => allOne l p
  | .string _ :: l, p => allOne l p
  | .slice _ _ _ :: l, p => allOne l p
  | .pointer _ :: l, p => allOne l p
  | x :: l, p => x.oneCell' = true ∧ allOne l p

def hvZ (z : ZOp) (vs : List SV) (L : List Chunk) (g : G) (chk : List Nat → List Nat → Bool) (K : Out → List Chunk → G → Prop) : Prop :=
  match z with
  | .set => match vs with
    | [x] => ifOk (chk [] []) (nj x fun x => K (.ret x) L g)
    | _ => False
  | .app e sz bytes _ => match vs with
    | [s, x] => srcK x sz L g fun kx m news => (∀ u ∈ news, u.oneCell' = true) ∧ (match s with
      | .v (.slice none 0 0) => ifOk (chk [] kx) (m * bytes ≤ 140737488355328 ∧ natz m (K (.ret (.v (.slice none 0 0))) L g)
          (∀ (cap : Nat) (spare : List Value), m ≤ cap → cap ≤ 9223372036854775807 → spare.length = (cap - m) * sz → K (.ret (.slc L.length 0 m cap)) (L ++ [.vals e (news ++ spare)]) g))
      | .slc k off n c => ifOk (Nat.beq off 0 && chk [] (k :: kx)) (match plainAt L k with
        | some (ty, cur) => ifOk (Nat.beq ty e) (∃ xs sp : List Value, cur = xs ++ sp ∧ xs.length = n * sz ∧ (cur.length = c * sz ∧ n ≤ c ∧ c ≤ 9223372036854775807) ∧ (n + m) * bytes ≤ 140737488355328 ∧
            (∀ (cap : Nat) (spare : List Value), n + m ≤ cap → cap ≤ 9223372036854775807 → spare.length = (cap - (n + m)) * sz → K (.ret (.slc L.length 0 (n + m) cap)) (L.set k .gone ++ [.vals e (xs ++ (news ++ spare))]) g))
        | none => False)
      | _ => False)
    | _ => False

/-- What an operation that writes or calls leaves, if it goes on. -/
def HNext (o : Oper) (a : Act) (L L' : List Chunk) (g : G) (σ : Nat → Nat) (w : World) (ids : List Nat) (K : Out → List Chunk → G → Prop) (a' : Act) (w' : World) : Prop :=
  ∃ v r L1 g' σ', a' = a.put o.dst v ∧ (r ≠ .junk → v = r.re σ') ∧ r.sc L1.length = true ∧ Upd ids L L1 ∧ Mem g' (redo ids 0 L' L1) σ' w' ∧ scH L1 ∧ Goes σ L' g w σ' (redo ids 0 L' L1) g' w' ∧ K (.ret r) L1 g'
/-- And if it panics. -/
def HPan (a : Act) (L L' : List Chunk) (g : G) (σ : Nat → Nat) (w : World) (ids : List Nat) (K : Out → List Chunk → G → Prop) (e : Exit) (a' : Act) (w' : World) : Prop :=
  ∃ x L1 g' σ', e = .panic [{ v := x.re σ', recovered := false }] ∧ x ≠ .junk ∧ a' = a ∧ x.sc L1.length = true ∧ Upd ids L L1 ∧ Mem g' (redo ids 0 L' L1) σ' w' ∧ scH L1 ∧ Goes σ L' g w σ' (redo ids 0 L' L1) g' w' ∧ K (.pan x) L1 g'

/-- What running an operation that writes or calls needs. -/
structure HPre (fr : List SV) (L L' : List Chunk) (g : G) (σ : Nat → Nat) (a : Act) (w : World) (p : Nat → Bool) : Prop where
  hfr : FR σ (selF p 0 fr) a.tmps
  less : Less L' L
  mem : Mem g L' σ w
  scF : scL L.length fr = true
  scL : scH L

/-- An operation told by what the model makes of it: it looks at, and turns, these blocks alone. -/
def PrimV (P : Program) (op : Op) (args : List Operand) (vs : List SV) (L : List Chunk) (g : G) (rd ids : List Nat) (K : Out → List Chunk → G → Prop) : Prop :=
  ∀ (o : Oper) (L' : List Chunk) (σ : Nat → Nat) (a : Act) (w : World), o.op = op → Less L' L → Mem g L' σ w → scH L → scL L.length vs = true → (∀ p ∈ args.zip vs, a.eval p.1 = p.2.re σ) → (∀ k, k ∈ rd → L'[k]? = L[k]?) → (∀ k, k ∈ ids → L'[k]? = L[k]?) →
    o.wp P a w (HNext o a L L' g σ w ids K) (HPan a L L' g σ w ids K)

@[irreducible] def PrimX (P : Program) (op : Op) (args : List Operand) (vs : List SV) (L : List Chunk) (g : G) (chk : List Nat → List Nat → Bool) (K : Out → List Chunk → G → Prop) : Prop :=
  ∃ rd ids, chk rd ids = true ∧ PrimV P op args vs L g rd ids K

/-- What an operation that writes or calls comes to. -/
def hv (P : Program) (X : XOp) (e : Operand → SV) (L : List Chunk) (g : G) (chk : List Nat → List Nat → Bool) (K : Out → List Chunk → G → Prop) : Prop :=
  match X with
  | .store n a x => match e a with
    | .ptr k off => ifOk (chk [] [k]) (match L[k]? with
      | some (.cells ty c) => nj (e x) fun y => ifle (off + n) c.length (ifOk (Nat.beq y.cells.length n) (oneAll y.cells (K (.ret .junk) (L.set k (.cells ty (c.take off ++ (y.cells ++ c.drop (off + n))))) g)))
      | some (.vals ty c) => match e x with
        | .v y => y.cells.size = n ∧ (∀ u ∈ y.cells.toList, u.oneCell' = true) ∧ off + n ≤ c.length ∧ K (.ret .junk) (L.set k (.vals ty (c.take off ++ (y.cells.toList ++ c.drop (off + n))))) g
        | _ => False
      | _ => False)
    | _ => False
  | .call f args => njL (args.map e) fun as => CallX P f as L g chk K
  | .callv x args => match e x with
    | .fn f first cap => njL (args.map e) fun as => CallX P f (first ++ (as ++ cap)) L g chk K
    | _ => False
  | .eff z args => hvZ z (args.map e) L g chk K
  | .prim op args => njL (args.map e) fun vs => PrimX P op args vs L g chk K
  | _ => False

/-- A row is written from a place on. -/
theorem run_storeCells_splice {P : Program} (b : Nat) (t : TypeId) : ∀ (vs : List Value) (off i : Nat) (cur : List Value) (w : World), w.heap[b]? = some (.cells cur.toArray t (0, 0)) → off + i + vs.length ≤ cur.length → (∀ v ∈ vs, v.oneCell' = true) →
    ∃ w', (storeCells ⟨b, off, none⟩ vs i).run P w = .ok () w' ∧ w' = { w with heap := w.heap.setIfInBounds b (.cells (cur.take (off + i) ++ (vs ++ cur.drop (off + i + vs.length))).toArray t (0, 0)) } := by
  intro vs
  induction vs with
  | nil =>
    intro off i cur w hg hl _
    refine ⟨w, by simp [storeCells], ?_⟩
    have hlt : b < w.heap.size := (Array.getElem?_eq_some_iff.1 hg).1
    have hv : w.heap[b] = .cells cur.toArray t (0, 0) := (Array.getElem?_eq_some_iff.1 hg).2
    have : w.heap.setIfInBounds b (.cells cur.toArray t (0, 0)) = w.heap := by
      apply Array.ext_getElem?
      intro k
      by_cases hk : b = k
      · subst hk; simp [hlt, hv]
      · rw [Array.getElem?_setIfInBounds_ne hk]
    simp [this]
  | cons v vs ih =>
    intro off i cur w hg hl h1
    have hi : off + i < cur.length := by simp at hl; omega
    have hlt : b < w.heap.size := (Array.getElem?_eq_some_iff.1 hg).1
    have hcell : w.cell? ⟨b, off + i, none⟩ = some cur[off + i] := by simp [World.cell?, hg, hi]
    have hfro : w.frozen? ⟨b, off + i, none⟩ = false := by simp [World.frozen?, hg]
    have hset : w.setCell ⟨b, off + i, none⟩ v = { w with heap := w.heap.setIfInBounds b (.cells (cur.set (off + i) v).toArray t (0, 0)) } := by
      unfold World.setCell
      congr 1
      apply Array.ext_getElem?
      intro k
      by_cases hk : b = k
      · subst hk
        rw [Array.getElem?_modify, if_pos rfl, hg, Array.getElem?_setIfInBounds_self, if_pos hlt]
        simp
      · rw [Array.getElem?_setIfInBounds_ne hk, Array.getElem?_modify, if_neg hk]
    have hst : (store ((⟨b, off, none⟩ : Addr).add i) v).run P w = .ok () { w with heap := w.heap.setIfInBounds b (.cells (cur.set (off + i) v).toArray t (0, 0)) } := by
      rw [add_cell, run_store P w _ v _ (h1 v (by simp)), hcell]
      simp [hfro, hset]
    obtain ⟨w', hr, hw⟩ := ih off (i + 1) (cur.set (off + i) v) { w with heap := w.heap.setIfInBounds b (.cells (cur.set (off + i) v).toArray t (0, 0)) } (by simp [hlt]) (by simp at hl ⊢; omega) (fun x hx => h1 x (by simp [hx]))
    refine ⟨w', by simp [storeCells, hst, hr], ?_⟩
    rw [hw]
    congr 1
    apply Array.ext_getElem?
    intro k
    by_cases hk : b = k
    case neg =>
      simp only []
      rw [Array.getElem?_setIfInBounds_ne hk, Array.getElem?_setIfInBounds_ne hk, Array.getElem?_setIfInBounds_ne hk]
    case pos =>
        subst hk
        simp only [Array.getElem?_setIfInBounds_self, Array.size_setIfInBounds, hlt, if_true, List.length_cons]
        refine congrArg (fun l : List Value => some (Obj.cells l.toArray t (0, 0))) ?_
        apply List.ext_getElem?
        intro j
        simp only [List.getElem?_append, List.length_take, List.length_set, List.getElem?_take, List.getElem?_drop, List.getElem?_set, List.length_cons]
        by_cases c1 : j < off + i
        · simp [show j < min (off + (i + 1)) cur.length by omega, show j < min (off + i) cur.length by omega, show j < off + (i + 1) by omega, c1, show ¬ off + i = j by omega]
        · by_cases c2 : j = off + i
          · subst c2
            simp [show off + i < min (off + (i + 1)) cur.length by omega, show min (off + i) cur.length = off + i by omega, hi, show off + i < off + (i + 1) by omega]
          · have e1 : min (off + (i + 1)) cur.length = off + i + 1 := by omega
            have e2 : min (off + i) cur.length = off + i := by omega
            have e3 : j - (off + i) = (j - (off + i + 1)) + 1 := by omega
            simp only [e1, e2, show ¬ j < off + i + 1 by omega, c1, if_false, e3, List.getElem?_cons_succ]
            by_cases c3 : j - (off + i + 1) < vs.length
            · simp only [c3, if_true, show j - (off + i + 1) + 1 < vs.length + 1 by omega]
            · simp only [c3, if_false, show ¬ j - (off + i + 1) + 1 < vs.length + 1 by omega]
              rw [if_neg (by omega)]
              congr 1
              omega


section
variable {P : Program} {o : Oper} {fr : List SV} {L L' : List Chunk} {g : G} {σ : Nat → Nat} {a : Act} {w : World} {p : Nat → Bool} {chk : List Nat → List Nat → Bool} {K : Out → List Chunk → G → Prop}

theorem scH_set {k : Nat} {c : Chunk} (hL : scH L) (hc : scC L.length c = true) : scH (L.set k c) := by
  intro j ty l hj
  rw [List.length_set]
  by_cases hjk : k = j
  · subst hjk
    rw [List.getElem?_set] at hj
    split at hj
    · split at hj
      · cases hj; exact hc
      · cases hj
    · exact hL _ ty l hj
  · rw [List.getElem?_set_ne hjk] at hj
    exact hL j ty l hj

theorem redo_set {k : Nat} {c : Chunk} (hlen : L'.length = L.length) (_ : L'[k]? = L[k]?) : redo [k] 0 L' (L.set k c) = L'.set k c := by
  apply List.ext_getElem?
  intro j
  rw [redo_get _ _ _ _ _ (by rw [List.length_set]; omega), Nat.zero_add]
  by_cases hjk : k = j
  · subst hjk
    rw [if_neg (by simp)]
    rw [List.getElem?_set, List.getElem?_set, hlen]
    simp
  · rw [List.getElem?_set_ne hjk, List.getElem?_set_ne hjk]
    split
    · rfl
    · rename_i hn
      have : ¬ j < L'.length := fun hl => hn ⟨hl, by simpa using fun e => hjk e.symm⟩
      rw [List.getElem?_eq_none (by omega), List.getElem?_eq_none (by omega)]

theorem HPre.ev (H : HPre fr L L' g σ a w p) {X : XOp} (hp : ∀ t, t ∈ X.slots → p t = true) {x : Operand} (hx : x ∈ X.args) (hj : Sx.ev fr x ≠ .junk) : a.eval x = (Sx.ev fr x).re σ := by
  have := ev_selF (fr := fr) hp x hx
  rw [this] at hj ⊢
  exact H.hfr.ev x hj

theorem hv_store {t : TypeId} {ad x : Operand} {X : XOp} (ho : o.op = .store t ad x) (hX : xop0 P (.store t ad x) = some X) (hp : ∀ t, t ∈ X.slots → p t = true) (H : HPre fr L L' g σ a w p)
    (h : hv P X (ev fr) L g chk K) : ∃ rd ids, chk rd ids = true ∧ ((∀ k, k ∈ rd → L'[k]? = L[k]?) → (∀ k, k ∈ ids → L'[k]? = L[k]?) → o.wp P a w (HNext o a L L' g σ w ids K) (HPan a L L' g σ w ids K)) := by
  simp only [xop0] at hX
  cases hi : P.info? t with
  | none => simp [hi] at hX
  | some i =>
    rw [hi] at hX
    simp only [Option.some.injEq] at hX
    subst hX
    simp only [hv] at h
    split at h
    case h_2 => exact h.elim
    case h_1 k off ha =>
      obtain ⟨hck, h⟩ := ifOk_elim h
      refine ⟨[], [k], hck, fun _ hids => ?_⟩
      have hLk := hids k (by simp)
      have hea : a.eval ad = .pointer (some ⟨σ k, off, none⟩) := by rw [H.ev hp (by simp [XOp.args]) (by simp [ha]), ha]; rfl
      have fin : ∀ (cur : List Value) (ty : TypeId) (v : Value) (c' : Chunk), w.heap[σ k]? = some (.cells cur.toArray ty (0, 0)) → a.eval x = v → v.cells.toList.length = i.size → off + i.size ≤ cur.length → (∀ u ∈ v.cells.toList, u.oneCell' = true) → live L' k →
          scC L.length c' = true → c'.obj σ = some (.cells (cur.take off ++ (v.cells.toList ++ cur.drop (off + i.size))).toArray ty (0, 0)) → K (.ret .junk) (L.set k c') g → o.wp P a w (HNext o a L L' g σ w [k] K) (HPan a L L' g σ w [k] K) := by
        intro cur ty v c' hw hv hsz hle hone hk hc hob hK
        obtain ⟨w', hr, hw'⟩ := run_storeCells_splice (P := P) (σ k) ty v.cells.toList off 0 cur w hw (by omega) hone
        have hsz' : v.cells.size = i.size := by rw [← hsz]; simp
        have hrun : (execOp a.eval o).run P w = .ok .skip w' := by
          simp [execOp, ho, hea, hv, Instr.storeAt, Instr.sureAddr, storeVar, sizeOf, typeInfo, hi, hsz', hr]
        unfold Oper.wp
        rw [hrun]
        simp only [Nat.add_zero, hsz] at hw'
        rw [hw']
        have hrs := redo_set (c := c') H.less.1 hLk
        refine ⟨undef, .junk, L.set k c', g, σ, rfl, fun e => absurd rfl e, rfl, ⟨by simp, fun j _ hj => List.getElem?_set_ne (fun e => hj (by simp [e]))⟩, ?_, scH_set H.scL hc, ?_, hK⟩
        · rw [hrs]; exact H.mem.write hk c' _ hob
        · rw [hrs]; exact (Goes.refl σ L' g w).write hk c' _
      split at h
      case h_1 ty c hc =>
        obtain ⟨hj, h⟩ := nj_elim h
        obtain ⟨hle, h⟩ := ifle_elim h
        obtain ⟨hb, h⟩ := ifOk_elim h
        obtain ⟨hone, h⟩ := oneAll_elim h
        have hn := Nat.eq_of_beq_eq_true hb
        have hcl := cells_re σ _ hj
        have hc' : L'[k]? = some (.cells ty c) := by rw [hLk, hc]
        refine fin (reL σ c) ty _ _ (H.mem.lo k _ _ hc' rfl) (H.ev hp (by simp [XOp.args]) hj) (by rw [hcl, reL_length]; exact hn) (by rw [reL_length]; exact hle) (fun u hu => ?_) (live_of hc' rfl) ?_ ?_ h
        · rw [hcl, reL_map] at hu
          obtain ⟨y, hy, rfl⟩ := List.mem_map.1 hu
          exact hone y hy σ
        · show scL L.length _ = true
          rw [scL_append, scL_append]
          exact ⟨scL_take _ (H.scL _ _ _ hc), sc_cells (sc_ev H.scF x), scL_drop _ (H.scL _ _ _ hc)⟩
        · simp only [Chunk.obj, reL_append, reL_take, reL_drop, hcl]
      case h_2 ty c hc =>
        have hc' : L'[k]? = some (.vals ty c) := by rw [hLk, hc]
        split at h
        case h_2 => exact h.elim
        case h_1 y hx =>
          obtain ⟨hn, hone, hlt, h⟩ := h
          exact fin c ty y _ (H.mem.lo k _ _ hc' rfl) (by rw [H.ev hp (by simp [XOp.args]) (by simp [hx]), hx]; rfl) (by simpa using hn) hlt hone (live_of hc' rfl) rfl rfl h
      case h_3 => exact h.elim

theorem call_wp {f : FuncId} {as : List SV} {rd ids : List Nat} (H : HPre fr L L' g σ a w p) (hsc : scL L.length as = true) (h : CallV P f as L g rd ids K) (hrd : ∀ k, k ∈ rd → L'[k]? = L[k]?) (hids : ∀ k, k ∈ ids → L'[k]? = L[k]?) (hrun : callable P f = true → (execOp a.eval o).run P w = .ok (.enter f (reL σ as).toArray) w) :
    o.wp P a w (HNext o a L L' g σ w ids K) (HPan a L L' g σ w ids K) := by
  unfold Oper.wp
  rw [hrun h.1]
  show Calls P f _ w _
  refine (h.2 L' σ w H.less hrd hids H.mem H.scL hsc).mono ?_
  rintro e w' ⟨out, L1, g', σ', he, hj, h1, h2, h3, h4, h5, h6⟩
  cases out with
  | ret r =>
    cases he
    exact ⟨_, r, L1, g', σ', rfl, fun _ => rfl, h4, h1, h2, h3, h5, h6⟩
  | pan x =>
    cases he
    exact ⟨x, L1, g', σ', rfl, hj, rfl, h4, h1, h2, h3, h5, h6⟩

theorem ev_mapH (H : HPre fr L L' g σ a w p) {X : XOp} (hp : ∀ t, t ∈ X.slots → p t = true) (l : List Operand) (hl : ∀ x ∈ l, x ∈ X.args) (h : ∀ x ∈ l.map (Sx.ev fr), x ≠ .junk) : l.map a.eval = reL σ (l.map (Sx.ev fr)) := by
  rw [reL_map, List.map_map]
  apply List.map_congr_left
  intro x hx
  exact H.ev hp (hl x hx) (h _ (List.mem_map_of_mem hx))

theorem valsOf_spec : ∀ {l : List SV} {xs : List Value}, valsOf l = some xs → l = xs.map .v
  | [], xs, h => by simp only [valsOf, Option.some.injEq] at h; subst h; rfl
  | y :: l, xs, h => by
    unfold valsOf at h
    split at h
    · rename_i h0; cases h0
    · rename_i x l' heq
      cases heq
      split at h
      · rename_i ys hys
        cases h
        rw [valsOf_spec hys]
        rfl
      · cases h
    · cases h

theorem plainAt_obj {L : List Chunk} {k : Nat} {ty : TypeId} {xs : List Value} (h : plainAt L k = some (ty, xs)) : ∃ c, L[k]? = some c ∧ c.here = true ∧ ∀ σ, c.obj σ = some (.cells xs.toArray ty (0, 0)) := by
  unfold plainAt at h
  split at h
  · rename_i c hc
    refine ⟨c, hc, ?_⟩
    cases c with
    | vals ty' c' => simp only [Chunk.plain, Option.some.injEq, Prod.mk.injEq] at h; obtain ⟨rfl, rfl⟩ := h; exact ⟨rfl, fun σ => rfl⟩
    | cells ty' c' =>
      simp only [Chunk.plain] at h
      split at h
      · rename_i ys hys
        simp only [Option.some.injEq, Prod.mk.injEq] at h
        obtain ⟨rfl, rfl⟩ := h
        refine ⟨rfl, fun σ => ?_⟩
        rw [valsOf_spec hys]
        simp only [Chunk.obj, reL_v]
      · cases h
    | gone => cases h
    | raw => cases h
  · cases h

/-- What a slice that is read holds, in the model. -/
theorem srcK_elim {x : SV} {sz : Nat} {K' : List Nat → Nat → List Value → Prop} (hm : Mem g L' σ w) (h : srcK x sz L g K') :
    ∃ ks m news, K' ks m news ∧ news.length = m * sz ∧ ((∀ k, k ∈ ks → L'[k]? = L[k]?) → ∃ a cap, x.re σ = .slice a m cap ∧ (0 < m → ∃ ad, a = some ad ∧ ∀ j v, news[j]? = some v → w.cell? (ad.add j) = some v)) := by
  unfold srcK at h
  split at h
  · rename_i k off m cap
    split at h
    · rename_i ty c hc
      obtain ⟨hle, h⟩ := h
      obtain ⟨ch, hch, hh, hob⟩ := plainAt_obj hc
      refine ⟨_, _, _, h, by rw [List.length_take, List.length_drop]; omega, fun hids => ⟨_, cap, rfl, fun _ => ⟨_, rfl, fun j v hj => ?_⟩⟩⟩
      have h1 := hm.lo k ch _ (by rw [hids k (by simp)]; exact hch) (hob σ)
      rw [add_cell]
      simp only [World.cell?, h1, Option.isSome_none, Bool.false_eq_true, if_false]
      rw [List.getElem?_take] at hj
      split at hj
      · rw [List.getElem?_drop] at hj
        simpa using hj
      · cases hj
    · exact h.elim
  · rename_i a m cap
    obtain ⟨xs, ⟨hl, hat⟩, h⟩ := h
    refine ⟨_, _, _, h, hl, fun _ => ⟨a, cap, rfl, fun h0 => ?_⟩⟩
    obtain ⟨ad, ha, hsp, c, ty, fz, hg, hc⟩ := hat h0
    refine ⟨ad, ha, fun j v hj => ?_⟩
    obtain ⟨b, o, sp⟩ := ad
    simp only at hsp
    subst hsp
    rw [add_cell]
    have hjl : j < xs.length := (List.getElem?_eq_some_iff.1 hj).1
    simp only [World.cell?, hm.im _ _ hg, Option.isSome_none, Bool.false_eq_true, if_false]
    rw [← hj]
    exact hc j hjl
  · exact h.elim

theorem redo_app {ids : List Nat} {M M' N : List Chunk} (hlen : M.length = L'.length) (hlen' : M'.length = L'.length) (h1 : ∀ k, k < L'.length → k ∈ ids → M[k]? = M'[k]?) (h2 : ∀ k, k < L'.length → k ∉ ids → L'[k]? = M'[k]?) : redo ids 0 L' (M ++ N) = M' ++ N := by
  apply List.ext_getElem?
  intro j
  rw [redo_get _ _ _ _ _ (by simp; omega), Nat.zero_add]
  by_cases hj : j < L'.length
  · rw [List.getElem?_append_left (by omega : j < M'.length)]
    split
    · rename_i hc; exact h2 j hj hc.2
    · rename_i hn
      rw [List.getElem?_append_left (by omega)]
      exact h1 j hj (Classical.byContradiction fun hh => hn ⟨hj, hh⟩)
  · rw [if_neg (fun hh => hj hh.1), List.getElem?_append_right (by omega), List.getElem?_append_right (by omega), hlen, hlen']

theorem scH_less (h : Less L' L) (hL : scH L) : scH L' := by
  intro k ty l hk
  rw [h.1]
  rcases h.2 k with h1 | h1
  · rw [h1] at hk; cases hk
  · rw [h1] at hk; exact hL k ty l hk
theorem scH_push {ty : TypeId} {xs : List Value} (hL : scH L) : scH (L ++ [.vals ty xs]) := by
  intro k ty' l hk
  rcases getElem?_append_one hk with ⟨_, h2⟩ | ⟨_, h2⟩
  · exact scL_mono (by simp) _ (hL k ty' l h2)
  · cases h2

/-- A new block. -/
theorem Mem.push (h : Mem g L σ w) (hsc : scH L) {ty : TypeId} {xs : List Value} :
    Mem g (L ++ [.vals ty xs]) (fun j => if j = L.length then w.heap.size else σ j) { w with heap := w.heap.push (.cells xs.toArray ty (0, 0)) } := by
  have hoff : ∀ (j : Nat) (c' : Chunk), (L ++ [Chunk.gone])[j]? = some c' → c'.on (fun i => !(i == L.length)) = true := by
    intro j c' hjc
    rcases getElem?_append_one hjc with ⟨_, h2⟩ | ⟨_, rfl⟩
    · cases c' with
      | cells ty l =>
        have := hsc j ty l h2
        rw [onL_sc] at this
        exact onL_mono (fun k hk => by simp at hk ⊢; omega) l this
      | _ => rfl
    · rfl
  have := h.place.born (k := L.length) (by simp) hoff (.vals ty xs) rfl _ rfl
  rwa [set_last] at this
theorem Goes.push {σ0 L0 g0 w0} (h : Goes σ0 L0 g0 w0 σ L g w) {ty : TypeId} {xs : List Value} :
    Goes σ0 L0 g0 w0 (fun j => if j = L.length then w.heap.size else σ j) (L ++ [.vals ty xs]) g { w with heap := w.heap.push (.cells xs.toArray ty (0, 0)) } := by
  have := h.place.born (k := L.length) h.len (.vals ty xs) (.cells xs.toArray ty (0, 0))
  rwa [set_last] at this

/-- A block of the function's own goes over to a new name, written anew. -/
theorem Mem.take (h : Mem g L σ w) (hsc : scH L) {k : Nat} (hk : live L k) {ty : TypeId} {xs : List Value} :
    Mem g (L.set k .gone ++ [.vals ty xs]) (fun j => if j = L.length then σ k else σ j) { w with heap := w.heap.setIfInBounds (σ k) (.cells xs.toArray ty (0, 0)) } := by
  have hw := h.write hk (.vals ty xs) _ rfl
  have hkl := live_lt hk
  have hget : ∀ j, j < L.length → j ≠ k → (L.set k Chunk.gone ++ [Chunk.vals ty xs])[j]? = L[j]? := fun j hj hjk => by
    rw [List.getElem?_append_left (by simpa using hj), List.getElem?_set_ne (fun e => hjk e.symm)]
  have hget2 : ∀ j, j < L.length → j ≠ k → (L.set k (Chunk.vals ty xs))[j]? = L[j]? := fun j hj hjk => List.getElem?_set_ne (fun e => hjk e.symm)
  have hcase : ∀ j, live (L.set k Chunk.gone ++ [Chunk.vals ty xs]) j → (j < L.length ∧ j ≠ k ∧ live L j) ∨ j = L.length := fun j hj => by
    have hl := live_lt hj
    simp at hl
    by_cases hjl : j < L.length
    · left
      have hjk : j ≠ k := fun e => by
        subst e
        unfold live liveB at hj
        rw [List.getElem?_append_left (by simpa using hjl), List.getElem?_set_self hjl] at hj
        cases hj
      exact ⟨hjl, hjk, (live_congr (hget j hjl hjk)).1 hj⟩
    · right; omega
  refine ⟨hw.im, fun j c o hj ho => ?_, fun i j hi hj e => ?_, fun j hj => ?_⟩
  · rcases hcase j (live_of hj (obj_here ho)) with ⟨h1, h2, h3⟩ | rfl
    · rw [hget j h1 h2] at hj
      have : c.obj σ = some o := by
        rw [← ho]
        exact obj_congr (n := L.length) (fun i hi => by simp [show i ≠ L.length by omega]) (fun ty l e => hsc j ty l (by rw [hj, e]))
      simp only [show j ≠ L.length by omega, if_false]
      exact hw.lo j c o (by rw [hget2 j h1 h2]; exact hj) this
    · rw [List.getElem?_append_right (by simp)] at hj
      simp at hj
      subst hj
      simp only [if_true]
      exact hw.lo k _ _ (List.getElem?_set_self hkl) ho
  · rcases hcase i hi with ⟨h1, h2, h3⟩ | rfl <;> rcases hcase j hj with ⟨k1, k2, k3⟩ | rfl
    · simp only [show i ≠ L.length by omega, show j ≠ L.length by omega, if_false] at e
      exact h.inj i j h3 k3 e
    · simp only [show i ≠ L.length by omega, if_false, if_true] at e
      exact absurd (h.inj i k h3 hk e) h2
    · simp only [show j ≠ L.length by omega, if_false, if_true] at e
      exact absurd (h.inj k j hk k3 e).symm k2
    · rfl
  · rcases hcase j hj with ⟨h1, h2, h3⟩ | rfl
    · simp only [show j ≠ L.length by omega, if_false]; exact h.sep j h3
    · simp only [if_true]; exact h.sep k hk

theorem Goes.take {k : Nat} (hk : live L k) {ty : TypeId} {xs : List Value} :
    Goes σ L g w (fun j => if j = L.length then σ k else σ j) (L.set k .gone ++ [.vals ty xs]) g { w with heap := w.heap.setIfInBounds (σ k) (.cells xs.toArray ty (0, 0)) } := by
  have hkl := live_lt hk
  have hgone : ¬ live (L.set k Chunk.gone ++ [Chunk.vals ty xs]) k := fun hl => by
    unfold live liveB at hl
    rw [List.getElem?_append_left (by simpa using hkl), List.getElem?_set_self hkl] at hl
    cases hl
  refine ⟨fun j hj => by simp [show j ≠ L.length by omega], by simp, fun j hj hl => ?_, fun j hj hl => ?_, fun _ _ h => h, fun _ h1 h2 => absurd h1 h2, rfl, rfl, rfl, by simp, fun b hb hn => ?_⟩
  · have hjk : j ≠ k := fun e => hgone (e ▸ hl)
    exact (live_congr (by rw [List.getElem?_append_left (by simpa using hj), List.getElem?_set_ne (fun e => hjk e.symm)])).1 hl
  · have := live_lt hl
    simp at this
    have hj' : j = L.length := by omega
    subst hj'
    exact .inr ⟨k, hkl, hk, hgone, by simp⟩
  · exact Array.getElem?_setIfInBounds_ne (hn k hk)

theorem setRow_eq {b : Nat} {old cs : Array Value} {t : TypeId} (hb : w.heap[b]? = some (.cells old t (0, 0))) : w.setRow b cs = { w with heap := w.heap.setIfInBounds b (.cells cs t (0, 0)) } := by
  unfold World.setRow
  congr 1
  apply Array.ext_getElem?
  intro k
  have hlt : b < w.heap.size := (Array.getElem?_eq_some_iff.1 hb).1
  by_cases hk : b = k
  · subst hk
    rw [Array.getElem?_modify, if_pos rfl, hb, Array.getElem?_setIfInBounds_self, if_pos hlt]
    rfl
  · rw [Array.getElem?_setIfInBounds_ne hk, Array.getElem?_modify, if_neg hk]

theorem xop_app {c : Call} {e sz bytes : Nat} {z : List Value} {args : List Operand} (hc : c.callee = .builtin .append) (hX : xop0 P (.call c) = some (.eff (.app e sz bytes z) args)) :
    ∃ s x t i zv, c.args.toList = [s, x] ∧ args = [s, x] ∧ c.argTypes = #[t, t] ∧ P.underlying t = some (.slice e) ∧ P.info? e = some i ∧ i.zero = some zv ∧ zv.cells.size = i.size ∧ 0 < i.size ∧ 0 < i.bytes ∧ sz = i.size ∧ bytes = i.bytes := by
  simp only [xop0, hc] at hX
  split at hX
  · rename_i s x t t' h1 h2
    split at hX
    · rename_i htt
      subst htt
      split at hX
      · rename_i e' hu
        split at hX
        · rename_i i hi
          split at hX
          · rename_i zv hz
            split at hX
            · rename_i hcnd
              simp only [Option.some.injEq, XOp.eff.injEq, ZOp.app.injEq] at hX
              obtain ⟨⟨rfl, rfl, rfl, rfl⟩, rfl⟩ := hX
              exact ⟨s, x, t, i, zv, h1, rfl, by apply Array.ext'; simpa using h2, hu, hi, hz, hcnd.1, hcnd.2.1, hcnd.2.2, rfl, rfl⟩
            · cases hX
          · cases hX
        · cases hX
      · cases hX
    · cases hX
  · cases hX

theorem less_gone (L : List Chunk) (k : Nat) : Less (L.set k .gone) L := by
  refine ⟨by simp, fun j => ?_⟩
  by_cases hj : k = j
  · subst hj
    by_cases hk : k < L.length
    · exact .inl (List.getElem?_set_self hk)
    · right
      rw [List.getElem?_eq_none (by simp; omega), List.getElem?_eq_none (by omega)]
  · exact .inr (List.getElem?_set_ne hj)

theorem set_same {b : Nat} {o : Obj} (h : w.heap[b]? = some o) : w.heap.setIfInBounds b o = w.heap := by
  apply Array.ext_getElem?
  intro k
  by_cases hk : b = k
  · subst hk
    rw [Array.getElem?_setIfInBounds_self, if_pos (Array.getElem?_eq_some_iff.1 h).1, h]
  · rw [Array.getElem?_setIfInBounds_ne hk]

theorem hv_app {c : Call} {e sz bytes : Nat} {z : List Value} {args : List Operand} (ho : o.op = .call c) (hc : c.callee = .builtin .append) (hX : xop0 P (.call c) = some (.eff (.app e sz bytes z) args)) (hp : ∀ t, t ∈ (XOp.eff (.app e sz bytes z) args).slots → p t = true) (H : HPre fr L L' g σ a w p)
    (h : hvZ (.app e sz bytes z) (args.map (ev fr)) L g chk K) : ∃ rd ids, chk rd ids = true ∧ ((∀ k, k ∈ rd → L'[k]? = L[k]?) → (∀ k, k ∈ ids → L'[k]? = L[k]?) → o.wp P a w (HNext o a L L' g σ w ids K) (HPan a L L' g σ w ids K)) := by
  obtain ⟨s, x, t, i, zv, hargs, rfl, htys, hu, hi, hz, hzs, hsz, hby, rfl, rfl⟩ := xop_app hc hX
  simp only [hvZ, List.map_cons, List.map_nil] at h
  have hxj : ev fr x ≠ .junk := by
    intro e0
    rw [e0] at h
    exact h
  obtain ⟨kx, m, news, ⟨hone, h⟩, hnl, hsrc⟩ := srcK_elim H.mem h
  have hlen : L'.length = L.length := H.less.1
  have hscL' := scH_less H.less H.scL
  have hev : a.eval x = (ev fr x).re σ := H.ev hp (by simp [XOp.args]) hxj
  have hrunOf : ∀ v w', (Builtin.append_ #[t, t] o.type #[a.eval s, a.eval x]).run P w = .ok v w' → (execOp a.eval o).run P w = .ok (.value v) w' := by
    intro v w' hv
    have e1 : c.args.map a.eval = #[a.eval s, a.eval x] := by apply Array.ext'; simp [hargs]
    simp only [execOp, ho, resolve, hc, Sem.run_bind, Sem.run_pure, Result.andThen_ok, invoke, builtin, htys, e1, hv]
  have zsz : ∀ n, (Builtin.zeroCells zv.cells n).toList.length = n * i.size := fun n => by rw [Array.length_toList, size_zeroCells, hzs]
  split at h
  case h_1 hs =>
    obtain ⟨hck, hb, h⟩ := ifOk_elim h
    refine ⟨[], kx, hck, fun _ hids => ?_⟩
    obtain ⟨ad, cap, hx, hcells⟩ := hsrc hids
    have hs' : a.eval s = .slice none 0 0 := by rw [H.ev hp (by simp [XOp.args]) (by simp [hs]), hs]; rfl
    rw [hs', hev, hx] at hrunOf
    unfold Oper.wp
    cases m with
    | zero =>
      have hr : (Builtin.append_ #[t, t] o.type #[.slice none 0 0, .slice ad 0 cap]).run P w = .ok (.slice none 0 0) w := by
        cases ad <;> simp [Builtin.append_, run_underlying hu, sizeOf, typeInfo, hi, Builtin.lenOf, Builtin.firstCells, loadCells, loadCellsFrom]
      rw [hrunOf _ _ hr]
      have hrd : redo kx 0 L' L = L' := by simpa using redo_app (L' := L') (M := L) (M' := L') (N := []) (ids := kx) hlen.symm rfl (fun k _ hk => (hids k hk).symm) (fun _ _ _ => rfl)
      refine ⟨_, _, L, g, σ, rfl, fun _ => rfl, rfl, ⟨Nat.le_refl _, fun _ _ _ => rfl⟩, ?_, H.scL, ?_, h⟩
      · rw [hrd]; exact H.mem
      · rw [hrd]; exact Goes.refl _ _ _ _
    | succ m =>
      obtain ⟨ad, rfl, hcell⟩ := hcells (by omega)
      have hm : m + 1 ≤ 140737488355328 := Nat.le_trans (Nat.le_mul_of_pos_right _ hby) hb
      have hr := run_append_nil (P := P) w t o.type e i zv hu hi hz ad (m + 1) cap news hnl hcell (by omega) (by omega) (by omega)
      rw [hrunOf _ _ hr]
      have hge := grownCap_ge w (m + 1) 0 e
      have hle := grownCap_le_maxLen w (m + 1) 0 e (by simp only [maxLen]; omega)
      generalize grownCap w (m + 1) 0 e = gc at hge hle
      have hk := h gc (Builtin.zeroCells zv.cells (gc - (m + 1))).toList hge (by simpa [maxLen] using hle) (zsz _)
      have hrd : redo kx 0 L' (L ++ [Chunk.vals e (news ++ (Builtin.zeroCells zv.cells (gc - (m + 1))).toList)]) = L' ++ [Chunk.vals e (news ++ (Builtin.zeroCells zv.cells (gc - (m + 1))).toList)] := redo_app hlen.symm rfl (fun k _ hk => (hids k hk).symm) (fun _ _ _ => rfl)
      have hw : w.drew.alloc (.cells (news.toArray ++ Builtin.zeroCells zv.cells (gc - (m + 1))) e) = { ({ w with heap := w.heap.push (.cells (news ++ (Builtin.zeroCells zv.cells (gc - (m + 1))).toList).toArray e (0, 0)) } : World) with drawn := w.drew.drawn } := by
        have e1 : news.toArray ++ Builtin.zeroCells zv.cells (gc - (m + 1)) = (news ++ (Builtin.zeroCells zv.cells (gc - (m + 1))).toList).toArray := by apply Array.ext'; simp
        rw [e1]
        rfl
      refine ⟨_, .slc L.length 0 (m + 1) gc, _, g, fun j => if j = L'.length then w.heap.size else σ j, rfl, fun _ => by simp [SV.re, hlen], by simp [SV.sc], ⟨by simp, fun k hk _ => List.getElem?_append_left hk⟩, ?_, scH_push H.scL, ?_, hk⟩
      · rw [hrd, hw]; exact (H.mem.push hscL').drew _
      · rw [hrd, hw]; exact ((Goes.refl σ L' g w).push).drew _
  case h_2 k off n cp hs =>
    have hck := (ifOk_elim h).1
    replace h := (ifOk_elim h).2
    simp only [Bool.and_eq_true] at hck
    have hoff := Nat.eq_of_beq_eq_true hck.1
    subst hoff
    split at h
    case h_2 => exact h.elim
    case h_1 ty cur hpl =>
      obtain ⟨hty, h⟩ := ifOk_elim h
      have hty := Nat.eq_of_beq_eq_true hty
      subst hty
      obtain ⟨xs, sp, rfl, hxl, ⟨hcl, hnc, hcm⟩, hb, h⟩ := h
      obtain ⟨ch, hch, hhere, hob⟩ := plainAt_obj hpl
      refine ⟨[], k :: kx, hck.2, fun _ hids => ?_⟩
      obtain ⟨ad, cap, hx, hcells⟩ := hsrc fun j hj => hids j (by simp [hj])
      have hs' : a.eval s = .slice (some ⟨σ k, 0, none⟩) n cp := by rw [H.ev hp (by simp [XOp.args]) (by simp [hs]), hs]; rfl
      rw [hs', hev, hx] at hrunOf
      have hkL : L'[k]? = some ch := by rw [hids k (by simp), hch]
      have hlive : live L' k := live_of hkL hhere
      have hheap := H.mem.lo k ch _ hkL (hob σ)
      have hkl : k < L'.length := live_lt hlive
      have hnm : n + m ≤ 140737488355328 := Nat.le_trans (Nat.le_mul_of_pos_right _ hby) hb
      have hrd : ∀ N, redo (k :: kx) 0 L' (L.set k .gone ++ N) = L'.set k .gone ++ N := fun N => redo_app (by simp [hlen]) (by simp) (fun j hj hjm => (by
        by_cases hjk : k = j
        · subst hjk
          rw [List.getElem?_set_self (by omega), List.getElem?_set_self (by omega)]
        · rw [List.getElem?_set_ne hjk, List.getElem?_set_ne hjk]
          exact (hids j hjm).symm)) (fun j _ hjm => (List.getElem?_set_ne (fun e => hjm (by simp [e]))).symm)
      have hupd : ∀ c', Upd (k :: kx) L (L.set k .gone ++ [c']) := fun c' => ⟨by simp, fun j hj hjm => by
        rw [List.getElem?_append_left (by simpa using hj), List.getElem?_set_ne (fun e => hjm (by simp [e]))]⟩
      have hscg : scH (L.set k .gone) := scH_set H.scL rfl
      have hlen2 : (L.set k Chunk.gone).length = L'.length := by simp [hlen]
      -- what is left where the old block is taken over
      have taken : ∀ w' (spare : List Value), w' = { w with heap := w.heap.setIfInBounds (σ k) (.cells (xs ++ (news ++ spare)).toArray ty (0, 0)) } → spare.length = (cp - (n + m)) * i.size → n + m ≤ cp →
          (Builtin.append_ #[t, t] o.type #[.slice (some ⟨σ k, 0, none⟩) n cp, .slice ad m cap]).run P w = .ok (.slice (some ⟨σ k, 0, none⟩) (n + m) cp) w' → o.wp P a w (HNext o a L L' g σ w (k :: kx) K) (HPan a L L' g σ w (k :: kx) K) := by
        intro w' spare hw hsp hroom hr
        unfold Oper.wp
        rw [hrunOf _ _ hr]
        refine ⟨_, .slc L.length 0 (n + m) cp, _, g, fun j => if j = L'.length then σ k else σ j, rfl, fun _ => by simp [SV.re, hlen], by simp [SV.sc], hupd _, ?_, scH_push hscg, ?_, h cp spare hroom hcm hsp⟩
        · rw [hrd, hw]; exact H.mem.take hscL' hlive
        · rw [hrd, hw]; exact Goes.take hlive
      by_cases hroom : n + m ≤ cp
      · have hle : news.length ≤ sp.length := by
          have h1 : (n + m) * i.size ≤ cp * i.size := Nat.mul_le_mul_right _ hroom
          rw [Nat.add_mul] at h1
          simp only [List.length_append] at hcl
          omega
        have hspl : (sp.drop news.length).length = (cp - (n + m)) * i.size := by
          rw [List.length_drop, Nat.sub_mul, Nat.add_mul]
          simp only [List.length_append] at hcl
          omega
        cases ad with
        | none =>
          have hm : m = 0 := Classical.byContradiction fun h0 => by
            obtain ⟨_, h1, _⟩ := hcells (by omega)
            cases h1
          subst hm
          have hn : news = [] := List.eq_nil_of_length_eq_zero (by simpa using hnl)
          subst hn
          refine taken w sp ?_ (by simpa using hspl) hroom ?_
          · rw [List.nil_append, set_same hheap]
          · simp [Builtin.append_, run_underlying hu, sizeOf, typeInfo, hi, Builtin.lenOf, Builtin.firstCells, storeCells, hnc]
        | some ad =>
          have hnews : ∀ j u, news[j]? = some u → w.cell? (ad.add j) = some u := by
            intro j u hj
            by_cases h0 : 0 < m
            · obtain ⟨_, e1, h1⟩ := hcells h0
              cases e1
              exact h1 j u hj
            · have hm : m = 0 := by omega
              subst hm
              have hn : news = [] := List.eq_nil_of_length_eq_zero (by simpa using hnl)
              subst hn
              simp at hj
          have hr := run_append_room (P := P) w t o.type ty i hu hi (σ k) n cp _ hheap ad m cap news hnl hnews hone hroom (by
            simp only [List.size_toArray, List.length_append]
            omega)
          refine taken _ (sp.drop news.length) ?_ hspl hroom hr
          rw [setRow_eq hheap]
          have e1 : ((xs ++ sp).toArray.toList.take (n * i.size) ++ news ++ (xs ++ sp).toArray.toList.drop (n * i.size + news.length)) = xs ++ (news ++ sp.drop news.length) := by
            simp only
            rw [← hxl, List.take_left, List.append_assoc, ← List.drop_drop, List.drop_left]
          rw [e1]
      · have h0 : 0 < m := by omega
        obtain ⟨ad, rfl, hcell⟩ := hcells h0
        have holds : ∀ j v, xs[j]? = some v → w.cell? ((⟨σ k, 0, none⟩ : Addr).add j) = some v := by
          intro j v hj
          rw [add_cell]
          simp only [World.cell?, hheap, Option.isSome_none, Bool.false_eq_true, if_false, Nat.zero_add]
          have : j < xs.length := (List.getElem?_eq_some_iff.1 hj).1
          simpa [List.getElem?_append_left this] using hj
        have hr := run_append_grow (P := P) w t o.type ty i zv hu hi hz ⟨σ k, 0, none⟩ n cp xs hxl holds ad m cap news hnl hcell (by omega) (by omega) (growslice_fits (by omega) hb)
        unfold Oper.wp
        rw [hrunOf _ _ hr]
        have hge := grownCap_ge w (n + m) cp ty
        have hle := grownCap_le_maxLen w (n + m) cp ty (by simp only [maxLen]; omega)
        generalize grownCap w (n + m) cp ty = gc at hge hle
        have hk := h gc (Builtin.zeroCells zv.cells (gc - (n + m))).toList hge (by simpa [maxLen] using hle) (zsz _)
        have hw : w.drew.alloc (.cells (xs.toArray ++ news.toArray ++ Builtin.zeroCells zv.cells (gc - (n + m))) ty) = { ({ w with heap := w.heap.push (.cells (xs ++ (news ++ (Builtin.zeroCells zv.cells (gc - (n + m))).toList)).toArray ty (0, 0)) } : World) with drawn := w.drew.drawn } := by
          have e1 : xs.toArray ++ news.toArray ++ Builtin.zeroCells zv.cells (gc - (n + m)) = (xs ++ (news ++ (Builtin.zeroCells zv.cells (gc - (n + m))).toList)).toArray := by apply Array.ext'; simp
          rw [e1]
          rfl
        have hgm : Mem g (L'.set k .gone) σ w := H.mem.less (less_gone L' k)
        have hgg : Goes σ L' g w σ (L'.set k .gone) g w := (Goes.refl σ L' g w).less (less_gone L' k)
        refine ⟨_, .slc L.length 0 (n + m) gc, _, g, fun j => if j = (L'.set k Chunk.gone).length then w.heap.size else σ j, rfl, fun _ => by simp [SV.re, hlen], by simp [SV.sc], hupd _, ?_, scH_push hscg, ?_, hk⟩
        · rw [hrd, hw]; exact (hgm.push (scH_set hscL' rfl)).drew _
        · rw [hrd, hw]; exact (hgg.push).drew _
  case h_3 => exact h.elim

theorem hv_sound0 {X : XOp} (hX : xop0 P o.op = some X) (hp : ∀ t, t ∈ X.slots → p t = true) (H : HPre fr L L' g σ a w p) (h : hv P X (ev fr) L g chk K) :
    ∃ rd ids, chk rd ids = true ∧ ((∀ k, k ∈ rd → L'[k]? = L[k]?) → (∀ k, k ∈ ids → L'[k]? = L[k]?) → o.wp P a w (HNext o a L L' g σ w ids K) (HPan a L L' g σ w ids K)) := by
  have viaFn : ∀ (c : Call) (x : Operand), o.op = .call c → c.callee = .value x → X = .callv x c.args.toList → ∃ rd ids, chk rd ids = true ∧ ((∀ k, k ∈ rd → L'[k]? = L[k]?) → (∀ k, k ∈ ids → L'[k]? = L[k]?) → o.wp P a w (HNext o a L L' g σ w ids K) (HPan a L L' g σ w ids K)) := by
    intro c x ho hc hXe
    subst hXe
    simp only [hv] at h
    split at h
    case h_2 => exact h.elim
    case h_1 f first cap hx =>
      obtain ⟨hj, h⟩ := njL_elim h
      unfold CallX at h
      obtain ⟨rd, ids, hck, h⟩ := h
      refine ⟨rd, ids, hck, fun hrd hids => ?_⟩
      have hfn : (SV.fn f first cap).sc L.length = true := by rw [← hx]; exact sc_ev H.scF x
      simp only [SV.sc, Bool.and_eq_true] at hfn
      have hsc : scL L.length (c.args.toList.map (ev fr)) = true := scL_mem.2 fun x hx => by obtain ⟨y, _, rfl⟩ := List.mem_map.1 hx; exact sc_ev H.scF y
      refine call_wp H (by rw [scL_append, scL_append]; exact ⟨hfn.1, hsc, hfn.2⟩) h hrd hids fun hcb => ?_
      have e1 : c.args.map a.eval = (reL σ (c.args.toList.map (ev fr))).toArray := by apply Array.ext'; simp [← ev_mapH H hp c.args.toList (fun y hy => by simp [XOp.args]; right; simpa using hy) hj]
      have e2 : a.eval x = .func (.func f) (reL σ first).toArray (reL σ cap).toArray := by rw [H.ev hp (by simp [XOp.args]) (by simp [hx]), hx]; rfl
      simp only [execOp, ho, resolve, hc, e2, Deferred.ofValue, Sem.run_bind, Sem.run_pure, Result.andThen_ok, invoke, e1]
      rw [reL_append, reL_append]
      have := callable_run hcb ((reL σ first ++ (reL σ (c.args.toList.map (ev fr)) ++ reL σ cap)).toArray) w
      simpa using this
  cases ho : o.op with
  | store t ad x => exact hv_store ho (by rw [← ho]; exact hX) hp H h
  | call c =>
    rw [ho] at hX
    cases hc : c.callee with
    | value x =>
      cases x with
      | func f =>
        simp only [xop0, hc] at hX
        have hX' : X = .call f c.args.toList := by
          repeat' split at hX
          all_goals first | (cases hX; done) | (simp only [Option.some.injEq] at hX; subst hX; first | rfl | exact h.elim)
        clear hX
        subst hX'
        simp only [hv] at h
        obtain ⟨hj, h⟩ := njL_elim h
        unfold CallX at h
        obtain ⟨rd, ids, hck, h⟩ := h
        refine ⟨rd, ids, hck, fun hrd hids => ?_⟩
        have hsc : scL L.length (c.args.toList.map (ev fr)) = true := scL_mem.2 fun x hx => by obtain ⟨y, _, rfl⟩ := List.mem_map.1 hx; exact sc_ev H.scF y
        refine call_wp H hsc h hrd hids fun hcb => ?_
        have e1 : c.args.map a.eval = (reL σ (c.args.toList.map (ev fr))).toArray := by apply Array.ext'; simp [← ev_mapH H hp c.args.toList (fun y hy => by simpa [XOp.args] using hy) hj]
        simp only [execOp, ho, resolve, hc, Act.eval, Deferred.ofValue, Sem.run_bind, Sem.run_pure, Result.andThen_ok, invoke, e1]
        simpa using callable_run hcb _ w
      | tmp t => exact viaFn c _ ho hc (by simp only [xop0, hc, Option.some.injEq] at hX; exact hX.symm)
      | const v => exact viaFn c _ ho hc (by simp only [xop0, hc, Option.some.injEq] at hX; exact hX.symm)
      | global g => exact viaFn c _ ho hc (by simp only [xop0, hc, Option.some.injEq] at hX; exact hX.symm)
    | builtin b =>
      cases X with
      | eff z args =>
        cases z with
        | set =>
          exfalso
          cases b <;> simp only [xop0, hc] at hX <;> first
            | (cases hX; done)
            | ((repeat' split at hX) <;> first | (rename_i hq; cases hq; done) | (cases hX; done) | contradiction)
        | app e sz bytes z =>
          have hb : b = .append := by
            cases b <;> simp only [xop0, hc] at hX <;> first
              | rfl
              | (cases hX; done)
              | ((repeat' split at hX) <;> first | (rename_i hq; cases hq; done) | (cases hX; done) | contradiction)
          subst hb
          exact hv_app ho hc hX hp H h
      | _ =>
        exfalso
        cases b <;> simp only [xop0, hc] at hX <;> first
          | (cases hX; done)
          | ((repeat' split at hX) <;> first | (rename_i hq; cases hq; done) | (simp only [Option.some.injEq] at hX; cases hX; exact h) | (cases hX; done) | contradiction)
    | invoke r m => simp [xop0, hc] at hX
  | assign x =>
    rw [ho] at hX
    simp only [xop0, Option.some.injEq] at hX
    subst hX
    simp only [hv, hvZ, List.map_cons, List.map_nil] at h
    obtain ⟨hck, h⟩ := ifOk_elim h
    obtain ⟨hj, h⟩ := nj_elim h
    refine ⟨[], [], hck, fun _ _ => ?_⟩
    have hr : (execOp a.eval o).run P w = .ok (.value ((ev fr x).re σ)) w := by
      simp [execOp, ho, H.ev hp (by simp [XOp.args]) hj]
    unfold Oper.wp
    rw [hr]
    have hrd : redo [] 0 L' L = L' := by simpa using redo_app (L' := L') (M := L) (M' := L') (N := []) (ids := []) H.less.1.symm rfl (fun k _ hk => by simp at hk) (fun _ _ _ => rfl)
    refine ⟨_, ev fr x, L, g, σ, rfl, fun _ => rfl, sc_ev H.scF x, ⟨Nat.le_refl _, fun _ _ _ => rfl⟩, ?_, H.scL, ?_, h⟩
    · rw [hrd]; exact H.mem
    · rw [hrd]; exact Goes.refl _ _ _ _
  | typeAssert x st t c =>
    exfalso
    rw [ho] at hX
    cases c with
    | false => simp [xop0] at hX
    | true =>
      simp only [xop0] at hX
      repeat' split at hX
      all_goals first | (simp only [Option.some.injEq] at hX; subst hX; exact h) | cases hX
  | slice t x lo hi mx =>
    exfalso
    rw [ho] at hX
    cases mx with
    | some _ => simp [xop0] at hX
    | none =>
      simp only [xop0] at hX
      repeat' split at hX
      all_goals first | (simp only [Option.some.injEq] at hX; subst hX; exact h) | cases hX
  | _ =>
    exfalso
    rw [ho] at hX
    simp only [xop0] at hX
    repeat' split at hX
    all_goals first | (simp only [Option.some.injEq] at hX; subst hX; exact h) | (simp only [Option.map_eq_some_iff] at hX; obtain ⟨_, _, rfl⟩ := hX; exact h) | cases hX

theorem hv_sound {X : XOp} (hX : xop P o.op = some X) (hp : ∀ t, t ∈ X.slots → p t = true) (H : HPre fr L L' g σ a w p) (h : hv P X (ev fr) L g chk K) :
    ∃ rd ids, chk rd ids = true ∧ ((∀ k, k ∈ rd → L'[k]? = L[k]?) → (∀ k, k ∈ ids → L'[k]? = L[k]?) → o.wp P a w (HNext o a L L' g σ w ids K) (HPan a L L' g σ w ids K)) := by
  rcases xop_cases hX with h1 | rfl | ⟨args, rfl⟩
  · exact hv_sound0 h1 hp H h
  · exact h.elim
  · simp only [hv] at h
    obtain ⟨hj, h⟩ := njL_elim h
    unfold PrimX at h
    obtain ⟨rd, ids, hck, h⟩ := h
    refine ⟨rd, ids, hck, fun hrd hids => h o L' σ a w rfl H.less H.mem H.scL (scL_mem.2 fun x hx => by obtain ⟨y, _, rfl⟩ := List.mem_map.1 hx; exact sc_ev H.scF y) (fun p hp' => ?_) hrd hids⟩
    obtain ⟨i, hi⟩ := List.getElem?_of_mem hp'
    rw [List.getElem?_zip_eq_some, List.getElem?_map] at hi
    obtain ⟨h1, h2⟩ := hi
    rw [h1] at h2
    simp only [Option.map_some, Option.some.injEq] at h2
    have hm : p.1 ∈ args := List.mem_of_getElem? h1
    rw [← h2]
    exact H.ev hp (by simpa [XOp.args] using hm) (hj _ (List.mem_map_of_mem hm))

end
end Go.Sx
