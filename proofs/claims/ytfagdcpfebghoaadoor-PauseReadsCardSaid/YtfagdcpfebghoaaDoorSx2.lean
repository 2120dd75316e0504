/- A symbolic executor of my own, part 2: the code with the type tables looked up; what an operation that only reads yields in the model. Conditions: none; it speaks of any program. -/
import Derived.Test.YtfagdcpfebghoaaDoorSx1
import Derived.ChangeKeysEq
import Derived.Laws.StructEq
namespace Go.Sx

/-- A type whose cells are numbers (0), bools (1) and strings (2), one behind the other. -/
def flatFs (rec : TypeId → Option (List Nat)) (P : Program) : List Field → Nat → Option (List Nat)
  | [], _ => some []
  | f :: fs, off => if f.offset = off ∧ f.name ≠ "_" then
      match rec f.type with
      | some ks => if P.cellsOf f.type = ks.length ∧ (P.info? f.type).isSome then (flatFs rec P fs (off + ks.length)).map (ks ++ ·) else none
      | none => none
    else none

def flatK (P : Program) : Nat → TypeId → Option (List Nat)
  | 0, _ => none
  | d + 1, t => match P.underlying t with
    | some .bool => some [1]
    | some (.int _) => some [0]
    | some .string => some [2]
    | some (.struct fs) => if P.stoodInHeld t then none else flatFs (flatK P d) P fs.toList 0
    | some (.array n e) => match flatK P d e with
      | some ks => if P.cellsOf e = ks.length ∧ (P.info? e).isSome then some (List.replicate n ks).flatten else none
      | none => none
    | _ => none

def aggT (P : Program) (t : TypeId) : Bool :=
  match P.underlying t with
  | some (.struct _) => true
  | some (.array _ _) => true
  | _ => false

def placesOf (P : Program) (t : TypeId) (ps : List (Nat × Operand)) : Option (List (Nat × Nat × Operand)) :=
  match P.underlying t with
  | some (.struct fs) => ps.mapM fun p => match fs[p.1]? with
    | some f => if (P.info? f.type).isSome then some (f.offset, P.cellsOf f.type, p.2) else none
    | none => none
  | some (.array _ e) => if (P.info? e).isSome then some (ps.map fun p => (p.1 * P.cellsOf e, P.cellsOf e, p.2)) else none
  | _ => none

def buildable (P : Program) (t : TypeId) : Bool :=
  match P.underlying t with
  | some (.struct fs) => fs.all fun f => (P.info? f.type).isSome
  | some (.array _ _) => true
  | _ => false

/-- An operation with what the tables say looked up. -/
def xop0 (P : Program) : Op → Option XOp
  | .move x => some (.mov x)
  | .assign x => some (.eff .set [x])
  | .pick c a b => some (.pick c a b)
  | .alloc t => match P.info? t with
    | some i => i.zero.map fun z => .alloc t z.cells.toList
    | none => none
  | .box t x => some (.box t x)
  | .build t ps => match P.info? t with
    | some i => match i.zero with
      | some z => if buildable P t then
          (placesOf P t ps.toList).map fun l => .build z.cells.toList l else none
      | none => none
    | none => none
  | .buildSlice t n ps => match P.underlying t with
    | some (.slice e) => match P.info? e with
      | some i => match i.zero with
        | some z => if n * i.size ≤ 16777216 ∧ n * i.size ≠ 0 ∧ z.cells.size = i.size then
            some (.bslice e n ((List.range (n * i.size)).map fun j => z.cells[j % z.cells.size]!) (ps.toList.map fun p => (p.1 * i.size, i.size, p.2))) else none
        | none => none
      | none => none
    | _ => none
  | .load t a => match P.info? t with
    | some i => if aggT P t then some (.load true i.size a) else if (P.underlying t).isSome then some (.load false 1 a) else none
    | none => none
  | .store t a x => match P.info? t with
    | some i => some (.store i.size a x)
    | none => none
  | .binOp op t x y _ => if aggT P t then
      match flatK P 12 t with
      | some ks => if P.eqGuardType P.depth t = false then
          match op with
          | .eql => some (.eqAgg false ks x y)
          | .neq => some (.eqAgg true ks x y)
          | _ => none
        else none
      | none => none
    else match P.underlying t with
      | some (.int _) => some (.bin op x y)
      | some .bool => match op with
        | .eql => some (.eqB false x y)
        | .neq => some (.eqB true x y)
        | _ => none
      | some .string => some (.bin op x y)
      | some (.interface _) => match y with
        | .const .nilIface => match op with
          | .eql => some (.more (.nilI false) [x])
          | .neq => some (.more (.nilI true) [x])
          | _ => none
        | _ => none
      | some (.pointer _) => match y with
        | .const (.pointer none) => match op with
          | .eql => some (.more (.nilP false) [x])
          | .neq => some (.more (.nilP true) [x])
          | _ => none
        | _ => none
      | _ => none
  | .unOp op _ x => some (.un op x)
  | .convert s d x => match P.underlying s with
    | some (.int _) => match P.underlying d with
      | some (.int k) => some (.conv k x)
      | _ => none
    | some (.slice e) => match P.underlying e with
      | some (.int .u8) => match P.underlying d with
        | some .string => some (.more .b2s [x])
        | _ => none
      | _ => none
    | _ => none
  | .fieldAddr s x f => match P.underlying s with
    | some (.struct fs) => match fs[f]? with
      | some f => if (P.info? f.type).isSome ∧ P.cellsOf f.type ≠ 0 then some (.fieldA f.offset x) else none
      | none => none
    | _ => none
  | .field s x f => match P.underlying s with
    | some (.struct fs) => match fs[f]? with
      | some f => if (P.info? f.type).isSome ∧ (P.underlying f.type).isSome then some (.fieldV (aggT P f.type) f.offset (if aggT P f.type then P.cellsOf f.type else 1) x) else none
      | none => none
    | _ => none
  | .indexAddr t x i => match P.underlying t with
    | some (.slice e) => if (P.info? e).isSome then some (.indexS (P.cellsOf e) x i) else none
    | some (.array n e) => if (P.info? e).isSome then some (.indexP n (P.cellsOf e) x i) else none
    | _ => none
  | .index t x i => match P.underlying t with
    | some (.array n e) => if (P.info? e).isSome ∧ (P.underlying e).isSome ∧ (aggT P e = false → P.cellsOf e = 1) then some (.indexV n (aggT P e) (P.cellsOf e) x i) else none
    | some .string => some (.indexStr x i)
    | _ => none
  | .extract x i => some (.ext x i)
  | .makeInterface t x => match P.underlying t with
    | some (.interface _) => none
    | some _ => some (.mkI t x)
    | none => none
  | .makeFunc fn a b => match fn with
    | .func f => some (.mkF f a.toList b.toList)
    | _ => none
  | .call c => match c.callee with
    | .value (.func f) => match P.funcs[f]? with
      | some fn => if fn.name = "internal/bytealg.abigen_runtime_cmpstring" ∧ fn.origin = "" ∧ fn.body.isNone then some (.more .cmps c.args.toList) else if fn.body.isNone then none else some (.call f c.args.toList)
      | none => none
    | .value x => some (.callv x c.args.toList)
    | .builtin .len => match c.args.toList, c.argTypes.toList with
      | [x], [t] => match P.underlying t with
        | some .string => some (.len true x)
        | some (.slice _) => some (.len false x)
        | _ => none
      | _, _ => none
    | .builtin .append => match c.args.toList, c.argTypes.toList with
      | [s, x], [t, t'] => if t = t' then match P.underlying t with
        | some (.slice e) => match P.info? e with
          | some i => match i.zero with
            | some z => if z.cells.size = i.size ∧ 0 < i.size ∧ 0 < i.bytes then some (.eff (.app e i.size i.bytes z.cells.toList) [s, x]) else none
            | none => none
          | none => none
        | _ => none
        else none
      | _, _ => none
    | _ => none
  | .nilCheck x => some (.more .nilC [x])
  | .typeAssert x _ t true => match P.info? t with
    | some i => match i.zero with
      | some z => match P.underlying t with
        | some (.interface _) => none
        | some _ => some (.more (.tass t z) [x])
        | none => none
      | none => none
    | none => none
  | .slice t x lo hi none => match P.underlying t with
    | some .string => some (.more (.slcT lo.isSome hi.isSome) (x :: lo.toList ++ hi.toList))
    | some (.slice e) => if (P.info? e).isSome then some (.more (.slcS (P.cellsOf e) lo.isSome hi.isSome) (x :: lo.toList ++ hi.toList)) else none
    | some (.array n e) => if (P.info? e).isSome then some (.more (.slcA n (P.cellsOf e) lo.isSome hi.isSome) (x :: lo.toList ++ hi.toList)) else none
    | _ => none
  | _ => none

/-- The operands of operations that are told by what the model makes of them. -/
def primOf : Op → Option (List Operand)
  | .makeSlice _ l c => some [l, c]
  | .convert _ _ x => some [x]
  | .makeMap _ r => some r.toList
  | .mapUpdate _ m k x => some [m, k, x]
  | .insert _ m k x => some [m, k, x]
  | .mapEntry _ m k => some [m, k]
  | .entryStore _ m s x => some [m, s, x]
  | .lookup _ x i _ => some [x, i]
  | .range _ x => some [x]
  | .next it _ => some [it]
  | .entry it => some [it]
  | .panic x => some [x]
  | .binOp _ _ x y _ => some [x, y]
  | .typeAssert x _ _ _ => some [x]
  | .slice _ x lo hi mx => some (x :: (lo.toList ++ (hi.toList ++ mx.toList)))
  | .call c => match c.callee with
    | .builtin _ => some c.args.toList
    | .invoke r _ => some (r :: c.args.toList)
    | .value (.func _) => some c.args.toList
    | _ => none
  | _ => none

/-- The same; what the tables do not settle is told as an operation that nobody may reach. -/
def xop (P : Program) (o : Op) : Option XOp :=
  match xop0 P o with
  | some x => some x
  | none => match primOf o with
    | some args => some (.prim o args)
    | none => some (.more .bad [])
theorem xop_cases {P : Program} {o : Op} {X : XOp} (h : xop P o = some X) : xop0 P o = some X ∨ X = .more .bad [] ∨ ∃ args, X = .prim o args := by
  unfold xop at h
  split at h
  · rename_i x hx
    cases h
    exact .inl hx
  · split at h
    · cases h
      exact .inr (.inr ⟨_, rfl⟩)
    · cases h
      exact .inr (.inl rfl)

def guardOf (ops : Array Oper) : Option (Nat × Bool) → Option (Option (Nat × Bool))
  | none => some none
  | some (j, b) => match (ops[j]?).bind (·.dst) with
    | some t => some (some (t, b))
    | none => none

def xoper (P : Program) (ops : Array Oper) (o : Oper) : Option XOper :=
  match xop P o.op with
  | some x => match guardOf ops o.guard with
    | some g => some ⟨o.dst, g, x⟩
    | none => none
  | none => none

theorem ifOk_elim {b : Bool} {p : Prop} (h : ifOk b p) : b = true ∧ p := by
  cases b
  · exact h.elim
  · exact ⟨rfl, h⟩
theorem ifle_elim {a b : Nat} {p : Prop} (h : ifle a b p) : a ≤ b ∧ p := ⟨Nat.le_of_ble_eq_true (ifOk_elim h).1, (ifOk_elim h).2⟩

/-! ### Values -/

theorem reL_map (σ : Nat → Nat) (l : List SV) : reL σ l = l.map (SV.re σ) := by
  induction l with
  | nil => simp [reL]
  | cons x l ih => simp [reL, ih]

theorem reL_v (σ : Nat → Nat) (l : List Value) : reL σ (l.map .v) = l := by
  induction l with
  | nil => rfl
  | cons x l ih => simp [reL, SV.re, ih]

theorem reL_append (σ : Nat → Nat) (a b : List SV) : reL σ (a ++ b) = reL σ a ++ reL σ b := by simp [reL_map]
theorem reL_take (σ : Nat → Nat) (a : List SV) (n : Nat) : reL σ (a.take n) = (reL σ a).take n := by simp [reL_map, List.map_take]
theorem reL_drop (σ : Nat → Nat) (a : List SV) (n : Nat) : reL σ (a.drop n) = (reL σ a).drop n := by simp [reL_map, List.map_drop]
theorem reL_length (σ : Nat → Nat) (a : List SV) : (reL σ a).length = a.length := by simp [reL_map]

theorem cells_re (σ : Nat → Nat) (x : SV) (h : x ≠ .junk) : (x.re σ).cells.toList = reL σ x.cells := by
  cases x with
  | junk => exact absurd rfl h
  | v y => cases y <;> simp [SV.re, SV.cells, reL, Value.cells] <;> rw [reL_v]
  | _ => simp [SV.re, SV.cells, reL, Value.cells]

/-- The symbolic state told of a world. -/
structure Holds (g : G) (L : List Chunk) (σ : Nat → Nat) (w : World) : Prop where
  im : ∀ b o, g b = some o → w.heap[b]? = some o
  lo : ∀ k c o, L[k]? = some c → c.obj σ = some o → w.heap[σ k]? = some o
  inj : ∀ j k, j < L.length → k < L.length → σ j = σ k → j = k
  lt : ∀ k, k < L.length → σ k < w.heap.size
  sep : ∀ k, k < L.length → g (σ k) = none

/-- What reading asks of the state. -/
structure Reads (g : G) (L : List Chunk) (σ : Nat → Nat) (w : World) : Prop where
  im : ∀ b o, g b = some o → w.heap[b]? = some o
  lo : ∀ k c o, L[k]? = some c → c.obj σ = some o → w.heap[σ k]? = some o
theorem Holds.reads {g : G} {L : List Chunk} {σ : Nat → Nat} {w : World} (h : Holds g L σ w) : Reads g L σ w := ⟨h.im, h.lo⟩

/-- The symbolic frame told of a frame. -/
def FR (σ : Nat → Nat) (fr : List SV) (tmps : Array Value) : Prop :=
  fr.length = tmps.size ∧ ∀ i x, get fr i = x → x ≠ .junk → tmps.getD i undef = x.re σ

theorem FR.ev {σ : Nat → Nat} {fr : List SV} {a : Act} (h : FR σ fr a.tmps) (x : Operand) (hx : Sx.ev fr x ≠ .junk) : a.eval x = (Sx.ev fr x).re σ := by
  cases x with
  | tmp t => exact h.2 t _ rfl hx
  | const v => simp [Sx.ev, SV.re, Act.eval]
  | global g => simp [Sx.ev, SV.re, Act.eval]
  | func f => simp [Sx.ev, SV.re, Act.eval, reL]

theorem nj_elim {x : SV} {K : SV → Prop} (h : nj x K) : x ≠ .junk ∧ K x := by
  cases x <;> first | exact h.elim | exact ⟨by simp, h⟩

theorem njL_elim {l : List SV} {K : List SV → Prop} (h : njL l K) : (∀ x ∈ l, x ≠ .junk) ∧ K l := by
  induction l generalizing K with
  | nil => exact ⟨by simp, h⟩
  | cons x l ih =>
    obtain ⟨hx, h1⟩ := nj_elim h
    obtain ⟨hl, h2⟩ := ih h1
    exact ⟨by simpa using ⟨hx, hl⟩, h2⟩

theorem bsplit_elim {t : Bool} {p q : Prop} (h : bsplit t p q) : (t = true ∧ p) ∨ (t = false ∧ q) := by
  cases t
  · exact .inr ⟨rfl, h⟩
  · exact .inl ⟨rfl, h⟩

/-! ### Memory -/

theorem Reads.cell {g : G} {L : List Chunk} {σ : Nat → Nat} {w : World} (h : Reads g L σ w) {k : Nat} {ty : TypeId} {c : List SV} (hk : L[k]? = some (.cells ty c)) (i : Nat) :
    w.cell? ⟨σ k, i, none⟩ = (reL σ c)[i]? := by
  have := h.lo k _ _ hk rfl
  simp [World.cell?, this]

theorem Reads.cellV {g : G} {L : List Chunk} {σ : Nat → Nat} {w : World} (h : Reads g L σ w) {k : Nat} {ty : TypeId} {c : List Value} (hk : L[k]? = some (.vals ty c)) (i : Nat) :
    w.cell? ⟨σ k, i, none⟩ = c[i]? := by
  have := h.lo k _ _ hk rfl
  simp [World.cell?, this]

theorem Holds.cell {g : G} {L : List Chunk} {σ : Nat → Nat} {w : World} (h : Holds g L σ w) {k : Nat} {ty : TypeId} {c : List SV} (hk : L[k]? = some (.cells ty c)) (i : Nat) :
    w.cell? ⟨σ k, i, none⟩ = (reL σ c)[i]? := h.reads.cell hk i
theorem Holds.cellV {g : G} {L : List Chunk} {σ : Nat → Nat} {w : World} (h : Holds g L σ w) {k : Nat} {ty : TypeId} {c : List Value} (hk : L[k]? = some (.vals ty c)) (i : Nat) :
    w.cell? ⟨σ k, i, none⟩ = c[i]? := h.reads.cellV hk i

theorem add_cell (b off i : Nat) : (⟨b, off, none⟩ : Addr).add i = ⟨b, off + i, none⟩ := by
  unfold Addr.add
  split
  · simp_all
  · rfl

theorem run_loadVar_agg {P : Program} {t : TypeId} {i : TypeInfo} (hi : P.info? t = some i) (ha : aggT P t = true) (a : Addr) (xs : List Value) (hn : xs.length = i.size) (w : World)
    (h : ∀ j v, xs[j]? = some v → w.cell? (a.add j) = some v) : (loadVar t a).run P w = .ok (.agg xs.toArray) w := by
  have hd : (isAgg t).run P w = .ok true w := by
    unfold aggT at ha
    split at ha
    · rename_i fs hu; simp [isAgg, run_underlying hu]
    · rename_i n e hu; simp [isAgg, run_underlying hu]
    · cases ha
  have hl := run_loadCells_list (P := P) w a xs h
  rw [hn] at hl
  simp [loadVar, hd, sizeOf, typeInfo, hi, hl]

theorem run_loadVar_one {P : Program} {t : TypeId} (ha : aggT P t = false) (a : Addr) (v : Value) (w : World) (hu0 : (P.underlying t).isSome)
    (h : w.cell? a = some v) : (loadVar t a).run P w = .ok v w := by
  obtain ⟨d, hu⟩ := Option.isSome_iff_exists.1 hu0
  have hd : (isAgg t).run P w = .ok false w := by
    unfold aggT at ha
    rw [hu] at ha
    cases d <;> first | (cases ha; done) | simp [isAgg, run_underlying hu]
  simp [loadVar, hd, h]

theorem run_part_agg {P : Program} {t : TypeId} (hi : (P.info? t).isSome) (ha : aggT P t = true) (xs : List Value) (off : Nat) (w : World) :
    (part t xs.toArray off).run P w = .ok (.agg (((xs.drop off).take (P.cellsOf t))).toArray) w := by
  obtain ⟨i, hi⟩ := Option.isSome_iff_exists.1 hi
  have hd : (isAgg t).run P w = .ok true w := by
    unfold aggT at ha
    split at ha
    · rename_i fs hu; simp [isAgg, run_underlying hu]
    · rename_i n e hu; simp [isAgg, run_underlying hu]
    · cases ha
  have hc : P.cellsOf t = i.size := by simp [Program.cellsOf, hi]
  simp [part, hd, sizeOf, typeInfo, hi, hc]

theorem run_part_one {P : Program} {t : TypeId} (hu0 : (P.underlying t).isSome) (ha : aggT P t = false) (xs : List Value) (off : Nat) (v : Value) (w : World) (hv : xs[off]? = some v) :
    (part t xs.toArray off).run P w = .ok v w := by
  obtain ⟨d, hu⟩ := Option.isSome_iff_exists.1 hu0
  have hd : (isAgg t).run P w = .ok false w := by
    unfold aggT at ha
    rw [hu] at ha
    cases d <;> first | (cases ha; done) | simp [isAgg, run_underlying hu]
  simp [part, hd, hv]

end Go.Sx
