/- A symbolic executor of my own, second design, part 5: a region whose order is drawn: one walk serves every order. Conditions: none; it speaks of any program. -/
import Derived.Test.YtfagdcpfebghoaaDoorTy4
namespace Go.Sx

/-- An operation of such a region: its place, those ahead of it in every order, what it does. -/
structure DOp where
  i : Nat
  anc : List Nat
  x : XOper

/-- What is kept of an operation that only reads or makes a block. -/
structure Acc where
  i : Nat
  looks : List Nat
  made : Option Nat

/-- Ways out of code. -/
inductive XE where
  | normal
  | exit (j : Nat)
  | ret
  | pan (x : SV)

abbrev KT := XE → List SV → List Chunk → G → Prop

def gslot (o : XOper) : List Nat := match o.guard with | some (t, _) => [t] | none => []
def DOp.args (d : DOp) : List Nat := gslot d.x ++ d.x.x.slots
def DOp.ment (d : DOp) : List Nat := d.x.dst.toList ++ d.args
def foes (acc : List Acc) (anc : List Nat) : List Acc := acc.filter fun x => !anc.contains x.i
def madeOf (acc : List Acc) : List Nat := acc.filterMap (·.made)

/-- It leads to none of these blocks. -/
def offS (ms : List Nat) (x : SV) : Bool := match ms with | [] => true | ms => x.on fun k => !ms.contains k
def offL (ms : List Nat) (L : List Chunk) : Bool := match ms with | [] => true | ms => L.all fun c => c.on fun k => !ms.contains k
def chkH (fs : List Acc) (rd ids : List Nat) : Bool := fs.all fun x => x.looks.all (fun k => !ids.contains k) && (match x.made with | some k => !ids.contains k && !rd.contains k | none => true)
def chkLook (ms : List Nat) (n : Nat) (looks : List Nat) : Bool := looks.all fun k => Nat.blt k n && !ms.contains k

/-- One operation of a region whose order is drawn, run (ds: the slots that the region writes). -/
def dRun (P : Program) (ds : List Nat) (d : DOp) (acc : List Acc) (fr : List SV) (L : List Chunk) (g : G) (next : List Acc → List SV → List Chunk → G → Prop) (K : KT) : Prop :=
  match d.x.x.light with
  | true => lenK L 0 fun n => numK n fun n => ifOk (chkLook (madeOf (foes acc d.anc)) n (d.x.x.looks (ev fr))) (lt d.x.x (ev fr) L g n fun r mc => fR r fun r => ifOk (offS (madeOf (foes acc d.anc)) r) (match mc with
    | none => forceO fr d.x.dst r fun fr' => next (⟨d.i, d.x.x.looks (ev fr), none⟩ :: acc) fr' L g
    | some c => ifOk (offL (madeOf (foes acc d.anc)) [c]) (fL (L ++ [c]) fun L' => forceO fr d.x.dst r fun fr' => next (⟨d.i, d.x.x.looks (ev fr), some n⟩ :: acc) fr' L' g)))
  | false => hv P d.x.x (ev fr) L g (chkH (foes acc d.anc)) fun out L1 g1 => match out with
    | .ret r => fR r fun r => fL L1 fun L1 => ifOk (offS (madeOf (foes acc d.anc)) r && offL (madeOf (foes acc d.anc)) L1) (forceO fr d.x.dst r fun fr' => next acc fr' L1 g1)
    | .pan x => K (.pan x) (selF (fun t => !ds.contains t) 0 fr) (selL (fun k => !(madeOf (foes acc d.anc)).contains k) 0 L1) g1
theorem put_same : ∀ (l : List SV) (i : Nat) (x : SV), get l i = x → x ≠ .junk → put l i x = l
  | [], _, _, _, _ => rfl
  | y :: l, 0, x, h, _ => by simp only [get] at h; simp [put, h]
  | y :: l, i + 1, x, h, hj => by simp only [put, put_same l i x (by simpa [get] using h) hj]
/-- Passed by. -/
def dSkip (d : DOp) (acc : List Acc) (fr : List SV) (L : List Chunk) (g : G) (next : List Acc → List SV → List Chunk → G → Prop) : Prop :=
  forceO fr d.x.dst (.v undef) fun fr' => next ((match d.x.x.light with | true => [⟨d.i, [], none⟩] | false => []) ++ acc) fr' L g
def dStep (P : Program) (ds : List Nat) (d : DOp) (acc : List Acc) (fr : List SV) (L : List Chunk) (g : G) (next : List Acc → List SV → List Chunk → G → Prop) (K : KT) : Prop :=
  match d.x.guard with
  | none => dRun P ds d acc fr L g next K
  | some (t, want) => match get fr t with
    | .v (.bool b) => bsplit b
      (force (put fr t (.v (.bool true))) fun fr => match want with | true => dRun P ds d acc fr L g next K | false => dSkip d acc fr L g next)
      (force (put fr t (.v (.bool false))) fun fr => match want with | false => dRun P ds d acc fr L g next K | true => dSkip d acc fr L g next)
    | .v (.tuple _) => dSkip d acc fr L g next
    | _ => False
/-- The condition of a region whose order is drawn. -/
def dR (P : Program) (ds : List Nat) : List DOp → List Acc → List SV → List Chunk → G → KT → Prop
  | [], _, fr, L, g, K => K .normal fr L g
  | d :: l, acc, fr, L, g, K => dStep P ds d acc fr L g (fun acc fr L g => dR P ds l acc fr L g K) K

/-- Whether all this holds of a region. -/
def ordOk (d1 d2 : DOp) : Bool :=
  (d1.x.x.light || d2.anc.contains d1.i) &&
  (match d2.x.dst with
    | some t => !d1.ment.contains t || (!d2.x.x.light && d2.anc.contains d1.i)
    | none => true) &&
  (match d1.x.dst with
    | some t => !d1.x.x.light || !d2.args.contains t || d2.anc.contains d1.i
    | none => true)
def ordAll : List DOp → Bool
  | [] => true
  | d :: l => l.all (ordOk d) && ordAll l

def ancOk (ops : Array Oper) (π : List DOp) (d : DOp) : Bool :=
  match ops[d.i]? with
  | some o => d.anc.all fun j => o.after.any fun e => Region.binds .any e && (Nat.beq e.on j || π.any fun d' => Nat.beq d'.i e.on && d'.anc.contains j)
  | none => false
def backOk (ops : Array Oper) : Bool :=
  (List.range ops.size).all fun j => match ops[j]? with
    | some oj => oj.after.all fun e => !Region.binds .any e || Nat.blt e.on j
    | none => true
def nodupB : List Nat → Bool
  | [] => true
  | x :: l => !l.contains x && nodupB l

/-- The static facts. -/
structure DOk (P : Program) (ops : Array Oper) (π : List DOp) (ds : List Nat) : Prop where
  sel : Region.noSelect ops = true
  back : backOk ops = true
  anc : ∀ d ∈ π, ancOk ops π d = true
  get : ∀ d ∈ π, ∃ o, ops[d.i]? = some o ∧ xoper P ops o = some d.x
  cover : ∀ i, i < ops.size → ∃ d ∈ π, d.i = i
  nodup : (π.map (·.i)).Nodup
  ord : ordAll π = true
  ds : ∀ d ∈ π, ∀ t, d.x.dst = some t → t ∈ ds
  own : ∀ d ∈ π, d.x.x.light = true → ∀ t, d.x.dst = some t → t ∉ d.args

theorem ordAll_pair {d1 d2 : DOp} : ∀ {pre post : List DOp}, ordAll (pre ++ post) = true → d1 ∈ pre → d2 ∈ post → ordOk d1 d2 = true := by
  intro pre
  induction pre with
  | nil => intro post _ h1; simp at h1
  | cons d pre ih =>
    intro post h h1 h2
    rw [List.cons_append, ordAll, Bool.and_eq_true, List.all_eq_true] at h
    rcases List.mem_cons.1 h1 with h1 | h1
    · rw [h1]; exact h.1 d2 (List.mem_append_right _ h2)
    · exact ih h.2 h1 h2

section
variable {P : Program} {ops : Array Oper} {π : List DOp} {ds : List Nat}

def done (listed : Array Bool) (i : Nat) : Bool := listed.getD i false

def closed (ops : Array Oper) (listed : Array Bool) : Prop := ∀ i oi, ops[i]? = some oi → done listed i = true → ∀ e ∈ oi.after, Region.binds .any e = true → done listed e.on = true

theorem back_spec (D : DOk P ops π ds) (j : Nat) (oj : Oper) (hj : ops[j]? = some oj) (e : Edge) (he : e ∈ oj.after) (hb : Region.binds .any e = true) : e.on < j := by
  have h := D.back
  simp only [backOk, List.all_eq_true, List.mem_range] at h
  have := h j (Array.getElem?_eq_some_iff.1 hj).1
  rw [hj] at this
  have := Array.all_eq_true_iff_forall_mem.1 this e he
  simpa [hb] using this

/-- Those ahead are done. -/
theorem anc_done (D : DOk P ops π ds) {listed : Array Bool} (hc : closed ops listed) : ∀ (n : Nat) (d : DOp), d ∈ π → d.i = n → ∀ o, ops[d.i]? = some o → (∀ e ∈ o.after, Region.binds .any e = true → done listed e.on = true) → ∀ j ∈ d.anc, done listed j = true := by
  intro n
  induction n using Nat.strongRecOn with
  | _ n ih =>
    intro d hd hn o ho hall j hj
    have h := D.anc d hd
    simp only [ancOk, ho, List.all_eq_true] at h
    obtain ⟨e, he, hb⟩ := Array.any_eq_true'.1 (h j hj)
    simp only [Bool.and_eq_true, Bool.or_eq_true, List.any_eq_true] at hb
    obtain ⟨hb1, hb2⟩ := hb
    rcases hb2 with hb2 | ⟨d', hd', hb3, hb4⟩
    · rw [← Nat.eq_of_beq_eq_true hb2]; exact hall e he hb1
    · have hlt := back_spec D _ o ho e he hb1
      have hdi := Nat.eq_of_beq_eq_true hb3
      obtain ⟨o', ho', -⟩ := D.get d' hd'
      exact ih d'.i (by omega) d' hd' rfl o' ho' (hc _ o' ho' (by rw [hdi]; exact hall e he hb1)) j (by simpa using hb4)

def undF (pre : List DOp) (listed : Array Bool) (t : Nat) : Bool := !(pre.any fun d => d.x.x.light && (d.x.dst == some t && !done listed d.i))
def undL (acc : List Acc) (listed : Array Bool) (k : Nat) : Bool := !(acc.any fun x => x.made == some k && !done listed x.i)
/-- There, or made by one of these. -/
def vis (acc : List Acc) (listed : Array Bool) (own : List Nat) (k : Nat) : Bool := undL acc listed k || acc.any fun x => x.made == some k && own.contains x.i

/-- An operation that only reads or makes a block, not done yet. -/
structure LRec (P : Program) (ops : Array Oper) (d : DOp) (x : Acc) (acc : List Acc) (listed : Array Bool) (fr : List SV) (L : List Chunk) (g : G) (o : Oper) (r : SV) : Prop where
  opAt : ops[d.i]? = some o
  xo : xoper P ops o = some d.x
  jk : r ≠ .junk
  scR : r.sc L.length = true
  dst : ∀ t, d.x.dst = some t → t < fr.length → get fr t = r
  onR : r.on (vis acc listed (d.i :: d.anc)) = true
  onC : ∀ (k : Nat) (c : Chunk), x.made = some k → L[k]? = some c → c.on (vis acc listed d.anc) = true
  lk : ∀ k ∈ x.looks, k < L.length ∧ ∀ y ∈ acc, y.made = some k → y.i ∈ d.anc
  run : ∀ (σ : Nat → Nat) (a : Act) (w : World), FR σ (selF (fun t => d.args.contains t) 0 fr) a.tmps → Reads g (selL (fun k => x.looks.contains k) 0 L) σ w →
    match x.made with
    | none => (Region.wanted o (yielded ops a.tmps) = true ∧ (execOp a.eval o).run P w = .ok (.value (r.re σ)) w) ∨ (Region.wanted o (yielded ops a.tmps) = false ∧ r = .v undef)
    | some k => Region.wanted o (yielded ops a.tmps) = true ∧ ∃ c ob v, L[k]? = some c ∧ c.here = true ∧ c.obj σ = some ob ∧ (execOp a.eval o).run P w = .ok (.value v) { w with heap := w.heap.push ob } ∧ ∀ σ' : Nat → Nat, σ' k = w.heap.size → v = r.re σ'

/-- What holds while a region is under way. -/
structure DI (P : Program) (ops : Array Oper) (π : List DOp) (ds : List Nat) (σ0 : Nat → Nat) (L0 : List Chunk) (g0 : G) (w0 : World) (df : List Deferred) (K : KT) (listed : Array Bool)
    (pre post : List DOp) (acc : List Acc) (fr : List SV) (L : List Chunk) (g : G) (σ : Nat → Nat) (a : Act) (w : World) : Prop where
  cut : π = pre ++ post
  hpost : ∀ d ∈ post, done listed d.i = false
  heavy : ∀ d ∈ pre, d.x.x.light = false → done listed d.i = true
  vc : dR P ds post acc fr L g K
  accs : ∀ x ∈ acc, (∃ d ∈ pre, d.i = x.i) ∧ ∀ k, x.made = some k → L0.length ≤ k ∧ k < L.length
  recs : ∀ d ∈ pre, d.x.x.light = true → ∃ x ∈ acc, x.i = d.i ∧ (done listed d.i = false → ∃ o r, LRec P ops d x acc listed fr L g o r)
  sepM : ∀ x ∈ acc, ∀ y ∈ acc, ∀ k, x.made = some k → y.made = some k → x = y
  sepI : ∀ x ∈ acc, ∀ y ∈ acc, x.i = y.i → x = y
  clos : closed ops listed
  hfr : FR σ (selF (undF pre listed) 0 fr) a.tmps
  mem : Mem g (selL (undL acc listed) 0 L) σ w
  scF : scL L.length fr = true
  hscL : scH L
  len0 : L0.length ≤ L.length
  onF : ∀ t, undF pre listed t = true → (get fr t).on (undL acc listed) = true
  onL : ∀ (k : Nat) (c : Chunk), undL acc listed k = true → L[k]? = some c → c.on (undL acc listed) = true
  goes : Goes σ0 L0 g0 w0 σ (selL (undL acc listed) 0 L) g w
  defers : a.defers = df

end
end Go.Sx
