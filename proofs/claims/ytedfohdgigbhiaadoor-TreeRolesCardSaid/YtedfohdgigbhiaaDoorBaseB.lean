/- A symbolic executor of my own, put together. Conditions: none; it speaks of any program. -/
import Derived.Test.YtedfohdgigbhiaaDoorBaseA
import Derived.ProofKit
import Derived.Deep.Slices
import Derived.OpenShut
/- A symbolic executor of my own, second design, part 5: a region whose order is drawn: one walk serves every order. Conditions: none; it speaks of any program. -/
section
namespace Go.Sx
variable {fm : Bool}

/-- An operation of such a region: its place, those ahead of it in every order, what it does. -/
structure DOp where
  i : Nat
  anc : List Nat
  x : XOper

/-- What is kept of an operation that only reads or makes a block. -/
structure Acc where
  i : Nat
  looks : List Nat
  made : Option Nat

/-- Ways out of code. -/
inductive XE where
  | normal
  | exit (j : Nat)
  | ret
  | pan (x : SV)

abbrev KT := XE → List SV → List Chunk → G → Prop

def gslot (o : XOper) : List Nat := match o.guard with | some (t, _) => [t] | none => []
def DOp.args (d : DOp) : List Nat := gslot d.x ++ d.x.x.slots
def DOp.ment (d : DOp) : List Nat := d.x.dst.toList ++ d.args
def foes (acc : List Acc) (anc : List Nat) : List Acc := acc.filter fun x => !anc.contains x.i
def madeOf (acc : List Acc) : List Nat := acc.filterMap (·.made)

/-- It leads to none of these blocks. -/
def offS (ms : List Nat) (x : SV) : Bool := match ms with | [] => true | ms => x.on fun k => !ms.contains k
def offL (ms : List Nat) (L : List Chunk) : Bool := match ms with | [] => true | ms => L.all fun c => c.on fun k => !ms.contains k
def chkH (fs : List Acc) (rd ids : List Nat) : Bool := fs.all fun x => x.looks.all (fun k => !ids.contains k) && (match x.made with | some k => !ids.contains k && !rd.contains k | none => true)
def chkLook (ms : List Nat) (n : Nat) (looks : List Nat) : Bool := looks.all fun k => Nat.blt k n && !ms.contains k

/-- One operation of a region whose order is drawn, run (ds: the slots that the region writes). -/
def dRun (fm : Bool) (P : Program) (ds : List Nat) (d : DOp) (acc : List Acc) (fr : List SV) (L : List Chunk) (g : G) (next : List Acc → List SV → List Chunk → G → Prop) (K : KT) : Prop :=
  match d.x.x.light with
  | true => fN (d.x.x.looks fm (ev fr) L) fun lk => lenK L 0 fun n => numK n fun n => ifOk (chkLook (madeOf (foes acc d.anc)) n lk) (lt fm d.x.x (ev fr) L g n fun r mc => fR r fun r => ifOk (offS (madeOf (foes acc d.anc)) r) (match mc with
    | none => forceO fr d.x.dst r fun fr' => next (⟨d.i, lk, none⟩ :: acc) fr' L g
    | some c => ifOk (offL (madeOf (foes acc d.anc)) [c]) (fL (L ++ [c]) fun L' => forceO fr d.x.dst r fun fr' => next (⟨d.i, lk, some n⟩ :: acc) fr' L' g)))
  | false => hv P d.x.x (ev fr) L g (chkH (foes acc d.anc)) fun out L1 g1 => match out with
    | .ret r => fR r fun r => fL L1 fun L1 => ifOk (offS (madeOf (foes acc d.anc)) r && offL (madeOf (foes acc d.anc)) L1) (forceO fr d.x.dst r fun fr' => next acc fr' L1 g1)
    | .pan x => K (.pan x) (selF (fun t => !ds.contains t) 0 fr) (selL (fun k => !(madeOf (foes acc d.anc)).contains k) 0 L1) g1
theorem put_same : ∀ (l : List SV) (i : Nat) (x : SV), get l i = x → x ≠ .junk → put l i x = l
  | [], _, _, _, _ => rfl
  | y :: l, 0, x, h, _ => by simp only [get] at h; simp [put, h]
  | y :: l, i + 1, x, h, hj => by simp only [put, put_same l i x (by simpa [get] using h) hj]
/-- Passed by. -/
def dSkip (d : DOp) (acc : List Acc) (fr : List SV) (L : List Chunk) (g : G) (next : List Acc → List SV → List Chunk → G → Prop) : Prop :=
  forceO fr d.x.dst (.v undef) fun fr' => next ((match d.x.x.light with | true => [⟨d.i, [], none⟩] | false => []) ++ acc) fr' L g
def dStep (fm : Bool) (P : Program) (ds : List Nat) (d : DOp) (acc : List Acc) (fr : List SV) (L : List Chunk) (g : G) (next : List Acc → List SV → List Chunk → G → Prop) (K : KT) : Prop :=
  match d.x.guard with
  | none => dRun fm P ds d acc fr L g next K
  | some (t, want) => match get fr t with
    | .v (.bool b) => bsplit b
      (force (put fr t (.v (.bool true))) fun fr => match want with | true => dRun fm P ds d acc fr L g next K | false => dSkip d acc fr L g next)
      (force (put fr t (.v (.bool false))) fun fr => match want with | false => dRun fm P ds d acc fr L g next K | true => dSkip d acc fr L g next)
    | .v (.tuple _) => dSkip d acc fr L g next
    | _ => False
/-- The condition of a region whose order is drawn. -/
def dR (fm : Bool) (P : Program) (ds : List Nat) (l : List DOp) : List Acc → List SV → List Chunk → G → KT → Prop :=
  List.rec (motive := fun _ => List Acc → List SV → List Chunk → G → KT → Prop) (fun _ fr L g K => K .normal fr L g) (fun d _ ih acc fr L g K => dStep fm P ds d acc fr L g (fun acc fr L g => ih acc fr L g K) K) l
theorem dR_nil {P : Program} {ds : List Nat} {acc : List Acc} {fr : List SV} {L : List Chunk} {g : G} {K : KT} : dR fm P ds [] acc fr L g K = K .normal fr L g := rfl
theorem dR_cons {P : Program} {ds : List Nat} {d : DOp} {l : List DOp} {acc : List Acc} {fr : List SV} {L : List Chunk} {g : G} {K : KT} : dR fm P ds (d :: l) acc fr L g K = dStep fm P ds d acc fr L g (fun acc fr L g => dR fm P ds l acc fr L g K) K := rfl

/-- Whether all this holds of a region. -/
def ordOk (d1 d2 : DOp) : Bool :=
  (d1.x.x.light || d2.anc.contains d1.i) &&
  (match d2.x.dst with
    | some t => !d1.ment.contains t || (!d2.x.x.light && d2.anc.contains d1.i)
    | none => true) &&
  (match d1.x.dst with
    | some t => !d1.x.x.light || !d2.args.contains t || d2.anc.contains d1.i
    | none => true)
def ordAll : List DOp → Bool
  | [] => true
  | d :: l => l.all (ordOk d) && ordAll l

def ancOk (ops : Array Oper) (π : List DOp) (d : DOp) : Bool :=
  match ops[d.i]? with
  | some o => d.anc.all fun j => o.after.any fun e => Region.binds .any e && (Nat.beq e.on j || π.any fun d' => Nat.beq d'.i e.on && d'.anc.contains j)
  | none => false
def backOk (ops : Array Oper) : Bool :=
  (List.range ops.size).all fun j => match ops[j]? with
    | some oj => oj.after.all fun e => !Region.binds .any e || Nat.blt e.on j
    | none => true
def nodupB : List Nat → Bool
  | [] => true
  | x :: l => !l.contains x && nodupB l

/-- The same by the place in the path: those ahead may also be heavy ones of the path's own order. -/
def ancOk2 (ops : Array Oper) (pre : List DOp) (d : DOp) : Bool :=
  match ops[d.i]? with
  | some o => d.anc.all fun j => (o.after.any fun e => Region.binds .any e && (Nat.beq e.on j || pre.any fun d' => Nat.beq d'.i e.on && d'.anc.contains j)) || pre.any fun h => !h.x.x.light && (Nat.beq h.i j || h.anc.contains j)
  | none => false
def ancAll (ops : Array Oper) : List DOp → List DOp → Bool
  | _, [] => true
  | pre, d :: l => ancOk2 ops pre d && ancAll ops (pre ++ [d]) l
def dedup : List Nat → List Nat
  | [] => []
  | x :: l => match (dedup l).contains x with
    | true => dedup l
    | false => x :: dedup l
def ancL : List Oper → List (List Nat) → List (List Nat)
  | [], acc => acc
  | o :: l, acc => ancL l (acc ++ [dedup ((o.after.toList.filter (Region.binds .any)).flatMap fun e => e.on :: acc.getD e.on [])])


/-- The last heavy one. -/
def lastHeavy (pre : List DOp) : Option DOp := pre.reverse.find? fun h => !h.x.x.light
/-- Each stands as early as may be: the last heavy one ahead of it is a real forerunner (C: the real forerunners). -/
def lastAll (C : List (List Nat)) : List DOp → List DOp → Bool
  | _, [] => true
  | pre, d :: l => (!d.x.x.light || match lastHeavy pre with | none => true | some h => (C.getD d.i []).contains h.i) && lastAll C (pre ++ [d]) l
/-- The static facts. -/
structure DOk (P : Program) (ops : Array Oper) (π : List DOp) (ds : List Nat) : Prop where
  sel : Region.noSelect ops = true
  back : backOk ops = true
  anc : ancAll ops [] π = true
  last : lastAll (ancL ops.toList []) [] π = true
  get : ∀ d ∈ π, ∃ o, ops[d.i]? = some o ∧ xoper P ops o = some d.x
  cover : ∀ i, i < ops.size → ∃ d ∈ π, d.i = i
  nodup : (π.map (·.i)).Nodup
  ord : ordAll π = true
  ds : ∀ d ∈ π, ∀ t, d.x.dst = some t → t ∈ ds
  own : ∀ d ∈ π, d.x.x.light = true → ∀ t, d.x.dst = some t → t ∉ d.args

theorem ordAll_pair {d1 d2 : DOp} : ∀ {pre post : List DOp}, ordAll (pre ++ post) = true → d1 ∈ pre → d2 ∈ post → ordOk d1 d2 = true := by
  intro pre
  induction pre with
  | nil => intro post _ h1; simp at h1
  | cons d pre ih =>
    intro post h h1 h2
    rw [List.cons_append, ordAll, Bool.and_eq_true, List.all_eq_true] at h
    rcases List.mem_cons.1 h1 with h1 | h1
    · rw [h1]; exact h.1 d2 (List.mem_append_right _ h2)
    · exact ih h.2 h1 h2

section
variable {P : Program} {ops : Array Oper} {π : List DOp} {ds : List Nat}

def done (listed : Array Bool) (i : Nat) : Bool := listed.getD i false

def closed (ops : Array Oper) (listed : Array Bool) : Prop := ∀ i oi, ops[i]? = some oi → done listed i = true → ∀ e ∈ oi.after, Region.binds .any e = true → done listed e.on = true

theorem back_spec (D : DOk P ops π ds) (j : Nat) (oj : Oper) (hj : ops[j]? = some oj) (e : Edge) (he : e ∈ oj.after) (hb : Region.binds .any e = true) : e.on < j := by
  have h := D.back
  simp only [backOk, List.all_eq_true, List.mem_range] at h
  have := h j (Array.getElem?_eq_some_iff.1 hj).1
  rw [hj] at this
  have := Array.all_eq_true_iff_forall_mem.1 this e he
  simpa [hb] using this

theorem ancAll_at {ops : Array Oper} : ∀ (pre0 pre : List DOp) (d : DOp) (post : List DOp), ancAll ops pre0 (pre ++ d :: post) = true → ancOk2 ops (pre0 ++ pre) d = true
  | pre0, [], d, post, h => by
    rw [List.nil_append, ancAll, Bool.and_eq_true] at h
    rw [List.append_nil]; exact h.1
  | pre0, u :: pre, d, post, h => by
    rw [List.cons_append, ancAll, Bool.and_eq_true] at h
    have := ancAll_at (pre0 ++ [u]) pre d post h.2
    simpa using this
theorem anc_done2 {ops : Array Oper} {path : List DOp} (hget : ∀ d ∈ path, ∃ o, ops[d.i]? = some o) (hanc : ancAll ops [] path = true) {listed : Array Bool} (hc : closed ops listed) : ∀ (n : Nat) (pre : List DOp) (d : DOp) (post : List DOp), pre.length = n → path = pre ++ d :: post →
    (∀ h ∈ pre, h.x.x.light = false → done listed h.i = true) → ∀ o, ops[d.i]? = some o → (∀ e ∈ o.after, Region.binds .any e = true → done listed e.on = true) → ∀ j ∈ d.anc, done listed j = true := by
  intro n
  induction n using Nat.strongRecOn with
  | _ n ih =>
    intro pre d post hn hp hheavy o ho hall j hj
    have h := ancAll_at [] pre d post (by rw [← hp]; exact hanc)
    rw [List.nil_append] at h
    simp only [ancOk2, ho, List.all_eq_true] at h
    -- one ahead, which is done
    have back : ∀ u ∈ pre, done listed u.i = true → ∀ j ∈ u.anc, done listed j = true := fun u hu hdu j hju => by
      obtain ⟨p1, p2, rfl⟩ := List.append_of_mem hu
      obtain ⟨o', ho'⟩ := hget u (by rw [hp]; simp)
      exact ih p1.length (by rw [← hn]; simp) p1 u (p2 ++ d :: post) rfl (by rw [hp]; simp) (fun v hv => hheavy v (by simp [hv])) o' ho' (hc _ o' ho' hdu) j hju
    rcases (Bool.or_eq_true _ _).mp (h j hj) with h1 | h1
    · obtain ⟨e, he, hb⟩ := Array.any_eq_true'.1 h1
      simp only [Bool.and_eq_true, Bool.or_eq_true, List.any_eq_true] at hb
      obtain ⟨hb1, hb2⟩ := hb
      rcases hb2 with hb2 | ⟨d', hd', hb3, hb4⟩
      · rw [← Nat.eq_of_beq_eq_true hb2]; exact hall e he hb1
      · exact back d' hd' (by rw [Nat.eq_of_beq_eq_true hb3]; exact hall e he hb1) j (by simpa using hb4)
    · simp only [List.any_eq_true, Bool.and_eq_true, Bool.or_eq_true, Bool.not_eq_true'] at h1
      obtain ⟨u, hu, hl, h2⟩ := h1
      have hdu := hheavy u hu hl
      rcases h2 with h2 | h2
      · rw [← Nat.eq_of_beq_eq_true h2]; exact hdu
      · exact back u hu hdu j (by simpa using h2)

theorem mem_dedup : ∀ {l : List Nat} {x : Nat}, x ∈ dedup l → x ∈ l
  | [], x, h => h
  | y :: l, x, h => by
    rw [dedup] at h
    split at h
    · exact List.mem_cons_of_mem _ (mem_dedup h)
    · rcases List.mem_cons.1 h with h | h
      · rw [h]; exact List.mem_cons_self
      · exact List.mem_cons_of_mem _ (mem_dedup h)
theorem ancL_pre : ∀ (l : List Oper) (acc : List (List Nat)) (i : Nat), i < acc.length → (ancL l acc)[i]? = acc[i]?
  | [], acc, i, _ => by rw [ancL]
  | o :: l, acc, i, h => by
    rw [ancL, ancL_pre l _ i (by simp; omega), List.getElem?_append_left h]
theorem ancL_at : ∀ (l : List Oper) (acc : List (List Nat)) (k : Nat) (o : Oper), l[k]? = some o → ∃ acc' : List (List Nat), acc'.length = acc.length + k ∧ (∀ i, i < acc'.length → (ancL l acc)[i]? = acc'[i]?) ∧
    (ancL l acc)[acc.length + k]? = some (dedup ((o.after.toList.filter (Region.binds .any)).flatMap fun e => e.on :: acc'.getD e.on []))
  | [], _, _, _, h => by simp at h
  | o' :: l, acc, 0, o, h => by
    simp at h
    subst h
    refine ⟨acc, rfl, fun i hi => ?_, ?_⟩
    · rw [ancL, ancL_pre l _ i (by simp; omega), List.getElem?_append_left hi]
    · rw [ancL, ancL_pre l _ _ (by simp), Nat.add_zero, List.getElem?_append_right (Nat.le_refl _)]; simp
  | o' :: l, acc, k + 1, o, h => by
    rw [List.getElem?_cons_succ] at h
    obtain ⟨acc', h1, h2, h3⟩ := ancL_at l (acc ++ [dedup ((o'.after.toList.filter (Region.binds .any)).flatMap fun e => e.on :: acc.getD e.on [])]) k o h
    refine ⟨acc', by rw [h1]; simp; omega, fun i hi => by rw [ancL]; exact h2 i hi, ?_⟩
    rw [ancL]
    rw [List.length_append, List.length_singleton] at h3
    rw [show acc.length + (k + 1) = acc.length + 1 + k by omega]
    exact h3
/-- The real forerunners of one whose forerunners are done are done. -/
theorem clos_done {ops : Array Oper} {listed : Array Bool} (hc : closed ops listed) : ∀ (n i : Nat), i = n → ∀ o, ops[i]? = some o → (∀ e ∈ o.after, Region.binds .any e = true → done listed e.on = true) → ∀ j ∈ (ancL ops.toList []).getD i [], done listed j = true := by
  intro n
  induction n using Nat.strongRecOn with
  | _ n ih =>
    intro i hi o ho hall j hj
    subst hi
    obtain ⟨acc', h1, h2, h3⟩ := ancL_at ops.toList [] i o (by simpa using ho)
    rw [List.length_nil, Nat.zero_add] at h1 h3
    rw [List.getD_eq_getElem?_getD, h3, Option.getD_some] at hj
    obtain ⟨e, he, hje⟩ := List.mem_flatMap.1 (mem_dedup hj)
    rw [List.mem_filter] at he
    have hea : e ∈ o.after := by simpa using he.1
    have hdone := hall e hea he.2
    rcases List.mem_cons.1 hje with rfl | hje
    · exact hdone
    · have hlt : e.on < i := by
        rcases Nat.lt_or_ge e.on acc'.length with hl | hl
        · rw [h1] at hl; exact hl
        · rw [List.getD_eq_getElem?_getD, List.getElem?_eq_none hl] at hje
          simp at hje
      have hon : ∃ o', ops[e.on]? = some o' := by
        have := (Array.getElem?_eq_some_iff.1 ho).1
        exact ⟨ops[e.on], Array.getElem?_eq_getElem (by omega)⟩
      obtain ⟨o', ho'⟩ := hon
      refine ih e.on hlt e.on rfl o' ho' (hc _ o' ho' hdone) j ?_
      rw [List.getD_eq_getElem?_getD, h2 _ (by rw [h1]; exact hlt), ← List.getD_eq_getElem?_getD]
      exact hje

theorem lastAll_at {C : List (List Nat)} : ∀ (pre0 pre : List DOp) (d : DOp) (post : List DOp), lastAll C pre0 (pre ++ d :: post) = true → d.x.x.light = true → (match lastHeavy (pre0 ++ pre) with | none => true | some h => (C.getD d.i []).contains h.i) = true
  | pre0, [], d, post, h, hl => by
    rw [List.nil_append, lastAll, Bool.and_eq_true, hl, Bool.not_true, Bool.false_or] at h
    rw [List.append_nil]; exact h.1
  | pre0, u :: pre, d, post, h, hl => by
    rw [List.cons_append, lastAll, Bool.and_eq_true] at h
    have := lastAll_at (pre0 ++ [u]) pre d post h.2 hl
    simpa using this
theorem lastHeavy_in (pre : List DOp) {h : DOp} (hl : h.x.x.light = false) (q : List DOp) : ∃ h', lastHeavy (pre ++ h :: q) = some h' ∧ h' ∈ h :: q := by
  have e : (pre ++ h :: q).reverse = q.reverse ++ (h :: pre.reverse) := by simp
  rw [lastHeavy, e, List.find?_append]
  cases hq : q.reverse.find? (fun h => !h.x.x.light) with
  | some h' => exact ⟨h', rfl, List.mem_cons_of_mem _ (by simpa using List.mem_of_find?_eq_some hq)⟩
  | none => exact ⟨h, by simp [hl], List.mem_cons_self⟩

def undF (pre : List DOp) (listed : Array Bool) (t : Nat) : Bool := !(pre.any fun d => d.x.x.light && (d.x.dst == some t && !done listed d.i))
def undL (acc : List Acc) (listed : Array Bool) (k : Nat) : Bool := !(acc.any fun x => x.made == some k && !done listed x.i)
/-- There, or made by one of these. -/
def vis (acc : List Acc) (listed : Array Bool) (own : List Nat) (k : Nat) : Bool := undL acc listed k || acc.any fun x => x.made == some k && own.contains x.i

/-- An operation that only reads or makes a block, not done yet. -/
structure LRec (P : Program) (ops : Array Oper) (d : DOp) (x : Acc) (acc : List Acc) (listed : Array Bool) (fr : List SV) (L : List Chunk) (g : G) (o : Oper) (r : SV) : Prop where
  opAt : ops[d.i]? = some o
  xo : xoper P ops o = some d.x
  jk : r ≠ .junk
  scR : r.sc L.length = true
  dst : ∀ t, d.x.dst = some t → t < fr.length → get fr t = r
  onR : r.on (vis acc listed (d.i :: d.anc)) = true
  onC : ∀ (k : Nat) (c : Chunk), x.made = some k → L[k]? = some c → c.on (vis acc listed d.anc) = true
  lk : ∀ k ∈ x.looks, k < L.length ∧ ∀ y ∈ acc, y.made = some k → y.i ∈ d.anc
  run : ∀ (σ : Nat → Nat) (a : Act) (w : World), FR σ (selF (fun t => d.args.contains t) 0 fr) a.tmps → Reads g (selL (fun k => x.looks.contains k) 0 L) σ w →
    match x.made with
    | none => (Region.wanted o (yielded ops a.tmps) = true ∧ (execOp a.eval o).run P w = .ok (.value (r.re σ)) w) ∨ (Region.wanted o (yielded ops a.tmps) = false ∧ r = .v undef)
    | some k => Region.wanted o (yielded ops a.tmps) = true ∧ ∃ c ob v, L[k]? = some c ∧ c.here = true ∧ c.obj σ = some ob ∧ (execOp a.eval o).run P w = .ok (.value v) { w with heap := w.heap.push ob } ∧ ∀ σ' : Nat → Nat, σ' k = w.heap.size → v = r.re σ'

/-- What holds while a region is under way. -/
structure DI (P : Program) (ops : Array Oper) (π : List DOp) (ds : List Nat) (σ0 : Nat → Nat) (L0 : List Chunk) (g0 : G) (w0 : World) (df : List Deferred) (V : List Acc → List SV → List Chunk → G → Prop) (listed : Array Bool)
    (pre post : List DOp) (acc : List Acc) (fr : List SV) (L : List Chunk) (g : G) (σ : Nat → Nat) (a : Act) (w : World) : Prop where
  cut : π = pre ++ post
  hpost : ∀ d ∈ post, done listed d.i = false
  heavy : ∀ d ∈ pre, d.x.x.light = false → done listed d.i = true
  vc : V acc fr L g
  accs : ∀ x ∈ acc, (∃ d ∈ pre, d.i = x.i) ∧ ∀ k, x.made = some k → L0.length ≤ k ∧ k < L.length
  recs : ∀ d ∈ pre, d.x.x.light = true → ∃ x ∈ acc, x.i = d.i ∧ (done listed d.i = false → ∃ o r, LRec P ops d x acc listed fr L g o r)
  sepM : ∀ x ∈ acc, ∀ y ∈ acc, ∀ k, x.made = some k → y.made = some k → x = y
  sepI : ∀ x ∈ acc, ∀ y ∈ acc, x.i = y.i → x = y
  clos : closed ops listed
  hfr : FR σ (selF (undF pre listed) 0 fr) a.tmps
  mem : Mem g (selL (undL acc listed) 0 L) σ w
  scF : scL L.length fr = true
  hscL : scH L
  len0 : L0.length ≤ L.length
  onF : ∀ t, undF pre listed t = true → (get fr t).on (undL acc listed) = true
  onL : ∀ (k : Nat) (c : Chunk), undL acc listed k = true → L[k]? = some c → c.on (undL acc listed) = true
  goes : Goes σ0 L0 g0 w0 σ (selL (undL acc listed) 0 L) g w
  defers : a.defers = df

end
end Go.Sx
end

/- A symbolic executor of my own, second design, part 6: a region whose order is drawn: the proof. Conditions: none; it speaks of any program. -/
section
namespace Go.Sx
variable {fm : Bool}

section
variable {P : Program} {ops : Array Oper} {π : List DOp} {ds : List Nat}

mutual
theorem on_and {p q : Nat → Bool} : ∀ x : SV, x.on p = true → x.on q = true → x.on (fun k => p k && q k) = true
  | .junk, _, _ => rfl
  | .v _, _, _ => rfl
  | .ptr k o, h1, h2 => by simp only [SV.on] at *; simp [h1, h2]
  | .slc k o a b, h1, h2 => by simp only [SV.on] at *; simp [h1, h2]
  | .mp k, h1, h2 => by simp only [SV.on] at *; simp [h1, h2]
  | .fn f a b, h1, h2 => by
    simp only [SV.on, Bool.and_eq_true] at *
    exact ⟨onL_and a h1.1 h2.1, onL_and b h1.2 h2.2⟩
  | .iface t x, h1, h2 => by simp only [SV.on] at *; exact on_and x h1 h2
  | .agg l, h1, h2 => by simp only [SV.on] at *; exact onL_and l h1 h2
  | .tup l, h1, h2 => by simp only [SV.on] at *; exact onL_and l h1 h2
theorem onL_and {p q : Nat → Bool} : ∀ l : List SV, onL p l = true → onL q l = true → onL (fun k => p k && q k) l = true
  | [], _, _ => rfl
  | x :: l, h1, h2 => by
    simp only [onL, Bool.and_eq_true] at *
    exact ⟨on_and x h1.1 h2.1, onL_and l h1.2 h2.2⟩
end
theorem on_imp {p q : Nat → Bool} {n : Nat} {x : SV} (h1 : x.on p = true) (h2 : x.sc n = true) (h : ∀ k, k < n → p k = true → q k = true) : x.on q = true := by
  rw [on_sc] at h2
  refine on_mono (fun k hk => ?_) x (on_and x h1 h2)
  simp only [Bool.and_eq_true, decide_eq_true_eq] at hk
  exact h k hk.2 hk.1
theorem con_imp {p q : Nat → Bool} {n : Nat} {c : Chunk} (h1 : c.on p = true) (h2 : scC n c = true) (h : ∀ k, k < n → p k = true → q k = true) : c.on q = true := by
  cases c with
  | cells ty l =>
    have h2' : scL n l = true := h2
    rw [onL_sc] at h2'
    refine onL_mono (fun k hk => ?_) l (onL_and l h1 h2')
    simp only [Bool.and_eq_true, decide_eq_true_eq] at hk
    exact h k hk.2 hk.1
  | _ => rfl
theorem scC_of {L : List Chunk} (h : scH L) {k : Nat} {c : Chunk} (hk : L[k]? = some c) : scC L.length c = true := by
  cases c with
  | cells ty l => exact h k ty l hk
  | _ => rfl

theorem pair_or (D : DOk P ops π ds) {u d : DOp} (hu : u ∈ π) (hd : d ∈ π) (hne : u ≠ d) : ordOk u d = true ∨ ordOk d u = true := by
  have key : ∀ l : List DOp, ordAll l = true → u ∈ l → d ∈ l → ordOk u d = true ∨ ordOk d u = true := by
    intro l
    induction l with
    | nil => intro _ h; simp at h
    | cons x l ih =>
      intro h h1 h2
      rw [ordAll, Bool.and_eq_true, List.all_eq_true] at h
      rcases List.mem_cons.1 h1 with h1 | h1 <;> rcases List.mem_cons.1 h2 with h2 | h2
      · exact absurd (h1.trans h2.symm) hne
      · rw [h1]; exact .inl (h.1 d h2)
      · rw [h2]; exact .inr (h.1 u h1)
      · exact ih h.2 h1 h2
  exact key π D.ord hu hd

theorem ord_light {d1 d2 : DOp} (h : ordOk d1 d2 = true) (hl : d2.x.x.light = true) {t : Nat} (ht : d2.x.dst = some t) : t ∉ d1.ment := by
  unfold ordOk at h
  rw [ht] at h
  simp only [Bool.and_eq_true, hl] at h
  have := h.1.2
  simpa using this
theorem ord_heavyW {d1 d2 : DOp} (h : ordOk d1 d2 = true) {t : Nat} (ht : d2.x.dst = some t) (hm : t ∈ d1.ment) : d1.i ∈ d2.anc := by
  unfold ordOk at h
  rw [ht] at h
  simp only [Bool.and_eq_true, Bool.or_eq_true] at h
  rcases h.1.2 with h1 | h1
  · simp only [Bool.not_eq_true', List.contains_eq_mem, decide_eq_false_iff_not] at h1; exact absurd hm h1
  · simpa using h1.2
theorem ord_arg {d1 d2 : DOp} (h : ordOk d1 d2 = true) (hl : d1.x.x.light = true) {t : Nat} (ht : d1.x.dst = some t) (hm : t ∈ d2.args) : d1.i ∈ d2.anc := by
  unfold ordOk at h
  rw [ht] at h
  simp only [Bool.and_eq_true, Bool.or_eq_true, hl] at h
  rcases h.2 with (h1 | h1) | h1
  · simp at h1
  · simp only [Bool.not_eq_true', List.contains_eq_mem, decide_eq_false_iff_not] at h1; exact absurd hm h1
  · simpa using h1
theorem ord_heavy {d1 d2 : DOp} (h : ordOk d1 d2 = true) (hl : d1.x.x.light = false) : d1.i ∈ d2.anc := by
  unfold ordOk at h
  simp only [Bool.and_eq_true, Bool.or_eq_true, hl] at h
  rcases h.1.1 with h1 | h1
  · cases h1
  · simpa using h1

theorem xoper_spec {o : Oper} {X : XOper} (h : xoper P ops o = some X) : xop P o.op = some X.x ∧ guardOf ops o.guard = some X.guard ∧ X.dst = o.dst := by
  unfold xoper at h
  split at h
  · rename_i x hx
    split at h
    · rename_i g hg
      cases h
      exact ⟨hx, hg, rfl⟩
    · cases h
  · cases h

def goB (fr : List SV) (d : DOp) : Option Bool :=
  match d.x.guard with
  | none => some true
  | some (t, want) => match get fr t with
    | .v (.bool b) => some (b == want)
    | .v (.tuple _) => some false
    | _ => none

theorem dStep_goB {d : DOp} {acc : List Acc} {fr : List SV} {L : List Chunk} {g : G} {next : List Acc → List SV → List Chunk → G → Prop} {K : KT} (h : dStep fm P ds d acc fr L g next K) :
    (goB fr d = some true ∧ dRun fm P ds d acc fr L g next K) ∨ (goB fr d = some false ∧ dSkip d acc fr L g next) := by
  unfold dStep at h
  unfold goB
  split at h
  · rename_i hg; try rw [hg]
    exact .inl ⟨rfl, h⟩
  · rename_i t want hg
    try rw [hg]
    try simp only
    split at h
    · rename_i b hb
      try simp only [hb]
      rcases bsplit_elim h with ⟨rfl, h2⟩ | ⟨rfl, h2⟩
      · rw [force_eq, put_same _ _ _ hb (by simp)] at h2
        cases want
        · exact .inr ⟨rfl, h2⟩
        · exact .inl ⟨rfl, h2⟩
      · rw [force_eq, put_same _ _ _ hb (by simp)] at h2
        cases want
        · exact .inl ⟨rfl, h2⟩
        · exact .inr ⟨rfl, h2⟩
    · rename_i c hc
      exact .inr ⟨by first | rw [hc] | rfl, h⟩
    · exact h.elim

theorem wanted_goB {o : Oper} {d : DOp} (hx : xoper P ops o = some d.x) {fr : List SV} {σ : Nat → Nat} {tmps : Array Value} {p : Nat → Bool} (hp : ∀ t ∈ gslot d.x, p t = true) (h : FR σ (selF p 0 fr) tmps) {b : Bool} (hb : goB fr d = some b) : Region.wanted o (yielded ops tmps) = b := by
  obtain ⟨-, hg, -⟩ := xoper_spec hx
  unfold goB at hb
  cases hd : d.x.guard with
  | none =>
    rw [hd] at hb hg
    simp only [Option.some.injEq] at hb
    rw [← hb]
    exact wanted_none hg
  | some q =>
    obtain ⟨t, want⟩ := q
    rw [hd] at hb hg
    rw [wanted_some hg]
    simp only at hb
    have hpt : p t = true := hp t (by simp [gslot, hd])
    have val : ∀ x, get fr t = x → x ≠ .junk → tmps.getD t undef = x.re σ := fun x hx hj => h.2 t x (by rw [get_selF, Nat.zero_add, if_pos hpt]; exact hx) hj
    split at hb
    · rename_i c hc
      rw [val _ hc (by simp)]
      simp only [Option.some.injEq] at hb
      rw [← hb]
      rfl
    · rename_i c hc
      rw [val _ hc (by simp)]
      simp only [Option.some.injEq] at hb
      rw [← hb]
      rfl
    · cases hb

theorem undL_iff {acc : List Acc} {listed : Array Bool} {k : Nat} : undL acc listed k = true ↔ ∀ x ∈ acc, x.made = some k → done listed x.i = true := by
  simp only [undL, Bool.not_eq_true', List.any_eq_false, Bool.and_eq_true, beq_iff_eq, Bool.not_eq_true', not_and, Bool.not_eq_false]
theorem undF_iff {pre : List DOp} {listed : Array Bool} {t : Nat} : undF pre listed t = true ↔ ∀ d ∈ pre, d.x.x.light = true → d.x.dst = some t → done listed d.i = true := by
  simp only [undF, Bool.not_eq_true', List.any_eq_false, Bool.and_eq_true, beq_iff_eq, Bool.not_eq_true', not_and, Bool.not_eq_false]
theorem vis_iff {acc : List Acc} {listed : Array Bool} {own : List Nat} {k : Nat} : vis acc listed own k = true ↔ undL acc listed k = true ∨ ∃ x ∈ acc, x.made = some k ∧ x.i ∈ own := by
  simp only [vis, Bool.or_eq_true, List.any_eq_true, Bool.and_eq_true, beq_iff_eq, List.contains_eq_mem, decide_eq_true_eq]

theorem vis_done {acc : List Acc} {listed : Array Bool} {own : List Nat} {k : Nat} (sep : ∀ x ∈ acc, ∀ y ∈ acc, ∀ k, x.made = some k → y.made = some k → x = y) (hd : ∀ i ∈ own, done listed i = true) (h : vis acc listed own k = true) : undL acc listed k = true := by
  rcases vis_iff.1 h with h | ⟨x, hx, hm, hi⟩
  · exact h
  · refine undL_iff.2 fun y hy hym => ?_
    rw [sep y hy x hx k hym hm]
    exact hd _ hi

theorem off_vis {acc : List Acc} {listed : Array Bool} {anc : List Nat} {k : Nat} (h : (!(madeOf (foes acc anc)).contains k) = true) : vis acc listed anc k = true := by
  rw [vis_iff]
  by_cases hu : undL acc listed k = true
  · exact .inl hu
  · right
    have : ¬ ∀ x ∈ acc, x.made = some k → done listed x.i = true := fun hh => hu (undL_iff.2 hh)
    simp only [Classical.not_forall] at this
    obtain ⟨x, hx, hm, hnd⟩ := this
    refine ⟨x, hx, hm, ?_⟩
    simp only [Bool.not_eq_true', List.contains_eq_mem, decide_eq_false_iff_not, madeOf, List.mem_filterMap, foes, List.mem_filter, not_exists, not_and] at h
    have := h x
    simp only [hx, true_and] at this
    refine Classical.byContradiction fun hn => this hn hm

theorem offS_on {ms : List Nat} {x : SV} (h : offS ms x = true) : x.on (fun k => !ms.contains k) = true := by
  cases ms with
  | nil =>
    have : ∀ x : SV, x.on (fun _ => true) = true := fun x => by
      have h := @on_sc
      exact on_mono (p := fun _ => true) (fun _ _ => rfl) x (by
        induction x using SV.rec (motive_2 := fun l => onL (fun _ => true) l = true) <;> simp_all [SV.on, onL])
    simpa using this x
  | cons m ms => exact h
theorem on_true : ∀ c : Chunk, c.on (fun _ => true) = true := by
  intro c
  cases c with
  | cells ty l =>
    refine onL_mem.2 fun x _ => ?_
    have := @offS_on [] x rfl
    simpa using this
  | _ => rfl
theorem offL_on {ms : List Nat} {L : List Chunk} (h : offL ms L = true) : ∀ (k : Nat) (c : Chunk), L[k]? = some c → c.on (fun k => !ms.contains k) = true := by
  intro k c hc
  cases ms with
  | nil => simpa using on_true c
  | cons m ms => exact List.all_eq_true.1 h c (List.mem_of_getElem? hc)

theorem LRec.move {d : DOp} {x : Acc} {acc acc' : List Acc} {listed listed' : Array Bool} {fr fr' : List SV} {L L' : List Chunk} {g g' : G} {o : Oper} {r : SV} (h : LRec P ops d x acc listed fr L g o r)
    (hment : ∀ t, t ∈ d.ment → get fr' t = get fr t) (hfl : fr'.length = fr.length) (hLl : L.length ≤ L'.length) (hlk : ∀ k, k ∈ x.looks → L'[k]? = L[k]?) (hmd : ∀ k, x.made = some k → L'[k]? = L[k]?) (hg : G.le g g')
    (hscL : scH L) (hvis : ∀ own k, k < L.length → vis acc listed own k = true → vis acc' listed' own k = true) (hy : ∀ y ∈ acc', ∀ k, k < L.length → y.made = some k → y ∈ acc) : LRec P ops d x acc' listed' fr' L' g' o r where
  opAt := h.opAt
  xo := h.xo
  jk := h.jk
  scR := sc_mono hLl _ h.scR
  dst t ht hl := by rw [hment t (by simp [DOp.ment, ht])]; exact h.dst t ht (by omega)
  onR := on_imp h.onR h.scR fun k hk => hvis _ k hk
  onC k c hm hc := by
    rw [hmd k hm] at hc
    exact con_imp (h.onC k c hm hc) (scC_of hscL hc) fun k hk => hvis _ k hk
  lk k hk := ⟨Nat.lt_of_lt_of_le (h.lk k hk).1 hLl, fun y hy' hm => (h.lk k hk).2 y (hy y hy' k (h.lk k hk).1 hm) hm⟩
  run σ a w h1 h2 := by
    have h1' : FR σ (selF (fun t => d.args.contains t) 0 fr) a.tmps := h1.sel hfl.symm fun t ht => ⟨ht, (hment t (by simp only [DOp.ment]; exact List.mem_append_right _ (by simpa using ht))).symm⟩
    have h2' : Reads g (selL (fun k => x.looks.contains k) 0 L) σ w := h2.sel hg fun k hk => ⟨hk, (hlk k (by simpa using hk)).symm⟩
    have := h.run σ a w h1' h2'
    cases hm : x.made with
    | none => rw [hm] at this; exact this
    | some k =>
      rw [hm] at this
      obtain ⟨hw, c, ob, v, hc, hrest⟩ := this
      exact ⟨hw, c, ob, v, by rw [hmd k hm]; exact hc, hrest⟩

end
end Go.Sx
end

/- A symbolic executor of my own, second design, part 7: a region whose order is drawn: its steps. Conditions: none; it speaks of any program. -/
section
namespace Go.Sx
variable {fm : Bool}

section
variable {P : Program} {ops : Array Oper} {π : List DOp} {ds : List Nat} {σ0 : Nat → Nat} {L0 : List Chunk} {g0 : G} {w0 : World} {df : List Deferred} {K : KT} {listed : Array Bool}

theorem nodup_ne {pre post : List DOp} {d u : DOp} (h : ((pre ++ post).map (·.i)).Nodup) (hd : d ∈ pre) (hu : u ∈ post) : d.i ≠ u.i := by
  rw [List.map_append, List.nodup_append] at h
  exact h.2.2 _ (List.mem_map_of_mem hd) _ (List.mem_map_of_mem hu)

theorem idx_inj {u d : DOp} : ∀ {l : List DOp}, (l.map (·.i)).Nodup → u ∈ l → d ∈ l → u.i = d.i → u = d := by
  intro l
  induction l with
  | nil => intro _ h; simp at h
  | cons x l ih =>
    intro h h1 h2 e
    rw [List.map_cons, List.nodup_cons] at h
    rcases List.mem_cons.1 h1 with h1 | h1 <;> rcases List.mem_cons.1 h2 with h2 | h2
    · rw [h1, h2]
    · exfalso; refine h.1 ?_; rw [← h1, e]; exact List.mem_map_of_mem h2
    · exfalso; refine h.1 ?_; rw [← h2, ← e]; exact List.mem_map_of_mem h1
    · exact ih h.2 h1 h2 e

theorem gslot_args {d : DOp} {t : Nat} (h : t ∈ gslot d.x) : t ∈ d.args := List.mem_append_left _ h
theorem slots_args {d : DOp} {t : Nat} (h : t ∈ d.x.x.slots) : t ∈ d.args := List.mem_append_right _ h

/-- The head of what is left joins those not done. -/
theorem absorb {V : List Acc → List SV → List Chunk → G → Prop} {pre post : List DOp} {d : DOp} {acc : List Acc} {fr : List SV} {L : List Chunk} {g : G} {σ : Nat → Nat} {a : Act} {w : World} (D : DOk P ops π ds)
    (I : DI P ops π ds σ0 L0 g0 w0 df (fun acc fr L g => dStep fm P ds d acc fr L g V K) listed pre (d :: post) acc fr L g σ a w) (hl : d.x.x.light = true) :
    ∃ acc' fr' L', DI P ops π ds σ0 L0 g0 w0 df V listed (pre ++ [d]) post acc' fr' L' g σ a w := by
  have hdπ : d ∈ π := by rw [I.cut]; simp
  have hnd : done listed d.i = false := I.hpost d (by simp)
  obtain ⟨o, ho, hxo⟩ := D.get d hdπ
  obtain ⟨hxop, hguard, hdst⟩ := xoper_spec hxo
  have hment : ∀ u ∈ pre, ∀ t, d.x.dst = some t → t ∉ u.ment := fun u hu t ht => ord_light (ordAll_pair (by rw [← I.cut]; exact D.ord) hu (List.mem_cons_self)) hl ht
  have hown := D.own d hdπ hl
  have cut' : π = (pre ++ [d]) ++ post := by rw [I.cut]; simp
  -- what all cases share
  have fin : ∀ (y0 : Acc) (r : SV) (L' : List Chunk), y0.i = d.i → r ≠ .junk → r.sc L'.length = true → scH L' → V (y0 :: acc) (putO fr d.x.dst r) L' g →
      ((y0.made = none ∧ L' = L) ∨ (y0.made = some L.length ∧ ∃ c, L' = L ++ [c] ∧ c.here = true ∧ scC L.length c = true ∧ c.on (fun k => !(madeOf (foes acc d.anc)).contains k) = true)) →
      r.on (fun k => !(madeOf (foes acc d.anc)).contains k) = true → (∀ k ∈ y0.looks, k < L.length ∧ k ∉ madeOf (foes acc d.anc)) →
      (∀ (σ : Nat → Nat) (a : Act) (w : World), FR σ (selF (fun t => d.args.contains t) 0 fr) a.tmps → Reads g (selL (fun k => y0.looks.contains k) 0 L) σ w →
        match y0.made with
        | none => (Region.wanted o (yielded ops a.tmps) = true ∧ (execOp a.eval o).run P w = .ok (.value (r.re σ)) w) ∨ (Region.wanted o (yielded ops a.tmps) = false ∧ r = .v undef)
        | some k => Region.wanted o (yielded ops a.tmps) = true ∧ ∃ c ob v, L'[k]? = some c ∧ c.here = true ∧ c.obj σ = some ob ∧ (execOp a.eval o).run P w = .ok (.value v) { w with heap := w.heap.push ob } ∧ ∀ σ' : Nat → Nat, σ' k = w.heap.size → v = r.re σ') →
      DI P ops π ds σ0 L0 g0 w0 df V listed (pre ++ [d]) post (y0 :: acc) (putO fr d.x.dst r) L' g σ a w := by
    intro y0 r L' hy0 hj hrsc hL' hvc hcase hron hlooks hrun
    have hlen : L.length ≤ L'.length := by rcases hcase with ⟨_, rfl⟩ | ⟨_, c, rfl, _⟩ <;> simp
    have hget : ∀ k, k < L.length → L'[k]? = L[k]? := fun k hk => by
      rcases hcase with ⟨_, rfl⟩ | ⟨_, c, rfl, _⟩
      · rfl
      · exact List.getElem?_append_left hk
    have hmk : ∀ k, y0.made = some k → k = L.length ∧ L.length < L'.length := fun k hk => by
      rcases hcase with ⟨h0, rfl⟩ | ⟨h0, c, rfl, _⟩
      · rw [h0] at hk; cases hk
      · rw [h0] at hk; cases hk; exact ⟨rfl, by simp⟩
    have hmadeLt : ∀ x ∈ acc, ∀ k, x.made = some k → k < L.length := fun x hx k hk => ((I.accs x hx).2 k hk).2
    have hund : ∀ k, k < L.length → undL acc listed k = true → undL (y0 :: acc) listed k = true := fun k hk h => by
      rw [undL_iff] at h ⊢
      intro x hx hm
      rcases List.mem_cons.1 hx with hx | hx
      · rw [hx] at hm; have := (hmk k hm).1; omega
      · exact h x hx hm
    have hund' : ∀ k, undL (y0 :: acc) listed k = true → undL acc listed k = true := fun k h => by
      rw [undL_iff] at h ⊢
      exact fun x hx hm => h x (List.mem_cons_of_mem _ hx) hm
    have hvis : ∀ own k, k < L.length → vis acc listed own k = true → vis (y0 :: acc) listed own k = true := fun own k hk h => by
      rw [vis_iff] at h ⊢
      rcases h with h | ⟨x, hx, h⟩
      · exact .inl (hund k hk h)
      · exact .inr ⟨x, List.mem_cons_of_mem _ hx, h⟩
    have hfrl : (putO fr d.x.dst r).length = fr.length := putO_length _ _ _
    have hfget : ∀ t, d.x.dst ≠ some t → get (putO fr d.x.dst r) t = get fr t := fun t ht => by rw [get_putO, if_neg (fun hh => ht hh.1)]
    have hgone : ∀ k, L.length ≤ k → ((selL (undL (y0 :: acc) listed) 0 L')[k]? = if k < L'.length then some Chunk.gone else none) := fun k hk => by
      rw [get_selL, Nat.zero_add]
      rcases hcase with ⟨h0, rfl⟩ | ⟨h0, c, rfl, _⟩
      · rw [if_neg (show ¬ k < L'.length by omega), List.getElem?_eq_none (by omega)]
        split <;> rfl
      · by_cases hkl : k = L.length
        · subst hkl
          have : undL (y0 :: acc) listed L.length ≠ true := fun h => by
            have := undL_iff.1 h y0 (by simp) h0
            rw [hy0, hnd] at this
            cases this
          rw [if_neg this, if_pos (by simp)]
          simp
        · rw [if_neg (show ¬ k < (L ++ [c]).length by simp; omega), List.getElem?_eq_none (by simp; omega)]
          split <;> rfl
    have hsel : selL (undL (y0 :: acc) listed) 0 L' = selL (undL acc listed) 0 L ++ List.replicate (L'.length - L.length) Chunk.gone := by
      apply List.ext_getElem?
      intro k
      by_cases hk : k < L.length
      · rw [List.getElem?_append_left (by rw [selL_length]; exact hk), get_selL, get_selL, Nat.zero_add, hget k hk]
        by_cases hu : undL acc listed k = true
        · rw [if_pos hu, if_pos (hund k hk hu)]
        · rw [if_neg hu, if_neg (fun h => hu (hund' k h))]
      · rw [hgone k (by omega), List.getElem?_append_right (by rw [selL_length]; omega), selL_length, List.getElem?_replicate]
        by_cases hk2 : k < L'.length
        · rw [if_pos hk2, if_pos (by omega)]
        · rw [if_neg hk2, if_neg (by omega)]
    have hplace : L'.length - L.length = 0 ∨ L'.length - L.length = 1 := by rcases hcase with ⟨_, rfl⟩ | ⟨_, c, rfl, _⟩ <;> simp
    refine
      { cut := cut', hpost := fun u hu => I.hpost u (List.mem_cons_of_mem _ hu), heavy := fun u hu hh => ?_, vc := hvc, accs := fun x hx => ?_, recs := fun u hu hul => ?_, sepM := fun x hx y hy k h1 h2 => ?_, sepI := fun x hx y hy e => ?_, clos := I.clos, hfr := ?_, mem := ?_,
        scF := ?_, hscL := hL', len0 := Nat.le_trans I.len0 hlen, onF := fun t ht => ?_, onL := fun k c hk hc => ?_, goes := ?_, defers := I.defers }
    · rcases List.mem_append.1 hu with hu | hu
      · exact I.heavy u hu hh
      · simp only [List.mem_singleton] at hu; rw [hu, hl] at hh; cases hh
    · rcases List.mem_cons.1 hx with hx | hx
      · subst hx
        exact ⟨⟨d, by simp, hy0.symm⟩, fun k hk => by obtain ⟨rfl, h2⟩ := hmk k hk; exact ⟨I.len0, h2⟩⟩
      · obtain ⟨⟨u, hu, hui⟩, h2⟩ := I.accs x hx
        exact ⟨⟨u, List.mem_append_left _ hu, hui⟩, fun k hk => ⟨(h2 k hk).1, Nat.lt_of_lt_of_le (h2 k hk).2 hlen⟩⟩
    · rcases List.mem_append.1 hu with hu | hu
      · obtain ⟨x, hx, hxi, hrec⟩ := I.recs u hu hul
        refine ⟨x, List.mem_cons_of_mem _ hx, hxi, fun hn => ?_⟩
        obtain ⟨o', r', h'⟩ := hrec hn
        refine ⟨o', r', h'.move (fun t ht => hfget t fun e => hment u hu t e ht) hfrl hlen (fun k hk => hget k (h'.lk k hk).1) (fun k hk => hget k (hmadeLt x hx k hk)) (fun _ _ h => h) I.hscL hvis fun y hy k hk hm => ?_⟩
        rcases List.mem_cons.1 hy with hy | hy
        · rw [hy] at hm; have := (hmk k hm).1; omega
        · exact hy
      · simp only [List.mem_singleton] at hu
        subst hu
        refine ⟨y0, by simp, hy0, fun _ => ⟨o, r, ?_⟩⟩
        refine { opAt := ho, xo := hxo, jk := hj, scR := hrsc, dst := fun t ht htl => ?_, onR := ?_, onC := fun k c hm hc => ?_, lk := fun k hk => ⟨Nat.lt_of_lt_of_le (hlooks k hk).1 hlen, fun y hy hm => ?_⟩, run := fun σ a w h1 h2 => ?_ }
        · rw [get_putO, if_pos ⟨ht, by rw [hfrl] at htl; exact htl⟩]
        · refine on_imp hron hrsc fun k hk h => ?_
          by_cases hkl : k < L.length
          · rw [vis_iff] at *
            have := hvis _ k hkl (off_vis (listed := listed) h)
            rw [vis_iff] at this
            rcases this with h1 | ⟨x, hx, hm, hi⟩
            · exact .inl h1
            · exact .inr ⟨x, hx, hm, List.mem_cons_of_mem _ hi⟩
          · rcases hcase with ⟨_, rfl⟩ | ⟨h0, c, rfl, _⟩
            · omega
            · rw [vis_iff]
              right
              refine ⟨y0, by simp, ?_, by rw [hy0]; simp⟩
              rw [h0]; congr 1; simp at hk; omega
        · obtain ⟨rfl, _⟩ := hmk k hm
          rcases hcase with ⟨h0, _⟩ | ⟨_, c', rfl, hh, hsc, hcon⟩
          · rw [h0] at hm; cases hm
          · rw [List.getElem?_append_right (Nat.le_refl _)] at hc
            simp only [Nat.sub_self, List.getElem?_cons_zero, Option.some.injEq] at hc
            subst hc
            exact con_imp hcon hsc fun k hkl h => hvis _ k hkl (off_vis h)
        · rcases List.mem_cons.1 hy with hy | hy
          · rw [hy] at hm; have := (hmk k hm).1; have := (hlooks k hk).1; omega
          · have h2 := (hlooks k hk).2
            refine Classical.byContradiction fun hn => h2 ?_
            simp only [madeOf, List.mem_filterMap, foes, List.mem_filter]
            exact ⟨y, ⟨hy, by simpa using hn⟩, hm⟩
        · refine hrun σ a w (h1.sel hfrl.symm fun t ht => ⟨ht, ?_⟩) (h2.sel (fun _ _ h => h) fun k hk => ⟨hk, ?_⟩)
          · exact (hfget t fun e => hown t e (by simpa using ht)).symm
          · exact (hget k (hlooks k (by simpa using hk)).1).symm
    · rcases List.mem_cons.1 hx with hx | hx <;> rcases List.mem_cons.1 hy with hy | hy
      · rw [hx, hy]
      · rw [hx] at h1; have := (hmk k h1).1; have := hmadeLt y hy k h2; omega
      · rw [hy] at h2; have := (hmk k h2).1; have := hmadeLt x hx k h1; omega
      · exact I.sepM x hx y hy k h1 h2
    · have hne : ∀ z ∈ acc, z.i ≠ d.i := fun z hz e => by
        obtain ⟨⟨u, hu, hui⟩, _⟩ := I.accs z hz
        exact nodup_ne (by rw [← I.cut]; exact D.nodup) hu (List.mem_cons_self) (hui.trans e)
      rcases List.mem_cons.1 hx with hx | hx <;> rcases List.mem_cons.1 hy with hy | hy
      · rw [hx, hy]
      · rw [hx, hy0] at e; exact absurd e.symm (hne y hy)
      · rw [hy, hy0] at e; exact absurd e (hne x hx)
      · exact I.sepI x hx y hy e
    · refine I.hfr.sel hfrl fun t ht => ?_
      rw [undF_iff] at ht
      refine ⟨undF_iff.2 fun u hu => ht u (List.mem_append_left _ hu), hfget t fun e => ?_⟩
      have := ht d (by simp) hl e
      rw [hnd] at this
      cases this
    · rw [hsel]
      rcases hplace with h | h <;> rw [h]
      · simpa using I.mem
      · exact I.mem.place
    · cases hd : d.x.dst with
      | none => exact scL_mono hlen _ I.scF
      | some t => exact sc_put (scL_mono hlen _ I.scF) t hrsc
    · have hne : d.x.dst ≠ some t := fun e => by
        have := (undF_iff.1 ht) d (by simp) hl e
        rw [hnd] at this
        cases this
      rw [hfget t hne]
      exact on_imp (I.onF t (undF_iff.2 fun u hu => (undF_iff.1 ht) u (List.mem_append_left _ hu))) (sc_get I.scF t) fun k hk h => hund k hk h
    · have hkl : k < L.length := by
        rcases Nat.lt_or_ge k L.length with h | h
        · exact h
        · exfalso
          rcases hcase with ⟨_, rfl⟩ | ⟨h0, c', rfl, _⟩
          · rw [List.getElem?_eq_none (by omega)] at hc; cases hc
          · have hkk : k = L.length := by have := (List.getElem?_eq_some_iff.1 hc).1; simp at this; omega
            subst hkk
            have := undL_iff.1 hk y0 (by simp) h0
            rw [hy0, hnd] at this
            cases this
      rw [hget k hkl] at hc
      exact con_imp (I.onL k c (hund' k hk) hc) (scC_of I.hscL hc) fun k hk h => hund k hk h
    · rw [hsel]
      rcases hplace with h | h <;> rw [h]
      · simpa using I.goes
      · exact I.goes.place
  have hvc : dStep fm P ds d acc fr L g V K := I.vc
  rcases dStep_goB hvc with ⟨hgo, h⟩ | ⟨hgo, h⟩
  · unfold dRun at h
    rw [hl] at h
    simp only [fN_eq, lenK_eq, numK_eq, Nat.zero_add] at h
    obtain ⟨hlk, h⟩ := ifOk_elim h
    obtain ⟨r, mc, hk, hrun, hj, hsc, hc⟩ := lt_sound (P := P) hxop rfl (ts := fun t => d.args.contains t) (ks := fun k => (d.x.x.looks fm (ev fr) L).contains k) (fun t ht => by simpa using slots_args ht) (fun k hk => by simpa using hk) I.scF I.hscL h
    rw [fR_eq] at hk
    obtain ⟨hoff, hk⟩ := ifOk_elim hk
    have hlooks : ∀ k ∈ d.x.x.looks fm (ev fr) L, k < L.length ∧ k ∉ madeOf (foes acc d.anc) := fun k hk => by
      have := List.all_eq_true.1 hlk k hk
      simpa using this
    have hwant : ∀ (σ : Nat → Nat) (a : Act), FR σ (selF (fun t => d.args.contains t) 0 fr) a.tmps → Region.wanted o (yielded ops a.tmps) = true := fun σ a hf => wanted_goB hxo (fun t ht => by simpa using gslot_args ht) hf hgo
    cases mc with
    | none =>
      simp only [forceO_eq] at hk
      exact ⟨_, _, _, fin ⟨d.i, d.x.x.looks fm (ev fr) L, none⟩ r L rfl hj (by simpa using hsc) I.hscL hk (.inl ⟨rfl, rfl⟩) (offS_on hoff) hlooks fun σ a w h1 h2 => .inl ⟨hwant σ a h1, hrun.2 σ a w h1 h2⟩⟩
    | some c =>
      obtain ⟨hhere, hcs⟩ := hc c rfl
      obtain ⟨hoffc, hk⟩ := ifOk_elim hk
      simp only [forceO_eq, fL_eq] at hk
      have hL' : scH (L ++ [c]) := by
        intro k ty l hkl
        rcases getElem?_append_one hkl with ⟨_, h2⟩ | ⟨_, rfl⟩
        · exact scL_mono (by simp) _ (I.hscL k ty l h2)
        · exact scL_mono (by simp) _ hcs
      refine ⟨_, _, _, fin ⟨d.i, d.x.x.looks fm (ev fr) L, some L.length⟩ r (L ++ [c]) rfl hj (by simpa using hsc) hL' hk (.inr ⟨rfl, c, rfl, hhere, hcs, offL_on hoffc 0 c rfl⟩) (offS_on hoff) hlooks fun σ a w h1 h2 => ⟨hwant σ a h1, ?_⟩⟩
      obtain ⟨ob, v, h3, h4, h5⟩ := hrun σ a w h1
      exact ⟨c, ob, v, by simp, hhere, h3, h4, h5⟩
  · unfold dSkip at h
    rw [hl, forceO_eq] at h
    exact ⟨_, _, _, fin ⟨d.i, [], none⟩ (.v undef) L rfl (by simp) rfl I.hscL h (.inl ⟨rfl, rfl⟩) rfl (by simp) fun σ a w h1 _ => .inr ⟨wanted_goB hxo (fun t ht => by simpa using gslot_args ht) h1 hgo, rfl⟩⟩

theorem done_set {i j : Nat} (hi : i < listed.size) : done (listed.setIfInBounds i true) j = (j == i || done listed j) := by
  unfold done
  by_cases h : i = j
  · subst h; simp [hi]
  · rw [Array.getD_eq_getD_getElem?, Array.getElem?_setIfInBounds_ne h, ← Array.getD_eq_getD_getElem?]
    simp [show ¬ j = i from fun e => h e.symm]

theorem closed_set {i : Nat} {o : Oper} (hsz : listed.size = ops.size) (ho : ops[i]? = some o) (hc : closed ops listed) (hr : ∀ e ∈ o.after, Region.binds .any e = true → done listed e.on = true) : closed ops (listed.setIfInBounds i true) := by
  have hi : i < listed.size := by rw [hsz]; exact (Array.getElem?_eq_some_iff.1 ho).1
  intro j oj hj hd e he hb
  rw [done_set hi] at hd ⊢
  simp only [Bool.or_eq_true, beq_iff_eq] at hd ⊢
  rcases hd with rfl | hd
  · rw [ho] at hj; cases hj
    exact .inr (hr e he hb)
  · exact .inr (hc j oj hj hd e he hb)

theorem get_ge : ∀ (l : List SV) (i : Nat), l.length ≤ i → get l i = .junk
  | [], _, _ => rfl
  | _ :: l, 0, h => by simp at h
  | _ :: l, i + 1, h => get_ge l i (by simpa using h)
theorem FR.ext {σ : Nat → Nat} {A B : List SV} {tmps : Array Value} (h : FR σ A tmps) (hl : B.length = A.length) (hq : ∀ t, get B t = get A t ∨ get B t = .junk) : FR σ B tmps := by
  refine ⟨hl.trans h.1, fun i x hx hj => ?_⟩
  rcases hq i with h1 | h1
  · exact h.2 i x (h1.symm.trans hx) hj
  · exact absurd (hx.symm.trans h1) hj
theorem FR.on {σ σ' : Nat → Nat} {A : List SV} {tmps : Array Value} {p : Nat → Bool} (h : FR σ A tmps) (hp : ∀ k, p k = true → σ k = σ' k) (ho : ∀ t, (get A t).on p = true) : FR σ' A tmps :=
  ⟨h.1, fun i x hx hj => (h.2 i x hx hj).trans (re_on hp x (by rw [← hx]; exact ho i))⟩

/-- An operation that only reads or makes a block is done. -/
theorem light_step {V : List Acc → List SV → List Chunk → G → Prop} {pre post : List DOp} {d : DOp} {acc : List Acc} {fr : List SV} {L : List Chunk} {g : G} {σ : Nat → Nat} {a : Act} {w : World} {Q : Exit → Act → World → Prop} (D : DOk P ops π ds)
    (I : DI P ops π ds σ0 L0 g0 w0 df V listed pre post acc fr L g σ a w) (hsz : listed.size = ops.size) (hd : d ∈ pre) (hl : d.x.x.light = true) (hnd : done listed d.i = false) {o : Oper} (ho : ops[d.i]? = some o)
    (hr : ∀ e ∈ o.after, Region.binds .any e = true → done listed e.on = true) :
    wpOp P ops Q d.i (fun a' w' => ∃ σ', DI P ops π ds σ0 L0 g0 w0 df V (listed.setIfInBounds d.i true) pre post acc fr L g σ' a' w') a w := by
  have hdπ : d ∈ π := by rw [I.cut]; exact List.mem_append_left _ hd
  obtain ⟨p1, p2, hpre⟩ := List.append_of_mem hd
  have hanc := anc_done2 (fun u hu => (D.get u hu).imp fun _ h => h.1) D.anc I.clos _ p1 d (p2 ++ post) rfl (by rw [I.cut, hpre]; simp) (fun h hh hl => I.heavy h (by rw [hpre]; simp [hh]) hl) o ho hr
  obtain ⟨x, hx, hxi, hrec⟩ := I.recs d hd hl
  obtain ⟨o', r, R⟩ := hrec hnd
  have : o' = o := by have := R.opAt; rw [ho] at this; cases this; rfl
  subst this
  obtain ⟨hxop, hguard, hdst⟩ := xoper_spec R.xo
  have hi : d.i < listed.size := by rw [hsz]; exact (Array.getElem?_eq_some_iff.1 ho).1
  have hds : ∀ j, done (listed.setIfInBounds d.i true) j = (j == d.i || done listed j) := fun j => done_set hi
  have hF : FR σ (selF (fun t => d.args.contains t) 0 fr) a.tmps := I.hfr.sel rfl fun t ht => ⟨undF_iff.2 fun u hu hul hut => by
    have ht' : t ∈ d.args := by simpa using ht
    by_cases hud : u = d
    · subst hud; exact absurd ht' (D.own u hdπ hl t hut)
    · rcases pair_or D (by rw [I.cut]; exact List.mem_append_left _ hu) hdπ hud with h | h
      · exact hanc _ (ord_arg h hul hut ht')
      · exact absurd (by simp only [DOp.ment]; exact List.mem_append_right _ ht') (ord_light h hul hut), rfl⟩
  have hR : Reads g (selL (fun k => x.looks.contains k) 0 L) σ w := I.mem.reads.sel (fun _ _ h => h) fun k hk => ⟨undL_iff.2 fun y hy hm => hanc _ ((R.lk k (by simpa using hk)).2 y hy hm), rfl⟩
  have hrun := R.run σ a w hF hR
  have hmono : ∀ j, done listed j = true → done (listed.setIfInBounds d.i true) j = true := fun j hj => by rw [hds, hj]; simp
  have hpost' : ∀ u ∈ post, done (listed.setIfInBounds d.i true) u.i = false := fun u hu => by
    rw [hds, I.hpost u hu]
    have : d.i ≠ u.i := nodup_ne (by rw [← I.cut]; exact D.nodup) hd hu
    rw [beq_eq_false_iff_ne.2 (fun e => this e.symm)]
    rfl
  have hundF : ∀ t, undF pre (listed.setIfInBounds d.i true) t = true → undF pre listed t = true ∨ d.x.dst = some t := fun t ht => by
    by_cases hdt : d.x.dst = some t
    · exact .inr hdt
    · left
      refine undF_iff.2 fun u hu hul hut => ?_
      have := undF_iff.1 ht u hu hul hut
      rw [hds] at this
      simp only [Bool.or_eq_true, beq_iff_eq] at this
      rcases this with h | h
      · exfalso
        have : u = d := idx_inj D.nodup (by rw [I.cut]; exact List.mem_append_left _ hu) hdπ h
        rw [this] at hut
        exact hdt hut
      · exact h
  have hundLm : ∀ k, undL acc listed k = true → undL acc (listed.setIfInBounds d.i true) k = true := fun k hk => undL_iff.2 fun y hy hm => hmono _ (undL_iff.1 hk y hy hm)
  have hvis : ∀ own k, k < L.length → vis acc listed own k = true → vis acc (listed.setIfInBounds d.i true) own k = true := fun own k _ h => by
    rw [vis_iff] at h ⊢
    rcases h with h | h
    · exact .inl (hundLm k h)
    · exact .inr h
  -- what is left behind, whatever was done
  have fin : ∀ (σ' : Nat → Nat) (v : Value) (w' : World), v = r.re σ' → (∀ k, undL acc listed k = true → σ k = σ' k) → Mem g (selL (undL acc (listed.setIfInBounds d.i true)) 0 L) σ' w' → Goes σ0 L0 g0 w0 σ' (selL (undL acc (listed.setIfInBounds d.i true)) 0 L) g w' →
      (∀ k c, undL acc (listed.setIfInBounds d.i true) k = true → L[k]? = some c → c.on (undL acc (listed.setIfInBounds d.i true)) = true) → DI P ops π ds σ0 L0 g0 w0 df V (listed.setIfInBounds d.i true) pre post acc fr L g σ' (a.put o'.dst v) w' := by
    intro σ' v w' hv hσ hm hg honL
    refine
      { cut := I.cut, hpost := hpost', heavy := fun u hu hh => hmono _ (I.heavy u hu hh), vc := I.vc, accs := I.accs, recs := fun u hu hul => ?_, sepM := I.sepM, sepI := I.sepI, clos := closed_set hsz ho I.clos hr, hfr := ?_, mem := hm, scF := I.scF, hscL := I.hscL, len0 := I.len0,
        onF := fun t ht => ?_, onL := honL, goes := hg, defers := ?_ }
    · obtain ⟨y, hy, hyi, hrec⟩ := I.recs u hu hul
      refine ⟨y, hy, hyi, fun hn => ?_⟩
      have hn' : done listed u.i = false := by
        rw [hds] at hn
        simp only [Bool.or_eq_false_iff] at hn
        exact hn.2
      obtain ⟨o2, r2, h2⟩ := hrec hn'
      exact ⟨o2, r2, h2.move (fun _ _ => rfl) rfl (Nat.le_refl _) (fun _ _ => rfl) (fun _ _ => rfl) (fun _ _ h => h) I.hscL hvis fun _ h _ _ _ => h⟩
    · have h1 : FR σ' (selF (undF pre listed) 0 fr) a.tmps := I.hfr.on hσ fun t => by
        rw [get_selF, Nat.zero_add]
        split
        · rename_i ht; exact I.onF t ht
        · rfl
      rw [← hdst]
      cases hdd : d.x.dst with
      | none =>
        refine h1.ext (by rw [selF_length, selF_length]) fun t => ?_
        rw [get_selF, get_selF, Nat.zero_add]
        by_cases ht : undF pre (listed.setIfInBounds d.i true) t = true
        · rcases hundF t ht with h | h
          · rw [if_pos ht, if_pos h]; exact .inl rfl
          · rw [hdd] at h; cases h
        · rw [if_neg ht]; exact .inr rfl
      | some t0 =>
        have h2 := h1.put t0 (r := r) (v := v) (fun _ => hv)
        refine FR.ext h2 (by rw [selF_length, put_length, selF_length]) fun t => ?_
        rw [get_put, selF_length, get_selF, get_selF, Nat.zero_add]
        by_cases ht : undF pre (listed.setIfInBounds d.i true) t = true
        · rw [if_pos ht]
          by_cases htt : t0 = t
          · subst htt
            by_cases htl : t0 < fr.length
            · rw [if_pos ⟨rfl, htl⟩]; exact .inl (R.dst t0 hdd htl)
            · right
              exact get_ge fr t0 (by omega)
          · rw [if_neg (fun hh => htt hh.1)]
            rcases hundF t ht with h | h
            · rw [if_pos h]; exact .inl rfl
            · rw [hdd] at h; cases h; exact absurd rfl htt
        · rw [if_neg ht]; exact .inr rfl
    · rcases hundF t ht with h | h
      · exact on_mono hundLm _ (I.onF t h)
      · by_cases htl : t < fr.length
        · rw [R.dst t h htl]
          refine on_imp R.onR R.scR fun k hkl hk => vis_done I.sepM (fun i hi => ?_) (hvis _ k hkl hk)
          rcases List.mem_cons.1 hi with rfl | hi
          · rw [hds]; simp
          · exact hmono _ (hanc i hi)
        · rw [get_ge fr t (by omega)]; rfl
    · cases ho2 : o'.dst with
      | none => exact I.defers
      | some t => exact I.defers
  have hwp : ∀ (v : Value) (w' : World), (∃ σ', DI P ops π ds σ0 L0 g0 w0 df V (listed.setIfInBounds d.i true) pre post acc fr L g σ' (a.put o'.dst v) w') → Region.wanted o' (yielded ops a.tmps) = true → (execOp a.eval o').run P w = .ok (.value v) w' →
      wpOp P ops Q d.i (fun a' w' => ∃ σ', DI P ops π ds σ0 L0 g0 w0 df V (listed.setIfInBounds d.i true) pre post acc fr L g σ' a' w') a w := by
    intro v w' hI hw hrun
    unfold wpOp
    rw [ho]
    simp only [hw, if_true]
    left
    unfold Oper.wp
    rw [hrun]
    exact hI
  cases hm : x.made with
  | none =>
    rw [hm] at hrun
    have hsame : undL acc (listed.setIfInBounds d.i true) = undL acc listed := by
      funext k
      rw [Bool.eq_iff_iff]
      refine ⟨fun h => undL_iff.2 fun y hy hym => ?_, hundLm k⟩
      have := undL_iff.1 h y hy hym
      rw [hds] at this
      simp only [Bool.or_eq_true, beq_iff_eq] at this
      rcases this with h1 | h1
      · exfalso
        rw [I.sepI y hy x hx (h1.trans hxi.symm), hm] at hym
        cases hym
      · exact h1
    have hI : ∀ v, v = r.re σ → DI P ops π ds σ0 L0 g0 w0 df V (listed.setIfInBounds d.i true) pre post acc fr L g σ (a.put o'.dst v) w := fun v hv => fin σ v w hv (fun _ _ => rfl) (by rw [hsame]; exact I.mem) (by rw [hsame]; exact I.goes) (by rw [hsame]; exact I.onL)
    rcases hrun with ⟨hw, hrun⟩ | ⟨hw, rfl⟩
    · exact hwp _ _ ⟨σ, hI _ rfl⟩ hw hrun
    · unfold wpOp
      rw [ho]
      simp only [hw]
      exact ⟨σ, hI _ rfl⟩
  | some k =>
    rw [hm] at hrun
    obtain ⟨hw, c, ob, v, hc, hhere, hob, hrun, hv⟩ := hrun
    have hkr := (I.accs x hx).2 k hm
    have hku : undL acc listed k ≠ true := fun h => by
      have := undL_iff.1 h x hx hm
      rw [hxi, hnd] at this
      cases this
    have hk' : ∀ j, undL acc (listed.setIfInBounds d.i true) j = true ↔ j = k ∨ undL acc listed j = true := fun j => by
      constructor
      · intro h
        by_cases hjk : j = k
        · exact .inl hjk
        · right
          refine undL_iff.2 fun y hy hym => ?_
          have := undL_iff.1 h y hy hym
          rw [hds] at this
          simp only [Bool.or_eq_true, beq_iff_eq] at this
          rcases this with h1 | h1
          · exfalso
            rw [I.sepI y hy x hx (h1.trans hxi.symm), hm] at hym
            cases hym
            exact hjk rfl
          · exact h1
      · rintro (rfl | h)
        · refine undL_iff.2 fun y hy hym => ?_
          rw [I.sepM y hy x hx j hym hm, hxi, hds]
          simp
        · exact hundLm j h
    have hne : ∀ j, undL acc listed j = true → (!(j == k)) = true := fun j hj => by
      have : j ≠ k := fun e => hku (by rw [← e]; exact hj)
      simpa using this
    have hcon : c.on (undL acc listed) = true := by
      refine con_imp (R.onC k c hm hc) (scC_of I.hscL hc) fun j _ hj => vis_done I.sepM hanc hj
    have hset : (selL (undL acc listed) 0 L).set k c = selL (undL acc (listed.setIfInBounds d.i true)) 0 L := by
      apply List.ext_getElem?
      intro j
      by_cases hjk : k = j
      · subst hjk
        rw [List.getElem?_set_self (by rw [selL_length]; exact hkr.2), get_selL, Nat.zero_add, if_pos ((hk' k).2 (.inl rfl)), hc]
      · rw [List.getElem?_set_ne hjk, get_selL, get_selL, Nat.zero_add]
        by_cases hu : undL acc listed j = true
        · rw [if_pos hu, if_pos ((hk' j).2 (.inr hu))]
        · rw [if_neg hu, if_neg (fun h => by rcases (hk' j).1 h with h | h; exact hjk h.symm; exact hu h)]
    have hgone : (selL (undL acc listed) 0 L)[k]? = some Chunk.gone := by
      rw [get_selL, Nat.zero_add, if_neg hku, hc]; rfl
    have hvisOn : ∀ (j : Nat) (c' : Chunk), (selL (undL acc listed) 0 L)[j]? = some c' → c'.on (fun i => !(i == k)) = true := fun j c' hj => by
      rw [get_selL, Nat.zero_add] at hj
      split at hj
      · rename_i hu; exact Chunk.on_mono hne (I.onL j c' hu hj)
      · simp only [Option.map_eq_some_iff] at hj
        obtain ⟨_, _, rfl⟩ := hj
        rfl
    have hm1 := I.mem.born hgone hvisOn c (Chunk.on_mono hne hcon) ob hob
    have hg1 := I.goes.born hkr.1 c ob (obj_nfam hob)
    rw [hset] at hm1 hg1
    refine hwp v _ ⟨_, fin _ v _ (hv _ (by simp)) (fun j hj => ?_) hm1 hg1 fun j c' hj hc' => ?_⟩ hw hrun
    · have : j ≠ k := fun e => hku (by rw [← e]; exact hj)
      simp [this]
    · rcases (hk' j).1 hj with rfl | hj
      · rw [hc] at hc'; cases hc'
        exact Chunk.on_mono hundLm hcon
      · exact Chunk.on_mono hundLm (I.onL j c' hj hc')

end
end Go.Sx
end

/- A symbolic executor of my own, second design, part 8: a region whose order is drawn: operations that write or call; the region. Conditions: none; it speaks of any program. -/
section
namespace Go.Sx
variable {fm : Bool}

theorem Oper.wp_mono2 {P : Program} {o : Oper} {a : Act} {w : World} {K K' : Act → World → Prop} {Q Q' : Exit → Act → World → Prop} (h : ∀ a w, K a w → K' a w) (hq : ∀ e a w, Q e a w → Q' e a w) (hh : o.wp P a w K Q) : o.wp P a w K' Q' := by
  unfold Oper.wp at *
  generalize (execOp a.eval o).run P w = r at *
  cases r with
  | ok n w' =>
    cases n with
    | value v => exact h _ _ hh
    | skip => exact h _ _ hh
    | defer d => exact h _ _ hh
    | enter f args =>
      refine Calls.mono (show Calls P f args w' _ from hh) fun e w'' he => ?_
      cases e with
      | returned v => exact h _ _ he
      | panicked c => exact hq _ _ _ he
      | outgrown => obtain ⟨a0, w0, h0⟩ := he; exact ⟨a0, w0, hq _ _ _ h0⟩
    | row row args => exact Rows.mono (show Rows P row args w' _ from hh) fun v w'' he => h _ _ he
    | _ => exact hh
  | halt x w' =>
    cases x with
    | panic v => exact hq _ _ _ hh
    | _ => exact hh

/-- The state told of a frame and a world. -/
structure Inv (df : List Deferred) (fr : List SV) (L : List Chunk) (g : G) (σ : Nat → Nat) (a : Act) (w : World) : Prop where
  hfr : FR σ fr a.tmps
  mem : Mem g L σ w
  scF : scL L.length fr = true
  hscL : scH L
  defers : a.defers = df

section
variable {P : Program} {ops : Array Oper} {π : List DOp} {ds : List Nat} {σ0 : Nat → Nat} {L0 : List Chunk} {g0 : G} {w0 : World} {df : List Deferred} {K : KT} {listed : Array Bool}

theorem foe_of {acc : List Acc} {anc : List Nat} {x : Acc} (hx : x ∈ acc) (h : x.i ∉ anc) : x ∈ foes acc anc := by
  simp only [foes, List.mem_filter]
  exact ⟨hx, by simpa using h⟩
theorem chkH_spec {fs : List Acc} {rd ids : List Nat} (h : chkH fs rd ids = true) {x : Acc} (hx : x ∈ fs) : (∀ k ∈ x.looks, k ∉ ids) ∧ ∀ k, x.made = some k → k ∉ ids ∧ k ∉ rd := by
  have := List.all_eq_true.1 h x hx
  simp only [Bool.and_eq_true] at this
  refine ⟨fun k hk => ?_, fun k hk => ?_⟩
  · simpa using List.all_eq_true.1 this.1 k hk
  · have h2 := this.2
    rw [hk] at h2
    simpa using h2

theorem heavy_step {V : List Acc → List SV → List Chunk → G → Prop} {pre post : List DOp} {d : DOp} {acc : List Acc} {fr : List SV} {L : List Chunk} {g : G} {σ : Nat → Nat} {a : Act} {w : World} {Q : Exit → Act → World → Prop} (D : DOk P ops π ds)
    (I : DI P ops π ds σ0 L0 g0 w0 df (fun acc fr L g => dStep fm P ds d acc fr L g V K) listed pre (d :: post) acc fr L g σ a w) (hsz : listed.size = ops.size) (hl : d.x.x.light = false) {o : Oper} (ho : ops[d.i]? = some o)
    (hr : ∀ e ∈ o.after, Region.binds .any e = true → done listed e.on = true)
    (hQ : ∀ x fr L g σ a w, Inv df fr L g σ a w → x ≠ .junk → x.sc L.length = true → Goes σ0 L0 g0 w0 σ L g w → K (.pan x) fr L g → Q (.panic [{ v := x.re σ, recovered := false }]) a w) :
    wpOp P ops Q d.i (fun a' w' => ∃ fr' L' g' σ', DI P ops π ds σ0 L0 g0 w0 df V (listed.setIfInBounds d.i true) (pre ++ [d]) post acc fr' L' g' σ' a' w') a w := by
  have hdπ : d ∈ π := by rw [I.cut]; simp
  have hnd : done listed d.i = false := I.hpost d (by simp)
  have hanc := anc_done2 (fun u hu => (D.get u hu).imp fun _ h => h.1) D.anc I.clos _ pre d post rfl I.cut (fun h hh hl => I.heavy h hh hl) o ho hr
  obtain ⟨o', ho', hxo⟩ := D.get d hdπ
  have : o' = o := by rw [ho] at ho'; cases ho'; rfl
  subst this
  obtain ⟨hxop, hguard, hdst⟩ := xoper_spec hxo
  have hi : d.i < listed.size := by rw [hsz]; exact (Array.getElem?_eq_some_iff.1 ho).1
  have hds : ∀ j, done (listed.setIfInBounds d.i true) j = (j == d.i || done listed j) := fun j => done_set hi
  have hpreπ : ∀ u ∈ pre, u ∈ π := fun u hu => by rw [I.cut]; exact List.mem_append_left _ hu
  have hord : ∀ u ∈ pre, ordOk u d = true := fun u hu => ordAll_pair (by rw [← I.cut]; exact D.ord) hu List.mem_cons_self
  have hpne : ∀ u ∈ pre, u.i ≠ d.i := fun u hu => nodup_ne (by rw [← I.cut]; exact D.nodup) hu List.mem_cons_self
  have hane : ∀ x ∈ acc, x.i ≠ d.i := fun x hx e => by
    obtain ⟨⟨u, hu, hui⟩, _⟩ := I.accs x hx
    exact hpne u hu (hui.trans e)
  have hdone : ∀ j, j ≠ d.i → done (listed.setIfInBounds d.i true) j = done listed j := fun j hj => by rw [hds, beq_eq_false_iff_ne.2 hj]; rfl
  have hundL : undL acc (listed.setIfInBounds d.i true) = undL acc listed := by
    funext k
    rw [Bool.eq_iff_iff, undL_iff, undL_iff]
    exact ⟨fun h x hx hm => by rw [← hdone _ (hane x hx)]; exact h x hx hm, fun h x hx hm => by rw [hdone _ (hane x hx)]; exact h x hx hm⟩
  have hundF : undF (pre ++ [d]) (listed.setIfInBounds d.i true) = undF pre listed := by
    funext t
    rw [Bool.eq_iff_iff, undF_iff, undF_iff]
    constructor
    · intro h u hu hul hut
      rw [← hdone _ (hpne u hu)]
      exact h u (List.mem_append_left _ hu) hul hut
    · intro h u hu hul hut
      rcases List.mem_append.1 hu with hu | hu
      · rw [hdone _ (hpne u hu)]; exact h u hu hul hut
      · simp only [List.mem_singleton] at hu; rw [hu, hl] at hul; cases hul
  have hvis : ∀ own k, vis acc listed own k = true → vis acc (listed.setIfInBounds d.i true) own k = true := fun own k h => by
    rw [vis_iff] at h ⊢
    rwa [hundL]
  have hF : FR σ (selF (fun t => d.args.contains t) 0 fr) a.tmps := I.hfr.sel rfl fun t ht => ⟨undF_iff.2 fun u hu hul hut => hanc _ (ord_arg (hord u hu) hul hut (by simpa using ht)), rfl⟩
  have hoff : ∀ k, (!(madeOf (foes acc d.anc)).contains k) = true → undL acc listed k = true := fun k hk => vis_done I.sepM hanc (off_vis hk)
  have foe : ∀ x ∈ acc, done listed x.i = false → x ∈ foes acc d.anc := fun x hx hn => foe_of hx fun hh => by rw [hanc _ hh] at hn; cases hn
  -- what is left behind
  have fin : ∀ (rd ids : List Nat) (v : Value) (r : SV) (L1 : List Chunk) (g1 : G) (σ' : Nat → Nat) (w' : World), chkH (foes acc d.anc) rd ids = true → (r ≠ .junk → v = r.re σ') → r.sc L1.length = true → Upd ids L L1 → (∀ k, k < L.length → σ' k = σ k) → G.le g g1 →
      Mem g1 (selL (undL acc listed) 0 L1) σ' w' → Goes σ0 L0 g0 w0 σ' (selL (undL acc listed) 0 L1) g1 w' → scH L1 → r.on (fun k => !(madeOf (foes acc d.anc)).contains k) = true →
      (∀ (k : Nat) (c : Chunk), undL acc listed k = true → L1[k]? = some c → c.on (undL acc listed) = true) →
      V acc (putO fr d.x.dst r) L1 g1 → DI P ops π ds σ0 L0 g0 w0 df V (listed.setIfInBounds d.i true) (pre ++ [d]) post acc (putO fr d.x.dst r) L1 g1 σ' (a.put o'.dst v) w' := by
    intro rd ids v r L1 g1 σ' w' hck hv hrsc hupd hag hgle hm hg hsc hron honL hvc
    refine
      { cut := by rw [I.cut]; simp, hpost := fun u hu => ?_, heavy := fun u hu hh => ?_, vc := hvc, accs := fun x hx => ?_, recs := fun u hu hul => ?_, sepM := I.sepM, sepI := I.sepI, clos := closed_set hsz ho I.clos hr, hfr := ?_, mem := ?_, scF := ?_, hscL := hsc,
        len0 := Nat.le_trans I.len0 hupd.1, onF := fun t ht => ?_, onL := ?_, goes := ?_, defers := ?_ }
    · rw [hdone _ ?_]
      · exact I.hpost u (List.mem_cons_of_mem _ hu)
      · intro e
        have hn := D.nodup
        rw [I.cut, List.map_append, List.nodup_append] at hn
        have := hn.2.1
        rw [List.map_cons, List.nodup_cons] at this
        exact this.1 (by rw [← e]; exact List.mem_map_of_mem hu)
    · rcases List.mem_append.1 hu with hu | hu
      · rw [hdone _ (hpne u hu)]; exact I.heavy u hu hh
      · simp only [List.mem_singleton] at hu; rw [hu, hds]; simp
    · obtain ⟨⟨u, hu, hui⟩, h2⟩ := I.accs x hx
      exact ⟨⟨u, List.mem_append_left _ hu, hui⟩, fun k hk => ⟨(h2 k hk).1, Nat.lt_of_lt_of_le (h2 k hk).2 hupd.1⟩⟩
    · rcases List.mem_append.1 hu with hu | hu
      · obtain ⟨x, hx, hxi, hrec⟩ := I.recs u hu hul
        refine ⟨x, hx, hxi, fun hn => ?_⟩
        rw [hdone _ (hpne u hu)] at hn
        obtain ⟨o2, r2, h2⟩ := hrec hn
        have hfx := foe x hx (by rw [hxi]; exact hn)
        obtain ⟨c1, c2⟩ := chkH_spec hck hfx
        refine ⟨o2, r2, h2.move (fun t ht => ?_) (putO_length _ _ _) hupd.1 (fun k hk => hupd.2 k (h2.lk k hk).1 (c1 k hk)) (fun k hk => hupd.2 k ((I.accs x hx).2 k hk).2 (c2 k hk).1) hgle I.hscL (fun own k _ h => hvis own k h) fun _ h _ _ _ => h⟩
        rw [get_putO, if_neg]
        rintro ⟨hh, -⟩
        have := hanc _ (ord_heavyW (hord u hu) hh ht)
        rw [hn] at this
        cases this
      · simp only [List.mem_singleton] at hu; rw [hu, hl] at hul; cases hul
    · rw [hundF, ← hdst]
      have h1 : FR σ' (selF (undF pre listed) 0 fr) a.tmps := I.hfr.on (p := fun k => decide (k < L.length)) (fun k hk => (hag k (by simpa using hk)).symm) fun t => by
        rw [get_selF]
        split
        · rw [← on_sc]; exact sc_get I.scF t
        · rfl
      cases hdd : d.x.dst with
      | none => exact h1
      | some t0 =>
        have h2 := h1.put t0 (r := r) (v := v) hv
        refine FR.ext h2 (by rw [selF_length, put_length, selF_length]; exact putO_length fr (some t0) r) fun t => ?_
        rw [get_put, selF_length, get_selF, get_selF, Nat.zero_add, get_putO]
        by_cases ht : undF pre listed t = true
        · rw [if_pos ht, if_pos ht]
          by_cases htt : t0 = t ∧ t0 < fr.length
          · obtain ⟨rfl, htl⟩ := htt
            rw [if_pos ⟨rfl, htl⟩, if_pos ⟨rfl, htl⟩]; exact .inl rfl
          · rw [if_neg htt, if_neg (fun hh => htt ⟨by have := hh.1; cases this; rfl, by have := hh.1; cases this; exact hh.2⟩)]
            exact .inl rfl
        · rw [if_neg ht]; exact .inr rfl
    · rw [hundL]; exact hm
    · cases hdd : d.x.dst with
      | none => exact scL_mono hupd.1 _ I.scF
      | some t => exact sc_put (scL_mono hupd.1 _ I.scF) t hrsc
    · rw [hundF] at ht
      rw [hundL, get_putO]
      split
      · exact on_mono hoff r hron
      · exact I.onF t ht
    · rw [hundL]; exact honL
    · rw [hundL]; exact hg
    · cases ho2 : o'.dst with
      | none => exact I.defers
      | some t => exact I.defers
  have hvc : dStep fm P ds d acc fr L g V K := I.vc
  unfold wpOp
  rw [ho]
  simp only
  rcases dStep_goB hvc with ⟨hgo, h⟩ | ⟨hgo, h⟩
  · have hw := wanted_goB hxo (p := fun t => d.args.contains t) (fun t ht => by simpa using gslot_args ht) hF hgo
    simp only [hw, if_true]
    left
    unfold dRun at h
    rw [hl] at h
    have hlen : (selL (undL acc listed) 0 L).length = L.length := selL_length _ _ _
    obtain ⟨rd, ids, hck, hrun⟩ := hv_sound (P := P) hxop (p := fun t => d.args.contains t) (L' := selL (undL acc listed) 0 L) (σ := σ) (a := a) (w := w) (fun t ht => by simpa using slots_args ht) ⟨hF, (by have := selL_less (p := undL acc listed) (q := fun _ => true) (L := L) (fun _ _ => rfl); rwa [selL_id (p := fun _ => true) (fun _ => rfl)] at this), I.mem, I.scF, I.hscL⟩ h
    have hids : ∀ k, k ∈ ids → undL acc listed k = true := fun k hk => undL_iff.2 fun y hy hm => by
      refine Classical.byContradiction fun hn => ?_
      exact ((chkH_spec hck (foe y hy (by simpa using hn))).2 k hm).1 hk
    have hrd : ∀ k, k ∈ rd → undL acc listed k = true := fun k hk => undL_iff.2 fun y hy hm => by
      refine Classical.byContradiction fun hn => ?_
      exact ((chkH_spec hck (foe y hy (by simpa using hn))).2 k hm).2 hk
    have hredo : ∀ L1, Upd ids L L1 → redo ids 0 (selL (undL acc listed) 0 L) L1 = selL (undL acc listed) 0 L1 := by
      intro L1 hu
      apply List.ext_getElem?
      intro k
      rw [redo_get _ _ _ _ _ (by rw [hlen]; exact hu.1), Nat.zero_add, hlen, get_selL, get_selL, Nat.zero_add]
      by_cases hk : k < L.length ∧ k ∉ ids
      · rw [if_pos hk, hu.2 k hk.1 hk.2]
      · rw [if_neg hk, if_pos]
        by_cases hkl : k < L.length
        · exact hids k (Classical.byContradiction fun hn => hk ⟨hkl, hn⟩)
        · exact undL_iff.2 fun y hy hm => absurd ((I.accs y hy).2 k hm).2 hkl
    refine Oper.wp_mono2 ?_ ?_ (hrun (fun k hk => by rw [get_selL, Nat.zero_add, if_pos (hrd k hk)]) fun k hk => by rw [get_selL, Nat.zero_add, if_pos (hids k hk)])
    · rintro a' w' ⟨v, r, L1, g1, σ', rfl, hv, hrsc, hupd, hm, hsc, hg, hk⟩
      rw [hredo L1 hupd] at hm hg
      simp only [fR_eq, fL_eq] at hk
      obtain ⟨hoffs, hk⟩ := ifOk_elim hk
      rw [Bool.and_eq_true] at hoffs
      simp only [forceO_eq] at hk
      refine ⟨_, L1, g1, σ', fin rd ids v r L1 g1 σ' w' hck hv hrsc hupd (fun k hk => hg.agree k (by rw [hlen]; exact hk)) hg.gle hm (I.goes.trans hg) hsc (offS_on hoffs.1) (fun k c _ hc => ?_) hk⟩
      exact Chunk.on_mono hoff (offL_on hoffs.2 k c hc)
    · rintro e a' w' ⟨x, L1, g1, σ', rfl, hj, rfl, hxsc, hupd, hm, hsc, hg, hk⟩
      rw [hredo L1 hupd] at hm hg
      have hless : Less (selL (fun k => !(madeOf (foes acc d.anc)).contains k) 0 L1) (selL (undL acc listed) 0 L1) := selL_less hoff
      refine hQ x _ _ g1 σ' a' w' ⟨?_, hm.less hless, ?_, ?_, I.defers⟩ hj (by rw [selL_length]; exact hxsc) ((I.goes.trans hg).less hless) hk
      · have h1 : FR σ (selF (fun t => !ds.contains t) 0 fr) a'.tmps := I.hfr.sel rfl fun t ht => ⟨undF_iff.2 fun u hu hul hut => by
          have : t ∈ ds := D.ds u (hpreπ u hu) t hut
          simp [this] at ht, rfl⟩
        refine h1.on (p := fun k => decide (k < L.length)) (fun k hk => (hg.agree k (by rw [hlen]; simpa using hk)).symm) fun t => ?_
        rw [get_selF]
        split
        · rw [← on_sc]; exact sc_get I.scF t
        · rfl
      · rw [selL_length]
        refine scL_mem.2 fun y hy => ?_
        obtain ⟨i, hi', rfl⟩ := List.getElem_of_mem hy
        have hge : ∀ (l : List SV) (i : Nat) (h : i < l.length), l[i] = get l i := by
          intro l
          induction l with
          | nil => intro i h; simp at h
          | cons z l ih => intro i h; cases i with | zero => rfl | succ i => exact ih i (by simpa using h)
        rw [hge, get_selF]
        split
        · exact sc_mono hupd.1 _ (sc_get I.scF i)
        · rfl
      · intro k ty c hkc
        rw [selL_length]
        rw [get_selL] at hkc
        split at hkc
        · exact hsc k ty c hkc
        · simp only [Option.map_eq_some_iff] at hkc
          obtain ⟨_, _, h0⟩ := hkc
          cases h0
  · have hw := wanted_goB hxo (p := fun t => d.args.contains t) (fun t ht => by simpa using gslot_args ht) hF hgo
    simp only [hw, Bool.false_eq_true, if_false]
    unfold dSkip at h
    rw [hl, forceO_eq] at h
    have hall : chkH (foes acc d.anc) [] [] = true := by
      refine List.all_eq_true.2 fun x _ => ?_
      cases x.made <;> simp
    exact ⟨_, L, g, σ, fin [] [] undef (.v undef) L g σ w hall (fun _ => rfl) rfl ⟨Nat.le_refl _, fun _ _ _ => rfl⟩ (fun _ _ => rfl) (fun _ _ h => h) I.mem I.goes I.hscL rfl I.onL h⟩

end
end Go.Sx
end

/- A symbolic executor of my own, second design, part 9: the region; the order in which it is walked, by program. Conditions: none; it speaks of any program. -/
section
namespace Go.Sx
variable {fm : Bool}

section
variable {P : Program} {ops : Array Oper} {π : List DOp} {ds : List Nat} {σ0 : Nat → Nat} {L0 : List Chunk} {g0 : G} {w0 : World} {df : List Deferred} {K : KT} {listed : Array Bool}

theorem getD_done {i : Nat} : done listed i = listed.getD i false := rfl

end

/-! ### Several orders: a tree of them -/
inductive DT where
  | nil
  | step (d : DOp) (t : DT)
  | alt (a b : DT)
def DT.paths : DT → List (List DOp)
  | .nil => [[]]
  | .step d t => t.paths.map (d :: ·)
  | .alt a b => a.paths ++ b.paths
def DT.heads : DT → List (DOp × DT)
  | .nil => []
  | .step d t => [(d, t)]
  | .alt a b => a.heads ++ b.heads
def dT (fm : Bool) (P : Program) (ds : List Nat) (t : DT) : List Acc → List SV → List Chunk → G → KT → Prop :=
  DT.rec (motive := fun _ => List Acc → List SV → List Chunk → G → KT → Prop) (fun _ fr L g K => K .normal fr L g) (fun d _ ih acc fr L g K => dStep fm P ds d acc fr L g (fun acc fr L g => ih acc fr L g K) K)
    (fun _ _ iha ihb acc fr L g K => iha acc fr L g K ∧ ihb acc fr L g K) t
theorem dT_step {P : Program} {ds : List Nat} {d : DOp} {t : DT} {acc : List Acc} {fr : List SV} {L : List Chunk} {g : G} {K : KT} : dT fm P ds (.step d t) acc fr L g K = dStep fm P ds d acc fr L g (fun acc fr L g => dT fm P ds t acc fr L g K) K := rfl
theorem DT.paths_ne : ∀ t : DT, ∃ p, p ∈ t.paths
  | .nil => ⟨[], by simp [DT.paths]⟩
  | .step d t => (DT.paths_ne t).elim fun p hp => ⟨d :: p, by simp [DT.paths, hp]⟩
  | .alt a b => (DT.paths_ne a).elim fun p hp => ⟨p, by simp [DT.paths, hp]⟩
theorem dT_head {P : Program} {ds : List Nat} {acc : List Acc} {fr : List SV} {L : List Chunk} {g : G} {K : KT} : ∀ (t : DT) (h : DOp × DT), h ∈ t.heads → dT fm P ds t acc fr L g K → dT fm P ds (.step h.1 h.2) acc fr L g K
  | .nil, h, hh, _ => by simp [DT.heads] at hh
  | .step d t, h, hh, k => by simp [DT.heads] at hh; subst hh; exact k
  | .alt a b, h, hh, k => by
    rw [DT.heads, List.mem_append] at hh
    rcases hh with hh | hh
    · exact dT_head a h hh k.1
    · exact dT_head b h hh k.2
theorem path_head : ∀ (t : DT) (h : DOp × DT) (p : List DOp), h ∈ t.heads → p ∈ h.2.paths → (h.1 :: p) ∈ t.paths
  | .nil, h, p, hh, _ => by simp [DT.heads] at hh
  | .step d t, h, p, hh, hp => by simp [DT.heads] at hh; subst hh; simp [DT.paths, hp]
  | .alt a b, h, p, hh, hp => by
    rw [DT.heads, List.mem_append] at hh
    rw [DT.paths, List.mem_append]
    rcases hh with hh | hh
    · exact .inl (path_head a h p hh hp)
    · exact .inr (path_head b h p hh hp)

/-- Whoever is heavy and may be next is at hand. -/
def availOk (C : List (List Nat)) (all pre : List DOp) (hs : List (DOp × DT)) : Bool :=
  all.all fun u => u.x.x.light || (pre.any (fun v => Nat.beq v.i u.i) || ((C.getD u.i []).any (fun j => all.any fun v => !v.x.x.light && (Nat.beq v.i j && !pre.any fun w => Nat.beq w.i j)) || hs.any fun h => Nat.beq h.1.i u.i))
def covT (C : List (List Nat)) (all : List DOp) : List DOp → Bool → DT → Bool
  | _, _, .nil => true
  | pre, chk, .step d t => (d.x.x.light || (!chk || availOk C all pre [(d, t)])) && covT C all (pre ++ [d]) true t
  | pre, chk, .alt a b => ((a.heads ++ b.heads).all fun h => !h.1.x.x.light) && ((!chk || availOk C all pre (a.heads ++ b.heads)) && (covT C all pre false a && covT C all pre false b))

section
variable {P : Program} {ops : Array Oper} {π : List DOp} {ds : List Nat} {σ0 : Nat → Nat} {L0 : List Chunk} {g0 : G} {w0 : World} {df : List Deferred} {K : KT} {listed : Array Bool}

/-- The path is changed behind the same beginning. -/
theorem DI.turn {V V' : List Acc → List SV → List Chunk → G → Prop} {pre post post' : List DOp} {acc : List Acc} {fr : List SV} {L : List Chunk} {g : G} {σ : Nat → Nat} {a : Act} {w : World} (D : DOk P ops (pre ++ post) ds) (D' : DOk P ops (pre ++ post') ds)
    (I : DI P ops (pre ++ post) ds σ0 L0 g0 w0 df V listed pre post acc fr L g σ a w) (hV : V acc fr L g → V' acc fr L g) : DI P ops (pre ++ post') ds σ0 L0 g0 w0 df V' listed pre post' acc fr L g σ a w := by
  refine { cut := rfl, hpost := fun u hu => ?_, heavy := I.heavy, vc := hV I.vc, accs := I.accs, recs := I.recs, sepM := I.sepM, sepI := I.sepI, clos := I.clos, hfr := I.hfr, mem := I.mem, scF := I.scF, hscL := I.hscL, len0 := I.len0, onF := I.onF, onL := I.onL, goes := I.goes, defers := I.defers }
  obtain ⟨o, ho, -⟩ := D'.get u (List.mem_append_right _ hu)
  obtain ⟨v, hv, hvi⟩ := D.cover u.i (Array.getElem?_eq_some_iff.1 ho).1
  rcases List.mem_append.1 hv with hv | hv
  · exfalso
    have hn := D'.nodup
    rw [List.map_append, List.nodup_append] at hn
    exact hn.2.2 v.i (List.mem_map_of_mem hv) u.i (List.mem_map_of_mem hu) hvi
  · rw [← hvi]; exact I.hpost v hv
theorem path_first : ∀ (t : DT) (p : List DOp), p ∈ t.paths → p = [] ∨ ∃ h ∈ t.heads, ∃ q ∈ h.2.paths, p = h.1 :: q
  | .nil, p, h => by simp [DT.paths] at h; exact .inl h
  | .step d t, p, h => by
    simp only [DT.paths, List.mem_map] at h
    obtain ⟨q, hq, rfl⟩ := h
    exact .inr ⟨(d, t), by simp [DT.heads], q, hq, rfl⟩
  | .alt a b, p, h => by
    rw [DT.paths, List.mem_append] at h
    rcases h with h | h
    · rcases path_first a p h with h | ⟨u, hu, q, hq, e⟩
      · exact .inl h
      · exact .inr ⟨u, by rw [DT.heads]; exact List.mem_append_left _ hu, q, hq, e⟩
    · rcases path_first b p h with h | ⟨u, hu, q, hq, e⟩
      · exact .inl h
      · exact .inr ⟨u, by rw [DT.heads]; exact List.mem_append_right _ hu, q, hq, e⟩
theorem dT_end {acc : List Acc} {fr : List SV} {L : List Chunk} {g : G} : ∀ (t : DT), [] ∈ t.paths → dT fm P ds t acc fr L g K → K .normal fr L g
  | .nil, _, k => k
  | .step d t, h, _ => by simp [DT.paths] at h
  | .alt a b, h, k => by
    rw [DT.paths, List.mem_append] at h
    rcases h with h | h
    · exact dT_end a h k.1
    · exact dT_end b h k.2
theorem covT_head {C : List (List Nat)} {all : List DOp} {pre : List DOp} : ∀ (t : DT) (chk : Bool), covT C all pre chk t = true → ∀ h ∈ t.heads, covT C all (pre ++ [h.1]) true h.2 = true
  | .nil, _, _, h, hh => by simp [DT.heads] at hh
  | .step d t, chk, hc, h, hh => by
    simp [DT.heads] at hh; subst hh
    rw [covT, Bool.and_eq_true] at hc; exact hc.2
  | .alt a b, chk, hc, h, hh => by
    rw [covT, Bool.and_eq_true, Bool.and_eq_true, Bool.and_eq_true] at hc
    rw [DT.heads, List.mem_append] at hh
    rcases hh with hh | hh
    · exact covT_head a false hc.2.2.1 h hh
    · exact covT_head b false hc.2.2.2 h hh
def RipeT (t : DT) : Prop := ∀ h ∈ t.heads, h.1.x.x.light = false
theorem cov_avail {C : List (List Nat)} {all : List DOp} {pre : List DOp} : ∀ (t : DT), covT C all pre true t = true → RipeT t → t = .nil ∨ availOk C all pre t.heads = true
  | .nil, _, _ => .inl rfl
  | .step d t, hc, hr => by
    have hl := hr (d, t) (by simp [DT.heads])
    dsimp only at hl
    rw [covT, Bool.and_eq_true, hl] at hc
    exact .inr (by simpa [DT.heads] using hc.1)
  | .alt a b, hc, _ => by
    rw [covT, Bool.and_eq_true, Bool.and_eq_true] at hc
    exact .inr (by simpa [DT.heads] using hc.2.1)

/-- The state of a region under way. -/
def StT (fm : Bool) (P : Program) (ops : Array Oper) (ds : List Nat) (σ0 : Nat → Nat) (L0 : List Chunk) (g0 : G) (w0 : World) (df : List Deferred) (K : KT) (all : List DOp) (ripe : Bool) (listed : Array Bool) (a : Act) (w : World) : Prop :=
  ∃ pre t post acc fr L g σ, post ∈ t.paths ∧ (∀ p ∈ t.paths, DOk P ops (pre ++ p) ds) ∧ covT (ancL ops.toList []) all pre true t = true ∧
    DI P ops (pre ++ post) ds σ0 L0 g0 w0 df (fun acc fr L g => dT fm P ds t acc fr L g K) listed pre post acc fr L g σ a w ∧ (ripe = true → RipeT t)

theorem absorbT {all : List DOp} {a : Act} {w : World} : ∀ (t : DT) (pre post : List DOp) (acc : List Acc) (fr : List SV) (L : List Chunk) (g : G) (σ : Nat → Nat), post ∈ t.paths → (∀ p ∈ t.paths, DOk P ops (pre ++ p) ds) → covT (ancL ops.toList []) all pre true t = true →
    DI P ops (pre ++ post) ds σ0 L0 g0 w0 df (fun acc fr L g => dT fm P ds t acc fr L g K) listed pre post acc fr L g σ a w → StT fm P ops ds σ0 L0 g0 w0 df K all true listed a w
  | .nil, pre, post, acc, fr, L, g, σ, h1, h2, h3, I => ⟨pre, .nil, post, acc, fr, L, g, σ, h1, h2, h3, I, fun _ h hh => by simp [DT.heads] at hh⟩
  | .alt x y, pre, post, acc, fr, L, g, σ, h1, h2, h3, I => ⟨pre, .alt x y, post, acc, fr, L, g, σ, h1, h2, h3, I, fun _ h hh => by
      rw [covT, Bool.and_eq_true, List.all_eq_true] at h3
      have := h3.1 h (by simpa [DT.heads] using hh)
      simpa using this⟩
  | .step d t, pre, post, acc, fr, L, g, σ, h1, h2, h3, I => by
    cases hl : d.x.x.light with
    | false => exact ⟨pre, .step d t, post, acc, fr, L, g, σ, h1, h2, h3, I, fun _ h hh => by simp [DT.heads] at hh; subst hh; exact hl⟩
    | true =>
      simp only [DT.paths, List.mem_map] at h1
      obtain ⟨q, hq, rfl⟩ := h1
      have e : pre ++ d :: q = (pre ++ [d]) ++ q := by simp
      obtain ⟨acc', fr', L', I'⟩ := absorb (V := fun acc fr L g => dT fm P ds t acc fr L g K) (h2 _ (by simp [DT.paths, hq])) I hl
      rw [e] at I'
      refine absorbT t (pre ++ [d]) q acc' fr' L' g σ hq (fun p hp => ?_) (covT_head _ true h3 (d, t) (by simp [DT.heads])) I'
      have := h2 (d :: p) (by simp [DT.paths, hp])
      simpa using this
theorem stT_step {all : List DOp} (hall : ∀ i, i < ops.size → ∃ u ∈ all, u.i = i ∧ ∃ o, ops[i]? = some o ∧ xoper P ops o = some u.x) {Q : Exit → Act → World → Prop}
    (hQ : ∀ x fr L g σ a w, Inv df fr L g σ a w → x ≠ .junk → x.sc L.length = true → Goes σ0 L0 g0 w0 σ L g w → K (.pan x) fr L g → Q (.panic [{ v := x.re σ, recovered := false }]) a w)
    {a : Act} {w : World} (hsz : listed.size = ops.size) (S : StT fm P ops ds σ0 L0 g0 w0 df K all true listed a w) {i : Nat} {oi : Oper} (hoi : ops[i]? = some oi) (hnd : done listed i = false) (hr : ∀ e ∈ oi.after, Region.binds .any e = true → done listed e.on = true) :
    wpOp P ops Q i (StT fm P ops ds σ0 L0 g0 w0 df K all true (listed.setIfInBounds i true)) a w := by
  obtain ⟨pre, t, post, acc, fr, L, g, σ, hpost, hD, hcov, I, hripe⟩ := S
  have hripe := hripe rfl
  have D := hD post hpost
  have hi : i < ops.size := (Array.getElem?_eq_some_iff.1 hoi).1
  obtain ⟨d, hd, rfl⟩ := D.cover i hi
  have hxd : xoper P ops oi = some d.x := by
    obtain ⟨o, ho, hx⟩ := D.get d hd
    rw [hoi] at ho; cases ho; exact hx
  have inPre : ∀ j, j < ops.size → done listed j = true → ∃ v ∈ pre, v.i = j := fun j hj hdj => by
    obtain ⟨v, hv, hvi⟩ := D.cover j hj
    rcases List.mem_append.1 hv with hv | hv
    · exact ⟨v, hv, hvi⟩
    · have := I.hpost v hv
      rw [hvi, hdj] at this
      cases this
  rcases List.mem_append.1 hd with hd | hd
  · have hl : d.x.x.light = true := by
      cases hl : d.x.x.light with
      | true => rfl
      | false =>
        have := I.heavy d hd hl
        rw [hnd] at this
        cases this
    refine wpOp_mono ?_ (light_step D I hsz hd hl hnd hoi hr)
    rintro a' w' ⟨σ', I'⟩
    exact ⟨pre, t, post, acc, fr, L, g, σ', hpost, hD, hcov, I', fun _ => hripe⟩
  · cases hl : d.x.x.light with
    | true =>
      exfalso
      rcases path_first t post hpost with rfl | ⟨h, hh, q, hq, rfl⟩
      · simp at hd
      have hhl := hripe h hh
      have hin : d ∈ q := by
        rcases List.mem_cons.1 hd with e | hin
        · rw [e, hhl] at hl; cases hl
        · exact hin
      obtain ⟨q1, q2, rfl⟩ := List.append_of_mem hin
      obtain ⟨h', hl', hm'⟩ := lastHeavy_in pre hhl q1
      have h1 := lastAll_at [] (pre ++ h.1 :: q1) d q2 (by have := D.last; simpa using this) hl
      rw [List.nil_append, hl'] at h1
      have h3 := clos_done I.clos _ d.i rfl oi hoi hr h'.i (by simpa using h1)
      rw [I.hpost h' (by rcases List.mem_cons.1 hm' with e | e <;> simp [e])] at h3
      cases h3
    | false =>
      rcases cov_avail t hcov hripe with rfl | hav
      · simp [DT.paths] at hpost; subst hpost; simp at hd
      obtain ⟨u, hu, hui, o', ho', hxu⟩ := hall d.i hi
      have hxe : u.x = d.x := by
        rw [hoi] at ho'; cases ho'
        exact (Option.some.inj (hxd.symm.trans hxu)).symm
      rw [availOk, List.all_eq_true] at hav
      have h1 := hav u hu
      rw [hxe, hl, Bool.false_or, hui] at h1
      rcases (Bool.or_eq_true _ _).mp h1 with h1 | h1
      · exfalso
        simp only [List.any_eq_true] at h1
        obtain ⟨v, hv, hvi⟩ := h1
        have hvi := Nat.eq_of_beq_eq_true hvi
        have hn := D.nodup
        rw [List.map_append, List.nodup_append] at hn
        exact hn.2.2 v.i (List.mem_map_of_mem hv) d.i (List.mem_map_of_mem hd) hvi
      rcases (Bool.or_eq_true _ _).mp h1 with h1 | h1
      · exfalso
        simp only [List.any_eq_true, Bool.and_eq_true, Bool.not_eq_true'] at h1
        obtain ⟨j, hj, v, hv, -, hvj, hno⟩ := h1
        have hdj := clos_done I.clos _ d.i rfl oi hoi hr j hj
        have hjs : j < ops.size := by
          rcases Nat.lt_or_ge j ops.size with h | h
          · exact h
          · unfold done at hdj
            rw [Array.getD_eq_getD_getElem?, Array.getElem?_eq_none (by omega)] at hdj
            cases hdj
        obtain ⟨x, hx, hxi⟩ := inPre j hjs hdj
        rw [List.any_eq_false] at hno
        exact hno x hx (by rw [hxi]; exact Nat.beq_refl j)
      · simp only [List.any_eq_true] at h1
        obtain ⟨h, hh, hhi⟩ := h1
        have hhi := Nat.eq_of_beq_eq_true hhi
        obtain ⟨p, hp⟩ := DT.paths_ne h.2
        have hpp := path_head t h p hh hp
        have I2 := DI.turn (V' := fun acc fr L g => dStep fm P ds h.1 acc fr L g (fun acc fr L g => dT fm P ds h.2 acc fr L g K) K) D (hD _ hpp) I (fun k => dT_head t h hh k)
        have st := heavy_step (V := fun acc fr L g => dT fm P ds h.2 acc fr L g K) (hD _ hpp) I2 hsz (hripe h hh) (by rw [hhi]; exact hoi) hr hQ
        rw [hhi] at st
        refine wpOp_mono ?_ st
        rintro a' w' ⟨fr', L', g', σ', I3⟩
        have e : pre ++ h.1 :: p = (pre ++ [h.1]) ++ p := by simp
        rw [e] at I3
        refine absorbT h.2 (pre ++ [h.1]) p acc fr' L' g' σ' hp (fun q hq => ?_) (covT_head t true hcov h hh) I3
        have := hD _ (path_head t h q hh hq)
        simpa using this
theorem region_soundT {id : Nat} {t : DT} {all : List DOp} {fr : List SV} {L : List Chunk} {g : G} {σ : Nat → Nat} {a : Act} {w : World} {Q : Exit → Act → World → Prop} (hm : P.follows .mixedOrders = true) (hD : ∀ p ∈ t.paths, DOk P ops p ds)
    (hall : ∀ i, i < ops.size → ∃ u ∈ all, u.i = i ∧ ∃ o, ops[i]? = some o ∧ xoper P ops o = some u.x) (hcov : covT (ancL ops.toList []) all [] true t = true)
    (hI : Inv df fr L g σ a w) (hg : Goes σ0 L0 g0 w0 σ L g w) (hvc : dT fm P ds t [] fr L g K)
    (hN : ∀ fr L g σ a w, Inv df fr L g σ a w → Goes σ0 L0 g0 w0 σ L g w → K .normal fr L g → Q .normal a w)
    (hQ : ∀ x fr L g σ a w, Inv df fr L g σ a w → x ≠ .junk → x.sc L.length = true → Goes σ0 L0 g0 w0 σ L g w → K (.pan x) fr L g → Q (.panic [{ v := x.re σ, recovered := false }]) a w) :
    (Code.region id ops true).wp P Q a w := by
  refine wp_region_any hm ?_
  have all0 : ∀ i, done (Array.replicate ops.size false) i = false := fun i => by
    unfold done
    rw [Array.getD_eq_getD_getElem?, Array.getElem?_replicate]
    split <;> rfl
  obtain ⟨p0, hp0⟩ := t.paths_ne
  have D0 := hD p0 hp0
  refine wpAny_inv (Q := Q) (fun listed a w => StT fm P ops ds σ0 L0 g0 w0 df K all true listed a w) ?_ (fun j oj hj e he hb => back_spec D0 j oj hj e he hb) ?_ ops.size (List.range ops.size) _ a _ (by simp) List.nodup_range ?_ (by simp) ?_
  · intro listed a w hsz S i oi hoi hnd hr
    exact stT_step hall hQ hsz S hoi hnd hr
  · rintro listed a w hsz hdone ⟨pre, t, post, acc, fr, L, g, σ, hpost, hD, hcov, I, hripe⟩
    have D := hD post hpost
    have hnil : post = [] := by
      cases post with
      | nil => rfl
      | cons h post =>
        exfalso
        have h1 := I.hpost h (by simp)
        obtain ⟨o, ho, -⟩ := D.get h (by simp)
        rw [getD_done, hdone _ (Array.getElem?_eq_some_iff.1 ho).1] at h1
        cases h1
    subst hnil
    have hd : ∀ u ∈ pre, done listed u.i = true := fun u hu => by
      obtain ⟨o, ho, -⟩ := D.get u (by simpa using hu)
      exact hdone _ (Array.getElem?_eq_some_iff.1 ho).1
    have hF : ∀ t, undF pre listed t = true := fun t => undF_iff.2 fun u hu _ _ => hd u hu
    have hL : ∀ k, undL acc listed k = true := fun k => undL_iff.2 fun x hx _ => by
      obtain ⟨⟨u, hu, hui⟩, _⟩ := I.accs x hx
      rw [← hui]
      exact hd u hu
    have hm' := I.mem
    have hg' := I.goes
    rw [selL_id hL] at hm' hg'
    exact hN fr L g σ a w ⟨I.hfr.of_sel hF, hm', I.scF, I.hscL, I.defers⟩ hg' (dT_end t hpost I.vc)
  · intro i hi
    refine ⟨fun _ => by simpa using hi, fun _ => ?_⟩
    exact all0 i
  · refine absorbT (all := all) t [] p0 [] fr L g σ hp0 (by simpa using hD) hcov ?_
    have hF : ∀ t, undF [] (Array.replicate ops.size false) t = true := fun t => rfl
    have hL : ∀ k, undL [] (Array.replicate ops.size false) k = true := fun k => rfl
    refine
      { cut := rfl, hpost := fun d _ => all0 _, heavy := by simp, vc := hvc, accs := by simp, recs := by simp, sepM := by simp, sepI := by simp, clos := fun i oi _ h => (by rw [all0] at h; cases h), hfr := hI.hfr.to_sel _, mem := ?_, scF := hI.scF, hscL := hI.hscL,
        len0 := hg.len, onF := fun t _ => ?_, onL := fun k c _ hk => ?_, goes := ?_, defers := hI.defers }
    · rw [selL_id hL]; exact hI.mem.drew _
    · exact on_mono (fun _ _ => rfl) _ (offS_on (ms := []) rfl)
    · exact Chunk.on_mono (fun _ _ => rfl) (on_true c)
    · rw [selL_id hL]; exact hg.drew _

/-- One order alone. -/
def DT.ofList : List DOp → DT
  | [] => .nil
  | d :: l => .step d (DT.ofList l)
theorem paths_ofList : ∀ (l : List DOp), (DT.ofList l).paths = [l]
  | [] => rfl
  | d :: l => by rw [DT.ofList, DT.paths, paths_ofList l]; rfl
theorem dT_ofList : ∀ (l : List DOp) (acc : List Acc) (fr : List SV) (L : List Chunk) (g : G), dT fm P ds (DT.ofList l) acc fr L g K = dR fm P ds l acc fr L g K
  | [], _, _, _, _ => rfl
  | d :: l, acc, fr, L, g => by
    rw [DT.ofList, dT_step, dR_cons]
    congr 1
    funext acc fr L g
    exact dT_ofList l acc fr L g
theorem region_sound {id : Nat} {fr : List SV} {L : List Chunk} {g : G} {σ : Nat → Nat} {a : Act} {w : World} {Q : Exit → Act → World → Prop} (hm : P.follows .mixedOrders = true) (D : DOk P ops π ds) (hcov : covT (ancL ops.toList []) π [] true (DT.ofList π) = true)
    (hI : Inv df fr L g σ a w) (hg : Goes σ0 L0 g0 w0 σ L g w) (hvc : dR fm P ds π [] fr L g K)
    (hN : ∀ fr L g σ a w, Inv df fr L g σ a w → Goes σ0 L0 g0 w0 σ L g w → K .normal fr L g → Q .normal a w)
    (hQ : ∀ x fr L g σ a w, Inv df fr L g σ a w → x ≠ .junk → x.sc L.length = true → Goes σ0 L0 g0 w0 σ L g w → K (.pan x) fr L g → Q (.panic [{ v := x.re σ, recovered := false }]) a w) :
    (Code.region id ops true).wp P Q a w := by
  refine region_soundT (t := DT.ofList π) (all := π) hm (fun p hp => ?_) (fun i hi => ?_) hcov hI hg (by rw [dT_ofList]; exact hvc) hN hQ
  · rw [paths_ofList, List.mem_singleton] at hp
    rw [hp]; exact D
  · obtain ⟨d, hd, hdi⟩ := D.cover i hi
    obtain ⟨o, ho, hx⟩ := D.get d hd
    exact ⟨d, hd, hdi, o, by rw [← hdi]; exact ho, hx⟩
end

/-! ### The order -/

def mkD (P : Program) (ops : Array Oper) (ancs : List (List Nat)) (i : Nat) : Option DOp :=
  match ops[i]? with
  | some o => match xoper P ops o with
    | some x => some ⟨i, ancs.getD i [], x⟩
    | none => none
  | none => none

def pickD (placed : List Nat) (b : Bool) : List DOp → Option (DOp × List DOp)
  | [] => none
  | d :: l => match (d.x.x.light == b) && d.anc.all (fun j => placed.contains j) with
    | true => some (d, l)
    | false => match pickD placed b l with
      | some (d', r) => some (d', d :: r)
      | none => none
def topo : Nat → List Nat → List DOp → List DOp
  | 0, _, _ => []
  | n + 1, placed, l => match pickD placed true l with
    | some (d, r) => d :: topo n (d.i :: placed) r
    | none => match pickD placed false l with
      | some (d, r) => d :: topo n (d.i :: placed) r
      | none => []

def dstsD (π : List DOp) : List Nat := π.filterMap (·.x.dst)

def dokB (ops : Array Oper) (π : List DOp) : Bool :=
  Region.noSelect ops && (backOk ops && (ancAll ops [] π && (lastAll (ancL ops.toList []) [] π && (covT (ancL ops.toList []) π [] true (DT.ofList π) && ((List.range ops.size).all (fun i => π.any fun d => Nat.beq d.i i) && (nodupB (π.map (·.i)) && (ordAll π && π.all fun d => !d.x.x.light || (match d.x.dst with | some t => !d.args.contains t | none => true))))))))

def mkDraw (P : Program) (ops : Array Oper) : Option (List DOp) :=
  match (List.range ops.size).mapM (mkD P ops (ancL ops.toList [])) with
  | some l => match dokB ops (topo ops.size [] l) with
    | true => some (topo ops.size [] l)
    | false => none
  | none => none

theorem pickD_mem {placed : List Nat} {b : Bool} : ∀ {l : List DOp} {d : DOp} {r : List DOp}, pickD placed b l = some (d, r) → d ∈ l ∧ ∀ x ∈ r, x ∈ l
  | [], d, r, h => by cases h
  | e :: l, d, r, h => by
    rw [pickD] at h
    split at h
    · cases h; exact ⟨by simp, fun x hx => List.mem_cons_of_mem _ hx⟩
    · split at h
      · rename_i d' r' hp
        cases h
        obtain ⟨h1, h2⟩ := pickD_mem hp
        refine ⟨List.mem_cons_of_mem _ h1, fun x hx => ?_⟩
        rcases List.mem_cons.1 hx with hx | hx
        · rw [hx]; simp
        · exact List.mem_cons_of_mem _ (h2 x hx)
      · cases h
theorem topo_mem : ∀ (n : Nat) (placed : List Nat) (l : List DOp) (d : DOp), d ∈ topo n placed l → d ∈ l
  | 0, _, _, _, h => by simp [topo] at h
  | n + 1, placed, l, d, h => by
    rw [topo] at h
    split at h
    · rename_i e r hp
      obtain ⟨h1, h2⟩ := pickD_mem hp
      rcases List.mem_cons.1 h with h | h
      · rw [h]; exact h1
      · exact h2 _ (topo_mem n _ _ _ h)
    · split at h
      · rename_i e r hp
        obtain ⟨h1, h2⟩ := pickD_mem hp
        rcases List.mem_cons.1 h with h | h
        · rw [h]; exact h1
        · exact h2 _ (topo_mem n _ _ _ h)
      · simp at h

theorem nodupB_spec : ∀ {l : List Nat}, nodupB l = true → l.Nodup
  | [], _ => List.nodup_nil
  | x :: l, h => by
    rw [nodupB, Bool.and_eq_true] at h
    rw [List.nodup_cons]
    exact ⟨by simpa using h.1, nodupB_spec h.2⟩

theorem mapM_mem {α β : Type} {f : α → Option β} : ∀ {l : List α} {xs : List β}, l.mapM f = some xs → ∀ x ∈ xs, ∃ y ∈ l, f y = some x
  | [], xs, h, x, hx => by simp at h; subst h; simp at hx
  | y :: l, xs, h, x, hx => by
    rw [List.mapM_cons] at h
    simp only [bind, Option.bind_eq_some_iff, pure, Option.some.injEq] at h
    obtain ⟨z, hz, zs, hzs, rfl⟩ := h
    rcases List.mem_cons.1 hx with hx | hx
    · subst hx; exact ⟨y, by simp, hz⟩
    · obtain ⟨u, hu, hf⟩ := mapM_mem hzs x hx
      exact ⟨u, List.mem_cons_of_mem _ hu, hf⟩

theorem mkDraw_ok {P : Program} {ops : Array Oper} {π : List DOp} (h : mkDraw P ops = some π) : DOk P ops π (dstsD π) := by
  unfold mkDraw at h
  split at h
  · rename_i l hl
    split at h
    · rename_i hb
      cases h
      simp only [dokB, Bool.and_eq_true, List.all_eq_true, List.mem_range, List.any_eq_true] at hb
      obtain ⟨h1, h2, h3, h3', h3'', h4, h5, h6, h7⟩ := hb
      refine ⟨h1, h2, h3, h3', fun d hd => ?_, fun i hi => ?_, nodupB_spec h5, h6, fun d hd t ht => ?_, fun d hd hl t ht => ?_⟩
      · obtain ⟨i, _, hi⟩ := mapM_mem hl d (topo_mem _ _ _ _ hd)
        unfold mkD at hi
        split at hi
        · rename_i o ho
          split at hi
          · rename_i x hx
            cases hi
            exact ⟨o, ho, hx⟩
          · cases hi
        · cases hi
      · obtain ⟨d, hd, he⟩ := h4 i hi
        exact ⟨d, hd, Nat.eq_of_beq_eq_true he⟩
      · simp only [dstsD, List.mem_filterMap]
        exact ⟨d, hd, ht⟩
      · have := h7 d hd
        rw [hl, ht] at this
        simpa using this
    · cases h
  · cases h

theorem mkDraw_cov {P : Program} {ops : Array Oper} {π : List DOp} (h : mkDraw P ops = some π) : covT (ancL ops.toList []) π [] true (DT.ofList π) = true := by
  unfold mkDraw at h
  split at h
  · split at h
    · rename_i hb
      cases h
      simp only [dokB, Bool.and_eq_true] at hb
      exact hb.2.2.2.2.1
    · cases h
  · cases h

/-! ### Several orders, by program -/
def heavyIn (c : List Nat) (pre : List DOp) : List Nat := (pre.filter fun h => !h.x.x.light && c.contains h.i).flatMap (·.anc)
def lightD (C : List (List Nat)) (pre : List DOp) (d : DOp) : DOp := ⟨d.i, dedup (C.getD d.i [] ++ heavyIn (C.getD d.i []) pre), d.x⟩
def heavyD (C : List (List Nat)) (pre : List DOp) (d : DOp) : DOp := ⟨d.i, dedup (C.getD d.i [] ++ (pre.filter fun h => !h.x.x.light).flatMap fun h => h.i :: h.anc), d.x⟩
def altOf (f : DOp → Option DT) : List DOp → Option DT
  | [] => none
  | [d] => f d
  | d :: l => match f d with
    | some a => match altOf f l with
      | some b => some (.alt a b)
      | none => none
    | none => none
def stepO (d : DOp) : Option DT → Option DT
  | some t => some (.step d t)
  | none => none
def leftD (nodes pre : List DOp) : List DOp := nodes.filter fun d => !pre.any fun u => Nat.beq u.i d.i
def readyD (C : List (List Nat)) (pre left : List DOp) : List DOp := left.filter fun d => (C.getD d.i []).all fun j => pre.any fun u => Nat.beq u.i j
def mkTn (C : List (List Nat)) (nodes : List DOp) : Nat → List DOp → Option DT
  | 0, _ => none
  | n + 1, pre => match leftD nodes pre with
    | [] => some .nil
    | _ :: _ => match (readyD C pre (leftD nodes pre)).find? (·.x.x.light) with
      | some d => stepO (lightD C pre d) (mkTn C nodes n (pre ++ [lightD C pre d]))
      | none => altOf (fun d => stepO (heavyD C pre d) (mkTn C nodes n (pre ++ [heavyD C pre d]))) (readyD C pre (leftD nodes pre))
def dokP (ops : Array Oper) (π : List DOp) : Bool :=
  Region.noSelect ops && (backOk ops && (ancAll ops [] π && (lastAll (ancL ops.toList []) [] π && ((List.range ops.size).all (fun i => π.any fun d => Nat.beq d.i i) && (nodupB (π.map (·.i)) && (ordAll π && π.all fun d => !d.x.x.light || (match d.x.dst with | some t => !d.args.contains t | none => true)))))))
def altsOk (ops : Array Oper) (nodes : List DOp) (t : DT) : Bool :=
  covT (ancL ops.toList []) nodes [] true t && ((List.range ops.size).all (fun i => nodes.any fun d => Nat.beq d.i i) && t.paths.all (dokP ops))
def mkAlts (P : Program) (ops : Array Oper) : Option (List Nat × DT) :=
  match (List.range ops.size).mapM (mkD P ops []) with
  | some l => match mkTn (ancL ops.toList []) l (l.length + 1) [] with
    | some t => match altsOk ops l t with
      | true => some (dstsD l, t)
      | false => none
    | none => none
  | none => none

theorem altOf_mem {f : DOp → Option DT} : ∀ {l : List DOp} {t : DT}, altOf f l = some t → ∀ p ∈ t.paths, ∃ d ∈ l, ∃ s, f d = some s ∧ p ∈ s.paths
  | [], t, h, _, _ => by simp [altOf] at h
  | [d], t, h, p, hp => ⟨d, by simp, t, h, hp⟩
  | d :: e :: l, t, h, p, hp => by
    rw [altOf] at h
    · split at h
      · rename_i a ha
        split at h
        · rename_i b hb
          cases h
          rw [DT.paths, List.mem_append] at hp
          rcases hp with hp | hp
          · exact ⟨d, by simp, a, ha, hp⟩
          · obtain ⟨u, hu, s, hs, hps⟩ := altOf_mem hb p hp
            exact ⟨u, List.mem_cons_of_mem _ hu, s, hs, hps⟩
        · cases h
      · cases h
    · simp
theorem stepO_mem {d : DOp} {o : Option DT} {t : DT} (h : stepO d o = some t) : ∃ s, o = some s ∧ t = .step d s := by
  cases o with
  | none => cases h
  | some s => cases h; exact ⟨s, rfl, rfl⟩
theorem mkTn_mem {C : List (List Nat)} {nodes : List DOp} : ∀ (n : Nat) (pre : List DOp) (t : DT), mkTn C nodes n pre = some t → ∀ p ∈ t.paths, ∀ d ∈ p, ∃ u ∈ nodes, u.i = d.i ∧ u.x = d.x
  | 0, _, _, h, _, _, _, _ => by simp [mkTn] at h
  | n + 1, pre, t, h, p, hp, d, hd => by
    have sub : ∀ u, u ∈ readyD C pre (leftD nodes pre) → u ∈ nodes := fun u hu => (List.mem_filter.1 (List.mem_filter.1 hu).1).1
    have one : ∀ (u u' : DOp) (s : DT), u ∈ nodes → u.i = u'.i → u.x = u'.x → mkTn C nodes n (pre ++ [u']) = some s → p ∈ (DT.step u' s).paths → ∃ v ∈ nodes, v.i = d.i ∧ v.x = d.x := by
      intro u u' s hu h1 h2 hs hp
      simp only [DT.paths, List.mem_map] at hp
      obtain ⟨q, hq, rfl⟩ := hp
      rcases List.mem_cons.1 hd with rfl | hd
      · exact ⟨u, hu, h1, h2⟩
      · exact mkTn_mem n _ s hs q hq d hd
    rw [mkTn] at h
    split at h
    · cases h
      simp only [DT.paths, List.mem_singleton] at hp
      subst hp
      simp at hd
    · split at h
      · rename_i u hu
        obtain ⟨s, hs, rfl⟩ := stepO_mem h
        exact one u (lightD C pre u) s (sub u (List.mem_of_find?_eq_some hu)) rfl rfl hs hp
      · obtain ⟨u, hu, s', hs', hp'⟩ := altOf_mem h p hp
        obtain ⟨s, hs, rfl⟩ := stepO_mem hs'
        exact one u (heavyD C pre u) s (sub u hu) rfl rfl hs hp'
theorem mkAlts_ok {P : Program} {ops : Array Oper} {ds : List Nat} {t : DT} (h : mkAlts P ops = some (ds, t)) : ∃ all, (∀ p ∈ t.paths, DOk P ops p ds) ∧
    (∀ i, i < ops.size → ∃ u ∈ all, u.i = i ∧ ∃ o, ops[i]? = some o ∧ xoper P ops o = some u.x) ∧ covT (ancL ops.toList []) all [] true t = true := by
  unfold mkAlts at h
  split at h
  case h_2 => cases h
  rename_i l hl
  split at h
  case h_2 => cases h
  rename_i t' ht
  split at h
  case h_2 => cases h
  rename_i hb
  cases h
  simp only [altsOk, Bool.and_eq_true, List.all_eq_true] at hb
  obtain ⟨hc, hr, hp⟩ := hb
  have node : ∀ d ∈ l, ∃ o, ops[d.i]? = some o ∧ xoper P ops o = some d.x := fun d hd => by
    obtain ⟨i, _, hi⟩ := mapM_mem hl d hd
    unfold mkD at hi
    split at hi
    · rename_i o ho
      split at hi
      · rename_i x hx
        cases hi
        exact ⟨o, ho, hx⟩
      · cases hi
    · cases hi
  refine ⟨l, fun p hpp => ?_, fun i hi => ?_, hc⟩
  · have hb := hp p hpp
    simp only [dokP, Bool.and_eq_true, List.all_eq_true, List.mem_range, List.any_eq_true] at hb
    obtain ⟨h1, h2, h3, h3', h4, h5, h6, h7⟩ := hb
    refine ⟨h1, h2, h3, h3', fun d hd => ?_, fun i hi => ?_, nodupB_spec h5, h6, fun d hd t ht' => ?_, fun d hd hl' t ht' => ?_⟩
    · obtain ⟨u, hu, hui, hux⟩ := mkTn_mem _ _ _ ht p hpp d hd
      rw [← hui, ← hux]; exact node u hu
    · obtain ⟨d, hd, he⟩ := h4 i hi
      exact ⟨d, hd, Nat.eq_of_beq_eq_true he⟩
    · obtain ⟨u, hu, hui, hux⟩ := mkTn_mem _ _ _ ht p hpp d hd
      simp only [dstsD, List.mem_filterMap]
      exact ⟨u, hu, by rw [hux]; exact ht'⟩
    · have := h7 d hd
      rw [hl', ht'] at this
      simpa using this
  · have := hr i (List.mem_range.2 hi)
    rw [List.any_eq_true] at this
    obtain ⟨u, hu, he⟩ := this
    have he := Nat.eq_of_beq_eq_true he
    obtain ⟨o, ho, hx⟩ := node u hu
    exact ⟨u, hu, he, o, by rw [← he]; exact ho, hx⟩

end Go.Sx
end

/- A symbolic executor of my own, second design, part 10: code: from code to a condition, and what the condition is worth. Conditions: none; it speaks of any program. -/
section
namespace Go.Sx
variable {fm : Bool}

/-! ### Blocks named anew -/

mutual
def SV.ren (f : Nat → Nat) : SV → SV
  | .junk => .junk
  | .v x => .v x
  | .ptr k o => .ptr (f k) o
  | .slc k o a b => .slc (f k) o a b
  | .mp k => .mp (f k)
  | .fn h a b => .fn h (renL f a) (renL f b)
  | .iface t x => .iface t (x.ren f)
  | .agg l => .agg (renL f l)
  | .tup l => .tup (renL f l)
def renL (f : Nat → Nat) : List SV → List SV
  | [] => []
  | x :: l => x.ren f :: renL f l
end
mutual
theorem re_ren (f σ : Nat → Nat) : ∀ x : SV, (x.ren f).re σ = x.re (fun k => σ (f k))
  | .junk => rfl
  | .v _ => rfl
  | .ptr k o => rfl
  | .slc k o a b => rfl
  | .mp k => rfl
  | .fn h a b => by simp only [SV.ren, SV.re, reL_ren f σ a, reL_ren f σ b]
  | .iface t x => by simp only [SV.ren, SV.re, re_ren f σ x]
  | .agg l => by simp only [SV.ren, SV.re, reL_ren f σ l]
  | .tup l => by simp only [SV.ren, SV.re, reL_ren f σ l]
theorem reL_ren (f σ : Nat → Nat) : ∀ l : List SV, reL σ (renL f l) = reL (fun k => σ (f k)) l
  | [] => rfl
  | x :: l => by simp only [renL, reL, re_ren f σ x, reL_ren f σ l]
end
theorem ren_junk {f : Nat → Nat} {x : SV} : x.ren f = .junk ↔ x = .junk := by cases x <;> simp [SV.ren]
def Chunk.ren (f : Nat → Nat) : Chunk → Chunk
  | .cells ty c => .cells ty (renL f c)
  | .vals ty c => .vals ty c
  | .raw o => .raw o
  | .gone => .gone
  | .row ty c fz => .row ty c fz
  | .fam h => .fam h
theorem obj_ren (f σ : Nat → Nat) (c : Chunk) : (c.ren f).obj σ = c.obj (fun k => σ (f k)) := by
  cases c with
  | cells ty l => simp only [Chunk.ren, Chunk.obj, reL_ren]
  | _ => rfl
theorem here_ren (f : Nat → Nat) (c : Chunk) : (c.ren f).here = c.here := by cases c <;> rfl
theorem real_ren (f : Nat → Nat) (c : Chunk) : (c.ren f).real = c.real := by cases c <;> rfl
theorem ren_fam {f : Nat → Nat} {c : Chunk} {H : G} (h : c.ren f = .fam H) : c = .fam H := by cases c <;> first | exact h | cases h

/-- The second state says no more than the first, with some blocks named anew (the first n0 keep their names). -/
structure Weak (n0 : Nat) (ρ : Nat → Nat) (fr : List SV) (L : List Chunk) (g : G) (fr1 : List SV) (L1 : List Chunk) (g1 : G) : Prop where
  fix : ∀ j, j < n0 → ρ j = j
  inj : ∀ i j, i < L1.length → j < L1.length → ρ i = ρ j → i = j
  len : n0 ≤ L1.length
  blocks : ∀ (k : Nat) (c : Chunk), L1[k]? = some c → c.real = true → L[ρ k]? = some (c.ren ρ)
  slots : fr1.length = fr.length ∧ ∀ i, get fr1 i = .junk ∨ get fr i = (get fr1 i).ren ρ
  gs : g1 = g
  scF : scL L1.length fr1 = true
  hscL : scH L1

theorem Weak.live {n0 ρ fr L g fr1 L1 g1} (h : Weak n0 ρ fr L g fr1 L1 g1) {k : Nat} (hk : live L1 k) : live L (ρ k) := by
  obtain ⟨c, hc, hh⟩ := live_get hk
  exact live_of (h.blocks k c hc (here_real hh)) (by rw [here_ren]; exact hh)
theorem Weak.fam {n0 ρ fr L g fr1 L1 g1} (h : Weak n0 ρ fr L g fr1 L1 g1) {k : Nat} {H : G} (hk : L1[k]? = some (.fam H)) : L[ρ k]? = some (.fam H) := h.blocks k _ hk rfl
theorem Weak.ownF {n0 ρ fr L g fr1 L1 g1} (h : Weak n0 ρ fr L g fr1 L1 g1) {b : Nat} (hb : ownF L1 b) : ownF L b := by
  obtain ⟨k, H, hk, hh⟩ := hb
  exact ⟨ρ k, H, h.fam hk, hh⟩

theorem Inv.weak {df n0 ρ fr L g fr1 L1 g1 σ a w} (I : Inv df fr L g σ a w) (h : Weak n0 ρ fr L g fr1 L1 g1) : Inv df fr1 L1 g1 (fun k => σ (ρ k)) a w := by
  refine ⟨⟨h.slots.1.trans I.hfr.1, fun i x hx hj => ?_⟩, ⟨?_, fun k c o hk ho => ?_, fun j k hj hk e => ?_, fun k hk => ?_, ⟨fun k H b o hk hb => I.mem.fm.at_ _ H b o (h.fam hk) hb, fun b hb => ?_, fun b j hb hj => I.mem.fm.sep b _ (h.ownF hb) (h.live hj), fun j k H H' b hj hk h1 h2 => ?_⟩⟩, h.scF, h.hscL, I.defers⟩
  · rcases h.slots.2 i with h1 | h1
    · rw [hx] at h1; exact absurd h1 hj
    · rw [hx] at h1
      rw [I.hfr.2 i _ h1 (fun e => hj (ren_junk.1 e)), re_ren]
  · rw [h.gs]; exact I.mem.im
  · refine I.mem.lo (ρ k) (c.ren ρ) o (h.blocks k c hk (here_real (obj_here ho))) ?_
    rw [obj_ren]; exact ho
  · exact h.inj j k (live_lt hj) (live_lt hk) (I.mem.inj _ _ (h.live hj) (h.live hk) e)
  · rw [h.gs]; exact I.mem.sep _ (h.live hk)
  · rw [h.gs]; exact I.mem.fm.im b (h.ownF hb)
  · exact h.inj j k (List.getElem?_eq_some_iff.1 hj).1 (List.getElem?_eq_some_iff.1 hk).1 (I.mem.fm.dis _ _ H H' b (h.fam hj) (h.fam hk) h1 h2)

theorem Goes.weak {σ0 L0 g0 w0 ρ fr L g fr1 L1 g1 σ} {w : World} (hg : Goes σ0 L0 g0 w0 σ L g w) (h : Weak L0.length ρ fr L g fr1 L1 g1) : Goes σ0 L0 g0 w0 (fun k => σ (ρ k)) L1 g1 w where
  agree k hk := by rw [h.fix k hk]; exact hg.agree k hk
  len := h.len
  dead k hk hl := by have := h.live hl; rw [h.fix k hk] at this; exact hg.dead k hk this
  fresh k hk hl := by
    have hge : L0.length ≤ ρ k := by
      refine Classical.byContradiction fun hn => ?_
      have h1 : ρ (ρ k) = ρ k := h.fix _ (by omega)
      have := h.inj (ρ k) k (by have := h.len; omega) (live_lt hl) h1
      omega
    rcases hg.fresh (ρ k) hge (h.live hl) with h3 | ⟨m, m1, m2, m3, m4⟩
    · exact .inl h3
    · exact .inr ⟨m, m1, m2, fun hm => m3 (by have := h.live hm; rwa [h.fix m m1] at this), m4⟩
  gle := by rw [h.gs]; exact hg.gle
  gnew b h1 h2 := by
    rw [h.gs] at h2
    rcases hg.gnew b h1 h2 with h3 | ⟨m, m1, m2, m3, m4⟩
    · exact .inl h3
    · exact .inr ⟨m, m1, m2, fun hm => m3 (by have := h.live hm; rwa [h.fix m m1] at this), m4⟩
  os := hg.os
  tape := hg.tape
  output := hg.output
  size := hg.size
  keep := hg.keep
  ffresh b hb := by
    rcases hg.ffresh b (h.ownF hb) with h3 | ⟨m, m1, m2, m3, m4⟩ | h3
    · exact .inl h3
    · exact .inr (.inl ⟨m, m1, m2, fun hm => m3 (by have := h.live hm; rwa [h.fix m m1] at this), m4⟩)
    · exact .inr (.inr h3)

/-! ### Code -/

inductive YC where
  | skip
  | ops (l : List XOper)
  | draw (ds : List Nat) (l : List DOp)
  | alts (ds : List Nat) (t : DT)
  | seq (a b : YC)
  | cond (c : Operand) (a b : YC)
  | block (id : Nat) (c : YC)
  | loop (m : List Bool) (c : YC)
  | exit (id : Nat)
  | ret
  | jn (m : List Bool) (c : YC)
  | fz (c : YC)
  | spl (l : List (List XOper))

/-- Code without the places where ways meet. -/
def unj : YC → YC
  | .seq a b => .seq (unj a) (unj b)
  | .cond c a b => .cond c (unj a) (unj b)
  | .block id c => .block id (unj c)
  | .loop m c => .loop m (unj c)
  | .jn _ c => unj c
  | .fz c => unj c
  | .spl l => .ops l.flatten
  | c => c

def vOps (fm : Bool) (P : Program) (l : List XOper) : List SV → List Chunk → G → KT → Prop :=
  List.rec (motive := fun _ => List SV → List Chunk → G → KT → Prop) (fun fr L g K => K .normal fr L g) (fun o _ ih fr L g K => dStep fm P [] ⟨0, [], o⟩ [] fr L g (fun _ fr L g => ih fr L g K) K) l
theorem vOps_cons {P : Program} {o : XOper} {l : List XOper} {fr : List SV} {L : List Chunk} {g : G} {K : KT} : vOps fm P (o :: l) fr L g K = dStep fm P [] ⟨0, [], o⟩ [] fr L g (fun _ fr L g => vOps fm P l fr L g K) K := rfl

/-- The slots that code writes (those that a guard settles among them). -/
def dstsOps : List XOper → List Nat
  | [] => []
  | o :: l => (match o.dst with | some d => [d] | none => []) ++ dstsOps l
def dsts : YC → List Nat
  | .ops l => dstsOps l
  | .draw _ l => dstsOps (l.map (·.x))
  | .alts ds _ => ds
  | .seq a b => dsts a ++ dsts b
  | .cond _ a b => dsts a ++ dsts b
  | .block _ c => dsts c
  | .loop _ c => dsts c
  | .jn _ c => dsts c
  | .fz c => dsts c
  | .spl l => dstsOps l.flatten
  | _ => []
theorem dsts_unj : ∀ c : YC, dsts (unj c) = dsts c
  | .seq a b => by simp only [unj, dsts, dsts_unj a, dsts_unj b]
  | .cond _ a b => by simp only [unj, dsts, dsts_unj a, dsts_unj b]
  | .block _ c => by simp only [unj, dsts, dsts_unj c]
  | .loop _ c => by simp only [unj, dsts, dsts_unj c]
  | .jn _ c => by simp only [unj, dsts, dsts_unj c]
  | .fz c => by simp only [unj, dsts, dsts_unj c]
  | .spl _ => rfl
  | .skip => rfl
  | .ops _ => rfl
  | .draw _ _ => rfl
  | .alts _ _ => rfl
  | .exit _ => rfl
  | .ret => rfl

/-- A loop, by an invariant and a measure. -/
structure LoopW (_P : Program) (n0 : Nat) (_gi : G) (_m : List Bool) (_c : YC) (body : List SV → List Chunk → G → KT → Prop) (fr : List SV) (L : List Chunk) (g : G) (K : KT) : Prop where
  body :
    scL L.length fr = true → scH L → n0 ≤ L.length → ∃ (I : Nat → List SV → List Chunk → G → Prop) (n : Nat) (ρ : Nat → Nat) (fr1 : List SV) (L1 : List Chunk) (g1 : G), Weak n0 ρ fr L g fr1 L1 g1 ∧ I n fr1 L1 g1 ∧
      ∀ n fr L g, I n fr L g → body fr L g fun e fr L g => match e with
        | .normal => ∃ m ρ fr1 L1 g1, m < n ∧ Weak n0 ρ fr L g fr1 L1 g1 ∧ I m fr1 L1 g1
        | .exit j => K (.exit j) fr L g
        | .ret => K .ret fr L g
        | .pan x => K (.pan x) fr L g
theorem LoopW_eq (_P : Program) (n0 : Nat) (_gi : G) (_m : List Bool) (_c : YC) (body : List SV → List Chunk → G → KT → Prop) (fr : List SV) (L : List Chunk) (g : G) (K : KT) : LoopW _P n0 _gi _m _c body fr L g K = (
  scL L.length fr = true → scH L → n0 ≤ L.length → ∃ (I : Nat → List SV → List Chunk → G → Prop) (n : Nat) (ρ : Nat → Nat) (fr1 : List SV) (L1 : List Chunk) (g1 : G), Weak n0 ρ fr L g fr1 L1 g1 ∧ I n fr1 L1 g1 ∧
    ∀ n fr L g, I n fr L g → body fr L g fun e fr L g => match e with
      | .normal => ∃ m ρ fr1 L1 g1, m < n ∧ Weak n0 ρ fr L g fr1 L1 g1 ∧ I m fr1 L1 g1
      | .exit j => K (.exit j) fr L g
      | .ret => K .ret fr L g
      | .pan x => K (.pan x) fr L g) := propext ⟨fun h => h.body, fun h => ⟨h⟩⟩

/-- Where ways meet, a part of what is known may be dropped. -/
structure JoinW (_P : Program) (n0 : Nat) (_gi : G) (_m : List Bool) (_c : YC) (body : List SV → List Chunk → G → KT → Prop) (fr : List SV) (L : List Chunk) (g : G) (K : KT) : Prop where
  body :
    scL L.length fr = true → scH L → n0 ≤ L.length → body fr L g fun e fr L g => match e with
      | .normal => ∃ ρ fr1 L1 g1, Weak n0 ρ fr L g fr1 L1 g1 ∧ K .normal fr1 L1 g1
      | .exit j => K (.exit j) fr L g
      | .ret => K .ret fr L g
      | .pan x => K (.pan x) fr L g
theorem JoinW_eq (_P : Program) (n0 : Nat) (_gi : G) (_m : List Bool) (_c : YC) (body : List SV → List Chunk → G → KT → Prop) (fr : List SV) (L : List Chunk) (g : G) (K : KT) : JoinW _P n0 _gi _m _c body fr L g K = (
  scL L.length fr = true → scH L → n0 ≤ L.length → body fr L g fun e fr L g => match e with
    | .normal => ∃ ρ fr1 L1 g1, Weak n0 ρ fr L g fr1 L1 g1 ∧ K .normal fr1 L1 g1
    | .exit j => K (.exit j) fr L g
    | .ret => K .ret fr L g
    | .pan x => K (.pan x) fr L g) := propext ⟨fun h => h.body, fun h => ⟨h⟩⟩

/-- A place where what is known is told in another way. -/
structure TurnW (n0 : Nat) (gi : G) (body : List SV → List Chunk → G → KT → Prop) (fr : List SV) (L : List Chunk) (g : G) (K : KT) : Prop where
  body : ∀ (df : List Deferred) (σ0 : Nat → Nat) (L0 : List Chunk) (g0 : G) (w0 : World) (σ : Nat → Nat) (a : Act) (w : World), L0.length = n0 → g0 = gi → Inv df fr L g σ a w → Goes σ0 L0 g0 w0 σ L g w →
    ∃ fr1 L1 g1 σ1, Inv df fr1 L1 g1 σ1 a w ∧ Goes σ0 L0 g0 w0 σ1 L1 g1 w ∧ body fr1 L1 g1 K

/-- Behind a part of code. -/
def seqK (F : List SV → List Chunk → G → KT → Prop) (K : KT) : KT := fun e fr L g => match e with
  | .normal => F fr L g K
  | .exit j => K (.exit j) fr L g
  | .ret => K .ret fr L g
  | .pan x => K (.pan x) fr L g
def blockK (id : Nat) (K : KT) : KT := fun e fr L g => match e with
  | .normal => K .normal fr L g
  | .exit j => match Nat.beq j id with
    | true => K .normal fr L g
    | false => K (.exit j) fr L g
  | .ret => K .ret fr L g
  | .pan x => K (.pan x) fr L g
def condW (c : SV) (A B : Prop) : Prop := match c with
  | .v (.bool t) => bsplit t A B
  | _ => False
/-- A region in parts, with a place behind each where what is known may be told in another way. -/
def vSpl (fm : Bool) (P : Program) (n0 : Nat) (gi : G) (l : List (List XOper)) : List SV → List Chunk → G → KT → Prop :=
  List.rec (motive := fun _ => List SV → List Chunk → G → KT → Prop) (fun fr L g K => K .normal fr L g) (fun x _ ih fr L g K => vOps fm P x fr L g (seqK (fun fr L g K => TurnW n0 gi (fun fr L g K => ih fr L g K) fr L g K) K)) l
theorem vSpl_cons {P : Program} {n0 : Nat} {gi : G} {x : List XOper} {l : List (List XOper)} {fr : List SV} {L : List Chunk} {g : G} {K : KT} : vSpl fm P n0 gi (x :: l) fr L g K = vOps fm P x fr L g (seqK (fun fr L g K => TurnW n0 gi (fun fr L g K => vSpl fm P n0 gi l fr L g K) fr L g K) K) := rfl
def vC (fm : Bool) (P : Program) (n0 : Nat) (gi : G) (c : YC) : List SV → List Chunk → G → KT → Prop :=
  YC.rec (motive := fun _ => List SV → List Chunk → G → KT → Prop)
    (fun fr L g K => K .normal fr L g)
    (fun l fr L g K => vOps fm P l fr L g K)
    (fun ds l fr L g K => dR fm P ds l [] fr L g K)
    (fun ds t fr L g K => dT fm P ds t [] fr L g K)
    (fun _ _ iha ihb fr L g K => iha fr L g (seqK ihb K))
    (fun c _ _ iha ihb fr L g K => condW (ev fr c) (iha fr L g K) (ihb fr L g K))
    (fun id _ ih fr L g K => ih fr L g (blockK id K))
    (fun m c ih fr L g K => LoopW P n0 gi m c (fun fr L g K => ih fr L g K) fr L g K)
    (fun id fr L g K => K (.exit id) fr L g)
    (fun fr L g K => K .ret fr L g)
    (fun m c ih fr L g K => JoinW P n0 gi m c (fun fr L g K => ih fr L g K) fr L g K)
    (fun _ ih fr L g K => TurnW n0 gi (fun fr L g K => ih fr L g K) fr L g K)
    (fun l fr L g K => vSpl fm P n0 gi l fr L g K) c
section
variable {P : Program} {n0 : Nat} {gi : G} {fr : List SV} {L : List Chunk} {g : G} {K : KT}
theorem vC_loop {m : List Bool} {c : YC} : vC fm P n0 gi (.loop m c) fr L g K = LoopW P n0 gi m c (fun fr L g K => vC fm P n0 gi c fr L g K) fr L g K := rfl
theorem vC_jn {m : List Bool} {c : YC} : vC fm P n0 gi (.jn m c) fr L g K = JoinW P n0 gi m c (fun fr L g K => vC fm P n0 gi c fr L g K) fr L g K := rfl
theorem vC_fz {c : YC} : vC fm P n0 gi (.fz c) fr L g K = TurnW n0 gi (fun fr L g K => vC fm P n0 gi c fr L g K) fr L g K := rfl
theorem vC_spl {l : List (List XOper)} : vC fm P n0 gi (.spl l) fr L g K = vSpl fm P n0 gi l fr L g K := rfl
theorem vC_cond {c : Operand} {a b : YC} : vC fm P n0 gi (.cond c a b) fr L g K = condW (ev fr c) (vC fm P n0 gi a fr L g K) (vC fm P n0 gi b fr L g K) := rfl
theorem vC_ops {l : List XOper} : vC fm P n0 gi (.ops l) fr L g K = vOps fm P l fr L g K := rfl
end
theorem condW_elim {c : SV} {A B : Prop} (h : condW c A B) : ∃ t, c = .v (.bool t) ∧ bsplit t A B := by
  unfold condW at h
  split at h
  · exact ⟨_, rfl, h⟩
  · exact h.elim

/-- Which slots. -/
def maskOf (D : List Nat) : List Bool := (List.range (D.foldl max 0 + 1)).map D.contains

/-- The resolved code is the code. -/
def ycode (P : Program) : Code → Option YC
  | .skip => some .skip
  | .region _ ops false => match ops.toList.mapM (xoper P ops) with
    | some l => some (.ops l)
    | none => none
  | .region _ ops true => match mkDraw P ops with
    | some l => some (.draw (dstsD l) l)
    | none => match mkAlts P ops with
      | some (ds, t) => some (.alts ds t)
      | none => none
  | .seq a b => match ycode P a with
    | some x => match ycode P b with
      | some y => some (.seq x y)
      | none => none
    | none => none
  | .cond c a b => match ycode P a with
    | some x => match ycode P b with
      | some y => some (.cond c x y)
      | none => none
    | none => none
  | .block id c => match ycode P c with
    | some x => some (.block id x)
    | none => none
  | .loop c => match ycode P c with
    | some x => some (.loop (maskOf (dsts x)) x)
    | none => none
  | .exit id => some (.exit id)
  | .ret => some .ret
  | .refuse _ => some (.ops [⟨none, none, .more .bad []⟩])
  | _ => none

theorem ycode_unj {P : Program} : ∀ (c : Code) (X : YC), ycode P c = some X → unj X = X := by
  intro c
  induction c with
  | seq a b iha ihb =>
    intro X h
    simp only [ycode] at h
    split at h
    · rename_i x hx
      split at h
      · rename_i y hy
        cases h
        simp only [unj, iha x hx, ihb y hy]
      · cases h
    · cases h
  | cond c a b iha ihb =>
    intro X h
    simp only [ycode] at h
    split at h
    · rename_i x hx
      split at h
      · rename_i y hy
        cases h
        simp only [unj, iha x hx, ihb y hy]
      · cases h
    · cases h
  | block id a ih =>
    intro X h
    simp only [ycode] at h
    split at h
    · rename_i x hx
      cases h
      simp only [unj, ih x hx]
    · cases h
  | loop a ih =>
    intro X h
    simp only [ycode] at h
    split at h
    · rename_i x hx
      cases h
      simp only [unj, ih x hx]
    · cases h
  | region id ops draw =>
    intro X h
    cases draw with
    | false => simp only [ycode] at h; split at h <;> cases h; rfl
    | true =>
      simp only [ycode] at h
      split at h
      · cases h; rfl
      · split at h <;> cases h; rfl
  | skip => intro X h; cases h; rfl
  | exit id => intro X h; cases h; rfl
  | ret => intro X h; cases h; rfl
  | refuse y => intro X h; cases h; rfl
  | rangeFunc f ps as b => intro X h; simp [ycode] at h
  | scope b => intro X h; simp [ycode] at h
  | label l => intro X h; simp [ycode] at h
  | goto l => intro X h; simp [ycode] at h

/-- What code may have come to, told of where the call began. -/
def liftY (σ0 : Nat → Nat) (L0 : List Chunk) (g0 : G) (w0 : World) (df : List Deferred) (K : KT) : Exit → Act → World → Prop
  | .normal, a, w => ∃ fr L g σ, Inv df fr L g σ a w ∧ Goes σ0 L0 g0 w0 σ L g w ∧ K .normal fr L g
  | .exit j, a, w => ∃ fr L g σ, Inv df fr L g σ a w ∧ Goes σ0 L0 g0 w0 σ L g w ∧ K (.exit j) fr L g
  | .ret, a, w => ∃ fr L g σ, Inv df fr L g σ a w ∧ Goes σ0 L0 g0 w0 σ L g w ∧ K .ret fr L g
  | .panic chain, a, w => ∃ x fr L g σ, chain = [{ v := x.re σ, recovered := false }] ∧ x ≠ .junk ∧ x.sc L.length = true ∧ Inv df fr L g σ a w ∧ Goes σ0 L0 g0 w0 σ L g w ∧ K (.pan x) fr L g
  | _, _, _ => False

section
variable {P : Program} {ops : Array Oper} {σ0 : Nat → Nat} {L0 : List Chunk} {g0 : G} {w0 : World} {df : List Deferred} {K : KT}

theorem Inv.put {fr L g σ} {a : Act} {w : World} (I : Inv df fr L g σ a w) {dst : Option Tmp} {v : Value} {r : SV} {L' : List Chunk} {g' : G} {σ' : Nat → Nat} {w' : World} (hlen : L.length ≤ L'.length) (hag : ∀ k, k < L.length → σ' k = σ k)
    (hv : r ≠ .junk → v = r.re σ') (hr : r.sc L'.length = true) (hm : Mem g' L' σ' w') (hL : scH L') : Inv df (putO fr dst r) L' g' σ' (a.put dst v) w' := by
  have hf : FR σ' fr a.tmps := I.hfr.on (p := fun k => decide (k < L.length)) (fun k hk => (hag k (by simpa using hk)).symm) fun t => by rw [← on_sc]; exact sc_get I.scF t
  have hs := scL_mono hlen _ I.scF
  cases dst with
  | none => exact ⟨hf, hm, hs, hL, I.defers⟩
  | some d => exact ⟨hf.put d hv, hm, sc_put hs d hr, hL, I.defers⟩

theorem selL_all {p : Nat → Bool} (hp : ∀ k, p k = true) (L : List Chunk) : selL p 0 L = L := selL_id hp
theorem selF_all {p : Nat → Bool} (hp : ∀ k, p k = true) (fr : List SV) : selF p 0 fr = fr := by
  have : ∀ (l : List SV) (i : Nat), selF p i l = l := by
    intro l
    induction l with
    | nil => intro i; rfl
    | cons x l ih => intro i; simp only [selF, hp, ih]
  exact this fr 0

theorem seq_step {o : Oper} {X : XOper} (hx : xoper P ops o = some X) {fr L g σ} {a : Act} {w : World} {Q : Exit → Act → World → Prop} {next : List SV → List Chunk → G → Prop} (I : Inv df fr L g σ a w) (hg : Goes σ0 L0 g0 w0 σ L g w)
    (h : dStep fm P [] ⟨0, [], X⟩ [] fr L g (fun _ fr L g => next fr L g) K)
    (hQ : ∀ x fr L g σ a w, Inv df fr L g σ a w → x ≠ .junk → x.sc L.length = true → Goes σ0 L0 g0 w0 σ L g w → K (.pan x) fr L g → Q (.panic [{ v := x.re σ, recovered := false }]) a w) :
    if Region.wanted o (yielded ops a.tmps) then o.wp P a w (fun a' w' => ∃ fr' L' g' σ', Inv df fr' L' g' σ' a' w' ∧ Goes σ0 L0 g0 w0 σ' L' g' w' ∧ next fr' L' g') Q
    else ∃ fr' L' g' σ', Inv df fr' L' g' σ' (a.put o.dst undef) w ∧ Goes σ0 L0 g0 w0 σ' L' g' w ∧ next fr' L' g' := by
  obtain ⟨hxop, -, hdst⟩ := xoper_spec hx
  have hF := I.hfr.to_sel (fun _ => true)
  rcases dStep_goB h with ⟨hgo, h⟩ | ⟨hgo, h⟩
  · have hw := wanted_goB (d := ⟨0, [], X⟩) hx (p := fun _ => true) (fun _ _ => rfl) hF hgo
    rw [if_pos hw]
    unfold dRun at h
    cases hl : X.x.light with
    | true =>
      simp only [hl, fN_eq, lenK_eq, numK_eq, Nat.zero_add] at h
      obtain ⟨-, h⟩ := ifOk_elim h
      obtain ⟨r, mc, hk, hrun, hj, hsc, hc⟩ := lt_sound (P := P) hxop rfl (ts := fun _ => true) (ks := fun _ => true) (fun _ _ => rfl) (fun _ _ => rfl) I.scF I.hscL h
      rw [selF_all (fun _ => rfl), selL_all (fun _ => rfl)] at hrun
      rw [fR_eq] at hk
      obtain ⟨-, hk⟩ := ifOk_elim hk
      cases mc with
      | none =>
        simp only [forceO_eq] at hk
        unfold Oper.wp
        rw [hrun.2 σ a w I.hfr I.mem.reads]
        refine ⟨putO fr X.dst r, L, g, σ, ?_, hg, hk⟩
        rw [← hdst]
        exact I.put (Nat.le_refl _) (fun _ _ => rfl) (fun _ => rfl) (by simpa using hsc) I.mem I.hscL
      | some c =>
        obtain ⟨hhere, hcs⟩ := hc c rfl
        obtain ⟨-, hk⟩ := ifOk_elim hk
        simp only [forceO_eq, fL_eq] at hk
        obtain ⟨ob, v, hob, hr, hv⟩ := hrun σ a w I.hfr
        unfold Oper.wp
        rw [hr]
        have hL' : scH (L ++ [c]) := by
          intro k ty l hkl
          rcases getElem?_append_one hkl with ⟨_, h2⟩ | ⟨_, rfl⟩
          · exact scL_mono (by simp) _ (I.hscL k ty l h2)
          · exact scL_mono (by simp) _ hcs
        have hoff : ∀ (j : Nat) (c' : Chunk), (L ++ [Chunk.gone])[j]? = some c' → c'.on (fun i => !(i == L.length)) = true := by
          intro j c' hjc
          rcases getElem?_append_one hjc with ⟨_, h2⟩ | ⟨_, rfl⟩
          · refine con_imp (on_true c') (scC_of I.hscL h2) fun k hk _ => ?_
            simp; omega
          · rfl
        have hm := I.mem.place.born (k := L.length) (by simp) hoff c (con_imp (on_true c) hcs fun k hk _ => by simp; omega) ob hob
        have hg' := hg.place.born (k := L.length) hg.len c ob (obj_nfam hob)
        rw [set_last] at hm hg'
        refine ⟨putO fr X.dst r, L ++ [c], g, _, ?_, hg', hk⟩
        rw [← hdst]
        exact I.put (by simp) (fun k hk => if_neg (by omega)) (fun _ => hv _ (if_pos rfl)) (by simpa using hsc) hm hL'
    | false =>
      simp only [hl] at h
      obtain ⟨rd, ids, -, hrun⟩ := hv_sound (P := P) hxop (p := fun _ => true) (L' := L) (σ := σ) (a := a) (w := w) (fun _ _ => rfl) ⟨hF, Less.refl _, I.mem, I.scF, I.hscL⟩ h
      refine Oper.wp_mono2 ?_ ?_ (hrun (fun _ _ => rfl) fun _ _ => rfl)
      · rintro a' w' ⟨v, r, L1, g1, σ', rfl, hv, hrsc, hupd, hm, hsc, hg1, hk⟩
        rw [redo_self hupd] at hm hg1
        simp only [fR_eq, fL_eq] at hk
        obtain ⟨-, hk⟩ := ifOk_elim hk
        simp only [forceO_eq] at hk
        refine ⟨putO fr X.dst r, L1, g1, σ', ?_, hg.trans hg1, hk⟩
        rw [← hdst]
        exact I.put hupd.1 hg1.agree hv hrsc hm hsc
      · rintro e a' w' ⟨x, L1, g1, σ', rfl, hj, rfl, hxsc, hupd, hm, hsc, hg1, hk⟩
        rw [redo_self hupd] at hm hg1
        simp only [foes, List.filter_nil, madeOf, List.filterMap_nil] at hk
        rw [selF_all (fun t => by simp), selL_all (fun t => by simp)] at hk
        exact hQ x _ _ _ _ _ _ (I.put (dst := none) (v := undef) (r := .junk) hupd.1 hg1.agree (fun e => absurd rfl e) rfl hm hsc) hj hxsc (hg.trans hg1) hk
  · have hw := wanted_goB (d := ⟨0, [], X⟩) hx (p := fun _ => true) (fun _ _ => rfl) hF hgo
    rw [if_neg (by rw [hw]; simp)]
    unfold dSkip at h
    rw [forceO_eq] at h
    refine ⟨putO fr X.dst (.v undef), L, g, σ, ?_, hg, h⟩
    rw [← hdst]
    exact I.put (r := .v undef) (Nat.le_refl _) (fun _ _ => rfl) (fun _ => rfl) rfl I.mem I.hscL

theorem vOps_sound {Q : Exit → Act → World → Prop} (hN : ∀ fr L g σ a w, Inv df fr L g σ a w → Goes σ0 L0 g0 w0 σ L g w → K .normal fr L g → Q .normal a w)
    (hQ : ∀ x fr L g σ a w, Inv df fr L g σ a w → x ≠ .junk → x.sc L.length = true → Goes σ0 L0 g0 w0 σ L g w → K (.pan x) fr L g → Q (.panic [{ v := x.re σ, recovered := false }]) a w) :
    ∀ (l : List Oper) (xs : List XOper), l.mapM (xoper P ops) = some xs → ∀ {fr L g σ a w}, Inv df fr L g σ a w → Goes σ0 L0 g0 w0 σ L g w → vOps fm P xs fr L g K → wpList P ops Q l a w := by
  intro l
  induction l with
  | nil =>
    intro xs hx fr L g σ a w I hg h
    simp at hx
    subst hx
    exact hN _ _ _ _ _ _ I hg h
  | cons o l ih =>
    intro xs hx fr L g σ a w I hg h
    rw [List.mapM_cons] at hx
    simp only [bind, Option.bind_eq_some_iff, pure, Option.some.injEq] at hx
    obtain ⟨x, hx1, xs', hx2, rfl⟩ := hx
    have := seq_step (P := P) hx1 (next := fun fr L g => vOps fm P xs' fr L g K) I hg h hQ
    have next : ∀ a' w', (∃ fr' L' g' σ', Inv df fr' L' g' σ' a' w' ∧ Goes σ0 L0 g0 w0 σ' L' g' w' ∧ vOps fm P xs' fr' L' g' K) → wpList P ops Q l a' w' := by
      rintro a' w' ⟨fr', L', g', σ', I', hg', hk⟩
      exact ih xs' hx2 I' hg' hk
    unfold wpList
    split
    · rename_i hw
      rw [if_pos hw] at this
      exact .inl (Oper.wp_mono next this)
    · rename_i hw
      rw [if_neg hw] at this
      exact next _ _ this

theorem liftY_mono {K K' : KT} {e : Exit} {a : Act} {w : World} (hN : ∀ fr L g σ, Inv df fr L g σ a w → Goes σ0 L0 g0 w0 σ L g w → K .normal fr L g → K' .normal fr L g) (h1 : ∀ j fr L g, K (.exit j) fr L g → K' (.exit j) fr L g) (h2 : ∀ fr L g, K .ret fr L g → K' .ret fr L g)
    (h3 : ∀ x fr L g, K (.pan x) fr L g → K' (.pan x) fr L g) (h : liftY σ0 L0 g0 w0 df K e a w) : liftY σ0 L0 g0 w0 df K' e a w := by
  cases e with
  | normal => obtain ⟨fr, L, g, σ, a1, a2, a3⟩ := h; exact ⟨fr, L, g, σ, a1, a2, hN _ _ _ _ a1 a2 a3⟩
  | exit j => obtain ⟨fr, L, g, σ, a1, a2, a3⟩ := h; exact ⟨fr, L, g, σ, a1, a2, h1 _ _ _ _ a3⟩
  | ret => obtain ⟨fr, L, g, σ, a1, a2, a3⟩ := h; exact ⟨fr, L, g, σ, a1, a2, h2 _ _ _ a3⟩
  | panic c => obtain ⟨x, fr, L, g, σ, a0, a1, a2, a3, a4, a5⟩ := h; exact ⟨x, fr, L, g, σ, a0, a1, a2, a3, a4, h3 _ _ _ _ a5⟩
  | _ => exact h

theorem wp_loopN {P : Program} {c : Code} {Q : Exit → Act → World → Prop} (J : Nat → Act → World → Prop)
    (round : ∀ n a w, J n a w → c.wp P (Exit.then (fun a' w' => ∃ m, m < n ∧ J m a' w') Q) a w) (n : Nat) (a : Act) (w : World) (h : J n a w) : (Code.loop c).wp P Q a w := by
  intro b k cs
  have key : ∀ n a w, J n a w → ∃ e a' w', Q e a' w' ∧ Arrives P (lone (b.at a (.code c :: .inLoop c :: k)) cs w) b k cs e a' w' := by
    intro n
    induction n using Nat.strongRecOn with
    | _ n ih =>
      intro a w hJ
      obtain ⟨e, a₁, w₁, hq, harr⟩ := round n a w hJ b (.inLoop c :: k) cs
      cases e with
      | normal =>
        obtain ⟨m, hm, hJ₁⟩ := hq
        obtain ⟨e₂, a₂, w₂, hq₂, harr₂⟩ := ih m hm a₁ w₁ hJ₁
        exact ⟨e₂, a₂, w₂, hq₂, .of_steps (Steps.trans harr (.one step_inLoop)) harr₂⟩
      | _ => exact ⟨_, a₁, w₁, hq, .pass (x := .inLoop c) rfl (fun _ _ => .inl (by simp)) harr⟩
  obtain ⟨e, a', w', hq, harr⟩ := key n a w h
  exact ⟨e, a', w', hq, .of_steps (.one step_loop) harr⟩

/-- What the condition of this code is worth. -/
def Snd (fm : Bool) (P : Program) (σ0 : Nat → Nat) (L0 : List Chunk) (g0 : G) (w0 : World) (df : List Deferred) (c : Code) (X : YC) : Prop :=
  ∀ {fr L g σ a w} {K : KT}, vC fm P L0.length g0 X fr L g K → Inv df fr L g σ a w → Goes σ0 L0 g0 w0 σ L g w → c.wp P (liftY σ0 L0 g0 w0 df K) a w
def isJn : YC → Bool
  | .jn _ _ => true
  | .fz _ => true
  | .spl _ => true
  | _ => false
theorem Snd.jn {c : Code} {X : YC} {m : List Bool} (h : Snd fm P σ0 L0 g0 w0 df c X) : Snd fm P σ0 L0 g0 w0 df c (.jn m X) := by
  intro fr L g σ a w K hv I hg
  rw [vC_jn, JoinW_eq] at hv
  refine Code.wp_mono ?_ (h (hv I.scF I.hscL hg.len) I hg)
  intro e a' w' hl
  cases e with
  | normal =>
    obtain ⟨fr', L', g', σ', I', hg', ρ, fr1, L1, g1, hw, hk⟩ := hl
    exact ⟨fr1, L1, g1, _, I'.weak hw, hg'.weak hw, hk⟩
  | exit j => exact hl
  | ret => exact hl
  | panic ch => exact hl
  | _ => exact hl.elim
theorem Snd.fz {c : Code} {X : YC} (h : Snd fm P σ0 L0 g0 w0 df c X) : Snd fm P σ0 L0 g0 w0 df c (.fz X) := by
  intro fr L g σ a w K hv I hg
  rw [vC_fz] at hv
  obtain ⟨fr1, L1, g1, σ1, I1, hg1, hb⟩ := hv.body df σ0 L0 g0 w0 σ a w rfl rfl I hg
  exact h hb I1 hg1
theorem mapM_split {α β : Type} {f : α → Option β} : ∀ {l : List α} {x y : List β}, l.mapM f = some (x ++ y) → ∃ l1 l2, l = l1 ++ l2 ∧ l1.mapM f = some x ∧ l2.mapM f = some y
  | l, [], y, h => ⟨[], l, rfl, rfl, h⟩
  | [], b :: x, y, h => by simp at h
  | a :: l, b :: x, y, h => by
    rw [List.mapM_cons] at h
    simp only [bind, Option.bind_eq_some_iff, pure, Option.some.injEq, List.cons_append, List.cons.injEq] at h
    obtain ⟨c, hc, m, hm, rfl, rfl⟩ := h
    obtain ⟨l1, l2, rfl, h1, h2⟩ := mapM_split hm
    exact ⟨a :: l1, l2, rfl, by rw [List.mapM_cons, hc, h1]; rfl, h2⟩

theorem vOps_sound_tail {tail : List Oper} {Q : Exit → Act → World → Prop} (hN : ∀ fr L g σ a w, Inv df fr L g σ a w → Goes σ0 L0 g0 w0 σ L g w → K .normal fr L g → wpList P ops Q tail a w)
    (hQ : ∀ x fr L g σ a w, Inv df fr L g σ a w → x ≠ .junk → x.sc L.length = true → Goes σ0 L0 g0 w0 σ L g w → K (.pan x) fr L g → Q (.panic [{ v := x.re σ, recovered := false }]) a w) :
    ∀ (l : List Oper) (xs : List XOper), l.mapM (xoper P ops) = some xs → ∀ {fr L g σ a w}, Inv df fr L g σ a w → Goes σ0 L0 g0 w0 σ L g w → vOps fm P xs fr L g K → wpList P ops Q (l ++ tail) a w := by
  intro l
  induction l with
  | nil =>
    intro xs hx fr L g σ a w I hg h
    simp at hx
    subst hx
    exact hN _ _ _ _ _ _ I hg h
  | cons o l ih =>
    intro xs hx fr L g σ a w I hg h
    rw [List.mapM_cons] at hx
    simp only [bind, Option.bind_eq_some_iff, pure, Option.some.injEq] at hx
    obtain ⟨x, hx1, xs', hx2, rfl⟩ := hx
    have := seq_step (P := P) hx1 (next := fun fr L g => vOps fm P xs' fr L g K) I hg h hQ
    have next : ∀ a' w', (∃ fr' L' g' σ', Inv df fr' L' g' σ' a' w' ∧ Goes σ0 L0 g0 w0 σ' L' g' w' ∧ vOps fm P xs' fr' L' g' K) → wpList P ops Q (l ++ tail) a' w' := by
      rintro a' w' ⟨fr', L', g', σ', I', hg', hk⟩
      exact ih xs' hx2 I' hg' hk
    rw [List.cons_append]
    unfold wpList
    split
    · rename_i hw
      rw [if_pos hw] at this
      exact .inl (Oper.wp_mono next this)
    · rename_i hw
      rw [if_neg hw] at this
      exact next _ _ this
theorem vSpl_sound : ∀ (ls : List (List XOper)) (l : List Oper), l.mapM (xoper P ops) = some ls.flatten → ∀ {fr L g σ a w} {K : KT}, Inv df fr L g σ a w → Goes σ0 L0 g0 w0 σ L g w → vSpl fm P L0.length g0 ls fr L g K → wpList P ops (liftY σ0 L0 g0 w0 df K) l a w := by
  intro ls
  induction ls with
  | nil =>
    intro l hl fr L g σ a w K I hg h
    have : l = [] := by
      cases l with
      | nil => rfl
      | cons o l =>
        rw [List.mapM_cons] at hl
        simp only [bind, Option.bind_eq_some_iff, pure, Option.some.injEq, List.flatten_nil] at hl
        obtain ⟨_, _, _, _, hc⟩ := hl
        cases hc
    subst this
    exact ⟨fr, L, g, σ, I, hg, h⟩
  | cons x ls ih =>
    intro l hl fr L g σ a w K I hg h
    rw [List.flatten_cons] at hl
    obtain ⟨l1, l2, rfl, h1, h2⟩ := mapM_split hl
    rw [vSpl_cons] at h
    refine vOps_sound_tail (tail := l2) (Q := liftY σ0 L0 g0 w0 df K) ?_ ?_ l1 x h1 I hg h
    · intro fr L g σ a w I hg hk
      obtain ⟨fr1, L1, g1, σ1, I1, hg1, hb⟩ := TurnW.body hk df σ0 L0 g0 w0 σ a w rfl rfl I hg
      exact ih l2 h2 I1 hg1 hb
    · intro y fr L g σ a w I hj hs hg hk
      exact ⟨y, fr, L, g, σ, rfl, hj, hs, I, hg, hk⟩
theorem vSpl_bad : ∀ (ls : List (List XOper)), ls.flatten = [⟨none, none, .more .bad []⟩] → ∀ {fr L g σ a w} {K : KT}, Inv df fr L g σ a w → Goes σ0 L0 g0 w0 σ L g w → vSpl fm P L0.length g0 ls fr L g K → False := by
  intro ls
  induction ls with
  | nil => intro h; cases h
  | cons x ls ih =>
    intro h fr L g σ a w K I hg hv
    rw [vSpl_cons] at hv
    cases x with
    | nil =>
      obtain ⟨fr1, L1, g1, σ1, I1, hg1, hb⟩ := TurnW.body hv df σ0 L0 g0 w0 σ a w rfl rfl I hg
      exact ih h I1 hg1 hb
    | cons o x =>
      rw [List.flatten_cons, List.cons_append] at h
      obtain ⟨rfl, -⟩ := List.cons.inj h
      rw [vOps_cons] at hv
      simp only [dStep, dRun, XOp.light, fN_eq, lenK_eq, numK_eq] at hv
      exact False.elim (show False from (ifOk_elim hv).2)
theorem Snd.spl {c : Code} {l : List (List XOper)} (hX : ycode P c = some (unj (.spl l))) : Snd fm P σ0 L0 g0 w0 df c (.spl l) := by
  intro fr L g σ a w K hv I hg
  rw [vC_spl] at hv
  cases c with
  | region id ops draw =>
    cases draw with
    | false =>
      simp only [ycode] at hX
      split at hX
      · rename_i xs hxs
        simp only [unj, Option.some.injEq, YC.ops.injEq] at hX
        subst hX
        exact wp_region_list (vSpl_sound l _ hxs I hg hv)
      · cases hX
    | true =>
      simp only [ycode] at hX
      split at hX
      · simp only [unj, Option.some.injEq, reduceCtorEq] at hX
      · split at hX
        · simp only [unj, Option.some.injEq, reduceCtorEq] at hX
        · cases hX
  | refuse y =>
    simp only [ycode, unj, Option.some.injEq, YC.ops.injEq] at hX
    exact (vSpl_bad l hX.symm I hg hv).elim
  | _ => simp only [ycode, unj, Option.some.injEq, reduceCtorEq] at hX <;> (repeat' split at hX) <;> simp only [Option.some.injEq, reduceCtorEq] at hX
theorem Snd.strip {c : Code} (h : ∀ X, isJn X = false → ycode P c = some (unj X) → Snd fm P σ0 L0 g0 w0 df c X) : ∀ X, ycode P c = some (unj X) → Snd fm P σ0 L0 g0 w0 df c X := by
  intro X
  induction X with
  | jn m Y ih => intro hX; exact Snd.jn (ih hX)
  | fz Y ih => intro hX; exact Snd.fz (ih hX)
  | spl l => intro hX; exact Snd.spl hX
  | _ => exact h _ rfl

/-- **What the condition is worth.** -/
theorem vC_soundJ (hm : P.follows .mixedOrders = true) : ∀ (c : Code) (X : YC), ycode P c = some (unj X) → Snd fm P σ0 L0 g0 w0 df c X := by
  intro c
  induction c with
  | skip =>
    refine Snd.strip ?_
    intro X hn hX fr L g σ a w K h I hg
    cases X <;> simp only [ycode, unj, Option.some.injEq, reduceCtorEq] at hX
    case skip => exact wp_skip ⟨fr, L, g, σ, I, hg, h⟩
    case jn => cases hn
    case fz => cases hn
  | exit id =>
    refine Snd.strip ?_
    intro X hn hX fr L g σ a w K h I hg
    cases X <;> simp only [ycode, unj, Option.some.injEq, reduceCtorEq, YC.exit.injEq] at hX
    case exit j => subst hX; exact wp_exit ⟨fr, L, g, σ, I, hg, h⟩
    case jn => cases hn
    case fz => cases hn
  | ret =>
    refine Snd.strip ?_
    intro X hn hX fr L g σ a w K h I hg
    cases X <;> simp only [ycode, unj, Option.some.injEq, reduceCtorEq] at hX
    case ret => exact wp_ret ⟨fr, L, g, σ, I, hg, h⟩
    case jn => cases hn
    case fz => cases hn
  | region id ops draw =>
    refine Snd.strip ?_
    intro X hn hX fr L g σ a w K h I hg
    cases draw with
    | false =>
      simp only [ycode] at hX
      split at hX
      · rename_i xs hxs
        cases X <;> simp only [unj, Option.some.injEq, reduceCtorEq, YC.ops.injEq] at hX
        case jn => cases hn
        case fz => cases hn
        case spl => cases hn
        subst hX
        exact wp_region_list (vOps_sound (K := K) (fun fr L g σ a w I hg hk => ⟨fr, L, g, σ, I, hg, hk⟩) (fun x fr L g σ a w I hj hs hg hk => ⟨x, fr, L, g, σ, rfl, hj, hs, I, hg, hk⟩) _ xs hxs I hg h)
      · cases hX
    | true =>
      simp only [ycode] at hX
      split at hX
      · rename_i xs hxs
        cases X <;> simp only [unj, Option.some.injEq, reduceCtorEq, YC.draw.injEq] at hX
        case jn => cases hn
        case fz => cases hn
        obtain ⟨rfl, rfl⟩ := hX
        exact region_sound hm (mkDraw_ok hxs) (mkDraw_cov hxs) I hg h (fun fr L g σ a w I hg hk => ⟨fr, L, g, σ, I, hg, hk⟩) (fun x fr L g σ a w I hj hs hg hk => ⟨x, fr, L, g, σ, rfl, hj, hs, I, hg, hk⟩)
      · split at hX
        · rename_i ds t hat
          cases X <;> simp only [unj, Option.some.injEq, reduceCtorEq, YC.alts.injEq] at hX
          case jn => cases hn
          case fz => cases hn
          obtain ⟨rfl, rfl⟩ := hX
          obtain ⟨all, h1, h2, h3⟩ := mkAlts_ok hat
          exact region_soundT hm h1 h2 h3 I hg h (fun fr L g σ a w I hg hk => ⟨fr, L, g, σ, I, hg, hk⟩) (fun x fr L g σ a w I hj hs hg hk => ⟨x, fr, L, g, σ, rfl, hj, hs, I, hg, hk⟩)
        · cases hX
  | seq x y ihx ihy =>
    refine Snd.strip ?_
    intro X hn hX fr L g σ a w K h I hg
    simp only [ycode] at hX
    split at hX
    · rename_i X1 hx
      split at hX
      · rename_i X2 hy
        cases X <;> simp only [unj, Option.some.injEq, reduceCtorEq, YC.seq.injEq] at hX
        case jn => cases hn
        case fz => cases hn
        rename_i Y1 Y2
        obtain ⟨rfl, rfl⟩ := hX
        refine wp_seq (Code.wp_mono ?_ (ihx Y1 hx (show vC fm P L0.length g0 Y1 fr L g _ from h) I hg))
        intro e a' w' hl
        cases e with
        | normal => obtain ⟨fr', L', g', σ', I', hg', hk⟩ := hl; exact ihy Y2 hy hk I' hg'
        | exit j => exact hl
        | ret => exact hl
        | panic ch => exact hl
        | _ => exact hl.elim
      · cases hX
    · cases hX
  | cond c x y ihx ihy =>
    refine Snd.strip ?_
    intro X hn hX fr L g σ a w K h I hg
    simp only [ycode] at hX
    split at hX
    · rename_i X1 hx
      split at hX
      · rename_i X2 hy
        cases X <;> simp only [unj, Option.some.injEq, reduceCtorEq, YC.cond.injEq] at hX
        case jn => cases hn
        case fz => cases hn
        rename_i c' Y1 Y2
        obtain ⟨rfl, rfl, rfl⟩ := hX
        rw [vC_cond] at h
        obtain ⟨t, ht, h⟩ := condW_elim h
        have hc : a.eval c = .bool t := by rw [I.hfr.ev c (by simp [ht]), ht]; rfl
        rcases bsplit_elim h with ⟨rfl, hq⟩ | ⟨rfl, hq⟩
        · exact wp_cond_true hc (ihx Y1 hx hq I hg)
        · exact wp_cond_false hc (ihy Y2 hy hq I hg)
      · cases hX
    · cases hX
  | block id x ih =>
    refine Snd.strip ?_
    intro X hn hX fr L g σ a w K h I hg
    simp only [ycode] at hX
    split at hX
    · rename_i X1 hx
      cases X <;> simp only [unj, Option.some.injEq, reduceCtorEq, YC.block.injEq] at hX
      case jn => cases hn
      case fz => cases hn
      rename_i id' Y1
      obtain ⟨rfl, rfl⟩ := hX
      refine wp_block (Code.wp_mono ?_ (ih Y1 hx (show vC fm P L0.length g0 Y1 fr L g _ from h) I hg))
      intro e a' w' hl
      cases e with
      | exit j =>
        obtain ⟨fr', L', g', σ', I', hg', hk⟩ := hl
        simp only [blockK] at hk
        simp only [Exit.inBlock]
        split at hk
        case h_1 hb => rw [if_pos (Nat.eq_of_beq_eq_true hb)]; exact ⟨fr', L', g', σ', I', hg', hk⟩
        case h_2 hb => rw [if_neg (by intro e; subst e; simp at hb)]; exact ⟨fr', L', g', σ', I', hg', hk⟩
      | normal => exact hl
      | ret => exact hl
      | panic ch => exact hl
      | _ => exact hl.elim
    · cases hX
  | loop x ih =>
    refine Snd.strip ?_
    intro X hn hX fr L g σ a w K h I hg
    simp only [ycode] at hX
    split at hX
    · rename_i X1 hx
      cases X <;> simp only [unj, Option.some.injEq, reduceCtorEq, YC.loop.injEq] at hX
      case jn => cases hn
      case fz => cases hn
      rename_i m' Y1
      obtain ⟨-, rfl⟩ := hX
      rw [vC_loop, LoopW_eq] at h
      obtain ⟨J, n, ρ, fr1, L1, g1, hw, hJ, hround⟩ := h I.scF I.hscL hg.len
      refine wp_loopN (fun n a w => ∃ fr L g σ, Inv df fr L g σ a w ∧ Goes σ0 L0 g0 w0 σ L g w ∧ J n fr L g) ?_ n a w ⟨fr1, L1, g1, _, I.weak hw, hg.weak hw, hJ⟩
      rintro n a w ⟨fr, L, g, σ, I', hg', hJ⟩
      refine Code.wp_mono ?_ (ih Y1 hx (hround n fr L g hJ) I' hg')
      intro e a' w' hl
      cases e with
      | normal =>
        obtain ⟨fr', L', g', σ', I2, hg2, m, ρ, fr1, L1, g1, hmn, hw', hJ'⟩ := hl
        exact ⟨m, hmn, fr1, L1, g1, _, I2.weak hw', hg2.weak hw', hJ'⟩
      | exit j => exact hl
      | ret => exact hl
      | panic ch => exact hl
      | _ => exact hl.elim
    · cases hX
  | rangeFunc f ps as b => intro X hX; simp [ycode] at hX
  | scope b => intro X hX; simp [ycode] at hX
  | label l => intro X hX; simp [ycode] at hX
  | goto l => intro X hX; simp [ycode] at hX
  | refuse y =>
    refine Snd.strip ?_
    intro X hn hX fr L g σ a w K h I hg
    cases X <;> simp only [ycode, unj, Option.some.injEq, reduceCtorEq, YC.ops.injEq] at hX
    case jn => cases hn
    case fz => cases hn
    case spl => cases hn
    subst hX
    rw [vC_ops, vOps_cons] at h
    simp only [dStep, dRun, XOp.light, fN_eq, lenK_eq, numK_eq] at h
    exact False.elim (show False from (ifOk_elim h).2)
theorem vC_sound (hm : P.follows .mixedOrders = true) (c : Code) (X : YC) (hX : ycode P c = some X) {fr L g σ a w} {K : KT} (h : vC fm P L0.length g0 X fr L g K) (I : Inv df fr L g σ a w) (hg : Goes σ0 L0 g0 w0 σ L g w) : c.wp P (liftY σ0 L0 g0 w0 df K) a w :=
  vC_soundJ hm c X (by rw [ycode_unj c X hX]; exact hX) h I hg

end
end Go.Sx
end

/- A symbolic executor of my own, second design, part 11: functions: their conditions, contracts, calls. Conditions: none; it speaks of any program. -/
section
namespace Go.Sx

/-- **A contract**: the call, in any world that meets the symbolic memory, ends as the post allows. -/
def Meets (P : Program) (f : FuncId) (args : List SV) (L : List Chunk) (g : G) (post : Out → List Chunk → G → Prop) : Prop :=
  callable P f = true ∧ ∀ (σ : Nat → Nat) (w : World), Mem g L σ w → scH L → scL L.length args = true →
    Calls P f (reL σ args).toArray w fun e w' => ∃ out L' g' σ', Ends σ' e out ∧ out.sv ≠ .junk ∧ Mem g' L' σ' w' ∧ scH L' ∧ out.sv.sc L'.length = true ∧ Goes σ L g w σ' L' g' w' ∧ post out L' g'

theorem Meets.mono {P : Program} {f : FuncId} {args : List SV} {L : List Chunk} {g : G} {post post' : Out → List Chunk → G → Prop} (h : Meets P f args L g post) (hp : ∀ r L' g', post r L' g' → post' r L' g') : Meets P f args L g post' :=
  ⟨h.1, fun σ w h1 h2 h3 => (h.2 σ w h1 h2 h3).mono fun _ _ ⟨r, L', g', σ', a, b, c, d, e, f, k⟩ => ⟨r, L', g', σ', a, b, c, d, e, f, hp _ _ _ k⟩⟩

/-! ### Results -/

inductive XRes where
  | tmp (t : Nat)
  | cell (a : Nat) (agg : Bool) (n : Nat)

def xres (P : Program) : ResultVar → Option XRes
  | .tmp t => some (.tmp t)
  | .cell a t => match xop0 P (.load t (.tmp a)) with
    | some (.load agg n _) => some (.cell a agg n)
    | _ => none

def resOne (x : XRes) (fr : List SV) (L : List Chunk) (g : G) (K : SV → Prop) : Prop :=
  match x with
  | .tmp t => nj (get fr t) K
  | .cell a agg n => ro false (.load agg n (.tmp a)) (ev fr) L g K

def resAll : List XRes → List SV → List Chunk → G → (List SV → Prop) → Prop
  | [], _, _, _, K => K []
  | x :: l, fr, L, g, K => resOne x fr L g fun v => resAll l fr L g fun vs => K (v :: vs)

def pack : List SV → SV
  | [v] => v
  | vs => .tup vs

def ixOf : List Nat → Nat → Nat
  | [], _ => 0
  | x :: l, k => match Nat.beq x k with
    | true => 0
    | false => ixOf l k + 1
def getN : List Nat → Nat → Nat
  | [], j => j
  | x :: _, 0 => x
  | _ :: l, j + 1 => getN l j
def nthC : List Chunk → Nat → Chunk
  | [], _ => .gone
  | c :: _, 0 => c
  | _ :: l, k + 1 => nthC l k

theorem nthC_get : ∀ (L : List Chunk) (k : Nat) (c : Chunk), nthC L k = c → c.real = true → L[k]? = some c
  | [], k, c, h, hh => by simp only [nthC] at h; subst h; cases hh
  | d :: L, 0, c, h, _ => by simpa [nthC] using h
  | d :: L, k + 1, c, h, hh => by simpa using nthC_get L k c h hh
theorem nthC_some : ∀ (L : List Chunk) (k : Nat) (c : Chunk), L[k]? = some c → nthC L k = c
  | [], k, c, h => by simp at h
  | d :: L, 0, c, h => by simpa [nthC] using h
  | d :: L, k + 1, c, h => nthC_some L k c (by simpa using h)

theorem getN_ix : ∀ (ρ : List Nat) (k : Nat), k ∈ ρ → getN ρ (ixOf ρ k) = k ∧ ixOf ρ k < ρ.length
  | [], k, h => by simp at h
  | x :: ρ, k, h => by
    rw [ixOf]
    cases hb : Nat.beq x k with
    | true => exact ⟨Nat.eq_of_beq_eq_true hb, by simp⟩
    | false =>
      have hk : k ∈ ρ := by
        rcases List.mem_cons.1 h with h | h
        · subst h; simp at hb
        · exact h
      obtain ⟨h1, h2⟩ := getN_ix ρ k hk
      exact ⟨h1, by simpa using h2⟩
theorem getN_get : ∀ (ρ : List Nat) (j : Nat), j < ρ.length → ρ[j]? = some (getN ρ j)
  | [], j, h => by simp at h
  | x :: ρ, 0, _ => rfl
  | x :: ρ, j + 1, h => by rw [List.getElem?_cons_succ]; exact getN_get ρ j (by simpa using h)
theorem getN_inj {ρ : List Nat} (h : ρ.Nodup) {i j : Nat} (hi : i < ρ.length) (hj : j < ρ.length) (e : getN ρ i = getN ρ j) : i = j := by
  have h1 := getN_get ρ i hi
  have h2 := getN_get ρ j hj
  rw [← e] at h2
  exact (List.getElem?_inj hi h).1 (h1.trans h2.symm)
theorem getN_range {n : Nat} {ks : List Nat} {j : Nat} (hj : j < n) : getN (List.range n ++ ks) j = j := by
  have := getN_get (List.range n ++ ks) j (by simp; omega)
  rw [List.getElem?_append_left (by simpa using hj)] at this
  simp [hj] at this
  exact this.symm

mutual
theorem ren_ren {f h : Nat → Nat} {p : Nat → Bool} (e : ∀ k, p k = true → h (f k) = k) : ∀ x : SV, x.on p = true → (x.ren f).ren h = x
  | .junk, _ => rfl
  | .v _, _ => rfl
  | .ptr k o, hx => by simp only [SV.ren, e k (by simpa [SV.on] using hx)]
  | .slc k o a b, hx => by simp only [SV.ren, e k (by simpa [SV.on] using hx)]
  | .mp k, hx => by simp only [SV.ren, e k (by simpa [SV.on] using hx)]
  | .fn q a b, hx => by
    simp only [SV.on, Bool.and_eq_true] at hx
    simp only [SV.ren, renL_ren e a hx.1, renL_ren e b hx.2]
  | .iface t x, hx => by simp only [SV.ren, ren_ren e x (by simpa [SV.on] using hx)]
  | .agg l, hx => by simp only [SV.ren, renL_ren e l (by simpa [SV.on] using hx)]
  | .tup l, hx => by simp only [SV.ren, renL_ren e l (by simpa [SV.on] using hx)]
theorem renL_ren {f h : Nat → Nat} {p : Nat → Bool} (e : ∀ k, p k = true → h (f k) = k) : ∀ l : List SV, onL p l = true → renL h (renL f l) = l
  | [], _ => rfl
  | x :: l, hx => by
    simp only [onL, Bool.and_eq_true] at hx
    simp only [renL, ren_ren e x hx.1, renL_ren e l hx.2]
end
mutual
theorem ren_on {f : Nat → Nat} {p q : Nat → Bool} (e : ∀ k, p k = true → q (f k) = true) : ∀ x : SV, x.on p = true → (x.ren f).on q = true
  | .junk, _ => rfl
  | .v _, _ => rfl
  | .ptr k o, hx => by simp only [SV.ren, SV.on]; exact e k hx
  | .slc k o a b, hx => by simp only [SV.ren, SV.on]; exact e k hx
  | .mp k, hx => by simp only [SV.ren, SV.on]; exact e k hx
  | .fn h a b, hx => by
    simp only [SV.on, Bool.and_eq_true] at hx
    simp only [SV.ren, SV.on, Bool.and_eq_true]
    exact ⟨renL_on e a hx.1, renL_on e b hx.2⟩
  | .iface t x, hx => by simp only [SV.ren, SV.on]; exact ren_on e x hx
  | .agg l, hx => by simp only [SV.ren, SV.on]; exact renL_on e l hx
  | .tup l, hx => by simp only [SV.ren, SV.on]; exact renL_on e l hx
theorem renL_on {f : Nat → Nat} {p q : Nat → Bool} (e : ∀ k, p k = true → q (f k) = true) : ∀ l : List SV, onL p l = true → onL q (renL f l) = true
  | [], _ => rfl
  | x :: l, hx => by
    simp only [onL, Bool.and_eq_true] at hx
    simp only [renL, onL, Bool.and_eq_true]
    exact ⟨ren_on e x hx.1, renL_on e l hx.2⟩
end

def pickC (ρ : List Nat) (L : List Chunk) : List Nat → List Chunk
  | [] => []
  | k :: l => (nthC L k).ren (ixOf ρ) :: pickC ρ L l
theorem pickC_length (ρ : List Nat) (L : List Chunk) : ∀ l, (pickC ρ L l).length = l.length
  | [] => rfl
  | k :: l => by simp [pickC, pickC_length ρ L l]
theorem pickC_get (ρ : List Nat) (L : List Chunk) : ∀ (l : List Nat) (j : Nat), (pickC ρ L l)[j]? = (l[j]?).map fun k => (nthC L k).ren (ixOf ρ)
  | [], j => by simp [pickC]
  | k :: l, 0 => by simp [pickC]
  | k :: l, j + 1 => by simpa [pickC] using pickC_get ρ L l j
def allOn (ρ : List Nat) (L : List Chunk) (l : List Nat) : Bool := l.all fun k => (nthC L k).on fun j => ρ.contains j

/-- What is asked where a function ends: these blocks are kept. -/
def retP (ρ : List Nat) (o : SV → Out) (r : SV) (L : List Chunk) (g : G) (post : Out → List Chunk → G → Prop) : Prop :=
  ifOk (nodupB ρ && ((r.on fun j => ρ.contains j) && allOn ρ L ρ)) (fR (r.ren (ixOf ρ)) fun r => fL (pickC ρ L ρ) fun L1 => post (o r) L1 g)
def retQ (n0 : Nat) (kp : Option (List Nat)) (o : SV → Out) (r : SV) (L : List Chunk) (g : G) (post : Out → List Chunk → G → Prop) : Prop :=
  match kp with
  | some ks => retP (List.range n0 ++ ks) o r L g post
  | none => ∃ ks, retP (List.range n0 ++ ks) o r L g post
def retK (n0 : Nat) (kp : Option (List Nat)) (rs : List XRes) (post : Out → List Chunk → G → Prop) : KT := fun e fr L g =>
  match e with
  | .normal => resAll rs fr L g fun vs => fR (pack vs) fun r => retQ n0 kp .ret r L g post
  | .ret => resAll rs fr L g fun vs => fR (pack vs) fun r => retQ n0 kp .ret r L g post
  | .pan x => retQ n0 kp .pan x L g post
  | _ => False

/-- A function with its code looked up. -/
structure YF where
  ntmps : Nat
  results : List XRes
  code : YC

def unjF (X : YF) : YF := ⟨X.ntmps, X.results, unj X.code⟩

def yfunc (P : Program) (fn : Func) : Option YF :=
  match fn.body with
  | some c => match ycode P c with
    | some x => match fn.results.toList.mapM (xres P) with
      | some rs => some ⟨fn.ntmps, rs, x⟩
      | none => none
    | none => none
  | none => none

/-- The condition of a function. -/
def vF (fm : Bool) (P : Program) (X : YF) (args : List SV) (L : List Chunk) (g : G) (kp : Option (List Nat)) (post : Out → List Chunk → G → Prop) : Prop :=
  force (args ++ List.replicate (X.ntmps - args.length) (.v undef)) fun fr => vC fm P L.length g X.code fr L g (retK L.length kp X.results post)

def resRead (tmps : Array Value) (rv : ResultVar) : Sem Value :=
  match rv with
  | .tmp t => Pure.pure (tmps.getD t undef)
  | .cell b t => do loadVar t (← asAddr (tmps.getD b undef))

theorem results_eq (fn : Func) (tmps : Array Value) : results fn tmps = (do
    let vs ← fn.results.mapM (resRead tmps)
    Pure.pure (if h : vs.size = 1 then vs[0] else .tuple vs)) := rfl

theorem resOne_sound {P : Program} {df : List Deferred} {rv : ResultVar} {x : XRes} (hx : xres P rv = some x) {fr : List SV} {L : List Chunk} {g : G} {σ : Nat → Nat} {a : Act} {w : World} (I : Inv df fr L g σ a w) {K : SV → Prop} (h : resOne x fr L g K) :
    ∃ r, r ≠ .junk ∧ r.sc L.length = true ∧ K r ∧ (resRead a.tmps rv).run P w = .ok (r.re σ) w := by
  cases rv with
  | tmp t =>
    simp only [xres, Option.some.injEq] at hx
    subst hx
    obtain ⟨hj, hk⟩ := nj_elim h
    exact ⟨_, hj, sc_get I.scF t, hk, by simp only [resRead]; rw [I.hfr.2 t _ rfl hj]; rfl⟩
  | cell b t =>
    simp only [xres] at hx
    cases hl : xop0 P (.load t (.tmp b)) with
    | none => simp [hl] at hx
    | some X =>
      rw [hl] at hx
      obtain ⟨agg, n, rfl, rfl⟩ : ∃ agg n, X = .load agg n (.tmp b) ∧ x = .cell b agg n := by
        simp only [xop0] at hl
        cases hi : P.info? t with
        | none => simp [hi] at hl
        | some i =>
          rw [hi] at hl
          simp only at hl
          split at hl
          · simp only [Option.some.injEq] at hl; subst hl; exact ⟨_, _, rfl, by simpa using hx.symm⟩
          · split at hl
            · simp only [Option.some.injEq] at hl; subst hl; exact ⟨_, _, rfl, by simpa using hx.symm⟩
            · cases hl
      obtain ⟨r, hj, ⟨hk, hs⟩, hy⟩ := ro_sound0 (P := P) (o := ⟨none, .load t (.tmp b), 0, "", #[], none⟩) hl (ro_sc I.scF I.hscL h)
      refine ⟨r, hj, hs, hk, ?_⟩
      have := hy σ a w I.hfr I.mem.reads
      simp only [execOp, Act.eval, Instr.loadAt, Sem.run_bind] at this
      simp only [resRead, Sem.run_bind]
      generalize a.tmps.getD b undef = v at *
      cases v with
      | pointer p =>
        cases p with
        | none => simp [Instr.sureAddr] at this
        | some ad =>
          simp only [Instr.sureAddr, Sem.run_pure, Result.andThen_ok] at this
          simp only [asAddr, Sem.run_pure, Result.andThen_ok]
          cases hlv : (loadVar t ad).run P w with
          | ok u w' =>
            rw [hlv] at this
            simp only [Result.andThen_ok, Result.ok.injEq, Next.value.injEq] at this
            rw [this.1, this.2]
          | halt e w' => rw [hlv] at this; simp at this
      | _ => simp [Instr.sureAddr] at this

theorem resAll_sound {P : Program} {df : List Deferred} {fr : List SV} {L : List Chunk} {g : G} {σ : Nat → Nat} {a : Act} {w : World} (I : Inv df fr L g σ a w) : ∀ (rvs : List ResultVar) (xs : List XRes), rvs.mapM (xres P) = some xs → ∀ {K : List SV → Prop}, resAll xs fr L g K →
    ∃ vs : List SV, (∀ v ∈ vs, v ≠ .junk) ∧ scL L.length vs = true ∧ K vs ∧ vs.length = rvs.length ∧
      (rvs.mapM (resRead a.tmps)).run P w = Result.ok (reL σ vs) w := by
  intro rvs
  induction rvs with
  | nil => intro xs hx K h; simp at hx; subst hx; exact ⟨[], by simp, rfl, h, rfl, by simp [reL]⟩
  | cons rv rvs ih =>
    intro xs hx K h
    rw [List.mapM_cons] at hx
    simp only [bind, Option.bind_eq_some_iff, pure, Option.some.injEq] at hx
    obtain ⟨x, hx1, xs', hx2, rfl⟩ := hx
    obtain ⟨r, hj, hs, hk, hr⟩ := resOne_sound hx1 I (show resOne x fr L g _ from h)
    obtain ⟨vs, hj', hs', hk', hl', hr'⟩ := ih xs' hx2 hk
    refine ⟨r :: vs, by simpa using ⟨hj, hj'⟩, by simp [scL, hs, hs'], hk', by simp [hl'], ?_⟩
    rw [List.mapM_cons, Sem.run_bind, hr, Result.andThen_ok, Sem.run_bind, hr', Result.andThen_ok]
    rfl

theorem retP_sound {ρ : List Nat} {n0 : Nat} {ks : List Nat} (hρ : ρ = List.range n0 ++ ks) {o : SV → Out} {df : List Deferred} {fr : List SV} {L : List Chunk} {g : G} {σ : Nat → Nat} {a : Act} {w : World} {post : Out → List Chunk → G → Prop}
    {L0 : List Chunk} {σ0 : Nat → Nat} {g0 : G} {w0 : World} (hn : L0.length = n0) (I : Inv df fr L g σ a w) (hg : Goes σ0 L0 g0 w0 σ L g w) {r : SV} (hj : r ≠ .junk) (h : retP ρ o r L g post) :
    ∃ r' L' σ', r'.re σ' = r.re σ ∧ r' ≠ .junk ∧ Mem g L' σ' w ∧ scH L' ∧ r'.sc L'.length = true ∧ Goes σ0 L0 g0 w0 σ' L' g w ∧ post (o r') L' g := by
  unfold retP at h
  obtain ⟨hb, h⟩ := ifOk_elim h
  rw [fR_eq, fL_eq] at h
  simp only [Bool.and_eq_true] at hb
  obtain ⟨h1, h2, h3⟩ := hb
  have hnd := nodupB_spec h1
  have hlen : (pickC ρ L ρ).length = ρ.length := pickC_length _ _ _
  have key : ∀ k, ρ.contains k = true → getN ρ (ixOf ρ k) = k := fun k hk => (getN_ix ρ k (by simpa using hk)).1
  have key2 : ∀ k, ρ.contains k = true → decide (ixOf ρ k < ρ.length) = true := fun k hk => by simpa using (getN_ix ρ k (by simpa using hk)).2
  have hW : Weak L0.length (getN ρ) fr L g (List.replicate fr.length .junk) (pickC ρ L ρ) g := by
    refine ⟨fun j hj => by rw [hρ]; exact getN_range (by omega), fun i j hi hj e => getN_inj hnd (by omega) (by omega) e, by rw [hlen, hρ]; simp; omega, fun k c hk hh => ?_, ⟨by simp, fun i => .inl ?_⟩, rfl, ?_, ?_⟩
    · rw [pickC_get] at hk
      simp only [Option.map_eq_some_iff] at hk
      obtain ⟨j, hj, rfl⟩ := hk
      have hkl : k < ρ.length := (List.getElem?_eq_some_iff.1 hj).1
      rw [getN_get ρ k hkl] at hj
      cases hj
      have hin : getN ρ k ∈ ρ := List.mem_of_getElem? (getN_get ρ k hkl)
      have hon := List.all_eq_true.1 h3 _ hin
      have hback : ((nthC L (getN ρ k)).ren (ixOf ρ)).ren (getN ρ) = nthC L (getN ρ k) := by
        cases hc : nthC L (getN ρ k) with
        | cells ty l => rw [hc] at hon; simp only [Chunk.ren, renL_ren key l hon]
        | _ => rfl
      rw [hback]
      rw [real_ren] at hh
      exact nthC_get L _ _ rfl hh
    · have : ∀ (n i : Nat), get (List.replicate n SV.junk) i = .junk := by
        intro n
        induction n with
        | zero => intro i; rfl
        | succ n ih => intro i; cases i with | zero => rfl | succ i => exact ih i
      exact this _ _
    · exact scL_mem.2 fun x hx => by rw [List.eq_of_mem_replicate hx]; rfl
    · intro k ty c hk
      rw [pickC_get] at hk
      simp only [Option.map_eq_some_iff] at hk
      obtain ⟨j, hj, hc⟩ := hk
      have hon := List.all_eq_true.1 h3 j (List.mem_of_getElem? hj)
      cases hcj : nthC L j with
      | cells ty' l =>
        rw [hcj] at hon hc
        simp only [Chunk.ren, Chunk.cells.injEq] at hc
        rw [← hc.2, hlen, onL_sc]
        exact renL_on key2 l hon
      | _ => rw [hcj] at hc; cases hc
  refine ⟨r.ren (ixOf ρ), pickC ρ L ρ, fun k => σ (getN ρ k), ?_, fun e => hj (ren_junk.1 e), (I.weak hW).mem, (I.weak hW).hscL, ?_, hg.weak hW, h⟩
  · rw [← re_ren, ren_ren key r h2]
  · rw [hlen, on_sc]; exact ren_on key2 r h2

theorem yfunc_unj {P : Program} {fn : Func} {X : YF} (h : yfunc P fn = some X) : unjF X = X := by
  unfold yfunc at h
  split at h
  · rename_i c hc
    split at h
    · rename_i x hx
      split at h
      · cases h
        simp only [unjF, ycode_unj c x hx]
      · cases h
    · cases h
  · cases h

/-- **From a function's condition to its contract.** -/
theorem meets_ofG (fm : Bool) {P : Program} {f : FuncId} {fn : Func} {X : YF} {args : List SV} {L : List Chunk} {g : G} {post : Out → List Chunk → G → Prop} (hm : P.follows .mixedOrders = true) (hf : P.funcs[f]? = some fn) (hcl : callable P f = true)
    (hX : yfunc P fn = some (unjF X)) (kp : Option (List Nat)) (h : vF fm P X args L g kp post) : Meets P f args L g post := by
  refine ⟨hcl, fun σ w hH hL hsc => ?_⟩
  simp only [yfunc] at hX
  cases hb : fn.body with
  | none => simp [hb] at hX
  | some c =>
    rw [hb] at hX
    simp only at hX
    cases hx : ycode P c with
    | none => simp [hx] at hX
    | some x =>
      rw [hx] at hX
      simp only at hX
      cases hr : fn.results.toList.mapM (xres P) with
      | none => simp [hr] at hX
      | some rs =>
        rw [hr] at hX
        simp only [Option.some.injEq] at hX
        obtain ⟨nt, rs', xc⟩ := X
        simp only [unjF, YF.mk.injEq] at hX
        obtain ⟨rfl, rfl, rfl⟩ := hX
        refine calls_of_wp hf hb ?_
        simp only [vF, force_eq] at h
        have hlen : (reL σ args).toArray.size = args.length := by simp [reL_length]
        have I : Inv [] (args ++ List.replicate (fn.ntmps - args.length) (.v undef)) L g σ { tmps := (reL σ args).toArray ++ Array.replicate (fn.ntmps - (reL σ args).toArray.size) undef, defers := [] } w := by
          refine ⟨⟨by simp [reL_length], fun i y hy hj => ?_⟩, hH, ?_, hL, rfl⟩
          · have key : ∀ (l : List SV) (i : Nat) (y : SV), get l i = y → y ≠ .junk → (reL σ l)[i]? = some (y.re σ) := by
              intro l i y hy hj
              subst hy
              rw [reL_map, List.getElem?_map, get_some hj]
              rfl
            have := key _ i y hy hj
            rw [reL_append] at this
            have e : reL σ (List.replicate (fn.ntmps - args.length) (.v undef)) = List.replicate (fn.ntmps - args.length) undef := by
              simp [reL_map, SV.re]
            rw [e] at this
            rw [hlen, Array.getD_eq_getD_getElem?]
            have e2 : ((reL σ args).toArray ++ Array.replicate (fn.ntmps - args.length) undef)[i]? = (reL σ args ++ List.replicate (fn.ntmps - args.length) undef)[i]? := by
              rw [← List.getElem?_toArray]
              congr 1
              apply Array.ext'
              simp
            rw [e2, this]
            rfl
          · rw [scL_append]
            exact ⟨hsc, scL_mem.2 fun x hx => by rw [List.eq_of_mem_replicate hx]; rfl⟩
        refine Code.wp_mono ?_ (vC_soundJ hm c xc hx h I (Goes.refl σ L g w))
        have fin : ∀ (fr : List SV) (L1 : List Chunk) (g1 : G) (σ' : Nat → Nat) (a' : Act) (w' : World), Inv [] fr L1 g1 σ' a' w' → Goes σ L g w σ' L1 g1 w' → (resAll rs fr L1 g1 fun vs => fR (pack vs) fun r => retQ L.length kp .ret r L1 g1 post) →
            a'.defers = [] ∧ ∃ v, (results fn a'.tmps).run P w' = .ok v w' ∧ ∃ out L' g' σ', Ends σ' (Ending.returned v) out ∧ out.sv ≠ .junk ∧ Mem g' L' σ' w' ∧ scH L' ∧ out.sv.sc L'.length = true ∧ Goes σ L g w σ' L' g' w' ∧ post out L' g' := by
          intro fr L1 g1 σ' a' w' I' hg' hk
          obtain ⟨vs, hj, hs, hok, hl, hrun⟩ := resAll_sound I' _ rs hr hk
          rw [fR_eq] at hok
          have hok' : ∃ ks, retP (List.range L.length ++ ks) .ret (pack vs) L1 g1 post := by
            cases kp with
            | some ks => exact ⟨ks, hok⟩
            | none => exact hok
          obtain ⟨ks, hok'⟩ := hok'
          have hpj : pack vs ≠ .junk := by
            match vs, hj with
            | [], _ => simp [pack]
            | [v], hj => exact hj v (by simp)
            | u :: v :: vs, _ => simp [pack]
          obtain ⟨r', L', σ2, e1, e2, e3, e4, e5, e6, e7⟩ := retP_sound rfl rfl I' hg' hpj hok'
          refine ⟨I'.defers, (pack vs).re σ', ?_, .ret r', L', g1, σ2, ?_, e2, e3, e4, e5, e6, e7⟩
          · have e : (results fn a'.tmps).run P w' = .ok (if h : (reL σ' vs).toArray.size = 1 then (reL σ' vs).toArray[0] else .tuple (reL σ' vs).toArray) w' := by
              rw [results_eq, Sem.run_bind, Array.mapM_eq_mapM_toList, Sem.run_map, hrun]
              simp
            rw [e]
            congr 1
            match vs with
            | [] => simp [pack, SV.re, reL]
            | [v] => simp [pack, reL]
            | u :: v :: vs => simp [pack, SV.re, reL]
          · show Ending.returned _ = Ending.returned _
            rw [e1]
        intro e a' w' hl
        cases e with
        | normal => obtain ⟨fr, L1, g1, σ', I', hg', hk⟩ := hl; obtain ⟨h1, v, h2, h3⟩ := fin fr L1 g1 σ' a' w' I' hg' hk; exact ⟨h1, v, h2, h3⟩
        | ret => obtain ⟨fr, L1, g1, σ', I', hg', hk⟩ := hl; obtain ⟨h1, v, h2, h3⟩ := fin fr L1 g1 σ' a' w' I' hg' hk; exact ⟨h1, v, h2, h3⟩
        | exit j => obtain ⟨fr, L1, g1, σ', I', hg', hk⟩ := hl; exact hk.elim
        | panic ch =>
          obtain ⟨x, fr, L1, g1, σ', rfl, hj, hs, I', hg', hk⟩ := hl
          have hk' : ∃ ks, retP (List.range L.length ++ ks) .pan x L1 g1 post := by
            cases kp with
            | some ks => exact ⟨ks, hk⟩
            | none => exact hk
          obtain ⟨ks, hk'⟩ := hk'
          obtain ⟨r', L', σ2, e1, e2, e3, e4, e5, e6, e7⟩ := retP_sound rfl rfl I' hg' hj hk'
          refine ⟨I'.defers, .pan r', L', g1, σ2, ?_, e2, e3, e4, e5, e6, e7⟩
          show Ending.panicked _ = Ending.panicked _
          rw [e1]
        | _ => exact hl.elim

theorem meets_ofJ {P : Program} {f : FuncId} {fn : Func} {X : YF} {args : List SV} {L : List Chunk} {g : G} {post : Out → List Chunk → G → Prop} (hm : P.follows .mixedOrders = true) (hf : P.funcs[f]? = some fn) (hcl : callable P f = true)
    (hX : yfunc P fn = some (unjF X)) (kp : Option (List Nat)) (h : vF false P X args L g kp post) : Meets P f args L g post :=
  meets_ofG false hm hf hcl hX kp h
theorem meets_of {P : Program} {f : FuncId} {fn : Func} {X : YF} {args : List SV} {L : List Chunk} {g : G} {post : Out → List Chunk → G → Prop} (hm : P.follows .mixedOrders = true) (hf : P.funcs[f]? = some fn) (hcl : callable P f = true)
    (hX : yfunc P fn = some X) (kp : Option (List Nat)) (h : vF false P X args L g kp post) : Meets P f args L g post :=
  meets_ofJ hm hf hcl (by rw [yfunc_unj hX]; exact hX) kp h
/-- The same where families are looked at. -/
theorem meets_ofFJ {P : Program} {f : FuncId} {fn : Func} {X : YF} {args : List SV} {L : List Chunk} {g : G} {post : Out → List Chunk → G → Prop} (hm : P.follows .mixedOrders = true) (hf : P.funcs[f]? = some fn) (hcl : callable P f = true)
    (hX : yfunc P fn = some (unjF X)) (kp : Option (List Nat)) (h : vF true P X args L g kp post) : Meets P f args L g post :=
  meets_ofG true hm hf hcl hX kp h
theorem meets_ofF {P : Program} {f : FuncId} {fn : Func} {X : YF} {args : List SV} {L : List Chunk} {g : G} {post : Out → List Chunk → G → Prop} (hm : P.follows .mixedOrders = true) (hf : P.funcs[f]? = some fn) (hcl : callable P f = true)
    (hX : yfunc P fn = some X) (kp : Option (List Nat)) (h : vF true P X args L g kp post) : Meets P f args L g post :=
  meets_ofFJ hm hf hcl (by rw [yfunc_unj hX]; exact hX) kp h
end Go.Sx
end

/- A symbolic executor of my own, second design, part 12: calls by contract. Conditions: none; it speaks of any program. -/
section
namespace Go.Sx

/-- Where a callee's blocks lie: the first ones are these, new ones follow behind n. -/
def toBig (n : Nat) : List Nat → Nat → Nat
  | [], j => n + j
  | k :: _, 0 => k
  | _ :: l, j + 1 => toBig n l j
def updL : List Chunk → List Nat → List Chunk → List Chunk
  | L, [], M => L ++ M
  | L, k :: ids, c :: M => updL (L.set k c) ids M
  | L, _ :: _, [] => L
def renC (f : Nat → Nat) : List Chunk → List Chunk
  | [] => []
  | c :: l => c.ren f :: renC f l
def Out.ren (f : Nat → Nat) : Out → Out
  | .ret r => .ret (r.ren f)
  | .pan x => .pan (x.ren f)

theorem toBig_lt {n : Nat} : ∀ {ids : List Nat} {j : Nat}, j < ids.length → ids[j]? = some (toBig n ids j)
  | [], j, h => by simp at h
  | k :: l, 0, _ => rfl
  | k :: l, j + 1, h => by rw [List.getElem?_cons_succ]; exact toBig_lt (by simpa using h)
theorem toBig_ge {n : Nat} : ∀ {ids : List Nat} {j : Nat}, ids.length ≤ j → toBig n ids j = n + (j - ids.length)
  | [], j, _ => by simp [toBig]
  | k :: l, 0, h => by simp at h
  | k :: l, j + 1, h => by rw [toBig, toBig_ge (by simpa using h)]; simp
theorem renC_get (f : Nat → Nat) : ∀ (l : List Chunk) (j : Nat), (renC f l)[j]? = (l[j]?).map (Chunk.ren f)
  | [], j => by simp [renC]
  | c :: l, 0 => by simp [renC]
  | c :: l, j + 1 => by simpa [renC] using renC_get f l j
theorem renC_length (f : Nat → Nat) : ∀ l : List Chunk, (renC f l).length = l.length
  | [] => rfl
  | c :: l => by simp [renC, renC_length f l]

theorem updL_length : ∀ (ids : List Nat) (L M : List Chunk), ids.length ≤ M.length → (updL L ids M).length = L.length + (M.length - ids.length)
  | [], L, M, _ => by simp [updL]
  | k :: ids, L, [], h => by simp at h
  | k :: ids, L, c :: M, h => by
    rw [updL, updL_length ids _ M (by simpa using h)]
    simp
theorem updL_not : ∀ (ids : List Nat) (L M : List Chunk) (k : Nat), ids.length ≤ M.length → k < L.length → k ∉ ids → (updL L ids M)[k]? = L[k]?
  | [], L, M, k, _, hk, _ => by rw [updL, List.getElem?_append_left hk]
  | i :: ids, L, [], k, h, _, _ => by simp at h
  | i :: ids, L, c :: M, k, h, hk, hn => by
    simp only [List.mem_cons, not_or] at hn
    rw [updL, updL_not ids _ M k (by simpa using h) (by simpa using hk) hn.2, List.getElem?_set_ne (fun e => hn.1 e.symm)]
theorem updL_at : ∀ (ids : List Nat) (L M : List Chunk) (j : Nat), ids.length ≤ M.length → ids.Nodup → (∀ k ∈ ids, k < L.length) → j < M.length → (updL L ids M)[toBig L.length ids j]? = M[j]?
  | [], L, M, j, _, _, _, hj => by
    rw [updL, toBig, List.getElem?_append_right (by omega)]
    congr 1
    omega
  | i :: ids, L, [], j, h, _, _, _ => by simp at h
  | i :: ids, L, c :: M, 0, h, hn, hl, _ => by
    rw [List.nodup_cons] at hn
    rw [updL, toBig, updL_not ids _ M i (by simpa using h) (by simpa using hl i (by simp)) hn.1, List.getElem?_set_self (hl i (by simp))]
    rfl
  | i :: ids, L, c :: M, j + 1, h, hn, hl, hj => by
    rw [List.nodup_cons] at hn
    have := updL_at ids (L.set i c) M j (by simpa using h) hn.2 (fun k hk => by simpa using hl k (by simp [hk])) (by simpa using hj)
    rw [updL, toBig]
    simpa using this

theorem toBig_inj {n : Nat} {ids : List Nat} (hn : ids.Nodup) (hl : ∀ k ∈ ids, k < n) {i j : Nat} (e : toBig n ids i = toBig n ids j) : i = j := by
  rcases Nat.lt_or_ge i ids.length with hi | hi <;> rcases Nat.lt_or_ge j ids.length with hj | hj
  · have h1 := toBig_lt (n := n) hi
    have h2 := toBig_lt (n := n) hj
    rw [← e] at h2
    exact (List.getElem?_inj hi hn).1 (h1.trans h2.symm)
  · have h1 := hl _ (List.mem_of_getElem? (toBig_lt (n := n) hi))
    rw [toBig_ge hj] at e
    omega
  · have h1 := hl _ (List.mem_of_getElem? (toBig_lt (n := n) hj))
    rw [toBig_ge hi] at e
    omega
  · rw [toBig_ge hi, toBig_ge hj] at e
    omega

theorem sc_ren {n m : Nat} {f : Nat → Nat} (h : ∀ k, k < n → f k < m) {x : SV} (hx : x.sc n = true) : (x.ren f).sc m = true := by
  rw [on_sc] at hx ⊢
  exact ren_on (fun k hk => by simpa using h k (by simpa using hk)) x hx

def blocksAt (ids : List Nat) (L : List Chunk) : List Chunk := ids.map (nthC L)

/-- The call of a function whose contract speaks of a few blocks: they lie at these places. -/
theorem callV_sub {P : Program} {f : FuncId} {as as0 : List SV} {L L0 : List Chunk} {g : G} {K post : Out → List Chunk → G → Prop} (ids : List Nat) (hm : Meets P f as0 L0 g post) (hn : ids.Nodup) (hl : ∀ k ∈ ids, k < L.length) (hlen : L0.length = ids.length)
    (has : as = renL (toBig L.length ids) as0) (hL0 : ∀ (j k : Nat), ids[j]? = some k → ∃ c, L0[j]? = some c ∧ L[k]? = some (c.ren (toBig L.length ids))) (hsc0 : scL L0.length as0 = true) (hscL0 : scH L0)
    (hk : ∀ out L1 g', post out L1 g' → L0.length ≤ L1.length → K (out.ren (toBig L.length ids)) (updL L ids (renC (toBig L.length ids) L1)) g') : CallV P f as L g [] ids K := by
  refine ⟨hm.1, fun L' σ w hless _ hids hM hscL _ => ?_⟩
  subst has
  have hlenL : L'.length = L.length := hless.1
  generalize hF : toBig L.length ids = F at *
  have hFlt : ∀ j, j < ids.length → ids[j]? = some (F j) := fun j hj => by rw [← hF]; exact toBig_lt hj
  have hFge : ∀ j, ids.length ≤ j → F j = L.length + (j - ids.length) := fun j hj => by rw [← hF]; exact toBig_ge hj
  have hFinj : ∀ i j, F i = F j → i = j := fun i j e => toBig_inj hn hl (by rw [hF]; exact e)
  have hlive : ∀ j, live L0 j → live L' (F j) ∧ j < ids.length := fun j hj => by
    have hjl : j < ids.length := by rw [← hlen]; exact live_lt hj
    obtain ⟨c, hc, hcL⟩ := hL0 j _ (hFlt j hjl)
    obtain ⟨c', hc', hh⟩ := live_get hj
    rw [hc] at hc'; cases hc'
    refine ⟨live_of (c := c.ren F) ?_ (by rw [here_ren]; exact hh), hjl⟩
    rw [hids _ (List.mem_of_getElem? (hFlt j hjl)), hcL]
  have hfam0 : ∀ (j : Nat) (H : G), L0[j]? = some (Chunk.fam H) → L'[F j]? = some (Chunk.fam H) ∧ j < ids.length := fun j H hj => by
    have hjl : j < ids.length := by rw [← hlen]; exact (List.getElem?_eq_some_iff.1 hj).1
    obtain ⟨c, hc, hcL⟩ := hL0 j _ (hFlt j hjl)
    rw [hj] at hc; cases hc
    exact ⟨by rw [hids _ (List.mem_of_getElem? (hFlt j hjl)), hcL]; rfl, hjl⟩
  have hown0 : ∀ b, ownF L0 b → ownF L' b := fun b ⟨j, H, hj, hh⟩ => ⟨F j, H, (hfam0 j H hj).1, hh⟩
  have hM0 : Mem g L0 (fun k => σ (F k)) w := by
    refine ⟨hM.im, fun j c o hj ho => ?_, fun i j hi hj e => hFinj _ _ (hM.inj _ _ (hlive i hi).1 (hlive j hj).1 e), fun j hj => hM.sep _ (hlive j hj).1,
      ⟨fun j H b o hj hb => hM.fm.at_ _ H b o (hfam0 j H hj).1 hb, fun b hb => hM.fm.im b (hown0 b hb), fun b j hb hj => hM.fm.sep b _ (hown0 b hb) (hlive j hj).1, fun i j H H' b hi hj h1 h2 => hFinj _ _ (hM.fm.dis _ _ H H' b (hfam0 i H hi).1 (hfam0 j H' hj).1 h1 h2)⟩⟩
    obtain ⟨_, hjl⟩ := hlive j (live_of hj (obj_here ho))
    obtain ⟨c', hc', hcL⟩ := hL0 j _ (hFlt j hjl)
    rw [hj] at hc'; cases hc'
    refine hM.lo (F j) (c.ren F) o ?_ (by rw [obj_ren]; exact ho)
    rw [hids _ (List.mem_of_getElem? (hFlt j hjl)), hcL]
  have e0 : reL σ (renL F as0) = reL (fun k => σ (F k)) as0 := reL_ren F σ as0
  rw [e0]
  refine (hm.2 _ w hM0 hscL0 hsc0).mono ?_
  rintro e w' ⟨out, L1, g', σ1, he, hj, hM1, hsc1, hosc, hg1, hp⟩
  have hlen1 := hg1.len
  let σ' : Nat → Nat := fun k => if k < L.length then σ k else σ1 (ids.length + (k - L.length))
  have hσ' : ∀ j, σ' (F j) = σ1 j := fun j => by
    rcases Nat.lt_or_ge j ids.length with hj | hj
    · have hlt := hl _ (List.mem_of_getElem? (hFlt j hj))
      show (if F j < L.length then σ (F j) else _) = _
      rw [if_pos hlt]
      exact (hg1.agree j (by omega)).symm
    · show (if F j < L.length then _ else σ1 (ids.length + (F j - L.length))) = _
      rw [hFge j hj, if_neg (by omega)]
      congr 1
      omega
  have hσL : ∀ k, k < L.length → σ' k = σ k := fun k hk => if_pos hk
  have hul : ids.length ≤ (renC F L1).length := by rw [renC_length]; omega
  have hulen : (updL L ids (renC F L1)).length = L.length + (L1.length - ids.length) := by rw [updL_length _ _ _ hul, renC_length]
  have hupd : Upd ids L (updL L ids (renC F L1)) := ⟨by rw [hulen]; omega, fun k hk hkn => updL_not _ _ _ _ hul hk hkn⟩
  have hat : ∀ j, j < L1.length → (updL L ids (renC F L1))[F j]? = (L1[j]?).map (Chunk.ren F) := fun j hj => by
    have := updL_at ids L (renC F L1) j hul hn hl (by rw [renC_length]; exact hj)
    rw [hF] at this
    rw [this, renC_get]
  have hFbound : ∀ j, j < L1.length → F j < (updL L ids (renC F L1)).length := fun j hj => by
    rw [hulen]
    rcases Nat.lt_or_ge j ids.length with h | h
    · have := hl _ (List.mem_of_getElem? (hFlt j h)); omega
    · rw [hFge j h]; omega
  have hsurj : ∀ k, k < (updL L ids (renC F L1)).length → (k < L.length ∧ k ∉ ids) ∨ ∃ j, j < L1.length ∧ F j = k := fun k hk => by
    rw [hulen] at hk
    by_cases hkl : k < L.length
    · by_cases hki : k ∈ ids
      · obtain ⟨j, hj, rfl⟩ := List.getElem_of_mem hki
        refine .inr ⟨j, by omega, ?_⟩
        have := hFlt j hj
        rw [List.getElem?_eq_getElem hj] at this
        exact (Option.some.inj this).symm
      · exact .inl ⟨hkl, hki⟩
    · exact .inr ⟨ids.length + (k - L.length), by omega, by rw [hFge _ (by omega)]; omega⟩
  have hrget : ∀ k, (redo ids 0 L' (updL L ids (renC F L1)))[k]? = if k < L.length ∧ k ∉ ids then L'[k]? else (updL L ids (renC F L1))[k]? := fun k => by
    rw [redo_get _ _ _ _ _ (by rw [hlenL]; exact hupd.1), Nat.zero_add, hlenL]
  have hrF : ∀ j, j < L1.length → (redo ids 0 L' (updL L ids (renC F L1)))[F j]? = (L1[j]?).map (Chunk.ren F) := fun j hj => by
    rw [hrget, if_neg, hat j hj]
    rintro ⟨h1, h2⟩
    rcases Nat.lt_or_ge j ids.length with h | h
    · exact h2 (List.mem_of_getElem? (hFlt j h))
    · rw [hFge j h] at h1; omega
  -- a living block there: an old one that the call did not touch, or one of the callee's
  have hcase : ∀ k, live (redo ids 0 L' (updL L ids (renC F L1))) k → (k < L.length ∧ k ∉ ids ∧ live L' k) ∨ ∃ j, j < L1.length ∧ F j = k ∧ live L1 j := fun k hk => by
    have hkl := live_lt hk
    rw [redo_length _ _ _ _ (by rw [hlenL]; exact hupd.1)] at hkl
    rcases hsurj k hkl with ⟨h1, h2⟩ | ⟨j, hj, rfl⟩
    · refine .inl ⟨h1, h2, ?_⟩
      have := hrget k
      rw [if_pos ⟨h1, h2⟩] at this
      exact (live_congr this).1 hk
    · refine .inr ⟨j, hj, rfl, ?_⟩
      obtain ⟨c, hc, hh⟩ := live_get hk
      rw [hrF j hj] at hc
      simp only [Option.map_eq_some_iff] at hc
      obtain ⟨c1, hc1, rfl⟩ := hc
      exact live_of hc1 (by rw [here_ren] at hh; exact hh)
  -- a family there: likewise
  have hcaseF : ∀ (k : Nat) (H : G), (redo ids 0 L' (updL L ids (renC F L1)))[k]? = some (Chunk.fam H) → (k < L.length ∧ k ∉ ids ∧ L'[k]? = some (Chunk.fam H)) ∨ ∃ j, j < L1.length ∧ F j = k ∧ L1[j]? = some (Chunk.fam H) := fun k H hk => by
    have hkl := (List.getElem?_eq_some_iff.1 hk).1
    rw [redo_length _ _ _ _ (by rw [hlenL]; exact hupd.1)] at hkl
    rcases hsurj k hkl with ⟨h1, h2⟩ | ⟨j, hj, rfl⟩
    · refine .inl ⟨h1, h2, ?_⟩
      have := hrget k
      rw [if_pos ⟨h1, h2⟩] at this
      rw [← this]; exact hk
    · refine .inr ⟨j, hj, rfl, ?_⟩
      rw [hrF j hj, Option.map_eq_some_iff] at hk
      obtain ⟨c, hc, hcr⟩ := hk
      rw [hc, ren_fam hcr]
  have hfamOld : ∀ (k : Nat) (H : G) (b : Nat), k < L.length → k ∉ ids → L'[k]? = some (Chunk.fam H) → H b ≠ none → ¬ ownF L0 b := fun k H b hkl hkn hk hb ⟨j, H', hj, hb'⟩ => by
    obtain ⟨h1, h2⟩ := hfam0 j H' hj
    have := hM.fm.dis _ _ H' H b h1 hk hb' hb
    exact hkn (by rw [← this]; exact List.mem_of_getElem? (hFlt j h2))
  have hfamKeep : ∀ (k : Nat) (H : G) (b : Nat), k < L.length → k ∉ ids → L'[k]? = some (Chunk.fam H) → H b ≠ none → ownF L' b ∧ b < w.heap.size ∧ ∀ j, live L0 j → σ (F j) ≠ b := fun k H b hkl hkn hk hb => by
    have ho : ownF L' b := ⟨k, H, hk, hb⟩
    exact ⟨ho, hM.fm.lt ho, fun j hj => hM.fm.sep b _ ho (hlive j hj).1⟩
  have hkeepOld : ∀ k, k < L.length → k ∉ ids → live L' k → (∀ j, live L0 j → σ (F j) ≠ σ k) := fun k hkl hkn hlv j hj e => by
    obtain ⟨h1, h2⟩ := hlive j hj
    have := hM.inj _ _ h1 hlv e
    exact hkn (by rw [← this]; exact List.mem_of_getElem? (hFlt j h2))
  have hsepO : ∀ k, k < L.length → k ∉ ids → live L' k → g' (σ k) = none := fun k hkl hkn hlv => by
    cases hgk : g' (σ k) with
    | none => rfl
    | some o =>
      have h2 := hM.lt hlv
      rcases hg1.gnew (σ k) (hM.sep k hlv) (by simp [hgk]) with h1 | ⟨j, j1, j2, j3, j4⟩
      · omega
      · exact absurd j4 (hkeepOld k hkl hkn hlv j j2)
  have hnewOld : ∀ j k, live L1 j → k < L.length → k ∉ ids → live L' k → σ1 j ≠ σ k := fun j k hj hkl hkn hlv e => by
    have hjl := live_lt hj
    rcases Nat.lt_or_ge j L0.length with h | h
    · have h1 := hg1.dead j h hj
      rw [hg1.agree j h] at e
      exact hkeepOld k hkl hkn hlv j h1 e
    · have h2 := hM.lt hlv
      rcases hg1.fresh j h hj with h1 | ⟨m, m1, m2, m3, m4⟩
      · omega
      · exact hkeepOld k hkl hkn hlv m m2 (m4.trans e)
  have hscB : scH (updL L ids (renC F L1)) := by
    intro k ty l hkc
    have hkl := (List.getElem?_eq_some_iff.1 hkc).1
    rcases hsurj k hkl with ⟨h1, h2⟩ | ⟨j, hj, rfl⟩
    · rw [hupd.2 k h1 h2] at hkc
      exact scL_mono hupd.1 _ (hscL k ty l hkc)
    · rw [hat j hj] at hkc
      simp only [Option.map_eq_some_iff] at hkc
      obtain ⟨c1, hc1, hcr⟩ := hkc
      cases c1 with
      | cells ty1 l1 =>
        simp only [Chunk.ren, Chunk.cells.injEq] at hcr
        rw [← hcr.2]
        refine scL_mem.2 fun x hx => ?_
        have : ∀ (l : List SV), scL L1.length l = true → ∀ x ∈ renL F l, x.sc (updL L ids (renC F L1)).length = true := by
          intro l
          induction l with
          | nil => intro _ x hx; simp [renL] at hx
          | cons y l ih =>
            intro hsc x hx
            simp only [scL, Bool.and_eq_true] at hsc
            rcases List.mem_cons.1 hx with hx | hx
            · rw [hx]; exact sc_ren hFbound hsc.1
            · exact ih hsc.2 x hx
        exact this l1 (hsc1 j ty1 l1 hc1) x hx
      | _ => cases hcr
  refine ⟨out.ren F, updL L ids (renC F L1), g', σ', ?_, ?_, hupd, ⟨hM1.im, fun k c o hkc ho => ?_, fun i j hi hj e => ?_, fun k hk => ?_, ⟨fun k H b o hk hb => ?_, fun b hb => ?_, fun b j hb hj => ?_, fun i j H H' b hi hj h1 h2 => ?_⟩⟩, hscB, ?_, ?_, hk out L1 g' hp hg1.len⟩
  · cases out with
    | ret r =>
      cases he
      show Ending.returned _ = Ending.returned _
      rw [re_ren]
      congr 1
      exact re_congr (n := L1.length) (fun k _ => (hσ' k).symm) r hosc
    | pan x =>
      cases he
      show Ending.panicked _ = Ending.panicked _
      rw [re_ren]
      congr 3
      exact re_congr (n := L1.length) (fun k _ => (hσ' k).symm) x hosc
  · cases out <;> exact fun e => hj (ren_junk.1 e)
  · rcases hcase k (live_of hkc (obj_here ho)) with ⟨h1, h2, h3⟩ | ⟨j, hj, rfl, hlv⟩
    · have hg := hrget k
      rw [if_pos ⟨h1, h2⟩, hkc] at hg
      have hcs : L[k]? = some c := by rw [← hless.live h3]; exact hg.symm
      have ho' : c.obj σ = some o := by
        rw [← ho]
        exact obj_congr (n := L.length) (fun j hj => (hσL j hj).symm) (fun ty l e => hscL k ty l (by rw [hcs, e]))
      rw [hσL k h1, hg1.keep (σ k) (hM.lt h3) (fun j hj => hkeepOld k h1 h2 h3 j hj) (fun ho => hM.fm.sep _ k (hown0 _ ho) h3 rfl)]
      exact hM.lo k c o hg.symm ho'
    · rw [hrF j hj] at hkc
      simp only [Option.map_eq_some_iff] at hkc
      obtain ⟨c1, hc1, rfl⟩ := hkc
      rw [hσ']
      refine hM1.lo j c1 o hc1 ?_
      rw [← ho, obj_ren]
      exact obj_congr (n := L1.length) (fun k _ => (hσ' k).symm) (fun ty l e => hsc1 j ty l (by rw [hc1, e]))
  · rcases hcase i hi with ⟨h1, h2, h3⟩ | ⟨i', hi', rfl, hi3⟩ <;> rcases hcase j hj with ⟨k1, k2, k3⟩ | ⟨j', hj', rfl, hj3⟩
    · rw [hσL i h1, hσL j k1] at e
      exact hM.inj i j h3 k3 e
    · rw [hσL i h1, hσ'] at e
      exact absurd e.symm (hnewOld j' i hj3 h1 h2 h3)
    · rw [hσL j k1, hσ'] at e
      exact absurd e (hnewOld i' j hi3 k1 k2 k3)
    · rw [hσ', hσ'] at e
      rw [hM1.inj i' j' hi3 hj3 e]
  · rcases hcase k hk with ⟨h1, h2, h3⟩ | ⟨j, hj, rfl, hlv⟩
    · rw [hσL k h1]; exact hsepO k h1 h2 h3
    · rw [hσ']; exact hM1.sep j hlv
  · rcases hcaseF k H hk with ⟨h1, h2, h3⟩ | ⟨j, hj, rfl, h3⟩
    · obtain ⟨k1, k2, k3⟩ := hfamKeep k H b h1 h2 h3 (by rw [hb]; simp)
      rw [hg1.keep b k2 k3 (hfamOld k H b h1 h2 h3 (by rw [hb]; simp))]
      exact hM.fm.at_ k H b o h3 hb
    · exact hM1.fm.at_ j H b o h3 hb
  · obtain ⟨k, H, hk, hh⟩ := hb
    rcases hcaseF k H hk with ⟨h1, h2, h3⟩ | ⟨j, hj, rfl, h3⟩
    · obtain ⟨k1, k2, k3⟩ := hfamKeep k H b h1 h2 h3 hh
      cases hgk : g' b with
      | none => rfl
      | some o =>
        rcases hg1.gnew b (hM.fm.im b k1) (by simp [hgk]) with h1 | ⟨j, j1, j2, j3, j4⟩
        · omega
        · exact absurd j4 (k3 j j2)
    · exact hM1.fm.im b ⟨j, H, h3, hh⟩
  · obtain ⟨k, H, hk, hh⟩ := hb
    rcases hcaseF k H hk with ⟨h1, h2, h3⟩ | ⟨i, hi, rfl, h3⟩
    · obtain ⟨k1, k2, k3⟩ := hfamKeep k H b h1 h2 h3 hh
      rcases hcase j hj with ⟨j1, j2, j3⟩ | ⟨j', hj', rfl, hlv⟩
      · rw [hσL j j1]; exact hM.fm.sep b j k1 j3
      · rw [hσ']
        intro e
        rcases Nat.lt_or_ge j' L0.length with h | h
        · have h1 := hg1.dead j' h hlv
          rw [hg1.agree j' h] at e
          exact k3 j' h1 e
        · rcases hg1.fresh j' h hlv with h1 | ⟨m, m1, m2, m3, m4⟩
          · omega
          · exact k3 m m2 (m4.trans e)
    · have ho1 : ownF L1 b := ⟨i, H, h3, hh⟩
      rcases hcase j hj with ⟨j1, j2, j3⟩ | ⟨j', hj', rfl, hlv⟩
      · rw [hσL j j1]
        intro e
        have hlt := hM.lt j3
        rcases hg1.ffresh b ho1 with h1 | ⟨m, m1, m2, m3, m4⟩ | h1
        · omega
        · exact hkeepOld j j1 j2 j3 m m2 (m4.trans e.symm)
        · exact hM.fm.sep b j (hown0 b h1) j3 e
      · rw [hσ']; exact hM1.fm.sep b j' ho1 hlv
  · have mix : ∀ (i : Nat) (H : G) (j : Nat) (H' : G), i < L.length → i ∉ ids → L'[i]? = some (Chunk.fam H) → L1[j]? = some (Chunk.fam H') → H b ≠ none → H' b ≠ none → False := fun i H j H' i1 i2 i3 j3 h1 h2 => by
      obtain ⟨k1, k2, k3⟩ := hfamKeep i H b i1 i2 i3 h1
      rcases hg1.ffresh b ⟨j, H', j3, h2⟩ with h | ⟨m, m1, m2, m3, m4⟩ | h
      · omega
      · exact k3 m m2 m4
      · exact hfamOld i H b i1 i2 i3 h1 h
    rcases hcaseF i H hi with ⟨i1, i2, i3⟩ | ⟨i', hi', rfl, i3⟩ <;> rcases hcaseF j H' hj with ⟨j1, j2, j3⟩ | ⟨j', hj', rfl, j3⟩
    · exact hM.fm.dis i j H H' b i3 j3 h1 h2
    · exact (mix i H j' H' i1 i2 i3 j3 h1 h2).elim
    · exact (mix j H' i' H j1 j2 j3 i3 h2 h1).elim
    · rw [hM1.fm.dis i' j' H H' b i3 j3 h1 h2]
  · cases out <;> exact sc_ren hFbound hosc
  · refine ⟨fun k hk => hσL k (by omega), by rw [redo_length _ _ _ _ (by rw [hlenL]; exact hupd.1), hlenL]; exact hupd.1, fun k hk hlv => ?_, fun k hk hlv => ?_, hg1.gle, fun b hb1 hb2 => ?_, hg1.os, hg1.tape, hg1.output, hg1.size, fun b hb hnb hnf => ?_, fun b hb => ?_⟩
    · rcases hcase k hlv with ⟨_, _, h3⟩ | ⟨j, hj, rfl, hj3⟩
      · exact h3
      · rcases Nat.lt_or_ge j ids.length with h | h
        · exact (hlive j (hg1.dead j (by omega) hj3)).1
        · rw [hFge j h] at hk; omega
    · rcases hcase k hlv with ⟨h1, _, _⟩ | ⟨j, hj, rfl, hj3⟩
      · omega
      · rw [hσ']
        have hjl : L0.length ≤ j := by
          refine Classical.byContradiction fun hn => ?_
          have := hl _ (List.mem_of_getElem? (hFlt j (by omega)))
          omega
        rcases hg1.fresh j hjl hj3 with h1 | ⟨m, m1, m2, m3, m4⟩
        · exact .inl h1
        · obtain ⟨l1, l2⟩ := hlive m m2
          have hFm := hl _ (List.mem_of_getElem? (hFlt m l2))
          refine .inr ⟨F m, by omega, l1, fun hlm => m3 ?_, m4⟩
          rcases hcase _ hlm with ⟨_, hn, _⟩ | ⟨m', hm', e', hlm'⟩
          · exact absurd (List.mem_of_getElem? (hFlt m l2)) hn
          · rw [← hFinj _ _ e']; exact hlm'
    · rcases hg1.gnew b hb1 hb2 with h1 | ⟨m, m1, m2, m3, m4⟩
      · exact .inl h1
      · obtain ⟨l1, l2⟩ := hlive m m2
        have hFm := hl _ (List.mem_of_getElem? (hFlt m l2))
        refine .inr ⟨F m, by omega, l1, fun hlm => m3 ?_, m4⟩
        rcases hcase _ hlm with ⟨_, hn, _⟩ | ⟨m', hm', e', hlm'⟩
        · exact absurd (List.mem_of_getElem? (hFlt m l2)) hn
        · rw [← hFinj _ _ e']; exact hlm'
    · exact hg1.keep b hb (fun j hj => hnb _ (hlive j hj).1) fun ho => hnf (hown0 b ho)
    · obtain ⟨k, H, hk, hh⟩ := hb
      rcases hcaseF k H hk with ⟨h1, h2, h3⟩ | ⟨i, hi, rfl, h3⟩
      · exact .inr (.inr ⟨k, H, h3, hh⟩)
      · rcases hg1.ffresh b ⟨i, H, h3, hh⟩ with h1 | ⟨m, m1, m2, m3, m4⟩ | h1
        · exact .inl h1
        · obtain ⟨l1, l2⟩ := hlive m m2
          have hFm := hl _ (List.mem_of_getElem? (hFlt m l2))
          refine .inr (.inl ⟨F m, by omega, l1, fun hlm => m3 ?_, m4⟩)
          rcases hcase _ hlm with ⟨_, hn, _⟩ | ⟨m', hm', e', hlm'⟩
          · exact absurd (List.mem_of_getElem? (hFlt m l2)) hn
          · rw [← hFinj _ _ e']; exact hlm'
        · exact .inr (.inr (hown0 b h1))

/-- What is only read. -/
theorem CallV.ro {P : Program} {f : FuncId} {as : List SV} {L : List Chunk} {g : G} {K : Out → List Chunk → G → Prop} {ids : List Nat} (h : CallV P f as L g [] ids fun o L1 g1 => (∀ k, k ∈ ids → L1[k]? = L[k]?) ∧ K o L1 g1) : CallV P f as L g ids [] K := by
  refine ⟨h.1, fun L' σ w hless hrd _ hM hscL hsc => (h.2 L' σ w hless (fun _ h => by simp at h) hrd hM hscL hsc).mono ?_⟩
  rintro e w' ⟨out, L1, g', σ', h1, h2, h3, h4, h5, h6, h7, h8, h9⟩
  have e : redo [] 0 L' L1 = redo ids 0 L' L1 := by
    apply List.ext_getElem?
    intro k
    have hl : L'.length ≤ L1.length := by rw [hless.1]; exact h3.1
    rw [redo_get _ _ _ _ _ hl, redo_get _ _ _ _ _ hl, Nat.zero_add]
    by_cases hk : k < L'.length
    · rw [if_pos ⟨hk, by simp⟩]
      split
      · rfl
      · rename_i hn
        have hin : k ∈ ids := Classical.byContradiction fun hh => hn ⟨hk, hh⟩
        rw [hrd k hin, h8 k hin]
    · rw [if_neg (fun hh => hk hh.1), if_neg (fun hh => hk hh.1)]
  refine ⟨out, L1, g', σ', h1, h2, ⟨h3.1, fun k hk _ => ?_⟩, by rw [e]; exact h4, h5, h6, by rw [e]; exact h7, h9⟩
  by_cases hin : k ∈ ids
  · exact h8 k hin
  · exact h3.2 k hk hin

end Go.Sx
end

/- A symbolic executor of my own, second design, part 13: the rule for loops; contracts that tell the answer. Conditions: none; it speaks of any program. -/
section
namespace Go.Sx
variable {fm : Bool}

def junkM : List SV → List Bool → List SV
  | [], _ => []
  | l, [] => l
  | _ :: l, true :: m => .junk :: junkM l m
  | x :: l, false :: m => x :: junkM l m
def setAll : List SV → List (Nat × SV) → List SV
  | fr, [] => fr
  | fr, (t, v) :: l => setAll (put fr t v) l
def upd (fr : List SV) (m : List Bool) (vals : List (Nat × SV)) : List SV := setAll (junkM fr m) vals

def forceM : List SV → List Bool → (List SV → Prop) → Prop
  | [], _, K => K []
  | x :: l, [], K => forceM l [] fun l' => K (x :: l')
  | _ :: l, true :: m, K => forceM l m fun l' => K (.junk :: l')
  | x :: l, false :: m, K => forceM l m fun l' => K (x :: l')
theorem junkM_nil : ∀ l : List SV, junkM l [] = l
  | [] => rfl
  | _ :: _ => rfl
theorem forceM_eq : ∀ (l : List SV) (m : List Bool) (K : List SV → Prop), forceM l m K = K (junkM l m)
  | [], _, _ => rfl
  | x :: l, [], K => by rw [forceM, forceM_eq, junkM_nil]; rfl
  | _ :: l, true :: m, K => by rw [forceM, forceM_eq]; rfl
  | x :: l, false :: m, K => by rw [forceM, forceM_eq]; rfl
def forceS : List SV → List (Nat × SV) → (List SV → Prop) → Prop
  | fr, [], K => K fr
  | fr, (t, v) :: l, K => force (put fr t v) fun fr => forceS fr l K
theorem forceS_eq : ∀ (l : List (Nat × SV)) (fr : List SV) (K : List SV → Prop), forceS fr l K = K (setAll fr l)
  | [], _, _ => rfl
  | (t, v) :: l, fr, K => by rw [forceS, force_eq, forceS_eq l]; rfl
/-- The frame at a round's head, written out. -/
def forceU (fr : List SV) (m : List Bool) (vals : List (Nat × SV)) (K : List SV → Prop) : Prop := forceM fr m fun fr => forceS fr vals K
theorem forceU_eq (fr : List SV) (m : List Bool) (vals : List (Nat × SV)) (K : List SV → Prop) : forceU fr m vals K = K (upd fr m vals) := by
  rw [forceU, forceM_eq, forceS_eq]
  rfl

/-- These slots hold these values. -/
def trk (fr : List SV) : List (Nat × SV) → Prop
  | [] => True
  | (t, v) :: l => get fr t = v ∧ trk fr l

def scV (n : Nat) : List (Nat × SV) → Bool
  | [] => true
  | (_, v) :: l => v.sc n && scV n l
def inD (D : List Nat) : List (Nat × SV) → Bool
  | [] => true
  | (t, _) :: l => D.contains t && inD D l

theorem junkM_length : ∀ (fr : List SV) (m : List Bool), (junkM fr m).length = fr.length
  | [], _ => by simp [junkM]
  | _ :: _, [] => rfl
  | _ :: l, true :: m => by simp [junkM, junkM_length l m]
  | _ :: l, false :: m => by simp [junkM, junkM_length l m]
theorem setAll_length : ∀ (l : List (Nat × SV)) (fr : List SV), (setAll fr l).length = fr.length
  | [], _ => rfl
  | (t, v) :: l, fr => by rw [setAll, setAll_length l, put_length]

theorem get_junkM : ∀ (fr : List SV) (m : List Bool) (i : Nat), (m.getD i false = true → get (junkM fr m) i = .junk) ∧ (m.getD i false = false → get (junkM fr m) i = get fr i)
  | [], m, i => by simp [junkM, get]
  | x :: l, [], i => by simp [junkM]
  | x :: l, b :: m, i => by
    cases i with
    | zero => cases b <;> simp [junkM, get]
    | succ i =>
      have := get_junkM l m i
      cases b <;> simpa [junkM, get] using this

theorem get_setAll : ∀ (l : List (Nat × SV)) (fr : List SV) (i : Nat) (F : List SV), trk F l → F.length = fr.length →
    get (setAll fr l) i = get F i ∨ get (setAll fr l) i = get fr i
  | [], _, _, _, _, _ => .inr rfl
  | (t, v) :: l, fr, i, F, h, hl => by
    rw [setAll]
    rcases get_setAll l (put fr t v) i F h.2 (by rw [put_length]; exact hl) with h1 | h1
    · exact .inl h1
    · rw [h1, get_put]
      by_cases hc : t = i ∧ t < fr.length
      · rw [if_pos hc]
        obtain ⟨rfl, _⟩ := hc
        exact .inl h.1.symm
      · rw [if_neg hc]
        exact .inr rfl

theorem get_setAll_not : ∀ (l : List (Nat × SV)) (fr : List SV) (i : Nat) (D : List Nat), inD D l = true → i ∉ D → get (setAll fr l) i = get fr i
  | [], _, _, _, _, _ => rfl
  | (t, v) :: l, fr, i, D, h, hi => by
    simp only [inD, Bool.and_eq_true] at h
    rw [setAll, get_setAll_not l _ i D h.2 hi, get_put, if_neg]
    rintro ⟨rfl, _⟩
    exact hi (by simpa using h.1)

theorem sc_junkM {n : Nat} : ∀ (fr : List SV) (m : List Bool), scL n fr = true → scL n (junkM fr m) = true
  | [], _, h => by simpa [junkM] using h
  | _ :: _, [], h => h
  | x :: l, b :: m, h => by
    simp only [scL, Bool.and_eq_true] at h
    have := sc_junkM l m h.2
    cases b
    · simp [junkM, scL, h.1, this]
    · simp [junkM, scL, SV.sc, this]
theorem sc_setAll {n : Nat} : ∀ (l : List (Nat × SV)) (fr : List SV), scL n fr = true → scV n l = true → scL n (setAll fr l) = true
  | [], _, h, _ => h
  | (t, v) :: l, _, h, hv => by
    simp only [scV, Bool.and_eq_true] at hv
    exact sc_setAll l _ (sc_put h t hv.1) hv.2

def maskB (m : List Bool) (D : List Nat) : Bool :=
  ((List.range m.length).all fun i => m.getD i false == D.contains i) && D.all fun d => Nat.blt d m.length
theorem maskB_spec {m : List Bool} {D : List Nat} (h : maskB m D = true) (i : Nat) : m.getD i false = true ↔ i ∈ D := by
  simp only [maskB, Bool.and_eq_true, List.all_eq_true, List.mem_range, beq_iff_eq, Nat.blt_eq] at h
  by_cases hi : i < m.length
  · rw [h.1 i hi]; simp
  · constructor
    · intro h'; simp [List.getD, show m.length ≤ i by omega] at h'
    · intro h'; exact absurd (h.2 i h') hi


theorem njL_imp : ∀ (q : List SV) (A B : List SV → Prop), (∀ l, A l → B l) → njL q A → njL q B := by
  intro q
  induction q with
  | nil => intro A B hab ha; exact hab _ ha
  | cons y q ihq => intro A B hab ha; exact nj_imp ha fun hk => ihq _ _ (fun l => hab _) hk

theorem roY_mono {y : YOp} {vs : List SV} {L : List Chunk} {g : G} {K K' : SV → Prop} (hk : ∀ r, K r → K' r) (h : roY y vs L g K) : roY y vs L g K' := by
  unfold roY at *
  cases y <;> simp only at h ⊢
  case slcA =>
    split at h
    · exact boundsK_imp (fun l u h => hk _ h) h
    · exact boundsK_imp (fun l u h => hk _ h) h
    · exact h.elim
  case slcS =>
    split at h
    · exact boundsK_imp (fun l u h => hk _ h) h
    · exact boundsK_imp (fun l u h => hk _ h) h
    · exact h.elim
  case slcT =>
    split at h
    · exact boundsK_imp (fun l u h => hk _ h) h
    · exact h.elim
  case b2s =>
    split at h
    · split at h
      · rename_i hc
        try simp only [hc]
        obtain ⟨hb, h⟩ := ifOk_elim h
        rw [hb]
        show _
        split at h
        · rename_i hn
          (try simp only [hn]); exact hk _ h
        · exact h.elim
      · rename_i hc
        try simp only [hc]
        obtain ⟨h1, ns, h2, h⟩ := h
        exact ⟨h1, ns, h2, hk _ h⟩
      · rename_i hc
        try simp only [hc]
        obtain ⟨h1, ns, h2, h⟩ := h
        exact ⟨h1, ns, h2, hk _ h⟩
      · exact h.elim
    · obtain ⟨ns, h1, h2, h⟩ := h
      exact ⟨ns, h1, h2, hk _ h⟩
    · exact hk _ h
    · exact h.elim
  case cmps =>
    split at h
    · exact hk _ h
    · exact h.elim
  case nilI =>
    split at h
    · exact hk _ h
    · exact hk _ h
    · exact hk _ h
    · exact h.elim
  case nilP =>
    split at h
    · exact hk _ h
    · exact hk _ h
    · exact hk _ h
    · exact h.elim
  case nilC =>
    split at h
    · exact hk _ h
    · exact hk _ h
    · exact h.elim
  case tass t z =>
    split at h
    · exact hk _ h
    · split at h
      · rename_i hb
        try simp only [hb]
        exact hk _ h
      · rename_i hb
        try simp only [hb]
        exact hk _ h
    · split at h
      · rename_i hb
        try simp only [hb]
        exact hk _ h
      · rename_i hb
        try simp only [hb]
        exact hk _ h
    · exact h.elim

theorem ro_imp {X : XOp} {e : Operand → SV} {L : List Chunk} {g : G} {A B : SV → Prop} (hab : ∀ r, A r → B r) (h : ro fm X e L g A) : ro fm X e L g B := by
  have v1 : ∀ agg l, val1 agg l A → val1 agg l B := by
    intro agg l h
    cases agg with
    | true => exact hab _ h
    | false => match l, h with | [x], h => exact nj_imp h (hab _)
  have il : ∀ (a b : Nat) (p q : Prop), (p → q) → ifle a b p → ifle a b q := by
    intro a b p q hpq h
    unfold ifle at *
    cases hb : Nat.ble a b <;> rw [hb] at h
    · exact h.elim
    · exact hpq h
  have nl : ∀ (q : List SV) (A B : List SV → Prop), (∀ l, A l → B l) → njL q A → njL q B := by
    intro q
    induction q with
    | nil => intro A B hab ha; exact hab _ ha
    | cons y q ihq => intro A B hab ha; exact nj_imp ha fun hk => ihq _ _ (fun l => hab _) hk
  cases X <;> simp only [ro] at h ⊢
  case more y args => exact roY_mono hab h
  case mov x => exact nj_imp h (hab _)
  case pick c a b =>
    split at h
    case h_2 => exact h.elim
    case h_1 t hc =>
      try simp only [hc]
      cases t
      · exact nj_imp (h : nj _ _) (hab _)
      · exact nj_imp (h : nj _ _) (hab _)
  case build zs ps =>
    split at h
    case h_2 => exact h.elim
    case h_1 l hf => try simp only [hf]
                     exact hab _ h
  case load agg n a =>
    split at h
    case h_1 k off ha =>
      try simp only [ha]
      split at h
      case h_1 ty c hc => try simp only [hc]
                          exact il _ _ _ _ (v1 _ _) h
      case h_2 ty c hc => try simp only [hc]
                          exact ⟨h.1, v1 _ _ h.2⟩
      case h_3 ty c fz hc => try simp only [hc]
                             exact ⟨h.1, v1 _ _ h.2⟩
      case h_4 => exact h.elim
    case h_2 a ha =>
      try simp only [ha]
      obtain ⟨xs, h1, h2, h⟩ := h
      exact ⟨xs, h1, h2, v1 _ _ h⟩
    case h_3 => exact h.elim
  case bin op x y =>
    split at h
    case h_2 => exact h.elim
    case h_1 a ha =>
      try simp only [ha]
      split at h
      case h_2 => exact h.elim
      case h_1 b hb =>
        try simp only [hb]
        cases a with
        | int k a =>
          cases b with
          | int k' b =>
            have hi : ∀ op, intBin op k a b A → intBin op k a b B := by
              intro op h
              cases op <;> simp only [intBin] at h ⊢ <;> first | exact h.elim | exact ⟨h.1, hab _ h.2⟩ | exact hab _ h
            cases op <;> simp only [valBin] at h ⊢ <;> first
              | exact ⟨h.1, hab _ h.2⟩
              | (cases hk : decide (k = k') <;> rw [hk] at h <;> first | exact h.elim | exact hi _ h)
          | _ => exact h.elim
        | string a =>
          cases b with
          | string b => cases op <;> simp only [valBin, strBin] at h ⊢ <;> first | exact h.elim | exact ⟨h.1, hab _ h.2⟩ | exact hab _ h
          | _ => exact h.elim
        | _ => exact h.elim
  case eqB neg x y =>
    split at h
    case h_2 => exact h.elim
    case h_1 a ha =>
      try simp only [ha]
      split at h
      case h_2 => exact h.elim
      case h_1 b hb => try simp only [hb]
                       exact hab _ h
  case eqAgg neg ks x y =>
    split at h
    case h_2 => exact h.elim
    case h_1 a ha =>
      try simp only [ha]
      split at h
      case h_2 => exact h.elim
      case h_1 b hb => try simp only [hb]
                       exact eqKs_imp (fun r hr => hab _ hr) _ _ _ h
  case un op x =>
    split at h
    case h_1 b hb => (try simp only [hb]); cases op <;> simp only at h ⊢ <;> exact hab _ h
    case h_2 k n hb => (try simp only [hb]); cases op <;> simp only at h ⊢ <;> exact hab _ h
    case h_3 => exact h.elim
  case conv k x =>
    split at h
    case h_1 k' n hb => (try simp only [hb]); exact hab _ h
    case h_2 => exact h.elim
  case fieldA off x =>
    split at h
    case h_1 k o hb => (try simp only [hb]); exact hab _ h
    case h_2 a hb => (try simp only [hb]); exact hab _ h
    case h_3 => exact h.elim
  case fieldV agg off n x =>
    split at h
    case h_2 => exact h.elim
    case h_1 l hb => (try simp only [hb]); exact il _ _ _ _ (v1 _ _) h
  case indexS sz x i =>
    split at h
    case h_2 => exact h.elim
    case h_1 k n hi =>
      try simp only [hi]
      split at h
      case h_1 a len cap hb => (try simp only [hb]); obtain ⟨h1, ad, h2, h⟩ := h; exact ⟨h1, ad, h2, hab _ h⟩
      case h_2 k off len cap hb => (try simp only [hb]); exact ⟨h.1, hab _ h.2⟩
      case h_3 => exact h.elim
  case indexP len sz x i =>
    split at h
    case h_2 => exact h.elim
    case h_1 k n hi =>
      try simp only [hi]
      split at h
      case h_1 k off hb => (try simp only [hb]); exact ⟨h.1, hab _ h.2⟩
      case h_2 a hb => (try simp only [hb]); exact ⟨h.1, hab _ h.2⟩
      case h_3 => exact h.elim
  case indexV len agg sz x i =>
    split at h
    case h_2 => exact h.elim
    case h_1 k n hi =>
      try simp only [hi]
      split at h
      case h_2 => exact h.elim
      case h_1 l hb => (try simp only [hb]); exact ⟨h.1, il _ _ _ _ (v1 _ _) h.2⟩
  case indexStr x i =>
    split at h
    case h_2 => exact h.elim
    case h_1 k n hi =>
      try simp only [hi]
      split at h
      case h_2 => exact h.elim
      case h_1 s hb => (try simp only [hb]); exact ⟨h.1, hab _ h.2⟩
  case ext x i =>
    split at h
    case h_1 l hb => (try simp only [hb]); exact nj_imp h (hab _)
    case h_2 c hb =>
      try simp only [hb]
      split at h
      case h_1 y hy => exact hab _ h
      case h_2 => exact h.elim
    case h_3 => exact h.elim
  case len str x =>
    cases str
    · simp only at h ⊢
      split at h
      case h_1 a n c hb => (try simp only [hb]); exact hab _ h
      case h_2 k o n c hb => (try simp only [hb]); exact hab _ h
      case h_3 => exact h.elim
    · simp only at h ⊢
      split at h
      case h_1 s hb => (try simp only [hb]); exact hab _ h
      case h_2 => exact h.elim
  case mkI t x =>
    split at h
    case h_1 y hb => (try simp only [hb]); exact hab _ h
    case h_2 => exact h.elim
    case h_3 y h1 h2 => exact hab _ h
  case mkF f a b => exact nl _ _ _ (fun a => nl _ _ _ fun b => hab _) h


theorem bsplit_imp {b : Bool} {p q p' q' : Prop} (h1 : p → p') (h2 : q → q') (h : bsplit b p q) : bsplit b p' q' := by
  cases b
  · exact h2 h
  · exact h1 h
theorem ifOk_imp {b : Bool} {p p' : Prop} (h1 : p → p') (h : ifOk b p) : ifOk b p' := by
  obtain ⟨rfl, h⟩ := ifOk_elim h
  exact h1 h

theorem lt_imp {X : XOp} {e : Operand → SV} {L : List Chunk} {g : G} {k : Nat} {A B : SV → Option Chunk → Prop} (hab : ∀ r c, A r c → B r c) (h : lt fm X e L g k A) : lt fm X e L g k B := by
  cases X <;> simp only [lt] at h ⊢
  case alloc => exact hab _ _ h
  case box => exact nj_imp h (hab _ _)
  case bslice =>
    split at h
    · rename_i l hl; (try simp only [hl]); exact hab _ _ h
    · exact h.elim
  all_goals exact ro_imp (fun r => hab r none) h

theorem CallX.mono {P : Program} {f : FuncId} {as : List SV} {L : List Chunk} {g : G} {chk : List Nat → List Nat → Bool} {A B : Out → List Chunk → G → Prop} (hab : ∀ o L g, A o L g → B o L g) (h : CallX P f as L g chk A) : CallX P f as L g chk B := by
  rw [CallX_eq] at *
  obtain ⟨rd, ids, h1, h2, h3⟩ := h
  refine ⟨rd, ids, h1, h2, fun L' σ w a b c d e f => (h3 L' σ w a b c d e f).mono ?_⟩
  rintro e w' ⟨out, L1, g', σ', a1, a2, a3, a4, a5, a6, a7, a8⟩
  exact ⟨out, L1, g', σ', a1, a2, a3, a4, a5, a6, a7, hab _ _ _ a8⟩

theorem PrimX.mono {P : Program} {op : Op} {args : List Operand} {vs : List SV} {L : List Chunk} {g : G} {chk : List Nat → List Nat → Bool} {A B : Out → List Chunk → G → Prop} (hab : ∀ o L g, A o L g → B o L g) (h : PrimX P op args vs L g chk A) : PrimX P op args vs L g chk B := by
  rw [PrimX_eq] at *
  obtain ⟨rd, ids, hc, h⟩ := h
  refine ⟨rd, ids, hc, fun o L' σ a w h1 h2 h3 h4 h5 h6 h7 h8 => Oper.wp_mono2 ?_ ?_ (h o L' σ a w h1 h2 h3 h4 h5 h6 h7 h8)⟩
  · rintro a' w' ⟨v, r, L1, g', σ', k1, k2, k3, k4, k5, k6, k7, k8⟩
    exact ⟨v, r, L1, g', σ', k1, k2, k3, k4, k5, k6, k7, hab _ _ _ k8⟩
  · rintro e a' w' ⟨x, L1, g', σ', k1, k2, k3, k4, k5, k6, k7, k8, k9⟩
    exact ⟨x, L1, g', σ', k1, k2, k3, k4, k5, k6, k7, k8, hab _ _ _ k9⟩

theorem oneAll_imp : ∀ {l : List SV} {p q : Prop}, (p → q) → oneAll l p → oneAll l q := by
  intro l
  induction l with
  | nil => intro p q h; exact h
  | cons x l ih =>
    intro p q h hh
    have key : ∀ {p q : Prop}, (p → q) → one1 x p → one1 x q := by
      intro p q hpq h
      cases x with
      | v y => cases y <;> first | exact hpq h | exact ⟨h.1, hpq h.2⟩
      | _ => first | exact hpq h | exact h.elim
    exact key (ih h) hh

theorem srcK_imp {x : SV} {sz : Nat} {L : List Chunk} {g : G} {A B : List Nat → Nat → List Value → Prop} (hab : ∀ k m l, A k m l → B k m l) (h : srcK x sz L g A) : srcK x sz L g B := by
  unfold srcK at *
  split at h
  · split at h
    · rename_i hc
      try simp only [hc]
      exact ⟨h.1, hab _ _ _ h.2⟩
    · exact h.elim
  · obtain ⟨xs, h1, h⟩ := h
    exact ⟨xs, h1, hab _ _ _ h⟩
  · exact h.elim
theorem natz_imp {m : Nat} {p q p' q' : Prop} (h1 : p → p') (h2 : q → q') (h : natz m p q) : natz m p' q' := by
  cases m
  · exact h1 h
  · exact h2 h
theorem hvZ_imp {z : ZOp} {vs : List SV} {L : List Chunk} {g : G} {chk : List Nat → List Nat → Bool} {A B : Out → List Chunk → G → Prop} (hab : ∀ o L g, A o L g → B o L g) (h : hvZ z vs L g chk A) : hvZ z vs L g chk B := by
  cases z with
  | set =>
    simp only [hvZ] at h ⊢
    split at h
    · exact ifOk_imp (fun h => nj_imp h (hab _ _ _)) h
    · exact h.elim
  | app e sz bytes zs =>
    simp only [hvZ] at h ⊢
    split at h
    case h_2 => exact h.elim
    case h_1 s x =>
      refine srcK_imp (fun kx m news h => ⟨h.1, ?_⟩) h
      replace h := h.2
      split at h
      · exact ifOk_imp (fun h => ⟨h.1, natz_imp (hab _ _ _) (fun h c sp h1 h2 h3 => hab _ _ _ (h c sp h1 h2 h3)) h.2⟩) h
      · refine ifOk_imp (fun h => ?_) h
        split at h
        · rename_i hp
          try simp only [hp]
          refine ifOk_imp (fun h => ?_) h
          obtain ⟨xs, sp, h1, h2, h3, h4, h5⟩ := h
          exact ⟨xs, sp, h1, h2, h3, h4, fun c sp h1 h2 h3 => hab _ _ _ (h5 c sp h1 h2 h3)⟩
        · rename_i hp
          try simp only [hp]
          split at h
          · rename_i hr
            try simp only [hr]
            refine ifOk_imp (fun h => ?_) h
            obtain ⟨xs, sp, h1, h2, h3, h4, h5, h6⟩ := h
            exact ⟨xs, sp, h1, h2, h3, h4, h5, fun c sp fz h1 h2 h3 h4 => hab _ _ _ (h6 c sp fz h1 h2 h3 h4)⟩
          · exact h.elim
      · exact h.elim

theorem famStore_imp {chk : List Nat → List Nat → Bool} {L : List Chunk} {g : G} {n : Nat} {ad : Addr} {xs : List Value} {A B : Out → List Chunk → G → Prop} (hab : ∀ o L g, A o L g → B o L g) (h : famStore chk L g n ad xs A) : famStore chk L g n ad xs B := by
  obtain ⟨⟨k, H, ty, c, h⟩⟩ := h
  refine ⟨⟨k, H, ty, c, ?_⟩⟩
  exact ifOk_imp (fun h => ⟨h.1, h.2.1, h.2.2.1, h.2.2.2.1, h.2.2.2.2.1, h.2.2.2.2.2.1, hab _ _ _ h.2.2.2.2.2.2⟩) h
theorem hv_imp {P : Program} {X : XOp} {e : Operand → SV} {L : List Chunk} {g : G} {chk : List Nat → List Nat → Bool} {A B : Out → List Chunk → G → Prop} (hab : ∀ o L g, A o L g → B o L g) (h : hv P X e L g chk A) : hv P X e L g chk B := by
  cases X <;> simp only [hv] at h ⊢
  case store n a x =>
    split at h
    case h_3 => exact h.elim
    case h_2 ad ha =>
      try simp only [ha]
      split at h
      case h_3 => exact h.elim
      case h_2 l hy =>
        try simp only [hy]
        split at h
        case h_2 => exact h.elim
        case h_1 xs hxs =>
          try simp only [hxs]
          exact famStore_imp hab h
      case h_1 y hy =>
        try simp only [hy]
        exact famStore_imp hab h
    case h_1 k off ha =>
      try simp only [ha]
      refine ifOk_imp (fun h => ?_) h
      split at h
      case h_1 ty c hc =>
        try simp only [hc]
        refine nj_imp h fun h => ?_
        unfold ifle at *
        exact ifOk_imp (ifOk_imp (oneAll_imp (hab _ _ _))) h
      case h_2 ty c hc =>
        try simp only [hc]
        split at h
        case h_3 => exact h.elim
        case h_2 l hy =>
          try simp only [hy]
          split at h
          case h_2 => exact h.elim
          case h_1 xs hxs =>
            try simp only [hxs]
            exact ⟨h.1, h.2.1, h.2.2.1, hab _ _ _ h.2.2.2⟩
        case h_1 y hy =>
          try simp only [hy]
          exact ⟨h.1, h.2.1, h.2.2.1, hab _ _ _ h.2.2.2⟩
      case h_3 ty c fz hc =>
        try simp only [hc]
        split at h
        case h_2 => exact h.elim
        case h_1 y hy =>
          try simp only [hy]
          exact ⟨h.1, h.2.1, h.2.2.1, h.2.2.2.1, hab _ _ _ h.2.2.2.2⟩
      case h_4 => exact h.elim
  case call f args => exact njL_imp _ _ _ (fun as h => CallX.mono hab h) h
  case callv x args =>
    split at h
    case h_2 => exact h.elim
    case h_1 f a b hb => (try simp only [hb]); exact njL_imp _ _ _ (fun as h => CallX.mono hab h) h
  case eff z args => exact hvZ_imp hab h
  case prim op args => exact njL_imp _ _ _ (fun vs h => PrimX.mono hab h) h

theorem dRun_imp {P : Program} {ds : List Nat} {d : DOp} {acc : List Acc} {fr : List SV} {L : List Chunk} {g : G} {next next' : List Acc → List SV → List Chunk → G → Prop} {K K' : KT}
    (hn : ∀ acc r L g, next acc (putO fr d.x.dst r) L g → next' acc (putO fr d.x.dst r) L g) (hp : ∀ x fr L g, K (.pan x) fr L g → K' (.pan x) fr L g) (h : dRun fm P ds d acc fr L g next K) : dRun fm P ds d acc fr L g next' K' := by
  unfold dRun at *
  cases hl : d.x.x.light with
  | true =>
    simp only [hl, fN_eq, lenK_eq, numK_eq] at h ⊢
    refine ifOk_imp (lt_imp fun r c h => ?_) h
    rw [fR_eq] at h ⊢
    refine ifOk_imp (fun h => ?_) h
    cases c with
    | none => simp only [forceO_eq] at h ⊢; exact hn _ _ _ _ h
    | some c =>
      refine ifOk_imp (fun h => ?_) h
      simp only [forceO_eq, fL_eq] at h ⊢
      exact hn _ _ _ _ h
  | false =>
    simp only [hl] at h ⊢
    refine hv_imp (fun o L1 g1 h => ?_) h
    cases o with
    | ret r =>
      simp only [fR_eq, fL_eq] at h ⊢
      refine ifOk_imp (fun h => ?_) h
      simp only [forceO_eq] at h ⊢
      exact hn _ _ _ _ h
    | pan x => exact hp _ _ _ _ h

theorem dStep_imp {P : Program} {ds : List Nat} {d : DOp} {acc : List Acc} {fr : List SV} {L : List Chunk} {g : G} {next next' : List Acc → List SV → List Chunk → G → Prop} {K K' : KT}
    (hn : ∀ acc r L g, next acc (putO fr d.x.dst r) L g → next' acc (putO fr d.x.dst r) L g) (hp : ∀ x fr L g, K (.pan x) fr L g → K' (.pan x) fr L g) (h : dStep fm P ds d acc fr L g next K) : dStep fm P ds d acc fr L g next' K' := by
  have sk : dSkip d acc fr L g next → dSkip d acc fr L g next' := fun h => by
    unfold dSkip at *
    rw [forceO_eq] at *
    exact hn _ _ _ _ h
  unfold dStep at *
  split
  · rename_i hg; rw [hg] at h; exact dRun_imp hn hp h
  · rename_i t want hg
    rw [hg] at h
    simp only at h
    split
    · rename_i b hb
      rw [hb] at h
      have put2 : ∀ c, c = b → put fr t (.v (.bool c)) = fr := fun c hc => put_same _ _ _ (by rw [hb, hc]) (by simp)
      rcases bsplit_elim h with ⟨rfl, h2⟩ | ⟨rfl, h2⟩
      · rw [force_eq, put2 true rfl] at h2
        show force _ _
        rw [force_eq, put2 true rfl]
        cases want
        · exact sk h2
        · exact dRun_imp hn hp h2
      · rw [force_eq, put2 false rfl] at h2
        show force _ _
        rw [force_eq, put2 false rfl]
        cases want
        · exact dRun_imp hn hp h2
        · exact sk h2
    · rename_i c hc; rw [hc] at h; exact sk h
    · rename_i h1 h2
      split at h
      · rename_i b hb; exact absurd hb (h1 b)
      · rename_i c hc; exact absurd hc (h2 c)
      · exact h.elim


theorem dR_mono {P : Program} {ds : List Nat} {K K' : KT} (hk : ∀ e fr L g, K e fr L g → K' e fr L g) : ∀ (l : List DOp) (acc : List Acc) (fr : List SV) (L : List Chunk) (g : G), dR fm P ds l acc fr L g K → dR fm P ds l acc fr L g K'
  | [], acc, fr, L, g, h => hk _ _ _ _ h
  | d :: l, acc, fr, L, g, h => by
    rw [dR_cons] at h ⊢
    exact dStep_imp (fun acc r L g h => dR_mono hk l acc _ L g h) (fun x fr L g h => hk _ _ _ _ h) h
theorem dT_mono {P : Program} {ds : List Nat} {K K' : KT} (hk : ∀ e fr L g, K e fr L g → K' e fr L g) : ∀ (t : DT) (acc : List Acc) (fr : List SV) (L : List Chunk) (g : G), dT fm P ds t acc fr L g K → dT fm P ds t acc fr L g K'
  | .nil, acc, fr, L, g, h => hk _ _ _ _ h
  | .step d t, acc, fr, L, g, h => by
    rw [dT_step] at h ⊢
    exact dStep_imp (fun acc r L g h => dT_mono hk t acc _ L g h) (fun x fr L g h => hk _ _ _ _ h) h
  | .alt a b, acc, fr, L, g, h => ⟨dT_mono hk a acc fr L g h.1, dT_mono hk b acc fr L g h.2⟩
theorem vOps_mono {P : Program} {K K' : KT} (hk : ∀ e fr L g, K e fr L g → K' e fr L g) : ∀ (l : List XOper) (fr : List SV) (L : List Chunk) (g : G), vOps fm P l fr L g K → vOps fm P l fr L g K'
  | [], fr, L, g, h => hk _ _ _ _ h
  | o :: l, fr, L, g, h => by
    rw [vOps_cons] at h ⊢
    exact dStep_imp (fun acc r L g h => vOps_mono hk l _ L g h) (fun x fr L g h => hk _ _ _ _ h) h
theorem vSpl_mono {P : Program} {n0 : Nat} {gi : G} {K K' : KT} (hk : ∀ e fr L g, K e fr L g → K' e fr L g) : ∀ (l : List (List XOper)) (fr : List SV) (L : List Chunk) (g : G), vSpl fm P n0 gi l fr L g K → vSpl fm P n0 gi l fr L g K'
  | [], fr, L, g, h => hk _ _ _ _ h
  | x :: l, fr, L, g, h => by
    rw [vSpl_cons] at h ⊢
    refine vOps_mono (fun e fr L g h' => ?_) x fr L g h
    cases e with
    | normal =>
      refine ⟨fun df σ0 L0 g0 w0 σ a w h0 h1 I hg => ?_⟩
      obtain ⟨fr1, L1, g1, σ1, I1, hg1, hb⟩ := TurnW.body h' df σ0 L0 g0 w0 σ a w h0 h1 I hg
      exact ⟨fr1, L1, g1, σ1, I1, hg1, vSpl_mono hk l _ _ _ hb⟩
    | exit j => exact hk _ _ _ _ h'
    | ret => exact hk _ _ _ _ h'
    | pan x => exact hk _ _ _ _ h'
theorem vC_mono {P : Program} {n0 : Nat} {gi : G} : ∀ (c : YC) {fr : List SV} {L : List Chunk} {g : G} {K K' : KT}, vC fm P n0 gi c fr L g K → (∀ e fr L g, K e fr L g → K' e fr L g) → vC fm P n0 gi c fr L g K' := by
  intro c
  induction c with
  | skip => intro fr L g K K' h hk; exact hk _ _ _ _ h
  | exit id => intro fr L g K K' h hk; exact hk _ _ _ _ h
  | ret => intro fr L g K K' h hk; exact hk _ _ _ _ h
  | ops l => intro fr L g K K' h hk; exact vOps_mono hk l fr L g h
  | draw ds l => intro fr L g K K' h hk; exact dR_mono hk l [] fr L g h
  | alts ds t => intro fr L g K K' h hk; exact dT_mono hk t [] fr L g h
  | seq a b iha ihb =>
    intro fr L g K K' h hk
    refine iha (show vC fm P n0 gi a fr L g _ from h) fun e fr' L' g' h' => ?_
    cases e with
    | normal => exact ihb h' hk
    | exit j => exact hk _ _ _ _ h'
    | ret => exact hk _ _ _ _ h'
    | pan x => exact hk _ _ _ _ h'
  | cond c a b iha ihb =>
    intro fr L g K K' h hk
    rw [vC_cond] at h ⊢
    obtain ⟨t, ht, h⟩ := condW_elim h
    rw [ht]
    exact bsplit_imp (fun h => iha h hk) (fun h => ihb h hk) h
  | block id a ih =>
    intro fr L g K K' h hk
    refine ih (show vC fm P n0 gi a fr L g _ from h) fun e fr' L' g' h' => ?_
    cases e with
    | normal => exact hk _ _ _ _ h'
    | exit j =>
      simp only [blockK] at h' ⊢
      split at h'
      · exact hk _ _ _ _ h'
      · exact hk _ _ _ _ h'
    | ret => exact hk _ _ _ _ h'
    | pan x => exact hk _ _ _ _ h'
  | loop m a ih =>
    intro fr L g K K' h hk
    rw [vC_loop] at h ⊢
    rw [LoopW_eq] at h ⊢
    intro hs hL hn
    obtain ⟨I, n, ρ, fr1, L1, g1, hw, hI, hround⟩ := h hs hL hn
    refine ⟨I, n, ρ, fr1, L1, g1, hw, hI, fun n fr L g hI => ih (hround n fr L g hI) fun e fr' L' g' h' => ?_⟩
    cases e with
    | normal => exact h'
    | exit j => exact hk _ _ _ _ h'
    | ret => exact hk _ _ _ _ h'
    | pan x => exact hk _ _ _ _ h'
  | jn m a ih =>
    intro fr L g K K' h hk
    rw [vC_jn] at h ⊢
    rw [JoinW_eq] at h ⊢
    intro hs hL hn
    refine ih (h hs hL hn) fun e fr' L' g' h' => ?_
    cases e with
    | normal => obtain ⟨ρ, fr1, L1, g1, hw, h'⟩ := h'; exact ⟨ρ, fr1, L1, g1, hw, hk _ _ _ _ h'⟩
    | exit j => exact hk _ _ _ _ h'
    | ret => exact hk _ _ _ _ h'
    | pan x => exact hk _ _ _ _ h'
  | spl l => intro fr L g K K' h hk; exact vSpl_mono hk l fr L g h
  | fz a ih =>
    intro fr L g K K' h hk
    rw [vC_fz] at h ⊢
    refine ⟨fun df σ0 L0 g0 w0 σ a w h0 h1 I hg => ?_⟩
    obtain ⟨fr1, L1, g1, σ1, I1, hg1, hb⟩ := h.body df σ0 L0 g0 w0 σ a w h0 h1 I hg
    exact ⟨fr1, L1, g1, σ1, I1, hg1, ih hb hk⟩

/-- Slots that lead to blocks that are to be named anew are forgotten. -/
def junkV (mv : List Nat) : List SV → List SV
  | [] => []
  | x :: l => (match offS mv x with | true => x | false => .junk) :: junkV mv l
def forceV (mv : List Nat) (fr : List SV) (K : List SV → Prop) : Prop :=
  match mv with
  | [] => K fr
  | mv => forceE (junkV mv fr) K
theorem offS_nil (x : SV) : offS [] x = true := rfl
theorem junkV_nil : ∀ fr : List SV, junkV [] fr = fr
  | [] => rfl
  | x :: l => by rw [junkV, junkV_nil l]; rfl
theorem forceV_eq (mv : List Nat) (fr : List SV) (K : List SV → Prop) : forceV mv fr K = K (junkV mv fr) := by
  cases mv with
  | nil => rw [junkV_nil]; rfl
  | cons x l => exact forceE_eq _ _
theorem junkV_length (mv : List Nat) : ∀ fr : List SV, (junkV mv fr).length = fr.length
  | [] => rfl
  | x :: l => by simp [junkV, junkV_length mv l]
theorem get_junkV (mv : List Nat) : ∀ (fr : List SV) (i : Nat), get (junkV mv fr) i = .junk ∨ (get (junkV mv fr) i = get fr i ∧ offS mv (get fr i) = true)
  | [], i => .inl rfl
  | x :: l, 0 => by
    rw [junkV]
    cases h : offS mv x
    · exact .inl rfl
    · exact .inr ⟨rfl, h⟩
  | x :: l, i + 1 => get_junkV mv l i

/-- The slots that the body leaves alone, and that are known at the head: what they hold. -/
def pickF : List Bool → List SV → List SV → List SV
  | _, [], _ => []
  | _, _ :: _, [] => []
  | [], h :: hs, f :: fs => match isJunk h with
    | true => pickF [] hs fs
    | false => f :: pickF [] hs fs
  | true :: m, _ :: hs, _ :: fs => pickF m hs fs
  | false :: m, h :: hs, f :: fs => match isJunk h with
    | true => pickF m hs fs
    | false => f :: pickF m hs fs

theorem pickF_get : ∀ (m : List Bool) (h f : List SV) (i : Nat), f.length = h.length → pickF m h f = pickF m h h → m.getD i false = false → get h i ≠ .junk → get f i = get h i
  | m, [], f, i, hl, _, _, hj => absurd rfl hj
  | m, x :: hs, [], i, hl, _, _, _ => by simp at hl
  | [], x :: hs, y :: fs, i, hl, e, hm, hj => by
    cases i with
    | zero =>
      have hx : isJunk x = false := by cases x <;> first | rfl | exact absurd rfl hj
      simp only [pickF, hx, List.cons.injEq] at e
      exact e.1
    | succ i =>
      refine pickF_get [] hs fs i (by simpa using hl) ?_ rfl hj
      cases hx : isJunk x <;> simp only [pickF, hx, List.cons.injEq] at e
      · exact e.2
      · exact e
  | true :: m, x :: hs, y :: fs, i, hl, e, hm, hj => by
    cases i with
    | zero => simp at hm
    | succ i => exact pickF_get m hs fs i (by simpa using hl) (by simpa only [pickF] using e) (by simpa using hm) hj
  | false :: m, x :: hs, y :: fs, i, hl, e, hm, hj => by
    cases i with
    | zero =>
      have hx : isJunk x = false := by cases x <;> first | rfl | exact absurd rfl hj
      simp only [pickF, hx, List.cons.injEq] at e
      exact e.1
    | succ i =>
      refine pickF_get m hs fs i (by simpa using hl) ?_ (by simpa using hm) hj
      cases hx : isJunk x <;> simp only [pickF, hx, List.cons.injEq] at e
      · exact e.2
      · exact e

def renV (f : Nat → Nat) : List (Nat × SV) → List (Nat × SV)
  | [] => []
  | (t, v) :: l => (t, v.ren f) :: renV f l
def fixOk (n0 : Nat) (mv : List Nat) : List Nat → Nat → Bool
  | [], _ => true
  | k :: ρ, i => (Nat.beq k i || (Nat.ble n0 i && mv.contains i)) && fixOk n0 mv ρ (i + 1)
theorem fixOk_spec {n0 : Nat} {mv : List Nat} : ∀ {ρ : List Nat} {i : Nat}, fixOk n0 mv ρ i = true → ∀ j, j < ρ.length → getN ρ j = i + j ∨ (n0 ≤ i + j ∧ i + j ∈ mv)
  | [], i, _, j, hj => by simp at hj
  | k :: ρ, i, h, j, hj => by
    simp only [fixOk, Bool.and_eq_true, Bool.or_eq_true] at h
    cases j with
    | zero =>
      rcases h.1 with h1 | h1
      · exact .inl (Nat.eq_of_beq_eq_true h1)
      · exact .inr ⟨by simpa using Nat.le_of_ble_eq_true h1.1, by simpa using h1.2⟩
    | succ j =>
      have := fixOk_spec h.2 j (by simpa using hj)
      rw [show i + (j + 1) = i + 1 + j by omega]
      exact this

/-- The check on a loop's relation. -/
def okT (m : List Bool) (c : YC) (n _n0 : Nat) (vals : List (Nat × SV)) (Ls : List Chunk) : Bool :=
  maskB m (dsts c) && (inD (dsts c) vals && (scV Ls.length vals && (scHB Ls.length Ls && Nat.ble n Ls.length)))

/-- Back at a round's head, with some blocks named anew. -/
def Back (n0 : Nat) (mv : List Nat) (m : List Bool) (hd : List SV) (vals : List (Nat × SV)) (Ls : List Chunk) (gs : G) (fr : List SV) (L : List Chunk) (g : G) : Prop :=
  ∃ ρ : List Nat, (nodupB ρ && (Nat.beq ρ.length Ls.length && fixOk n0 mv ρ 0)) = true ∧ trk fr (renV (getN ρ) vals) ∧ ρ.map (nthC L) = renC (getN ρ) Ls ∧ g = gs ∧ fr.length = hd.length ∧ pickF m hd fr = pickF m hd hd

mutual
theorem ren_fix {f : Nat → Nat} {p : Nat → Bool} (e : ∀ k, p k = true → f k = k) : ∀ x : SV, x.on p = true → x.ren f = x
  | .junk, _ => rfl
  | .v _, _ => rfl
  | .ptr k o, hx => by simp only [SV.ren, e k (by simpa [SV.on] using hx)]
  | .slc k o a b, hx => by simp only [SV.ren, e k (by simpa [SV.on] using hx)]
  | .mp k, hx => by simp only [SV.ren, e k (by simpa [SV.on] using hx)]
  | .fn q a b, hx => by
    simp only [SV.on, Bool.and_eq_true] at hx
    simp only [SV.ren, renL_fix e a hx.1, renL_fix e b hx.2]
  | .iface t x, hx => by simp only [SV.ren, ren_fix e x (by simpa [SV.on] using hx)]
  | .agg l, hx => by simp only [SV.ren, renL_fix e l (by simpa [SV.on] using hx)]
  | .tup l, hx => by simp only [SV.ren, renL_fix e l (by simpa [SV.on] using hx)]
theorem renL_fix {f : Nat → Nat} {p : Nat → Bool} (e : ∀ k, p k = true → f k = k) : ∀ l : List SV, onL p l = true → renL f l = l
  | [], _ => rfl
  | x :: l, hx => by
    simp only [onL, Bool.and_eq_true] at hx
    simp only [renL, ren_fix e x hx.1, renL_fix e l hx.2]
end

theorem trk_setAll : ∀ (l : List (Nat × SV)) (fr F : List SV) (f : Nat → Nat) (i : Nat), trk F (renV f l) → F.length = fr.length →
    (get F i = (get (setAll fr l) i).ren f) ∨ get (setAll fr l) i = get fr i
  | [], _, _, _, _, _, _ => .inr rfl
  | (t, v) :: l, fr, F, f, i, h, hl => by
    rw [setAll]
    rcases trk_setAll l (put fr t v) F f i h.2 (by rw [put_length]; exact hl) with h1 | h1
    · exact .inl h1
    · rw [h1, get_put]
      by_cases hc : t = i ∧ t < fr.length
      · rw [if_pos hc]
        obtain ⟨rfl, _⟩ := hc
        exact .inl h.1
      · rw [if_neg hc]
        exact .inr rfl

theorem ren_id (x : SV) : x.ren (fun k => k) = x := ren_fix (p := fun _ => true) (fun _ _ => rfl) x (by simpa using offS_on (ms := []) (x := x) rfl)
theorem renC_id (c : Chunk) : c.ren (fun k => k) = c := by
  cases c with
  | cells ty l => simp only [Chunk.ren, renL_fix (f := fun k => k) (p := fun _ => true) (fun _ _ => rfl) l (onL_mem.2 fun x _ => by simpa using offS_on (ms := []) (x := x) rfl)]
  | _ => rfl
theorem renV_id : ∀ l : List (Nat × SV), renV (fun k => k) l = l
  | [] => rfl
  | (t, v) :: l => by rw [renV, renV_id l, ren_id]

/-- **The rule for loops**: what the named slots and the blocks at hand hold at each round's head, by a parameter; a measure. -/
theorem loop_rule {P : Program} {n0 : Nat} {gi : G} {m : List Bool} {c : YC} {fr : List SV} {L : List Chunk} {g : G} {K : KT} {α : Type} (mv : List Nat) (vals : α → List (Nat × SV)) (Ls : α → List Chunk) (gs : α → G) (φ : α → Prop) (μ : α → Nat) (x0 : α)
    (hok : ∀ x, okT m c L.length n0 (vals x) (Ls x) = true) (h0 : φ x0) (ht : trk fr (vals x0)) (hL0 : L = Ls x0) (hg0 : g = gs x0)
    (round : forceV mv fr fun fv => ∀ x, φ x → forceU fv m (vals x) fun hd => vC fm P n0 gi c hd (Ls x) (gs x) fun e fr' L' g' => match e with
      | .normal => ∃ y, φ y ∧ μ y < μ x ∧ Back n0 mv m hd (vals y) (Ls y) (gs y) fr' L' g'
      | .exit j => K (.exit j) fr' L' g'
      | .ret => K .ret fr' L' g'
      | .pan x => K (.pan x) fr' L' g') : LoopW P n0 gi m c (fun fr L g K => vC fm P n0 gi c fr L g K) fr L g K := by
  rw [LoopW_eq]
  intro hs hL hn
  rw [forceV_eq] at round
  have spec : ∀ x, maskB m (dsts c) = true ∧ inD (dsts c) (vals x) = true ∧ scV (Ls x).length (vals x) = true ∧ scHB (Ls x).length (Ls x) = true ∧ L.length ≤ (Ls x).length := by
    intro x
    have := hok x
    simp only [okT, Bool.and_eq_true, Nat.ble_eq] at this
    exact this
  have hm := maskB_spec (spec x0).1
  have hsV : scL L.length (junkV mv fr) = true := by
    have : ∀ l : List SV, scL L.length l = true → scL L.length (junkV mv l) = true := by
      intro l
      induction l with
      | nil => intro h; exact h
      | cons x l ih =>
        intro h
        simp only [scL, Bool.and_eq_true] at h
        rw [junkV]
        cases offS mv x
        · simp [scL, SV.sc, ih h.2]
        · simp [scL, h.1, ih h.2]
    exact this fr hs
  have scT : ∀ x, scL (Ls x).length (upd (junkV mv fr) m (vals x)) = true := fun x => sc_setAll _ _ (sc_junkM _ _ (scL_mono (spec x).2.2.2.2 _ hsV)) (spec x).2.2.1
  have lenT : ∀ x, (upd (junkV mv fr) m (vals x)).length = fr.length := fun x => by rw [upd, setAll_length, junkM_length, junkV_length]
  have far : ∀ i, i ∉ dsts c → m.getD i false = false := fun i hi => by
    cases h : m.getD i false with
    | false => rfl
    | true => exact absurd ((hm i).1 h) hi
  have farT : ∀ x i, i ∉ dsts c → get (upd (junkV mv fr) m (vals x)) i = get (junkV mv fr) i := fun x i hi => by rw [upd, get_setAll_not _ _ i _ (spec x).2.1 hi, (get_junkM _ _ i).2 (far i hi)]
  refine ⟨fun n fr1 L1 g1 => ∃ x, φ x ∧ μ x = n ∧ fr1 = upd (junkV mv fr) m (vals x) ∧ L1 = Ls x ∧ g1 = gs x, μ x0, fun k => k, _, _, _, ?_, ⟨x0, h0, rfl, rfl, rfl, rfl⟩, ?_⟩
  · refine ⟨fun _ _ => rfl, fun _ _ _ _ e => e, by rw [← hL0]; exact hn, fun k c hk _ => by rw [renC_id, hL0]; exact hk, ⟨lenT x0, fun i => ?_⟩, hg0.symm, scT x0, scHB_scH.1 (spec x0).2.2.2.1⟩
    rw [ren_id]
    by_cases hi : i ∈ dsts c
    · rcases get_setAll (vals x0) (junkM (junkV mv fr) m) i fr ht (by rw [junkM_length, junkV_length]) with h1 | h1
      · exact .inr h1.symm
      · exact .inl (h1.trans ((get_junkM _ _ i).1 ((hm i).2 hi)))
    · rw [farT x0 i hi]
      rcases get_junkV mv fr i with h1 | h1
      · exact .inl h1
      · exact .inr h1.1.symm
  · rintro n fr1 L1 g1 ⟨x, hx, rfl, rfl, rfl, rfl⟩
    have hr := round x hx
    rw [forceU_eq] at hr
    refine vC_mono c hr fun e fr2 L2 g2 h2 => ?_
    cases e with
    | normal =>
      obtain ⟨y, hy, hlt, ρ, hb, hty, hLy, hgy, hfl, hpk⟩ := h2
      simp only [Bool.and_eq_true] at hb
      obtain ⟨hb1, hb2, hb3⟩ := hb
      have hnd := nodupB_spec hb1
      have hρl := Nat.eq_of_beq_eq_true hb2
      have hfix := fixOk_spec hb3
      refine ⟨μ y, getN ρ, upd (junkV mv fr) m (vals y), Ls y, gs y, hlt, ⟨fun j hj => ?_, fun i j hi hj e => getN_inj hnd (by omega) (by omega) e, Nat.le_trans hn (spec y).2.2.2.2, fun k c hk hh => ?_, ⟨by rw [lenT y, hfl, lenT x], fun i => ?_⟩, hgy.symm, scT y, scHB_scH.1 (spec y).2.2.2.1⟩, y, hy, rfl, rfl, rfl, rfl⟩
      · rcases hfix j (by have := (spec y).2.2.2.2; omega) with h1 | h1
        · simpa using h1
        · have := h1.1; omega
      · have hkl : k < ρ.length := by rw [hρl]; exact (List.getElem?_eq_some_iff.1 hk).1
        have h1 : (ρ.map (nthC L2))[k]? = some (c.ren (getN ρ)) := by rw [hLy, renC_get, hk]; rfl
        rw [List.getElem?_map, getN_get ρ k hkl] at h1
        simp only [Option.map_some, Option.some.injEq] at h1
        exact nthC_get L2 _ _ h1 (by rw [real_ren]; exact hh)
      · by_cases hi : i ∈ dsts c
        · rcases trk_setAll (vals y) (junkM (junkV mv fr) m) fr2 (getN ρ) i hty (by rw [hfl, lenT x, junkM_length, junkV_length]) with h1 | h1
          · exact .inr h1
          · exact .inl (h1.trans ((get_junkM _ _ i).1 ((hm i).2 hi)))
        · rw [farT y i hi]
          by_cases hj : get (junkV mv fr) i = .junk
          · exact .inl hj
          · right
            have h1 := pickF_get m _ fr2 i hfl hpk (far i hi) (by rw [farT x i hi]; exact hj)
            rw [h1, farT x i hi]
            rcases get_junkV mv fr i with h2 | ⟨h2, h3⟩
            · exact absurd h2 hj
            · rw [h2]
              refine (ren_fix (p := fun k => (!mv.contains k) && decide (k < L.length)) (fun k hk => ?_) _ ?_).symm
              · simp only [Bool.and_eq_true, decide_eq_true_eq] at hk
                rcases hfix k (by have := (spec y).2.2.2.2; omega) with h4 | h4
                · simpa using h4
                · have := hk.1; simp at h4; simp [h4.2] at this
              · refine on_and _ (offS_on h3) ?_
                rw [← on_sc]
                exact sc_get hs i
    | exit j => exact h2
    | ret => exact h2
    | pan x => exact h2

/-- **The rule for places where ways meet**: what the named slots and the blocks at hand hold there, by a parameter. -/
theorem join_rule {P : Program} {n0 : Nat} {gi : G} {m : List Bool} {c : YC} {fr : List SV} {L : List Chunk} {g : G} {K : KT} {α : Type} (mv : List Nat) (vals : α → List (Nat × SV)) (Ls : α → List Chunk) (gs : α → G) (φ : α → Prop)
    (hok : ∀ x, okT m c L.length n0 (vals x) (Ls x) = true)
    (way : forceV mv fr fun fv => vC fm P n0 gi c fr L g fun e fr' L' g' => match e with
      | .normal => ∃ y, φ y ∧ forceU fv m (vals y) fun hd => Back n0 mv m hd (vals y) (Ls y) (gs y) fr' L' g'
      | .exit j => K (.exit j) fr' L' g'
      | .ret => K .ret fr' L' g'
      | .pan x => K (.pan x) fr' L' g')
    (on : forceV mv fr fun fv => ∀ y, φ y → forceU fv m (vals y) fun hd => fL (Ls y) fun L => K .normal hd L (gs y)) : JoinW P n0 gi m c (fun fr L g K => vC fm P n0 gi c fr L g K) fr L g K := by
  rw [JoinW_eq]
  intro hs hL hn
  rw [forceV_eq] at way on
  have hsV : scL L.length (junkV mv fr) = true := by
    have : ∀ l : List SV, scL L.length l = true → scL L.length (junkV mv l) = true := by
      intro l
      induction l with
      | nil => intro h; exact h
      | cons x l ih =>
        intro h
        simp only [scL, Bool.and_eq_true] at h
        rw [junkV]
        cases offS mv x
        · simp [scL, SV.sc, ih h.2]
        · simp [scL, h.1, ih h.2]
    exact this fr hs
  refine vC_mono c way fun e fr2 L2 g2 h2 => ?_
  cases e with
  | normal =>
    obtain ⟨y, hy, h2⟩ := h2
    rw [forceU_eq] at h2
    obtain ⟨ρ, hb, hty, hLy, hgy, hfl, hpk⟩ := h2
    have on := on y hy
    rw [forceU_eq, fL_eq] at on
    have spec : maskB m (dsts c) = true ∧ inD (dsts c) (vals y) = true ∧ scV (Ls y).length (vals y) = true ∧ scHB (Ls y).length (Ls y) = true ∧ L.length ≤ (Ls y).length := by
      have := hok y
      simp only [okT, Bool.and_eq_true, Nat.ble_eq] at this
      exact this
    have hm := maskB_spec spec.1
    have scT : scL (Ls y).length (upd (junkV mv fr) m (vals y)) = true := sc_setAll _ _ (sc_junkM _ _ (scL_mono spec.2.2.2.2 _ hsV)) spec.2.2.1
    have lenT : (upd (junkV mv fr) m (vals y)).length = fr.length := by rw [upd, setAll_length, junkM_length, junkV_length]
    have far : ∀ i, i ∉ dsts c → m.getD i false = false := fun i hi => by
      cases h : m.getD i false with
      | false => rfl
      | true => exact absurd ((hm i).1 h) hi
    have farT : ∀ i, i ∉ dsts c → get (upd (junkV mv fr) m (vals y)) i = get (junkV mv fr) i := fun i hi => by rw [upd, get_setAll_not _ _ i _ spec.2.1 hi, (get_junkM _ _ i).2 (far i hi)]
    simp only [Bool.and_eq_true] at hb
    obtain ⟨hb1, hb2, hb3⟩ := hb
    have hnd := nodupB_spec hb1
    have hρl := Nat.eq_of_beq_eq_true hb2
    have hfix := fixOk_spec hb3
    refine ⟨getN ρ, upd (junkV mv fr) m (vals y), Ls y, gs y, ⟨fun j hj => ?_, fun i j hi hj e => getN_inj hnd (by omega) (by omega) e, Nat.le_trans hn spec.2.2.2.2, fun k c hk hh => ?_, ⟨hfl.symm, fun i => ?_⟩, hgy.symm, scT, scHB_scH.1 spec.2.2.2.1⟩, on⟩
    · rcases hfix j (by have := spec.2.2.2.2; omega) with h1 | h1
      · simpa using h1
      · have := h1.1; omega
    · have hkl : k < ρ.length := by rw [hρl]; exact (List.getElem?_eq_some_iff.1 hk).1
      have h1 : (ρ.map (nthC L2))[k]? = some (c.ren (getN ρ)) := by rw [hLy, renC_get, hk]; rfl
      rw [List.getElem?_map, getN_get ρ k hkl] at h1
      simp only [Option.map_some, Option.some.injEq] at h1
      exact nthC_get L2 _ _ h1 (by rw [real_ren]; exact hh)
    · by_cases hi : i ∈ dsts c
      · rcases trk_setAll (vals y) (junkM (junkV mv fr) m) fr2 (getN ρ) i hty (by rw [hfl, lenT, junkM_length, junkV_length]) with h1 | h1
        · exact .inr h1
        · exact .inl (h1.trans ((get_junkM _ _ i).1 ((hm i).2 hi)))
      · rw [farT i hi]
        by_cases hj : get (junkV mv fr) i = .junk
        · exact .inl hj
        · right
          have h1 := pickF_get m _ fr2 i hfl hpk (far i hi) (by rw [farT i hi]; exact hj)
          rw [h1, farT i hi]
          rcases get_junkV mv fr i with h2 | ⟨h2, h3⟩
          · exact absurd h2 hj
          · rw [h2]
            refine (ren_fix (p := fun k => (!mv.contains k) && decide (k < L.length)) (fun k hk => ?_) _ ?_).symm
            · simp only [Bool.and_eq_true, decide_eq_true_eq] at hk
              rcases hfix k (by have := spec.2.2.2.2; omega) with h4 | h4
              · simpa using h4
              · have := hk.1; simp at h4; simp [h4.2] at this
            · refine on_and _ (offS_on h3) ?_
              rw [← on_sc]
              exact sc_get hs i
  | exit j => exact h2
  | ret => exact h2
  | pan x => exact h2

/-! ### Slices that nobody writes -/

/-- A slice's length and address hold these cells (sz cells an element). -/
def SliceAt (g : G) (a : Option Addr) (n sz : Nat) (xs : List Value) : Prop :=
  xs.length = n * sz ∧ (0 < n → ∃ ad, a = some ad ∧ g.at ad xs)

theorem G.at.sub {g : G} {ad : Addr} {xs : List Value} (h : g.at ad xs) (off m : Nat) (hm : off + m ≤ xs.length) : g.at (ad.add off) ((xs.drop off).take m) := by
  obtain ⟨hs, c, ty, fz, hg, hc⟩ := h
  obtain ⟨b, o, sp⟩ := ad
  simp only at hs
  subst hs
  rw [add_cell]
  refine ⟨rfl, c, ty, fz, hg, fun i hi => ?_⟩
  simp only [List.length_take, List.length_drop] at hi
  simp only at hc ⊢
  rw [List.getElem?_take, if_pos (by omega), List.getElem?_drop, ← hc (off + i) (by omega), Nat.add_assoc]

theorem SliceAt.elem {g : G} {a : Option Addr} {n sz : Nat} {xs : List Value} (h : SliceAt g a n sz xs) {i : Nat} (hi : i < n) : ∃ ad, a = some ad ∧ g.at (ad.add (i * sz)) ((xs.drop (i * sz)).take sz) := by
  obtain ⟨ad, ha, hat⟩ := h.2 (by omega)
  refine ⟨ad, ha, hat.sub _ _ ?_⟩
  rw [h.1]
  have := Nat.mul_le_mul_right sz (show i + 1 ≤ n by omega)
  rw [Nat.add_mul] at this
  omega

theorem G.at.mono {g g' : G} (h : G.le g g') {ad : Addr} {xs : List Value} (hat : g.at ad xs) : g'.at ad xs := by
  obtain ⟨hs, c, ty, fz, hg, hc⟩ := hat
  exact ⟨hs, c, ty, fz, h _ _ hg, hc⟩
theorem SliceAt.mono {g g' : G} (h : G.le g g') {a : Option Addr} {n sz : Nat} {xs : List Value} (hat : SliceAt g a n sz xs) : SliceAt g' a n sz xs :=
  ⟨hat.1, fun hn => by obtain ⟨ad, h1, h2⟩ := hat.2 hn; exact ⟨ad, h1, h2.mono h⟩⟩

/-- The cells of the i-th of many alike. -/
theorem flatMap_at {α β : Type} (f : α → List β) (sz : Nat) (hf : ∀ x, (f x).length = sz) : ∀ (l : List α) (i : Nat) (x : α), l[i]? = some x → ((l.flatMap f).drop (i * sz)).take sz = f x := by
  intro l
  induction l with
  | nil => intro i x h; simp at h
  | cons y l ih =>
    intro i x h
    cases i with
    | zero =>
      simp only [List.getElem?_cons_zero, Option.some.injEq] at h
      subst h
      simp [List.flatMap_cons, hf]
    | succ i =>
      have := ih i x (by simpa using h)
      rw [List.flatMap_cons, Nat.add_mul, Nat.one_mul, Nat.add_comm, ← List.drop_drop, List.drop_append_of_le_length (by rw [hf]; omega), show (f y).drop sz = [] from List.drop_of_length_le (by rw [hf]; omega), List.nil_append]
      exact this
theorem flatMap_len {α β : Type} (f : α → List β) (sz : Nat) (hf : ∀ x, (f x).length = sz) (l : List α) : (l.flatMap f).length = l.length * sz := by
  induction l with
  | nil => simp
  | cons y l ih => rw [List.flatMap_cons, List.length_append, ih, hf, List.length_cons, Nat.add_mul]; omega

/-! ### Small facts for ends of walks -/

theorem vb {c : Bool} {p : Prop} [Decidable p] (h : c = true ↔ p) : SV.v (.bool c) = .v (.bool (decide p)) := by
  congr 2
  rw [Bool.eq_iff_iff, h, decide_eq_true_iff]
theorem vbB {c d : Bool} (h : c = true ↔ d = true) : SV.v (.bool c) = .v (.bool d) := by
  congr 2
  rw [Bool.eq_iff_iff, h]
theorem vi {k : IntKind} {a b : Int} (h : a = b) : SV.v (.int k a) = .v (.int k b) := by rw [h]

theorem wrap_id {a : Int} (h1 : -9223372036854775808 ≤ a) (h2 : a ≤ 9223372036854775807) : IntKind.i64.wrap a = a := by
  simp only [IntKind.wrap, IntKind.signed, IntKind.bits]
  simp
  omega

end Go.Sx
end

/- A symbolic executor of my own, second design, part 14: contracts that tell the answer; from a law's contract to its row. Conditions: none; it speaks of any program. -/
section
namespace Go.Sx

/-! ### Calls -/

/-- A contract that tells the answer: nothing at hand is touched. -/
def Tells (P : Program) (f : FuncId) (args : List SV) (g : G) (r0 : SV) : Prop :=
  Meets P f args [] g fun o L' g' => o = .ret r0 ∧ L' = [] ∧ g' = g

theorem sc0_ren {f : Nat → Nat} {x : SV} (h : x.sc 0 = true) : x.ren f = x := by
  rw [on_sc] at h
  exact ren_fix (fun k hk => by simp at hk) x h
theorem scL0_ren {f : Nat → Nat} {l : List SV} (h : scL 0 l = true) : renL f l = l := by
  rw [onL_sc] at h
  exact renL_fix (fun k hk => by simp at hk) l h

theorem CallX_of {P : Program} {f : FuncId} {as : List SV} {L : List Chunk} {g : G} {chk : List Nat → List Nat → Bool} {K : Out → List Chunk → G → Prop} (ids : List Nat) (hc : chk [] ids = true) (h : CallV P f as L g [] ids K) : CallX P f as L g chk K := by
  rw [CallX_eq]
  exact ⟨[], ids, hc, h⟩

/-- A call by a contract that asks nothing of the blocks at hand. -/
theorem Meets.call0 {P : Program} {f : FuncId} {as : List SV} {g : G} {post : Out → List Chunk → G → Prop} (h : Meets P f as [] g post) {L : List Chunk} {chk : List Nat → List Nat → Bool} {K : Out → List Chunk → G → Prop} (h0 : scL 0 as = true) (hc : chk [] [] = true) (n : Nat) (hn : L.length = n)
    (k : ∀ o L1 g', post o L1 g' → K (o.ren fun j => n + j) (L ++ renC (fun j => n + j) L1) g') : CallX P f as L g chk K := by
  subst hn
  refine CallX_of [] hc (callV_sub [] h List.nodup_nil (by simp) rfl (scL0_ren h0).symm (fun j k hj => by simp at hj) h0 (fun k ty c hk => by simp at hk) fun out L1 g' hp _ => by
    have e : toBig L.length [] = fun j => L.length + j := funext fun j => by simp [toBig]
    rw [e, updL]
    exact k out L1 g' hp)

theorem Tells.call {P : Program} {f : FuncId} {as : List SV} {g : G} {r0 : SV} (h : Tells P f as g r0) {L : List Chunk} {chk : List Nat → List Nat → Bool} {K : Out → List Chunk → G → Prop} (h0 : scL 0 as = true) (hs : r0.sc 0 = true) (hc : chk [] [] = true) (k : K (.ret r0) L g) : CallX P f as L g chk K := by
  refine Meets.call0 h h0 hc L.length rfl ?_
  rintro o L1 g' ⟨rfl, rfl, rfl⟩
  rw [Out.ren, sc0_ren hs, renC, List.append_nil]
  exact k

/-- A call by a contract that speaks of some blocks at hand. -/
theorem Meets.callS {P : Program} {f : FuncId} {as0 : List SV} {L0 : List Chunk} {g : G} {post : Out → List Chunk → G → Prop} (h : Meets P f as0 L0 g post) (ids : List Nat) (n : Nat) {as : List SV} {L : List Chunk} {chk : List Nat → List Nat → Bool} {K : Out → List Chunk → G → Prop}
    (hn : L.length = n) (hb : (nodupB ids && (ids.all (fun k => Nat.blt k n) && (Nat.beq L0.length ids.length && (scL L0.length as0 && (scHB L0.length L0 && chk [] ids))))) = true) (has : as = renL (toBig n ids) as0) (hL0 : ids.map (nthC L) = renC (toBig n ids) L0)
    (k : ∀ o L1 g', post o L1 g' → L0.length ≤ L1.length → K (o.ren (toBig n ids)) (updL L ids (renC (toBig n ids) L1)) g') : CallX P f as L g chk K := by
  subst hn
  simp only [Bool.and_eq_true, List.all_eq_true, Nat.blt_eq] at hb
  obtain ⟨h1, h2, h3, h4, h5, h6⟩ := hb
  have hl := Nat.eq_of_beq_eq_true h3
  refine CallX_of ids h6 (callV_sub ids h (nodupB_spec h1) h2 hl has (fun j k hj => ?_) h4 (scHB_scH.1 h5) k)
  have hjl : j < L0.length := by rw [hl]; exact (List.getElem?_eq_some_iff.1 hj).1
  refine ⟨L0[j], List.getElem?_eq_getElem hjl, ?_⟩
  have e : (ids.map (nthC L))[j]? = (renC (toBig L.length ids) L0)[j]? := by rw [hL0]
  rw [List.getElem?_map, hj, renC_get, List.getElem?_eq_getElem hjl] at e
  simp only [Option.map_some, Option.some.injEq] at e
  rw [← e]
  have hk := h2 k (List.mem_of_getElem? hj)
  rw [List.getElem?_eq_getElem hk, nthC_some L k _ (List.getElem?_eq_getElem hk)]

/-- The same, of blocks that are only read. -/
theorem Meets.callR {P : Program} {f : FuncId} {as0 : List SV} {L0 : List Chunk} {g : G} {post : Out → List Chunk → G → Prop} (h : Meets P f as0 L0 g post) (ids : List Nat) (n : Nat) {as : List SV} {L : List Chunk} {chk : List Nat → List Nat → Bool} {K : Out → List Chunk → G → Prop}
    (hn : L.length = n) (hb : (nodupB ids && (ids.all (fun k => Nat.blt k n) && (Nat.beq L0.length ids.length && (scL L0.length as0 && (scHB L0.length L0 && chk ids []))))) = true) (has : as = renL (toBig n ids) as0) (hL0 : ids.map (nthC L) = renC (toBig n ids) L0)
    (k : ∀ o L1 g', post o L1 g' → L0.length ≤ L1.length → (∀ j, j ∈ ids → (updL L ids (renC (toBig n ids) L1))[j]? = L[j]?) ∧ K (o.ren (toBig n ids)) (updL L ids (renC (toBig n ids) L1)) g') : CallX P f as L g chk K := by
  subst hn
  simp only [Bool.and_eq_true, List.all_eq_true, Nat.blt_eq] at hb
  obtain ⟨h1, h2, h3, h4, h5, h6⟩ := hb
  have hl := Nat.eq_of_beq_eq_true h3
  rw [CallX_eq]
  refine ⟨ids, [], h6, CallV.ro (callV_sub ids h (nodupB_spec h1) h2 hl has (fun j k hj => ?_) h4 (scHB_scH.1 h5) k)⟩
  have hjl : j < L0.length := by rw [hl]; exact (List.getElem?_eq_some_iff.1 hj).1
  refine ⟨L0[j], List.getElem?_eq_getElem hjl, ?_⟩
  have e : (ids.map (nthC L))[j]? = (renC (toBig L.length ids) L0)[j]? := by rw [hL0]
  rw [List.getElem?_map, hj, renC_get, List.getElem?_eq_getElem hjl] at e
  simp only [Option.map_some, Option.some.injEq] at e
  rw [← e]
  have hk := h2 k (List.mem_of_getElem? hj)
  rw [List.getElem?_eq_getElem hk, nthC_some L k _ (List.getElem?_eq_getElem hk)]

/-! ### Rows -/

open Go.RowKit Go.WideShapes Go.ChangeShapes
variable {H : Type} {enc : TypeId × Value → H} {P : Program}

theorem trodAll_stays (hl : laidOutB P = true) : ∀ {ts : List TypeId} {vs : List Value} {ds : List (DataW H)} {ps : List MemPlace} {W W' : World} {sp' : Nat → Bool}, (∀ t ∈ ts, P.readableRec t = true ∧ t < P.types.size) →
    DataW.TrodAll enc P W 0 (fun _ => true) true ts vs ds ps → (∀ p ∈ ps, W.sameAt W' p) → (∀ p ∈ ps, sp' p.block = true) → DataW.TrodAll enc P W' 0 sp' true ts vs ds ps
  | [], [], [], _, _, _, _, _, h, _, _ => h
  | t :: ts, v :: vs, d :: ds, _, _, _, _, ht, ⟨p, q, h1, h2, e⟩, hs, hsp =>
    ⟨p, q, WideElems.Trod_stays hl (ht t (by simp)).1 (ht t (by simp)).2 h1 (fun x hx => hs x (by rw [e]; exact List.mem_append_left _ hx)) (fun x hx => hsp x (by rw [e]; exact List.mem_append_left _ hx)),
      trodAll_stays hl (fun t' h' => ht t' (List.mem_cons_of_mem _ h')) h2 (fun x hx => hs x (by rw [e]; exact List.mem_append_right _ hx)) (fun x hx => hsp x (by rw [e]; exact List.mem_append_right _ hx)), e⟩

/-- What a row of a law asks of the program, closed. -/
def lawFacts (P : Program) (f : Func) (s : ChangeSpec) : Bool :=
  laidOutB P && (f.params.toList.all (fun t => P.readableRec t && Nat.blt t P.types.size) && (s.vars.isEmpty && match f.resultTypes.toList with
    | [t] => match P.underlying t with
      | some .bool => true
      | _ => false
    | _ => false))

/-- **A law's end**: true; the arguments as they were. -/
theorem law_post {f : Func} {s : ChangeSpec} {apart fresh handsOn again : Bool} {W W' : World} {args : Array Value} {ds gs : List (DataW H)} {before : List MemPlace}
    (hF : lawFacts P f s = true) (hfn : s.fn H (ds ++ gs) = { results := [.lit (.bool true)], args := ds })
    (hW : DataW.Whole enc P f.params.toList s.vars apart W args.toList ds gs before) (hb : Below W.heap.size W W') :
    s.post enc P f apart fresh handsOn again W args (.bool true) W' := by
  simp only [lawFacts, Bool.and_eq_true] at hF
  obtain ⟨hl, hpar, hv, hres⟩ := hF
  have hv' : s.vars = [] := by simpa using hv
  have hrt : ∃ t, f.resultTypes = #[t] ∧ P.underlying t = some .bool := by
    revert hres
    cases hr : f.resultTypes with
    | mk l =>
      match l with
      | [] => intro h; cases h
      | [t] =>
        intro h
        refine ⟨t, rfl, ?_⟩
        revert h
        simp only
        split <;> simp_all
      | _ :: _ :: _ => intro h; cases h
  obtain ⟨t, hr, ht⟩ := hrt
  have hts : ∀ t ∈ f.params.toList, P.readableRec t = true ∧ t < P.types.size := by
    intro t h
    have := List.all_eq_true.1 hpar t h
    simpa [Nat.blt_eq] using this
  have hW' := hW
  have hlt : ∀ p ∈ before, p.block < W.heap.size := fun p hp => hW.lt p hp
  obtain ⟨p, q, hA, hV, hpq, hfz, hnd⟩ := hW
  rw [hv'] at hV
  obtain ⟨hg, hq⟩ := trodVars_none hV
  subst hq
  rw [List.append_nil] at hpq
  subst hpq
  have hold : ∀ x ∈ before, (fun b => decide (b < W.heap.size)) x.block = true := fun x hx => by simpa using hlt x hx
  have hargs : ∀ sp : Nat → Bool, (∀ x ∈ before, sp x.block = true) → DataW.TrodAll enc P W' 0 sp true f.params.toList args.toList (s.fn H (ds ++ gs)).args before := by
    intro sp hsp
    rw [hfn]
    exact trodAll_stays hl hts hA (fun x hx => hb.same (hlt x hx)) hsp
  have hres : ∀ (b : Nat) (sp : Nat → Bool) (hd : Bool), DataW.TrodAll enc P W' b sp hd f.resultTypes.toList ((Value.bool true).resultList f.resultTypes.size) (s.fn H (ds ++ gs)).results [] := by
    intro b sp hd
    rw [hfn, hr]
    exact trodAll_mk1 ⟨1, by simp [DataW.trod, Value.cells, ht]⟩
  have hvars : ∀ sp : Nat → Bool, (∀ x ∈ before, sp x.block = true) → DataW.TrodVars enc P W' sp s.vars (s.fn H (ds ++ gs)).vars [] := by
    intro sp _
    rw [hv', hfn]
    rfl
  have hok : ∀ (j : Nat) (t : TypeId) (r : Value), f.resultTypes[j]? = some t → ((Value.bool true).resultList f.resultTypes.size)[j]? = some r → Value.okWide P W' .any 0 t r :=
    ok_one hr rfl (by simp [Value.okWide, ht, Cell.okWide, Cell.ok])
  refine ⟨ds, gs, before, [], before, [], hW', hres _ _ _, hargs _ hold, hvars _ hold, World.keptBut_mono (fun x hx => ⟨hx, .inr (.inl hx)⟩) (hb.frame (· ∈ before)), fun _ => ?_⟩
  refine ⟨hok, _, _, ([] ++ before) ++ [], ⟨[] ++ before, [], trodAll_append (hargs _ (fun _ _ => rfl)) (hres _ _ _), hvars _ (fun _ _ => rfl), rfl, ?_, ?_⟩, ?_⟩
  · intro b off hp
    have hin : MemPlace.cell b off ∈ before := by simpa using hp
    rw [hb.frozen (hlt _ hin)]
    exact hfz b off hin
  · intro ha
    simpa using hnd ha
  · intro x hx _
    simpa using hx


/-- Memory as it stands, nothing at hand. -/
def gOf (W : World) : G := fun b => W.heap[b]?
theorem gOf_mem (W : World) (σ : Nat → Nat) : Mem (gOf W) [] σ W :=
  ⟨fun _ _ h => h, fun _ _ _ h => by simp at h, fun _ _ h => by simp [live, liveB] at h, fun _ h => by simp [live, liveB] at h, FamOk.nil _ _ _⟩

/-- **A law's row from its contract.** -/
theorem law_calls {n : FuncId} {f : Func} {s : ChangeSpec} {apart fresh handsOn again : Bool} {W : World} {args : Array Value} {ds gs : List (DataW H)} {before : List MemPlace} (as : List SV)
    (hF : lawFacts P f s = true) (hfn : s.fn H (ds ++ gs) = { results := [.lit (.bool true)], args := ds })
    (hW : DataW.Whole enc P f.params.toList s.vars apart W args.toList ds gs before)
    (has : (reL (fun _ => 0) as).toArray = args) (hsc : scL 0 as = true)
    (hm : Meets P n as [] (gOf W) (fun o _ _ => o = .ret (.v (.bool true)))) :
    Calls P n args W fun e W' => ∃ v, e = .returned v ∧ s.post enc P f apart fresh handsOn again W args v W' := by
  subst has
  refine (hm.2 (fun _ => 0) W (gOf_mem W _) (fun _ _ _ h => by simp at h) hsc).mono ?_
  rintro e W' ⟨o, L', g', σ', he, -, -, -, -, hgo, rfl⟩
  cases he
  refine ⟨_, rfl, law_post hF hfn hW ⟨hgo.os, hgo.tape, hgo.output, hgo.size, fun k hk => hgo.keep k hk (fun _ h => by simp [live, liveB] at h) (not_ownF_nil k)⟩⟩

theorem gOf_at {W : World} {a : Addr} {xs : List Value} (ha : ∀ i, i < xs.length → W.cell? (a.add i) = xs[i]?) (hn : 0 < xs.length) : (gOf W).at a xs := by
  have h0 := ha 0 hn
  obtain ⟨b, o, sp⟩ := a
  rw [List.getElem?_eq_getElem hn] at h0
  have key : ∀ i v, W.cell? ((⟨b, o, none⟩ : Addr).add i) = some v → ∃ c ty fz, W.heap[b]? = some (.cells c ty fz) ∧ c[o + i]? = some v := by
    intro i v h
    rw [add_cell] at h
    unfold World.cell? at h
    simp only at h
    split at h
    · rename_i c ty fz hc
      exact ⟨c, ty, fz, hc, by simpa using h⟩
    · cases h
  cases sp with
  | some s =>
    exfalso
    unfold World.cell? at h0
    split at h0
    · simp [Addr.add] at h0
    · cases h0
  | none =>
    obtain ⟨c, ty, fz, hb, -⟩ := key 0 _ h0
    refine ⟨rfl, c, ty, fz, hb, fun i hi => ?_⟩
    have hi' := ha i hi
    rw [List.getElem?_eq_getElem hi] at hi' ⊢
    obtain ⟨c', ty', fz', hb', hc'⟩ := key i _ hi'
    rw [hb] at hb'
    cases hb'
    exact hc'


end Go.Sx
end

/- A symbolic executor of my own, second design, part 15: arguments opened by their shape; slices gathered to lists; lists compared. Conditions: none; it speaks of any program. -/
section
namespace Go.Sx
open Go.RowKit Go.WideShapes Go.ChangeShapes

/-- The shape of a type, in cells. -/
inductive Sh where
  | any
  | bool
  | int (k : IntKind)
  | str
  | ptr (n : Nat) (e : Sh)
  | slice (n : Nat) (e : Sh)
  | fin
  | fld (n : Nat) (s : Sh) (rest : Sh)

def Sh.rep (s : Sh) (n : Nat) : Nat → Sh
  | 0 => .fin
  | k + 1 => .fld n s (s.rep n k)

def shFields (rec : TypeId → Option Sh) (P : Program) : List Field → Nat → Nat → Option Sh
  | [], off, total => match Nat.beq off total with
    | true => some .fin
    | false => none
  | f :: l, off, total => match Nat.beq f.offset off with
    | true => match rec f.type, shFields rec P l (off + P.cellsOf f.type) total with
      | some s, some r => some (.fld (P.cellsOf f.type) s r)
      | _, _ => none
    | false => none

def shOf (P : Program) : Nat → TypeId → Option Sh
  | 0, _ => some .any
  | n + 1, t => match P.underlying t with
    | some .bool => some .bool
    | some (.int k) => some (.int k)
    | some .string => some .str
    | some (.pointer e) => (shOf P n e).map (.ptr (P.cellsOf e))
    | some (.slice e) => (shOf P n e).map (.slice (P.cellsOf e))
    | some (.struct fs) => shFields (shOf P n) P fs.toList 0 (P.cellsOf t)
    | some (.array k e) => match Nat.beq (k * P.cellsOf e) (P.cellsOf t) with
      | true => (shOf P n e).map fun s => s.rep (P.cellsOf e) k
      | false => none
    | _ => some .any

def Sh.holds (W : World) : Sh → List Value → Prop
  | .any, _ => True
  | .bool, cs => ∃ b, cs = [.bool b]
  | .int k, cs => ∃ n, cs = [.int k n] ∧ (Lit.int k n).wf = true
  | .str, cs => ∃ s : ByteArray, cs = [.string s] ∧ s.size ≤ maxLen
  | .ptr n e, cs => cs = [.pointer none] ∨ ∃ a c, cs = [.pointer (some a)] ∧ c.length = n ∧ (∀ j, j < n → W.cell? (a.add j) = c[j]?) ∧ e.holds W c
  | .slice n e, cs => cs = [.slice none 0 0] ∨ ∃ a len cap, cs = [.slice (some a) len cap] ∧ len ≤ cap ∧ cap ≤ maxLen ∧ ∀ i, i < len → ∃ c, c.length = n ∧ (∀ j, j < n → W.cell? (a.add (i * n + j)) = c[j]?) ∧ e.holds W c
  | .fin, cs => cs = []
  | .fld n s r, cs => ∃ c d, cs = c ++ d ∧ c.length = n ∧ s.holds W c ∧ r.holds W d

section
variable {H : Type} {enc : TypeId × Value → H} {P : Program} {W : World} {base : Nat} {spare : Nat → Bool} {held : Bool}

theorem shFields_sound {rec : TypeId → Option Sh} {n : Nat}
    (ih : ∀ t s, rec t = some s → ∀ (m : Nat) cs x, DataW.trod enc P W base spare held m t cs = some x → s.holds W cs) :
    ∀ (l : List Field) (off total : Nat) (s : Sh) (cs : List Value), shFields rec P l off total = some s → off ≤ cs.length → cs.length = total →
      (∀ f ∈ l, ∃ x, DataW.trod enc P W base spare held n f.type ((cs.drop f.offset).take (P.cellsOf f.type)) = some x) → s.holds W (cs.drop off)
  | [], off, total, s, cs, h, hoff, hl, _ => by
    rw [shFields] at h
    split at h
    · rename_i hb
      cases h
      have := Nat.eq_of_beq_eq_true hb
      show cs.drop off = []
      rw [List.drop_eq_nil_iff]
      omega
    · cases h
  | f :: l, off, total, s, cs, h, hoff, hl, hx => by
    rw [shFields] at h
    split at h
    · rename_i hb
      have hfo := Nat.eq_of_beq_eq_true hb
      split at h
      · rename_i s1 r1 h1 h2
        cases h
        obtain ⟨x, hx1⟩ := hx f (by simp)
        rw [hfo] at hx1
        -- the rest's end: total is what the fields sum up to
        have hle : off + P.cellsOf f.type ≤ cs.length := by
          have key : ∀ (l : List Field) (o tt : Nat) (q : Sh), shFields rec P l o tt = some q → o ≤ tt := by
            intro l
            induction l with
            | nil =>
              intro o tt q hq
              rw [shFields] at hq
              split at hq
              · rename_i hb; exact Nat.le_of_eq (Nat.eq_of_beq_eq_true hb)
              · cases hq
            | cons f' l' ih' =>
              intro o tt q hq
              rw [shFields] at hq
              split at hq
              · split at hq
                · rename_i h4
                  have := ih' _ _ _ h4
                  omega
                · cases hq
              · cases hq
          have := key _ _ _ _ h2
          omega
        refine ⟨(cs.drop off).take (P.cellsOf f.type), cs.drop (off + P.cellsOf f.type), ?_, ?_, ih _ _ h1 _ _ _ hx1, ?_⟩
        · rw [← List.drop_drop, List.take_append_drop]
        · rw [List.length_take, List.length_drop]; omega
        · exact shFields_sound ih l _ total r1 cs h2 hle hl (fun f' hf' => hx f' (List.mem_cons_of_mem _ hf'))
      · cases h
    · cases h

theorem rep_sound {s : Sh} {c : Nat} (cs : List Value) : ∀ (k i n : Nat), i + k = n → cs.length = n * c →
    (∀ j, j < n → s.holds W ((cs.drop (j * c)).take c)) → (s.rep c k).holds W (cs.drop (i * c))
  | 0, i, n, hi, hl, _ => by
    show cs.drop (i * c) = []
    rw [List.drop_eq_nil_iff, hl, show n = i by omega]
    exact Nat.le_refl _
  | k + 1, i, n, hi, hl, hx => by
    have := Nat.mul_le_mul_right c (show i + 1 ≤ n by omega)
    rw [Nat.add_mul] at this
    refine ⟨(cs.drop (i * c)).take c, cs.drop ((i + 1) * c), ?_, ?_, hx i (by omega), rep_sound cs k (i + 1) n (by omega) hl hx⟩
    · rw [Nat.add_mul, Nat.one_mul, ← List.drop_drop, List.take_append_drop]
    · rw [List.length_take, List.length_drop]; omega

theorem shOf_sound : ∀ (fuel : Nat) (t : TypeId) (s : Sh), shOf P fuel t = some s → ∀ (m : Nat) (cs : List Value) (x : DataW H × List MemPlace), DataW.trod enc P W base spare held m t cs = some x → s.holds W cs
  | 0, t, s, h, m, cs, x, hx => by cases h; exact trivial
  | n + 1, t, s, h, m, cs, x, hx => by
    rw [shOf] at h
    split at h
    · rename_i ht
      cases h
      obtain ⟨b, h1, _⟩ := DataW.trod_bool ht hx
      exact ⟨b, h1⟩
    · rename_i ht
      cases h
      obtain ⟨b, h1, _, h2⟩ := DataW.trod_int ht hx
      exact ⟨b, h1, h2⟩
    · rename_i ht
      cases h
      obtain ⟨b, h1, _, h2⟩ := DataW.trod_string ht hx
      exact ⟨b, h1, h2⟩
    · rename_i ht
      simp only [Option.map_eq_some_iff] at h
      obtain ⟨s', hs', rfl⟩ := h
      rcases DataW.trod_pointer ht hx with ⟨h1, _⟩ | ⟨a, cs', y, n', _, h1, _, hc, h2⟩
      · exact .inl h1
      · obtain ⟨_, hcl, hat⟩ := World.cells?_some hc
        exact .inr ⟨a, cs', h1, hcl, hat, shOf_sound n _ _ hs' _ _ _ h2⟩
    · rename_i ht
      simp only [Option.map_eq_some_iff] at h
      obtain ⟨s', hs', rfl⟩ := h
      rcases Deep.open_slice ht hx with ⟨h1, _⟩ | ⟨a, len, cap, k, n', D, Pl, hcs, hb, hl, hm, hmm, _, hi⟩
      · exact .inl h1
      · refine .inr ⟨a, len, cap, hcs, hl, hm, fun i hil => ?_⟩
        have hlk : len ≤ k := by rw [hmm]; split <;> omega
        obtain ⟨c, hc, hd⟩ := hi i (by omega)
        obtain ⟨_, hcl, hat⟩ := World.cells?_some hc
        refine ⟨c, hcl, fun j hj => ?_, shOf_sound n _ _ hs' _ _ _ hd⟩
        rw [← hat j hj, Go.Deep.add_add]
    · rename_i ht
      obtain ⟨xs, n', _, _, hcl, hxl, hf⟩ := DataW.trod_struct ht hx
      have := shFields_sound (enc := enc) (base := base) (spare := spare) (held := held) (n := n') (fun t' s' hs' m' cs' x' hx' => shOf_sound n t' s' hs' m' cs' x' hx') _ 0 (P.cellsOf t) s cs h (Nat.zero_le _) hcl ?_
      · simpa using this
      · intro f hf'
        obtain ⟨i, hi, hif⟩ := List.getElem_of_mem hf'
        have h1 := hf i f (by rw [← hif]; simp at hi; simp [hi])
        rw [h1]
        have : i < xs.length := by rw [hxl]; simpa using hi
        exact ⟨_, List.getElem?_eq_getElem this⟩
    · rename_i k e ht
      split at h
      · rename_i hb
        have hk := Nat.eq_of_beq_eq_true hb
        simp only [Option.map_eq_some_iff] at h
        obtain ⟨s', hs', rfl⟩ := h
        obtain ⟨xs, n', _, _, hcl, hxl, hf⟩ := DataW.trod_array ht hx
        have := rep_sound (W := W) (s := s') (c := P.cellsOf e) cs k 0 k (by omega) (by rw [hcl, hk]) ?_
        · simpa using this
        · intro j hj
          have h1 := hf j hj
          rw [List.getElem?_eq_getElem (show j < xs.length by omega)] at h1
          exact shOf_sound n _ _ hs' _ _ _ h1
      · cases h
    · cases h; exact trivial
end

def isAgg (P : Program) (t : TypeId) : Bool :=
  match P.underlying t with
  | some (.struct _) => true
  | some (.array _ _) => true
  | _ => false
def isOne (P : Program) (t : TypeId) : Bool :=
  match P.underlying t with
  | some .bool => true
  | some (.int _) => true
  | some .string => true
  | some (.slice _) => true
  | some (.pointer _) => true
  | _ => false

/-- An argument's cells, by its type's shape. -/
theorem open_arg {H : Type} {enc : TypeId × Value → H} {P : Program} {W : World} {base : Nat} {spare : Nat → Bool} {held : Bool} {r : Reach} {b0 : Nat} {t : TypeId} {v : Value} {d : DataW H} {p : List MemPlace} {s : Sh} (fuel : Nat)
    (hs : shOf P fuel t = some s) (hv : Value.okWide P W r b0 t v) (h : DataW.Trod enc P W base spare held t v d p) : ∃ cs, s.holds W cs ∧ (isAgg P t = true → v = .agg cs.toArray) ∧ (isOne P t = true → cs = [v]) := by
  obtain ⟨m, hm⟩ := h
  refine ⟨_, shOf_sound fuel t s hs m _ _ hm, fun ha => ?_, fun ho => ?_⟩
  · unfold isAgg at ha
    simp only [Value.okWide] at hv
    split at ha
    · rename_i ht
      rw [ht] at hv
      cases v <;> simp_all [Value.cells]
    · rename_i ht
      rw [ht] at hv
      cases v <;> simp_all [Value.cells]
    · cases ha
  · unfold isOne at ho
    simp only [Value.okWide] at hv
    split at ho
    all_goals first
      | (rename_i ht; rw [ht] at hv; cases v <;> simp_all [Value.cells, Cell.okWide, Cell.ok])
      | cases ho

theorem list_of {α : Type} (Q : Nat → α → Prop) : ∀ n : Nat, (∀ i, i < n → ∃ x, Q i x) → ∃ l : List α, l.length = n ∧ ∀ i x, l[i]? = some x → Q i x
  | 0, _ => ⟨[], rfl, fun i x h => by simp at h⟩
  | n + 1, h => by
    obtain ⟨l, hl, hq⟩ := list_of Q n fun i hi => h i (by omega)
    obtain ⟨x, hx⟩ := h n (by omega)
    refine ⟨l ++ [x], by simp [hl], fun i y hy => ?_⟩
    rcases getElem?_append_one hy with ⟨_, h1⟩ | ⟨rfl, rfl⟩
    · exact hq i y h1
    · rw [hl]; exact hx

theorem flatMap_get {α : Type} (f : α → List Value) (sz : Nat) (hf : ∀ x, (f x).length = sz) (l : List α) (i j : Nat) (x : α) (hx : l[i]? = some x) (hj : j < sz) : (l.flatMap f)[i * sz + j]? = (f x)[j]? := by
  rw [← flatMap_at f sz hf l i x hx, List.getElem?_take, if_pos hj, List.getElem?_drop]

/-- A slice's elements, gathered. -/
theorem slice_of {α : Type} {W : World} {sz : Nat} (f : α → List Value) (hf : ∀ x, (f x).length = sz) (hsz : 0 < sz) (Q : α → Prop) {e : Sh} (hQ : ∀ c, c.length = sz → e.holds W c → ∃ x, c = f x ∧ Q x) {cs : List Value} (h : (Sh.slice sz e).holds W cs) :
    ∃ (a : Option Addr) (l : List α) (cap : Nat), cs = [.slice a l.length cap] ∧ l.length ≤ maxLen ∧ l.length ≤ cap ∧ cap ≤ maxLen ∧ SliceAt (gOf W) a l.length sz (l.flatMap f) ∧ ∀ x ∈ l, Q x := by
  rcases h with h | ⟨a, len, cap, hcs, hl, hm, hi⟩
  · exact ⟨none, [], 0, h, Nat.zero_le _, Nat.zero_le _, Nat.zero_le _, ⟨by simp, fun h => by simp at h⟩, by simp⟩
  · obtain ⟨l, hll, hq⟩ := list_of (fun i (x : α) => (∀ j, j < sz → W.cell? (a.add (i * sz + j)) = (f x)[j]?) ∧ Q x) len fun i hil => by
      obtain ⟨c, hc, hat, he⟩ := hi i hil
      obtain ⟨x, rfl, hx⟩ := hQ c hc he
      exact ⟨x, hat, hx⟩
    subst hll
    refine ⟨some a, l, cap, hcs, by omega, hl, hm, ⟨flatMap_len f sz hf l, fun h0 => ⟨a, rfl, gOf_at ?_ ?_⟩⟩, fun x hx => ?_⟩
    · intro k hk
      rw [flatMap_len f sz hf] at hk
      have h1 : k / sz < l.length := Nat.div_lt_of_lt_mul (by rw [Nat.mul_comm]; exact hk)
      have h2 : k % sz < sz := Nat.mod_lt _ hsz
      have h3 : k = k / sz * sz + k % sz := by rw [Nat.mul_comm]; exact (Nat.div_add_mod k sz).symm
      rw [h3, (hq _ _ (List.getElem?_eq_getElem h1)).1 _ h2, flatMap_get f sz hf l _ _ _ (List.getElem?_eq_getElem h1) h2]
    · rw [flatMap_len f sz hf]
      exact Nat.mul_pos h0 hsz
    · obtain ⟨i, hi', rfl⟩ := List.getElem_of_mem hx
      exact (hq i _ (List.getElem?_eq_getElem hi')).2

def eqL {α : Type} (f : α → α → Bool) : List α → List α → Bool
  | [], [] => true
  | x :: l, y :: m => f x y && eqL f l m
  | _, _ => false

theorem eqL_len {α : Type} {f : α → α → Bool} : ∀ {l m : List α}, l.length ≠ m.length → eqL f l m = false
  | [], [], h => absurd rfl h
  | [], _ :: _, _ => rfl
  | _ :: _, [], _ => rfl
  | x :: l, y :: m, h => by
    rw [eqL, eqL_len (l := l) (m := m) (by simpa using h), Bool.and_false]
theorem eqL_bad {α : Type} {f : α → α → Bool} : ∀ {l m : List α} {k : Nat} {x y : α}, l[k]? = some x → m[k]? = some y → f x y = false → eqL f l m = false
  | [], _, k, x, y, h, _, _ => by simp at h
  | _ :: _, [], k, x, y, _, h, _ => by simp at h
  | a :: l, b :: m, 0, x, y, h1, h2, h3 => by
    simp at h1 h2
    subst h1; subst h2
    rw [eqL, h3, Bool.false_and]
  | a :: l, b :: m, k + 1, x, y, h1, h2, h3 => by
    rw [eqL, eqL_bad (l := l) (m := m) (k := k) (by simpa using h1) (by simpa using h2) h3, Bool.and_false]
theorem eqL_good {α : Type} {f : α → α → Bool} : ∀ {l m : List α}, l.length = m.length → (∀ (k : Nat) x y, l[k]? = some x → m[k]? = some y → f x y = true) → eqL f l m = true
  | [], [], _, _ => rfl
  | [], _ :: _, h, _ => by simp at h
  | _ :: _, [], h, _ => by simp at h
  | a :: l, b :: m, h, hx => by
    rw [eqL, hx 0 a b rfl rfl, eqL_good (by simpa using h) (fun k x y h1 h2 => hx (k + 1) x y (by simpa using h1) (by simpa using h2))]
    rfl

theorem vbe {c d : Bool} (h : d = c) : SV.v (.bool c) = .v (.bool d) := by rw [h]

/-- One round on: what held below k holds below k + 1. -/
theorem eq_next {α : Type} {f : α → α → Bool} {l m : List α} {k : Nat} {x y : α} (h : ∀ (i : Nat) u v, i < k → l[i]? = some u → m[i]? = some v → f u v = true) (hx : l[k]? = some x) (hy : m[k]? = some y) (hf : f x y = true) :
    ∀ (i : Nat) u v, i < k + 1 → l[i]? = some u → m[i]? = some v → f u v = true := by
  intro i u v hi hu hv
  by_cases hik : i < k
  · exact h i u v hik hu hv
  · have : i = k := by omega
    subst this
    rw [hx] at hu
    rw [hy] at hv
    cases hu
    cases hv
    exact hf
theorem lt_some {α : Type} {l : List α} {k : Nat} (h : k < l.length) : ∃ x, l[k]? = some x := ⟨l[k], List.getElem?_eq_getElem h⟩

end Go.Sx
end
