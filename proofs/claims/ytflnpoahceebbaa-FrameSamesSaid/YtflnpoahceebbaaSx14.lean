/- A symbolic executor of my own, part 14: the same condition, spelled so that it is reckoned step by step with the state always written out; loops with named slots. Conditions: none; it speaks of any program. -/
import Derived.Test.YtflnpoahceebbaaSx13
namespace Go.Sx

/-! ### A list, a memory, written out before it goes on -/

def force : List SV → (List SV → Prop) → Prop
  | [], K => K []
  | x :: l, K => force l fun l' => K (x :: l')
theorem force_eq : ∀ (l : List SV) (K : List SV → Prop), force l K = K l
  | [], _ => rfl
  | _ :: l, _ => force_eq l _

def forceO (fr : List SV) (d : Option Nat) (v : SV) (K : List SV → Prop) : Prop :=
  match d with
  | none => K fr
  | some d => force (put fr d v) K
theorem forceO_eq (fr : List SV) (d : Option Nat) (v : SV) (K : List SV → Prop) : forceO fr d v K = K (putO fr d v) := by
  cases d <;> simp [forceO, putO, force_eq]

def fR (r : SV) (K : SV → Prop) : Prop :=
  match r with
  | .agg l => force l fun l => K (.agg l)
  | .tup l => force l fun l => K (.tup l)
  | .junk => K .junk
  | .v x => K (.v x)
  | .ptr k o => K (.ptr k o)
  | .slc k o n c => K (.slc k o n c)
  | .fn f a b => K (.fn f a b)
  | .iface t x => K (.iface t x)
theorem fR_eq (r : SV) (K : SV → Prop) : fR r K = K r := by cases r <;> simp [fR, force_eq]

def fL : List Chunk → (List Chunk → Prop) → Prop
  | [], K => K []
  | .cells ty c :: l, K => force c fun c => fL l fun l => K (.cells ty c :: l)
  | .vals ty c :: l, K => fL l fun l => K (.vals ty c :: l)
  | .gone :: l, K => fL l fun l => K (.gone :: l)
theorem fL_eq : ∀ (l : List Chunk) (K : List Chunk → Prop), fL l K = K l
  | [], _ => rfl
  | .cells ty c :: l, K => by rw [fL, force_eq, fL_eq]
  | .vals ty c :: l, K => by rw [fL, fL_eq]
  | .gone :: l, K => by rw [fL, fL_eq]

def lenK : List Chunk → Nat → (Nat → Prop) → Prop
  | [], n, K => K n
  | _ :: l, n, K => lenK l (n + 1) K
theorem lenK_eq : ∀ (l : List Chunk) (n : Nat) (K : Nat → Prop), lenK l n K = K (n + l.length)
  | [], _, _ => rfl
  | _ :: l, n, K => by rw [lenK, lenK_eq]; congr 1; simp; omega

/-- A small number, as a numeral. -/
def numK (n : Nat) (K : Nat → Prop) : Prop :=
  match n with
  | 0 => K 0 | 1 => K 1 | 2 => K 2 | 3 => K 3 | 4 => K 4 | 5 => K 5 | 6 => K 6 | 7 => K 7 | 8 => K 8 | 9 => K 9 | 10 => K 10 | 11 => K 11 | 12 => K 12
  | n => K n
theorem numK_eq (n : Nat) (K : Nat → Prop) : numK n K = K n := by
  unfold numK
  split <;> rfl

def newS (L : List Chunk) (c : Chunk) (K : Nat → List Chunk → Prop) : Prop := lenK L 0 fun n => numK n fun n => fL (L ++ [c]) fun L => K n L
theorem newS_eq (L : List Chunk) (c : Chunk) (K : Nat → List Chunk → Prop) : newS L c K = K L.length (L ++ [c]) := by
  simp only [newS, lenK_eq, numK_eq, fL_eq, Nat.zero_add]

def sHp (P : Program) (X : XOp) (e : Operand → SV) (L : List Chunk) (g : G) (K : SV → List Chunk → G → Prop) : Prop :=
  match X with
  | .alloc t zs => newS L (.cells t (zs.map .v)) fun n L => K (.ptr n 0) L g
  | .box t x => nj (e x) fun y => newS L (.cells t y.cells) fun n L => K (.ptr n 0) L g
  | .bslice t m zs parts => match fillS (zs.map .v) (parts.map fun p => (p.1, p.2.1, e p.2.2)) with
    | some l => newS L (.cells t l) fun n L => K (.slc n 0 m m) L g
    | none => False
  | .store n a x => hp P (.store n a x) e L g fun r L g => fL L fun L => K r L g
  | .call f args => njL (args.map e) fun as => Meets P f as L g K
  | .callv x args => match e x with
    | .fn f first cap => njL (args.map e) fun as => Meets P f (first ++ (as ++ cap)) L g K
    | _ => False
  | X => ro X e L g fun r => fR r fun r => K r L g

theorem nj_eq {x : SV} {K K' : SV → Prop} (h : ∀ y, K y = K' y) : nj x K = nj x K' := by
  have : K = K' := funext h
  rw [this]

theorem sHp_eq (P : Program) (X : XOp) (e : Operand → SV) (L : List Chunk) (g : G) (K : SV → List Chunk → G → Prop) : sHp P X e L g K = hp P X e L g K := by
  have h1 : ∀ K : SV → Prop, (fun r => fR r K) = K := fun K => funext fun r => fR_eq r K
  cases X <;> simp only [sHp, hp, newS_eq, fL_eq, h1] <;> rfl

def sOp (P : Program) (o : XOper) (fr : List SV) (L : List Chunk) (g : G) (K : List SV → List Chunk → G → Prop) : Prop :=
  match o.guard with
  | none => sHp P o.x (ev fr) L g fun r L g => forceO fr o.dst r fun fr => K fr L g
  | some (t, want) => match get fr t with
    | .v (.bool b) => bsplit b
       (force (put fr t (.v (.bool true))) fun fr => match want with
          | true => sHp P o.x (ev fr) L g fun r L g => forceO fr o.dst r fun fr => K fr L g
          | false => forceO fr o.dst (.v undef) fun fr => K fr L g)
       (force (put fr t (.v (.bool false))) fun fr => match want with
          | false => sHp P o.x (ev fr) L g fun r L g => forceO fr o.dst r fun fr => K fr L g
          | true => forceO fr o.dst (.v undef) fun fr => K fr L g)
    | .v (.tuple _) => forceO fr o.dst (.v undef) fun fr => K fr L g
    | _ => False

def sOps (P : Program) : List XOper → List SV → List Chunk → G → (List SV → List Chunk → G → Prop) → Prop
  | [], fr, L, g, K => K fr L g
  | o :: l, fr, L, g, K => sOp P o fr L g fun fr L g => sOps P l fr L g K

theorem sOp_eq (P : Program) (o : XOper) (fr : List SV) (L : List Chunk) (g : G) (K : List SV → List Chunk → G → Prop) : sOp P o fr L g K = vcOp P o ⟨fr, L, g⟩ fun S => K S.fr S.L S.g := by
  obtain ⟨dst, gd, x⟩ := o
  cases gd with
  | none => simp only [sOp, vcOp, sHp_eq, forceO_eq]
  | some p =>
    obtain ⟨t, want⟩ := p
    simp only [sOp, vcOp, sHp_eq, forceO_eq, force_eq]
    cases want <;> rfl

theorem sOps_eq (P : Program) : ∀ (l : List XOper) (fr : List SV) (L : List Chunk) (g : G) (K : List SV → List Chunk → G → Prop), sOps P l fr L g K = vcOps P l ⟨fr, L, g⟩ fun S => K S.fr S.L S.g
  | [], _, _, _, _ => rfl
  | o :: l, fr, L, g, K => by
    simp only [sOps, vcOps, sOp_eq]
    congr 1
    funext S
    exact sOps_eq P l S.fr S.L S.g K

/-- The quiet operations. -/
def sQp (P : Program) (X : XOp) (e : Operand → SV) (L : List Chunk) (g : G) (K : SV → Prop) : Prop :=
  match X with
  | .call f args => njL (args.map e) fun as => ∃ r, (r ≠ .junk ∧ r.sc L.length = true) ∧ Meets P f as L g (fun r' L' _ => r' = r ∧ L'.take L.length = L) ∧ fR r K
  | .callv x args => match e x with
    | .fn f first cap => njL (args.map e) fun as => ∃ r, (r ≠ .junk ∧ r.sc L.length = true) ∧ Meets P f (first ++ (as ++ cap)) L g (fun r' L' _ => r' = r ∧ L'.take L.length = L) ∧ fR r K
    | _ => False
  | X => ro X e L g fun r => fR r K
theorem sQp_eq (P : Program) (X : XOp) (e : Operand → SV) (L : List Chunk) (g : G) (K : SV → Prop) : sQp P X e L g K = qp P X e L g K := by
  have h1 : ∀ K : SV → Prop, (fun r => fR r K) = K := fun K => funext fun r => fR_eq r K
  cases X <;> simp only [sQp, qp, fR_eq] <;> rfl

def sqOp (P : Program) (o : XOper) (fr : List SV) (L : List Chunk) (g : G) (K : List SV → Prop) : Prop :=
  match o.guard with
  | none => sQp P o.x (ev fr) L g fun r => forceO fr o.dst r K
  | some (t, want) => match get fr t with
    | .v (.bool b) => bsplit b
       (force (put fr t (.v (.bool true))) fun fr => match want with
          | true => sQp P o.x (ev fr) L g fun r => forceO fr o.dst r K
          | false => forceO fr o.dst (.v undef) K)
       (force (put fr t (.v (.bool false))) fun fr => match want with
          | false => sQp P o.x (ev fr) L g fun r => forceO fr o.dst r K
          | true => forceO fr o.dst (.v undef) K)
    | .v (.tuple _) => forceO fr o.dst (.v undef) K
    | _ => False
def sqOps (P : Program) : List XOper → List SV → List Chunk → G → (List SV → Prop) → Prop
  | [], fr, _, _, K => K fr
  | o :: l, fr, L, g, K => sqOp P o fr L g fun fr => sqOps P l fr L g K

theorem sqOp_eq (P : Program) (o : XOper) (fr : List SV) (L : List Chunk) (g : G) (K : St → Prop) : sqOp P o fr L g (fun fr => K ⟨fr, L, g⟩) = vqOp P o ⟨fr, L, g⟩ K := by
  obtain ⟨dst, gd, x⟩ := o
  cases gd with
  | none => simp only [sqOp, vqOp, sQp_eq, forceO_eq]
  | some p =>
    obtain ⟨t, want⟩ := p
    simp only [sqOp, vqOp, sQp_eq, forceO_eq, force_eq]
    cases want <;> rfl

theorem vqOp_same {P : Program} {o : XOper} {fr : List SV} {L : List Chunk} {g : G} {K K' : St → Prop} (h : ∀ fr, K ⟨fr, L, g⟩ = K' ⟨fr, L, g⟩) : vqOp P o ⟨fr, L, g⟩ K = vqOp P o ⟨fr, L, g⟩ K' := by
  rw [← sqOp_eq, ← sqOp_eq]
  congr 1
  funext fr
  exact h fr

theorem sqOps_eq (P : Program) : ∀ (l : List XOper) (fr : List SV) (L : List Chunk) (g : G) (K : St → Prop), sqOps P l fr L g (fun fr => K ⟨fr, L, g⟩) = vqOps P l ⟨fr, L, g⟩ K
  | [], _, _, _, _ => rfl
  | o :: l, fr, L, g, K => by
    simp only [sqOps, vqOps]
    rw [← vqOp_same (K := fun S => sqOps P l S.fr L g fun fr => K ⟨fr, L, g⟩) (fun fr => sqOps_eq P l fr L g K), ← sqOp_eq]

/-- A loop: see 'loop_rule'. -/
@[irreducible] def LoopVC (P : Program) (m : List Bool) (c : XC) (fr : List SV) (L : List Chunk) (g : G) (K : Exit → List SV → List Chunk → G → Prop) : Prop :=
  vcC P (.loop m c) ⟨fr, L, g⟩ fun e S => K e S.fr S.L S.g

def sC (P : Program) : XC → List SV → List Chunk → G → (Exit → List SV → List Chunk → G → Prop) → Prop
  | .skip, fr, L, g, K => K .normal fr L g
  | .ops l, fr, L, g, K => sOps P l fr L g (K .normal)
  | .draw n l, fr, L, g, K => sqOps P (l.take n) fr L g fun fr => sOps P (l.drop n) fr L g (K .normal)
  | .seq a b, fr, L, g, K => sC P a fr L g fun e fr L g => match e with
    | .normal => sC P b fr L g K
    | .exit j => K (.exit j) fr L g
    | .ret => K .ret fr L g
    | _ => False
  | .cond c a b, fr, L, g, K => match ev fr c with
    | .v (.bool t) => bsplit t (sC P a fr L g K) (sC P b fr L g K)
    | _ => False
  | .block id c, fr, L, g, K => sC P c fr L g fun e fr L g => match e with
    | .normal => K .normal fr L g
    | .exit j => match Nat.beq j id with
      | true => K .normal fr L g
      | false => K (.exit j) fr L g
    | .ret => K .ret fr L g
    | _ => False
  | .loop m c, fr, L, g, K => LoopVC P m c fr L g K
  | .exit id, fr, L, g, K => K (.exit id) fr L g
  | .ret, fr, L, g, K => K .ret fr L g

theorem sC_eq (P : Program) : ∀ (c : XC) (fr : List SV) (L : List Chunk) (g : G) (K : Exit → List SV → List Chunk → G → Prop), sC P c fr L g K = vcC P c ⟨fr, L, g⟩ fun e S => K e S.fr S.L S.g := by
  intro c
  induction c with
  | skip => intros; rfl
  | ops l => intro fr L g K; exact sOps_eq P l fr L g _
  | draw n l =>
    intro fr L g K
    simp only [sC, vcC]
    rw [← sqOps_eq]
    congr 1
    funext fr
    exact sOps_eq P _ fr L g _
  | seq a b iha ihb =>
    intro fr L g K
    simp only [sC, vcC, iha]
    congr 1
    funext e S
    cases e <;> simp only [ihb]
  | cond c a b iha ihb =>
    intro fr L g K
    simp only [sC, vcC, iha, ihb]
    rfl
  | block id c ih =>
    intro fr L g K
    simp only [sC, vcC, ih]
    rfl
  | loop m c => intros; unfold sC LoopVC; rfl
  | exit id => intros; rfl
  | ret => intros; rfl

def sRet (rs : List XRes) (keep : Nat) (post : SV → List Chunk → G → Prop) (e : Exit) (fr : List SV) (L : List Chunk) (g : G) : Prop :=
  match e with
  | .normal => resAll rs fr L g fun vs => fR (pack vs) fun r => ifOk (r.sc keep && scHB keep (L.take keep) && Nat.ble keep L.length) (fL (L.take keep) fun L => post r L g)
  | .ret => resAll rs fr L g fun vs => fR (pack vs) fun r => ifOk (r.sc keep && scHB keep (L.take keep) && Nat.ble keep L.length) (fL (L.take keep) fun L => post r L g)
  | _ => False

theorem sRet_eq (rs : List XRes) (keep : Nat) (post : SV → List Chunk → G → Prop) (e : Exit) (S : St) : sRet rs keep post e S.fr S.L S.g = retK rs keep post e S := by
  cases e <;> simp only [sRet, retK, fR_eq, fL_eq]

/-- The condition of a function, to be reckoned. -/
def sF (P : Program) (X : XF) (args : List SV) (L : List Chunk) (g : G) (keep : Nat) (post : SV → List Chunk → G → Prop) : Prop :=
  force (args ++ List.replicate (X.ntmps - args.length) (.v undef)) fun fr => sC P X.code fr L g (sRet X.results keep post)

theorem sF_eq (P : Program) (X : XF) (args : List SV) (L : List Chunk) (g : G) (keep : Nat) (post : SV → List Chunk → G → Prop) : sF P X args L g keep post = vcF P X args L g keep post := by
  simp only [sF, vcF, force_eq, sC_eq, sRet_eq]

/-- **From a function's condition to its contract.** -/
theorem meets_of {P : Program} {f : FuncId} {fn : Func} {X : XF} {args : List SV} {L : List Chunk} {g : G} {post : SV → List Chunk → G → Prop} (hm : P.follows .mixedOrders = true) (hf : P.funcs[f]? = some fn) (hcl : callable P f = true)
    (hX : xfunc P fn = some X) (keep : Nat) (hkeep : L.length ≤ keep) (h : sF P X args L g keep post) : Meets P f args L g post :=
  fn_of_vc hm hf hcl hX keep hkeep (by rw [← sF_eq]; exact h)

end Go.Sx
