/- A symbolic executor of my own, part 30: reading in two ways, by a cursor that throws and by a reader that keeps its first error, in plain Lean. Conditions: none. -/
import Derived.Test.YtfagdcpfebghoaaDoorTy29
namespace Go.Sx

/-- An operation told by the model, in a region whose order is drawn: in steps that the kernel takes fast. -/
theorem dR_prim {P : Program} {ds : List Nat} {d : DOp} {l : List DOp} {acc : List Acc} {fr : List SV} {L : List Chunk} {g : G} {K : KT} {op : Op} {args : List Operand} (hg : d.x.guard = none) (hx : d.x.x = .prim op args)
    (h : njL (args.map (ev fr)) fun vs => PrimX P op args vs L g (chkH (foes acc d.anc)) fun out L1 g1 => match out with
      | .ret r => fR r fun r => fL L1 fun L1 => ifOk (offS (madeOf (foes acc d.anc)) r && offL (madeOf (foes acc d.anc)) L1) (forceO fr d.x.dst r fun fr' => dR P ds l acc fr' L1 g1 K)
      | .pan x => K (.pan x) (selF (fun t => !ds.contains t) 0 fr) (selL (fun k => !(madeOf (foes acc d.anc)).contains k) 0 L1) g1) : dR P ds (d :: l) acc fr L g K := by
  unfold dR dStep
  rw [hg]
  unfold dRun
  rw [hx]
  exact h

/-- What comes of a cursor's work: a result, or what is thrown. -/
inductive CR (α : Type) where
  | ok (a : α) (c : CurV)
  | thr (e pl : Int) (c : CurV)
def CM (α : Type) := CurV → CR α
def RM (α : Type) := RdV → α × RdV
def CM.pure {α : Type} (a : α) : CM α := fun c => .ok a c
def CM.bind {α β : Type} (m : CM α) (f : α → CM β) : CM β := fun c => match m c with
  | .ok a c => f a c
  | .thr e pl c => .thr e pl c
def RM.pure {α : Type} (a : α) : RM α := fun r => (a, r)
def RM.bind {α β : Type} (p : RM α) (q : α → RM β) : RM β := fun r => q (p r).1 (p r).2

theorem CM.bind_ok {α β : Type} {m : CM α} {f : α → CM β} {c c' : CurV} {a : α} (h : m c = .ok a c') : CM.bind m f c = f a c' := by simp only [CM.bind, h]
theorem CM.bind_thr {α β : Type} {m : CM α} {f : α → CM β} {c c' : CurV} {e pl : Int} (h : m c = .thr e pl c') : CM.bind m f c = .thr e pl c' := by simp only [CM.bind, h]

theorem RM.bind_eq {α β : Type} {p : RM α} {q : α → RM β} {r r' : RdV} {a : α} (h : p r = (a, r')) : RM.bind p q r = q a r' := by simp only [RM.bind, h]

theorem CM.bind_assoc {α β γ : Type} (m : CM α) (f : α → CM β) (h : β → CM γ) : (m.bind f).bind h = m.bind fun a => (f a).bind h := by
  funext c
  simp only [CM.bind]
  cases m c <;> rfl
theorem RM.bind_assoc {α β γ : Type} (m : RM α) (f : α → RM β) (h : β → RM γ) : (m.bind f).bind h = m.bind fun a => (f a).bind h := rfl
theorem CM.pure_bind {α β : Type} (a : α) (f : α → CM β) : (CM.pure a).bind f = f a := rfl
theorem RM.pure_bind {α β : Type} (a : α) (f : α → RM β) : (RM.pure a).bind f = f a := rfl

/-! ### The cursor's ways -/
def cuEat (n : Nat) : CM ByteArray := fun c => if c.at_ + n ≤ c.s.size then .ok (c.cut n) (c.fwd n) else .thr 7 (c.off + c.at_) c
def cuNum (n : Nat) : CM Nat := fun c => if c.at_ + n ≤ c.s.size then .ok (c.numOf n) (c.fwd n) else .thr 7 (c.off + c.at_) c
def cuAddr : CM ByteArray := cuEat 6
def cuWant (s : ByteArray) : CM Unit := fun c => if c.at_ + s.size ≤ c.s.size then (if c.cut s.size = s then .ok () (c.fwd s.size) else .thr 3 (c.off + c.at_) (c.fwd s.size)) else .thr 7 (c.off + c.at_) c
def cuNoughts : CM Unit := fun c => if c.at_ + zat c.rest = c.s.size then .ok () (c.fwd (zat c.rest)) else .thr 15 (c.off + (c.at_ + zat c.rest : Nat)) (c.fwd (zat c.rest))
def cuAt : CM Int := fun c => .ok (c.off + c.at_) c
def cuRest : CM ByteArray := fun c => cuEat (c.s.size - c.at_) c
def cuThrow (b : Bool) (e pl : Int) : CM Unit := fun c => match b with
  | true => .thr e pl c
  | false => .ok () c

/-! ### The reader's ways -/
def rdBytes (n : Nat) : RM ByteArray := fun r => r.bytes n
def rdNum (n : Nat) : RM Nat := fun r => r.num n
def rdAt : RM Int := fun r => (r.place, r)
def rdFail (b : Bool) (e pl : Int) : RM Unit := fun r => ((), match b with
  | true => r.fail e pl
  | false => r)
def rdZeros : RM Unit := fun r => ((), r.zeros)
def rdRest : RM ByteArray := fun r => r.bytes ((r.s.size - r.at_ : Nat) : Int)

/-! ### Both are one -/
def CurV.rd (c : CurV) : RdV := ⟨c.s, c.at_, c.off, none⟩
def Sim {α : Type} (m : CM α) (p : RM α) : Prop := ∀ c : CurV, match m c with
  | .ok a c' => p c.rd = (a, c'.rd)
  | .thr e pl _ => (p c.rd).2.err = some (e, pl)
/-- The first error is kept. -/
def Keeps {α : Type} (p : RM α) : Prop := ∀ (r : RdV) e, r.err = some e → (p r).2.err = some e

theorem Sim.pure {α : Type} (a : α) : Sim (CM.pure a) (RM.pure a) := fun _ => rfl
theorem Keeps.pure {α : Type} (a : α) : Keeps (RM.pure a) := fun _ _ h => h
theorem Sim.bind {α β : Type} {m : CM α} {p : RM α} {f : α → CM β} {q : α → RM β} (h : Sim m p) (hq : ∀ a, Sim (f a) (q a)) (hk : ∀ a, Keeps (q a)) : Sim (m.bind f) (p.bind q) := by
  intro c
  have h1 := h c
  cases hm : m c with
  | ok a c' =>
    rw [hm] at h1
    simp only at h1
    rw [CM.bind_ok hm]
    have h2 := hq a c'
    simp only [RM.bind, h1]
    exact h2
  | thr e pl c' =>
    rw [hm] at h1
    simp only at h1
    rw [CM.bind_thr hm]
    exact hk _ _ _ h1
theorem Keeps.bind {α β : Type} {p : RM α} {q : α → RM β} (h : Keeps p) (hk : ∀ a, Keeps (q a)) : Keeps (p.bind q) := fun r e he => hk _ _ _ (h r e he)
theorem Sim.ite {α : Type} {b : Prop} [Decidable b] {m m' : CM α} {p p' : RM α} (h : b → Sim m p) (h' : ¬ b → Sim m' p') : Sim (if b then m else m') (if b then p else p') := by
  by_cases hb : b
  · rw [if_pos hb, if_pos hb]; exact h hb
  · rw [if_neg hb, if_neg hb]; exact h' hb
theorem Keeps.ite {α : Type} {b : Prop} [Decidable b] {p p' : RM α} (h : Keeps p) (h' : Keeps p') : Keeps (if b then p else p') := by
  by_cases hb : b
  · rw [if_pos hb]; exact h
  · rw [if_neg hb]; exact h'

theorem Sim.eat (n : Nat) : Sim (cuEat n) (rdBytes n) := by
  intro c
  unfold cuEat
  by_cases h : c.at_ + n ≤ c.s.size
  · rw [if_pos h]
    exact (RdV.bytes_good rfl (by omega) (by show ¬ (c.s.size : Int) - (c.at_ : Int) < n; omega)).trans (by simp [CurV.cut, CurV.rd, CurV.fwd])
  · rw [if_neg h]
    show (RdV.bytes _ _).2.err = _
    rw [RdV.bytes_short rfl (by omega) (by show (c.s.size : Int) - (c.at_ : Int) < n; omega)]
    rfl
theorem Keeps.bytes (n : Nat) : Keeps (rdBytes n) := fun _ _ h => RdV.bytes_err h n
theorem Sim.num (n : Nat) : Sim (cuNum n) (rdNum n) := by
  intro c
  have h1 := Sim.eat n c
  unfold cuEat at h1
  unfold cuNum
  by_cases h : c.at_ + n ≤ c.s.size
  · rw [if_pos h] at h1 ⊢
    have h1 : RdV.bytes _ _ = _ := h1
    show RdV.num _ _ = _
    rw [RdV.num, h1]
    rfl
  · rw [if_neg h] at h1 ⊢
    exact h1
theorem Keeps.num (n : Nat) : Keeps (rdNum n) := fun _ _ h => RdV.bytes_err h n
theorem Sim.at_ : Sim cuAt rdAt := fun _ => rfl
theorem Keeps.at_ : Keeps rdAt := fun _ _ h => h
theorem Sim.fail (b : Bool) (e pl : Int) : Sim (cuThrow b e pl) (rdFail b e pl) := by
  intro c
  cases b <;> rfl
theorem Keeps.fail (b : Bool) (e pl : Int) : Keeps (rdFail b e pl) := by
  intro r x h
  cases b
  · exact h
  · show (r.fail e pl).err = _
    rw [RdV.fail_err h]; exact h
theorem Sim.noughts : Sim cuNoughts rdZeros := by
  intro c
  unfold cuNoughts
  by_cases h : c.at_ + zat c.rest = c.s.size
  · rw [if_pos h]
    show ((), RdV.zeros _) = _
    have h' : c.rd.at_ + zat c.rd.rest = c.rd.s.size := h
    have e : c.rd.zeros = (c.fwd (zat c.rest)).rd := by
      unfold RdV.zeros
      rw [show c.rd.err = none from rfl]
      simp only [if_pos h']
      show RdV.mk c.s c.s.size c.off none = RdV.mk c.s (c.at_ + zat c.rest) c.off none
      rw [h]
    rw [e]
  · rw [if_neg h]
    have h' : ¬ c.rd.at_ + zat c.rd.rest = c.rd.s.size := h
    show (RdV.zeros _).err = _
    unfold RdV.zeros
    rw [show c.rd.err = none from rfl]
    simp only [if_neg h']
    rfl
theorem Keeps.zeros : Keeps rdZeros := fun r e h => by
  show (RdV.zeros _).err = _
  rw [RdV.zeros_err h]; exact h
/-- Just these bytes: what a reader does instead. -/
def rdWant (s : ByteArray) : RM Unit := rdAt.bind fun a => (rdBytes s.size).bind fun t => rdFail (decide (t ≠ s)) 3 a
theorem rdWant_eq {s : ByteArray} {r r1 r2 : RdV} {t : ByteArray} {pl : Int} (h : rdBytes s.size r = (t, r1)) (hp : r.place = pl) (h2 : (rdFail (decide (t ≠ s)) 3 pl r1).2 = r2) : rdWant s r = ((), r2) := by
  subst h2 hp
  simp only [rdWant, RM.bind, rdAt, h, rdFail]
theorem rdFail_eq {b : Bool} {e pl : Int} {r r2 : RdV} (h : (rdFail b e pl r).2 = r2) : rdFail b e pl r = ((), r2) := by
  subst h; rfl
theorem rdFail_err {b : Bool} {e pl : Int} {r : RdV} {p : Int × Int} (h : r.err = some p) : (rdFail b e pl r).2 = r := by
  cases b
  · rfl
  · exact RdV.fail_err h e pl
theorem Sim.want (s : ByteArray) : Sim (cuWant s) (rdWant s) := by
  intro c
  have h1 := Sim.eat s.size c
  unfold cuEat at h1
  unfold cuWant
  by_cases h : c.at_ + s.size ≤ c.s.size
  · rw [if_pos h] at h1 ⊢
    have h1 : rdBytes s.size c.rd = _ := h1
    by_cases e : c.cut s.size = s
    · rw [if_pos e]
      simp only [rdWant, RM.bind, rdAt, h1, e]
      simp [rdFail]
    · rw [if_neg e]
      simp only [rdWant, RM.bind, rdAt, h1]
      simp [rdFail, e]
      rfl
  · rw [if_neg h] at h1 ⊢
    have h1 : (rdBytes s.size c.rd).2.err = _ := h1
    exact Keeps.fail _ _ _ _ _ h1
theorem Keeps.want (s : ByteArray) : Keeps (rdWant s) := Keeps.bind Keeps.at_ fun _ => Keeps.bind (Keeps.bytes _) fun _ => Keeps.fail _ _ _
theorem Sim.rest : Sim cuRest rdRest := fun c => Sim.eat (c.s.size - c.at_) c
theorem Keeps.rest : Keeps rdRest := fun _ _ h => RdV.bytes_err h _

/-- Only where nothing was wrong. -/
def rdIfOk {α : Type} (q : RM α) (d : α) : RM α := fun r => match r.err with
  | none => q r
  | some _ => (d, r)
theorem Sim.ifOk {α : Type} {m : CM α} {q : RM α} {d : α} (h : Sim m q) : Sim m (rdIfOk q d) := h
theorem Keeps.ifOk {α : Type} {q : RM α} {d : α} : Keeps (rdIfOk q d) := by
  intro r e h
  show (rdIfOk q d r).2.err = _
  unfold rdIfOk
  rw [h]
  exact h
theorem rdIfOk_none {α : Type} {q : RM α} {d : α} {r : RdV} (h : r.err = none) : rdIfOk q d r = q r := by unfold rdIfOk; rw [h]
theorem rdIfOk_some {α : Type} {q : RM α} {d : α} {r : RdV} {e : Int × Int} (h : r.err = some e) : rdIfOk q d r = (d, r) := by unfold rdIfOk; rw [h]
/-- So many numbers. -/
def cuNums (n : Nat) : Nat → List Nat → CM (List Nat)
  | 0, l => CM.pure l
  | k + 1, l => (cuNum n).bind fun x => cuNums n k (l ++ [x])
def rdNums (n : Nat) : Nat → List Nat → RM (List Nat)
  | 0, l => RM.pure l
  | k + 1, l => (rdNum n).bind fun x => rdNums n k (l ++ [x])
theorem Keeps.nums (n : Nat) : ∀ k l, Keeps (rdNums n k l)
  | 0, _ => Keeps.pure _
  | k + 1, l => Keeps.bind (Keeps.num n) fun _ => Keeps.nums n k _
theorem Sim.nums (n : Nat) : ∀ k l, Sim (cuNums n k l) (rdNums n k l)
  | 0, _ => Sim.pure _
  | k + 1, l => Sim.bind (Sim.num n) (fun _ => Sim.nums n k _) fun _ => Keeps.nums n k _

/-- A text from its head on: what both come to. -/
theorem Sim.run {α : Type} {m : CM α} {p : RM α} (h : Sim m p) (s : ByteArray) :
    (∀ a c, m ⟨s, 0, 0⟩ = .ok a c → (p ⟨s, 0, 0, none⟩).1 = a ∧ (p ⟨s, 0, 0, none⟩).2.err = none) ∧ ∀ e pl c, m ⟨s, 0, 0⟩ = .thr e pl c → (p ⟨s, 0, 0, none⟩).2.err = some (e, pl) := by
  have h1 := h ⟨s, 0, 0⟩
  refine ⟨fun a c hm => ?_, fun e pl c hm => ?_⟩
  · rw [hm] at h1
    have h1 : p ⟨s, 0, 0, none⟩ = (a, c.rd) := h1
    rw [h1]
    exact ⟨rfl, rfl⟩
  · rw [hm] at h1
    exact h1
end Go.Sx
