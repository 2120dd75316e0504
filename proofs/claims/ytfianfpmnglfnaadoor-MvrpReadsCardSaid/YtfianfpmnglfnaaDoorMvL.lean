/- Reading events in two ways, by a cursor that throws and by a reader that keeps its first error, in plain Lean. Conditions: none. -/
import Derived.Test.YtfianfpmnglfnaaDoorRM
namespace Go.Proofs.YtfianfpmnglfnaaDoor
open Go.Sx
set_option maxRecDepth 100000
set_option maxHeartbeats 8000000
attribute [local irreducible] Meets

def z1B : ByteArray := ⟨#[0]⟩
theorem one_byte (r : RdV) : rdWant z1B r = ((), (rdFail (decide (((rdNum 1 r).1 : Int) ≠ 0)) 3 r.place (rdNum 1 r).2).2) := by
  have e : (rdNum 1 r).2 = (rdBytes 1 r).2 := rfl
  have n : (rdNum 1 r).1 = numL (rdBytes 1 r).1.data.toList := rfl
  show ((), (rdFail (decide ((rdBytes z1B.size r).1 ≠ z1B)) 3 r.place (rdBytes z1B.size r).2).2) = _
  rw [show z1B.size = 1 from rfl, e, n]
  rcases he : (rdBytes 1 r).2.err with _ | p
  · have hz : (rdBytes 1 r).1.size = 1 := by
      rcases he0 : r.err with _ | p
      · by_cases k : (r.s.size : Int) - r.at_ < (1 : Nat)
        · have := RdV.bytes_short he0 (n := (1 : Nat)) (by decide) k
          rw [show (rdBytes 1 r).2 = (r.bytes (1 : Nat)).2 from rfl, this] at he
          cases he
        · have h1 := RdV.bytes_good he0 (n := (1 : Nat)) (by decide) k
          rw [show (rdBytes 1 r).1 = (r.bytes (1 : Nat)).1 from rfl, h1]
          simp [ByteArray.size_extract]
          omega
      · rw [show (rdBytes 1 r).2 = (r.bytes (1 : Nat)).2 from rfl, RdV.bytes_err he0] at he
        cases he
    generalize (rdBytes 1 r).1 = t at hz
    have ht : ∃ b : UInt8, t = ⟨#[b]⟩ := by
      rcases t with ⟨⟨l⟩⟩
      rcases l with _ | ⟨b, _ | ⟨c, l⟩⟩
      · cases hz
      · exact ⟨b, rfl⟩
      · have : l.length + 1 + 1 = 1 := hz
        omega
    obtain ⟨b, rfl⟩ := ht
    have key : decide ((ByteArray.mk #[b]) ≠ z1B) = decide (((numL (ByteArray.mk #[b]).data.toList : Nat) : Int) ≠ 0) := by
      rw [decide_eq_decide]
      have n1 : numL (ByteArray.mk #[b]).data.toList = b.toNat := by simp [numL]
      rw [n1]
      constructor
      · intro h hb
        apply h
        have : b = 0 := UInt8.toNat_inj.1 (by simpa using hb)
        rw [this]; rfl
      · intro h hb
        apply h
        have : b = 0 := by
          have := congrArg (fun x : ByteArray => x.data.toList) hb
          simpa [z1B] using this
        rw [this]; rfl
    rw [key]
  · rw [rdFail_err he, rdFail_err he]

/-- What is read: whether all leave, from which VID on, and the events. -/
structure AttP where
  la : Bool
  first : Int
  evs : List Int
def evB (e : Int) : Bool := decide (0 ≤ e) && decide (e ≤ 5)
def attB (a : AttP) : Bool := match a.evs with
  | [] => a.la && (decide (0 ≤ a.first) && decide (a.first ≤ 4094))
  | e :: t => decide (((e :: t).length : Int) ≤ 400) && (decide (1 ≤ a.first) && (decide (a.first ≤ 4094) && (decide (a.first + ((e :: t).length : Int) ≤ 4095) && (e :: t).all evB)))
def three (x : Nat) : List Nat := [x / 36, x / 6 % 6, x % 6]
def cuThree (n : Nat) (pl : Int) : List Nat → List Int → CM (List Int)
  | [], acc => CM.pure acc
  | e :: t, acc => if acc.length < n then cuThree n pl t (acc ++ [(e : Int)]) else (cuThrow (decide (0 < e)) 15 pl).bind fun _ => cuThree n pl t acc
def rdThree (n : Nat) (pl : Int) : List Nat → List Int → RM (List Int)
  | [], acc => RM.pure acc
  | e :: t, acc => if acc.length < n then rdThree n pl t (acc ++ [(e : Int)]) else (rdFail (decide (0 < e)) 15 pl).bind fun _ => rdThree n pl t acc
theorem three_keeps (n : Nat) (pl : Int) : ∀ l acc, Keeps (rdThree n pl l acc)
  | [], _ => Keeps.pure _
  | _ :: t, _ => Keeps.ite (three_keeps n pl t _) (Keeps.bind (Keeps.fail _ _ _) fun _ => three_keeps n pl t _)
theorem three_sim (n : Nat) (pl : Int) : ∀ l acc, Sim (cuThree n pl l acc) (rdThree n pl l acc)
  | [], _ => Sim.pure _
  | _ :: t, _ => Sim.ite (fun _ => three_sim n pl t _) (fun _ => Sim.bind (Sim.fail _ _ _) (fun _ => three_sim n pl t _) fun _ => three_keeps n pl t _)
def cuEvs (n : Nat) : Nat → List Int → CM (List Int)
  | 0, acc => CM.pure acc
  | f + 1, acc => if acc.length < n then cuAt.bind fun pl => (cuNum 1).bind fun x => (cuThrow (decide (215 < x)) 2 pl).bind fun _ => (cuThree n pl (three x) acc).bind fun acc => cuEvs n f acc else CM.pure acc
def rdEvs (n : Nat) : Nat → List Int → RM (List Int)
  | 0, acc => RM.pure acc
  | f + 1, acc => if acc.length < n then rdIfOk (rdAt.bind fun pl => (rdNum 1).bind fun x => (rdFail (decide (215 < x)) 2 pl).bind fun _ => (rdThree n pl (three x) acc).bind fun acc => rdEvs n f acc) acc else RM.pure acc
theorem evs_keeps (n : Nat) : ∀ f acc, Keeps (rdEvs n f acc)
  | 0, _ => Keeps.pure _
  | _ + 1, _ => Keeps.ite Keeps.ifOk (Keeps.pure _)
theorem evs_sim (n : Nat) : ∀ f acc, Sim (cuEvs n f acc) (rdEvs n f acc)
  | 0, _ => Sim.pure _
  | f + 1, _ => Sim.ite (fun _ => Sim.ifOk (Sim.bind Sim.at_ (fun _ => Sim.bind (Sim.num 1) (fun _ => Sim.bind (Sim.fail _ _ _) (fun _ => Sim.bind (three_sim n _ _ _) (fun _ => evs_sim n f _) fun _ => evs_keeps n f _) fun _ => Keeps.bind (three_keeps n _ _ _) fun _ => evs_keeps n f _)
      fun _ => Keeps.bind (Keeps.fail _ _ _) fun _ => Keeps.bind (three_keeps n _ _ _) fun _ => evs_keeps n f _) fun _ => Keeps.bind (Keeps.num 1) fun _ => Keeps.bind (Keeps.fail _ _ _) fun _ => Keeps.bind (three_keeps n _ _ _) fun _ => evs_keeps n f _)) fun _ => Sim.pure _
def attBad (n : Nat) : Bool := decide (16384 ≤ n ∨ 400 < n % 8192)
def cuAttr : CM (Option AttP) := cuAt.bind fun pl => (cuNum 2).bind fun n => if n = 0 then CM.pure none else (cuThrow (attBad n) 2 pl).bind fun _ => (cuNum 2).bind fun first => (cuEvs (n % 8192) 134 []).bind fun evs =>
  (cuThrow (!attB ⟨decide (8192 ≤ n), first, evs⟩) 2 pl).bind fun _ => CM.pure (some ⟨decide (8192 ≤ n), first, evs⟩)
def rdAttr : RM (Option AttP) := rdAt.bind fun pl => (rdNum 2).bind fun n => rdIfOk (if n = 0 then RM.pure none else (rdFail (attBad n) 2 pl).bind fun _ => rdIfOk ((rdNum 2).bind fun first => (rdEvs (n % 8192) 134 []).bind fun evs =>
  rdIfOk ((rdFail (!attB ⟨decide (8192 ≤ n), first, evs⟩) 2 pl).bind fun _ => rdIfOk (RM.pure (some ⟨decide (8192 ≤ n), first, evs⟩)) none) none) none) none
theorem attr_keeps : Keeps rdAttr := Keeps.bind Keeps.at_ fun _ => Keeps.bind (Keeps.num 2) fun _ => Keeps.ifOk
theorem attr_sim : Sim cuAttr rdAttr := by
  unfold cuAttr rdAttr
  refine Sim.bind Sim.at_ (fun _ => Sim.bind (Sim.num 2) (fun _ => Sim.ifOk (Sim.ite (fun _ => Sim.pure _) fun _ => ?_)) fun _ => Keeps.ifOk) fun _ => Keeps.bind (Keeps.num 2) fun _ => Keeps.ifOk
  refine Sim.bind (Sim.fail _ _ _) (fun _ => Sim.ifOk (Sim.bind (Sim.num 2) (fun _ => Sim.bind (evs_sim _ _ _) (fun _ => Sim.ifOk (Sim.bind (Sim.fail _ _ _) (fun _ => Sim.ifOk (Sim.pure _)) fun _ => Keeps.ifOk)) fun _ => Keeps.ifOk) fun _ => Keeps.bind (evs_keeps _ _ _) fun _ => Keeps.ifOk)) fun _ => Keeps.ifOk
def cuAttrs (pl : Int) : Nat → List AttP → CM (List AttP)
  | 0, l => CM.pure l
  | f + 1, l => cuAttr.bind fun o => match o with
    | none => CM.pure l
    | some a => (cuThrow (decide (40 < l.length + 1)) 4 pl).bind fun _ => cuAttrs pl f (l ++ [a])
def rdAttrs (pl : Int) : Nat → List AttP → RM (List AttP)
  | 0, l => RM.pure l
  | f + 1, l => rdAttr.bind fun o => match o with
    | none => RM.pure l
    | some a => (rdFail (decide (40 < l.length + 1)) 4 pl).bind fun _ => rdAttrs pl f (l ++ [a])
theorem attrs_keeps (pl : Int) : ∀ f l, Keeps (rdAttrs pl f l)
  | 0, _ => Keeps.pure _
  | f + 1, l => Keeps.bind attr_keeps fun o => match o with
    | none => Keeps.pure _
    | some _ => Keeps.bind (Keeps.fail _ _ _) fun _ => attrs_keeps pl f _
theorem attrs_sim (pl : Int) : ∀ f l, Sim (cuAttrs pl f l) (rdAttrs pl f l)
  | 0, _ => Sim.pure _
  | f + 1, l => Sim.bind attr_sim (fun o => match o with
    | none => Sim.pure _
    | some _ => Sim.bind (Sim.fail _ _ _) (fun _ => attrs_sim pl f _) fun _ => attrs_keeps pl f _) fun o => match o with
    | none => Keeps.pure _
    | some _ => Keeps.bind (Keeps.fail _ _ _) fun _ => attrs_keeps pl f _
def cuMsgs : Nat → List AttP → CM (List AttP)
  | 0, l => CM.pure l
  | f + 1, l => cuAt.bind fun pl => (cuNum 1).bind fun kind => (cuNum 1).bind fun size => if kind = 0 ∧ size = 0 then cuNoughts.bind fun _ => CM.pure l else (cuThrow (decide (kind ≠ 1)) 5 pl).bind fun _ => (cuThrow (decide (size ≠ 2)) 3 (pl + 1)).bind fun _ => (cuAttrs pl 45 l).bind fun l => cuMsgs f l
def rdMsgs : Nat → List AttP → RM (List AttP)
  | 0, l => RM.pure l
  | f + 1, l => rdIfOk (rdAt.bind fun pl => (rdNum 1).bind fun kind => (rdNum 1).bind fun size => rdIfOk (if kind = 0 ∧ size = 0 then rdZeros.bind fun _ => RM.pure l else (rdFail (decide (kind ≠ 1)) 5 pl).bind fun _ => rdIfOk ((rdFail (decide (size ≠ 2)) 3 (pl + 1)).bind fun _ => rdIfOk ((rdAttrs pl 45 l).bind fun l => rdMsgs f l) l) l) l) l
theorem msgs_keeps : ∀ f l, Keeps (rdMsgs f l)
  | 0, _ => Keeps.pure _
  | _ + 1, _ => Keeps.ifOk
theorem msgs_sim : ∀ f l, Sim (cuMsgs f l) (rdMsgs f l)
  | 0, _ => Sim.pure _
  | f + 1, l => Sim.ifOk (Sim.bind Sim.at_ (fun _ => Sim.bind (Sim.num 1) (fun _ => Sim.bind (Sim.num 1) (fun _ => Sim.ifOk (Sim.ite (fun _ => Sim.bind Sim.noughts (fun _ => Sim.pure _) fun _ => Keeps.pure _)
      fun _ => Sim.bind (Sim.fail _ _ _) (fun _ => Sim.ifOk (Sim.bind (Sim.fail _ _ _) (fun _ => Sim.ifOk (Sim.bind (attrs_sim _ _ _) (fun _ => msgs_sim f _) fun _ => msgs_keeps f _)) fun _ => Keeps.ifOk)) fun _ => Keeps.ifOk)) fun _ => Keeps.ifOk) fun _ => Keeps.bind (Keeps.num 1) fun _ => Keeps.ifOk)
      fun _ => Keeps.bind (Keeps.num 1) fun _ => Keeps.bind (Keeps.num 1) fun _ => Keeps.ifOk)
def cuMvrp (n : Nat) : CM (List AttP) := (cuWant z1B).bind fun _ => cuMsgs n []
def rdMvrp (n : Nat) : RM (List AttP) := (rdWant z1B).bind fun _ => rdMsgs n []
theorem mvrp_sim (n : Nat) : Sim (cuMvrp n) (rdMvrp n) := Sim.bind (Sim.want _) (fun _ => msgs_sim n _) fun _ => msgs_keeps n _

theorem cuNum_fwd {n x : Nat} {c c' : CurV} (h : cuNum n c = .ok x c') : c' = c.fwd n := by
  unfold cuNum at h
  split at h <;> cases h
  rfl
theorem fwd_at (c : CurV) (n : Nat) : (c.fwd n).at_ = c.at_ + n ∧ (c.fwd n).s = c.s := ⟨rfl, rfl⟩
theorem num_fwd {r r' : RdV} {n x : Nat} (h : rdNum n r = (x, r')) (h0 : r.err = none) (h1 : r'.err = none) : r'.at_ = r.at_ + n ∧ r'.s = r.s ∧ r'.off = r.off := by
  have h : (r.bytes (n : Nat)).2 = r' := (congrArg Prod.snd h : (r.num n).2 = r')
  by_cases k : (r.s.size : Int) - r.at_ < n
  · rw [RdV.bytes_short h0 (by omega) k] at h
    subst h; cases h1
  · rw [RdV.bytes_good h0 (by omega) k] at h
    subst h
    exact ⟨by simp, rfl, rfl⟩
/-- What is already wrong stays so. -/
theorem attr_dead {r : RdV} {p : Int × Int} (h : r.err = some p) : rdAttr r = (none, r) := by
  have e : (rdNum 2 r).2 = r := congrArg Prod.snd (RdV.bytes_dead h (n := ((2 : Nat) : Int)))
  unfold rdAttr
  show rdIfOk _ _ (rdNum 2 r).2 = _
  rw [e, rdIfOk_some h]
end Go.Proofs.YtfianfpmnglfnaaDoor
