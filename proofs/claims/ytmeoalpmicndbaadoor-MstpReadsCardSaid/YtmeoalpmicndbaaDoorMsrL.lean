/- Reading an MST BPDU in two ways, in plain Lean; one byte that must be nought. Conditions: none. -/
import Derived.Test.YtmeoalpmicndbaaDoorBpduRC
import Derived.Lib.TrimByte
namespace Go.Proofs.YtmeoalpmicndbaaDoor
open Go.Sx
set_option maxRecDepth 100000
set_option maxHeartbeats 8000000
attribute [local irreducible] Meets

def z1B : ByteArray := ⟨#[0]⟩
def hMB : ByteArray := ⟨#[0, 0, 3, 2]⟩
theorem strT {a b : ByteArray} {t : Bool} (k : (a.toList == b.toList) = t) : decide (a = b) = t := by rw [← str_beq]; exact k
theorem one_byte (r : RdV) : rdWant z1B r = ((), (rdFail (decide (((rdNum 1 r).1 : Int) ≠ 0)) 3 r.place (rdNum 1 r).2).2) := by
  have e : (rdNum 1 r).2 = (rdBytes 1 r).2 := rfl
  have n : (rdNum 1 r).1 = numL (rdBytes 1 r).1.data.toList := rfl
  show ((), (rdFail (decide ((rdBytes z1B.size r).1 ≠ z1B)) 3 r.place (rdBytes z1B.size r).2).2) = _
  rw [show z1B.size = 1 from rfl, e, n]
  rcases he : (rdBytes 1 r).2.err with _ | p
  · have hz : (rdBytes 1 r).1.size = 1 := by
      rcases he0 : r.err with _ | p
      · by_cases k : (r.s.size : Int) - r.at_ < (1 : Nat)
        · have := RdV.bytes_short he0 (n := (1 : Nat)) (by decide) k
          rw [show (rdBytes 1 r).2 = (r.bytes (1 : Nat)).2 from rfl, this] at he
          cases he
        · have h1 := RdV.bytes_good he0 (n := (1 : Nat)) (by decide) k
          rw [show (rdBytes 1 r).1 = (r.bytes (1 : Nat)).1 from rfl, h1]
          simp [ByteArray.size_extract]
          omega
      · rw [show (rdBytes 1 r).2 = (r.bytes (1 : Nat)).2 from rfl, RdV.bytes_err he0] at he
        cases he
    generalize (rdBytes 1 r).1 = t at hz
    have ht : ∃ b : UInt8, t = ⟨#[b]⟩ := by
      rcases t with ⟨⟨l⟩⟩
      rcases l with _ | ⟨b, _ | ⟨c, l⟩⟩
      · cases hz
      · exact ⟨b, rfl⟩
      · have : l.length + 1 + 1 = 1 := hz
        omega
    obtain ⟨b, rfl⟩ := ht
    have key : decide ((ByteArray.mk #[b]) ≠ z1B) = decide (((numL (ByteArray.mk #[b]).data.toList : Nat) : Int) ≠ 0) := by
      rw [decide_eq_decide]
      have n1 : numL (ByteArray.mk #[b]).data.toList = b.toNat := by simp [numL]
      rw [n1]
      constructor
      · intro h hb
        apply h
        have : b = 0 := UInt8.toNat_inj.1 (by simpa using hb)
        rw [this]; rfl
      · intro h hb
        apply h
        have : b = 0 := by
          have := congrArg (fun x : ByteArray => x.data.toList) hb
          simpa [z1B] using this
        rw [this]; rfl
    rw [key]
  · rw [rdFail_err he, rdFail_err he]

def trim0 (s : ByteArray) : ByteArray := ⟨(Lib.trimRightB s.data.toList 0).toArray⟩
theorem trim0_end {s : ByteArray} {n : Nat} (hn : s.size = n + 1) (h : s.data.toList[n]? = some 0) : trim0 (s.extract 0 n) = trim0 s := by
  obtain ⟨⟨l⟩⟩ := s
  have hl : l.length = n + 1 := hn
  have h : l[n]? = some 0 := h
  obtain ⟨m, rfl⟩ : ∃ m, l = m ++ [0] := by
    refine ⟨l.take n, ?_⟩
    have h2 : l.take (n + 1) = l := List.take_of_length_le (by omega)
    rw [List.take_add_one, h] at h2
    exact h2.symm
  have hm : m.length = n := by simpa using hl
  have e : (ByteArray.mk (m ++ [0]).toArray).extract 0 n = ⟨m.toArray⟩ := by
    apply ByteArray.ext
    rw [ByteArray.data_extract]
    simp [← hm]
  rw [e]
  simp [trim0, Lib.trimRightB]
theorem trim0_stop {s : ByteArray} {n : Nat} {b : UInt8} (hn : s.size = n + 1) (h : s.data.toList[n]? = some b) (hb : b ≠ 0) : trim0 s = s := by
  obtain ⟨⟨l⟩⟩ := s
  have hl : l.length = n + 1 := hn
  have h : l[n]? = some b := h
  unfold trim0
  rw [Lib.trimRightB_take l 0 l.length (Nat.le_refl _) (fun j c hj hc => by rw [List.getElem?_eq_none hj] at hc; cases hc) (fun c _ hc => by
    rw [hl, Nat.add_sub_cancel, h] at hc; cases hc; exact hb), List.take_length]
theorem trim0_emp : trim0 ⟨#[]⟩ = ⟨#[]⟩ := rfl

structure MstP where
  base : BpduV
  name : ByteArray
  rev : Nat
  digest : ByteArray
  cost : Nat
  bridge : BridgeV
  hops : Nat
  insts : List InstV
def cuInst : CM InstV := (cuNum 1).bind fun f => cuBridge.bind fun root => (cuNum 4).bind fun cost => (cuNum 1).bind fun b => (cuNum 1).bind fun p => (cuNum 1).bind fun h => CM.pure ⟨flagsP f, root, cost, (b / 16 : Nat), (p / 16 : Nat), h⟩
def rdInst : RM InstV := (rdNum 1).bind fun f => rdBridgeM.bind fun root => (rdNum 4).bind fun cost => (rdNum 1).bind fun b => (rdNum 1).bind fun p => (rdNum 1).bind fun h => RM.pure ⟨flagsP f, root, cost, (b / 16 : Nat), (p / 16 : Nat), h⟩
def cuInsts : Nat → List InstV → CM (List InstV)
  | 0, l => CM.pure l
  | k + 1, l => cuInst.bind fun x => cuInsts k (l ++ [x])
def rdInsts : Nat → List InstV → RM (List InstV)
  | 0, l => RM.pure l
  | k + 1, l => rdIfOk (rdInst.bind fun x => rdInsts k (l ++ [x])) l
theorem inst_keeps : Keeps rdInst := by
  unfold rdInst
  repeat' first | exact Keeps.pure _ | exact Keeps.num _ | exact bridge_keeps | refine Keeps.bind ?_ fun _ => ?_
theorem inst_sim : Sim cuInst rdInst := by
  unfold cuInst rdInst
  repeat' first | exact Sim.pure _ | exact Sim.num _ | exact bridge_sim | exact Keeps.pure _ | exact Keeps.num _ | exact bridge_keeps | refine Sim.bind ?_ (fun _ => ?_) fun _ => ?_ | refine Keeps.bind ?_ fun _ => ?_
theorem insts_keeps : ∀ k l, Keeps (rdInsts k l)
  | 0, _ => Keeps.pure _
  | _ + 1, _ => Keeps.ifOk
theorem insts_sim : ∀ k l, Sim (cuInsts k l) (rdInsts k l)
  | 0, _ => Sim.pure _
  | k + 1, l => Sim.ifOk (Sim.bind inst_sim (fun _ => insts_sim k _) fun _ => insts_keeps k _)
def mstBad (n : Nat) : Bool := decide (n % 16 ≠ 0 ∨ n < 64 ∨ 1088 < n)
def cuMst : CM MstP := (cuWant hMB).bind fun _ => (cuBody 3).bind fun base => (cuWant z1B).bind fun _ => cuAt.bind fun at_ => (cuNum 2).bind fun n => (cuThrow (mstBad n) 2 at_).bind fun _ => (cuWant z1B).bind fun _ => (cuEat 32).bind fun nm =>
  (cuNum 2).bind fun rev => (cuEat 16).bind fun dg => (cuNum 4).bind fun cost => cuBridge.bind fun br => (cuNum 1).bind fun hops => (cuInsts ((n - 64) / 16) []).bind fun insts => CM.pure ⟨base, trim0 nm, rev, dg, cost, br, hops, insts⟩
def rdMst : RM MstP := (rdWant hMB).bind fun _ => (rdBody 3).bind fun base => (rdWant z1B).bind fun _ => rdAt.bind fun at_ => (rdNum 2).bind fun n => (rdFail (mstBad n) 2 at_).bind fun _ => (rdWant z1B).bind fun _ => (rdBytes 32).bind fun nm =>
  (rdNum 2).bind fun rev => (rdBytes 16).bind fun dg => (rdNum 4).bind fun cost => rdBridgeM.bind fun br => (rdNum 1).bind fun hops => (rdInsts ((n - 64) / 16) []).bind fun insts => RM.pure ⟨base, trim0 nm, rev, dg, cost, br, hops, insts⟩
theorem mst_sim : Sim cuMst rdMst := by
  unfold cuMst rdMst
  repeat' first | exact Sim.pure _ | exact Sim.num _ | exact Sim.eat _ | exact Sim.want _ | exact Sim.at_ | exact Sim.fail _ _ _ | exact body_sim _ | exact insts_sim _ _ | exact bridge_sim | exact Keeps.pure _ | exact Keeps.num _ | exact Keeps.bytes _ | exact Keeps.want _ | exact Keeps.at_ | exact Keeps.fail _ _ _ | exact rdBody_keeps _ | exact insts_keeps _ _ | exact bridge_keeps | refine Sim.bind ?_ (fun _ => ?_) fun _ => ?_ | refine Keeps.bind ?_ fun _ => ?_
end Go.Proofs.YtmeoalpmicndbaaDoor
