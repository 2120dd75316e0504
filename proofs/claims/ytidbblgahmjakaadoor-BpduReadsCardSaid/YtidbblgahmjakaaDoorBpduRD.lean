/- bpdu.Read, its reference, the law BpduReads: what each returns. Conditions: of the law: the variable errors.errorType is as laid. -/
import Derived.Test.YtidbblgahmjakaaDoorBpduRC
import Derived.Test.YtidbblgahmjakaaDoorBpduHC
namespace Go.Proofs.YtidbblgahmjakaaDoor
open Go.Sx
set_option maxRecDepth 100000
set_option maxHeartbeats 8000000
attribute [local irreducible] Meets

def h1B : ByteArray := ⟨#[0, 0, 0, 0]⟩
def h2B : ByteArray := ⟨#[0, 0, 0, 128]⟩
def h3B : ByteArray := ⟨#[0, 0, 2, 2]⟩
def z1B : ByteArray := ⟨#[0]⟩
def confV (b : BpduV) : BpduV := ⟨b.kind, ⟨b.flags.change, false, 0, false, false, false, b.flags.ack⟩, b.root, b.cost, b.sender, b.port, b.age, b.max, b.hello, b.wait⟩
def noticeV : BpduV := ⟨2, FlagsV.zero, BridgeV.zero, 0, BridgeV.zero, PortV.zero, 0, 0, 0, 0⟩
def cuBpdu : CM BpduV := (cuEat 4).bind fun h => if h = h1B then (cuBody 1).bind fun b => CM.pure (confV b) else if h = h2B then CM.pure noticeV else if h = h3B then (cuBody 3).bind fun b => (cuWant z1B).bind fun _ => CM.pure b else (cuThrow true 3 0).bind fun _ => CM.pure BpduV.zero
def rdBpdu : RM BpduV := (rdBytes 4).bind fun h => if h = h1B then (rdBody 1).bind fun b => RM.pure (confV b) else if h = h2B then RM.pure noticeV else if h = h3B then (rdBody 3).bind fun b => (rdWant z1B).bind fun _ => RM.pure b else (rdFail true 3 0).bind fun _ => RM.pure BpduV.zero
theorem bpdu_sim : Sim cuBpdu rdBpdu := by
  refine Sim.bind (Sim.eat 4) (fun h => Sim.ite (fun _ => Sim.bind (body_sim 1) (fun _ => Sim.pure _) fun _ => Keeps.pure _) fun _ => Sim.ite (fun _ => Sim.pure _) fun _ => Sim.ite (fun _ => Sim.bind (body_sim 3) (fun _ => Sim.bind (Sim.want _) (fun _ => Sim.pure _) fun _ => Keeps.pure _) fun _ => Keeps.bind (Keeps.want _) fun _ => Keeps.pure _) fun _ => Sim.bind (Sim.fail _ _ _) (fun _ => Sim.pure _) fun _ => Keeps.pure _) fun h => ?_
  refine Keeps.ite (Keeps.bind (rdBody_keeps 1) fun _ => Keeps.pure _) (Keeps.ite (Keeps.pure _) (Keeps.ite (Keeps.bind (rdBody_keeps 3) fun _ => Keeps.bind (Keeps.want _) fun _ => Keeps.pure _) (Keeps.bind (Keeps.fail _ _ _) fun _ => Keeps.pure _)))
theorem strT {a b : ByteArray} {t : Bool} (k : (a.toList == b.toList) = t) : decide (a = b) = t := by rw [← str_beq]; exact k

/-- What the reference tells of bytes. -/
def bpduOut : CR BpduV → SV
  | .ok x _ => .tup [.agg (x.cells.map .v), .agg [.v (.int .i64 0), .v (.int .i64 (-1))]]
  | .thr e pl _ => .tup [.agg (BpduV.zero.cells.map .v), .agg [.v (.int .i64 e), .v (.int .i64 pl)]]
theorem refBpduRead_c (s : ByteArray) (g : G) (hs : s.size ≤ 1000000000000) : Meets Tryd.prog 44 [.v (.string s)] [] g (fun o L' g' => o = .ret (bpduOut (cuBpdu (cur0 s))) ∧ L' = [] ∧ G.le g g') := by
  obtain ⟨c0, hc0⟩ : ∃ c0, cur0 s = c0 := ⟨_, rfl⟩
  have hC0 := cu0_at hs g
  rw [hc0] at hC0 ⊢
  generalize hM : cuBpdu c0 = M
  rw [cuBpdu] at hM
  refine meets_ofD mixedW Tryd.func44 (by kernel_rfl) x44_ok (some []) ?_
  refine (good_c g).call rfl rfl rfl ?_
  refine ⟨by kernel_rfl, by kernel_rfl, ?_⟩
  change vC _ _ _ _ [_, _, .cells 202 [.v (.string s), .v (.int .i64 0), .v (.int .i64 0)]] _ _
  rw [show Chunk.cells 202 [.v (.string s), .v (.int .i64 0), .v (.int .i64 0)] = cuC c0 by rw [← hc0]; rfl]
  refine (eat_k hC0 4 (by decide)).callS [2] 3 rfl rfl rfl rfl ?_
  intro o L1 g1 hq _
  rcases hx : cuEat 4 c0 with ⟨x1, c1⟩ | ⟨e, pl, cx⟩ <;> rw [hx] at hq <;> first | rw [CM.bind_ok hx] at hM | rw [CM.bind_thr hx] at hM
  obtain ⟨rfl, rfl, hC1⟩ := hq
  refine bsplit_of (fun k1 => ?_) (fun k1 => ?_)
  · have k1 : x1 = h1B := of_decide_eq_true (strT k1)
    rw [if_pos k1] at hM
    refine (cbody_k hC1 1).callS [2] 3 rfl rfl rfl rfl ?_
    intro o L1 g2 hq _
    rcases hx : cuBody 1 c1 with ⟨x2, c2⟩ | ⟨e, pl, cx⟩ <;> rw [hx] at hq <;> first | rw [CM.bind_ok hx] at hM | rw [CM.bind_thr hx] at hM
    obtain ⟨rfl, rfl, hC2⟩ := hq
    ·
      subst hM
      refine recx_of Tryd.func94 rfl x94_ok ?_
      refine defx_of Tryd.func93 rfl x93_ok ?_
      refine (is_c 0 _ _).call rfl rfl rfl ?_
      exact ⟨rfl, rfl, hC2.1⟩
    all_goals
      obtain ⟨rfl, rfl, hle, he⟩ := hq
      subst hM
      refine recx_of Tryd.func94 rfl x94_ok ?_
      refine defx_of Tryd.func93 rfl x93_ok ?_
      refine (is_c e _ _).call rfl rfl rfl ?_
      refine bsplit_of (fun _ => ?_) (fun k => absurd k (by simp [he]))
      exact ⟨rfl, rfl, hle⟩
  have k1 : ¬ x1 = h1B := of_decide_eq_false (strT k1)
  rw [if_neg k1] at hM
  refine bsplit_of (fun k2 => ?_) (fun k2 => ?_)
  · have k2 : x1 = h2B := of_decide_eq_true (strT k2)
    rw [if_pos k2] at hM
    subst hM
    refine recx_of Tryd.func94 rfl x94_ok ?_
    refine defx_of Tryd.func93 rfl x93_ok ?_
    refine (is_c 0 _ _).call rfl rfl rfl ?_
    exact ⟨rfl, rfl, hC1.1⟩
  have k2 : ¬ x1 = h2B := of_decide_eq_false (strT k2)
  rw [if_neg k2] at hM
  refine bsplit_of (fun k3 => ?_) (fun k3 => ?_)
  · have k3 : x1 = h3B := of_decide_eq_true (strT k3)
    rw [if_pos k3] at hM
    refine (cbody_k hC1 3).callS [2] 3 rfl rfl rfl rfl ?_
    intro o L1 g2 hq _
    rcases hx : cuBody 3 c1 with ⟨x2, c2⟩ | ⟨e, pl, cx⟩ <;> rw [hx] at hq <;> first | rw [CM.bind_ok hx] at hM | rw [CM.bind_thr hx] at hM
    obtain ⟨rfl, rfl, hC2⟩ := hq
    refine (want_k hC2 z1B (by decide)).callS [2] 3 rfl rfl rfl rfl ?_
    intro o L1 g3 hq _
    rcases hx : cuWant z1B c2 with ⟨x3, c3⟩ | ⟨e, pl, cx⟩ <;> rw [hx] at hq <;> first | rw [CM.bind_ok hx] at hM | rw [CM.bind_thr hx] at hM
    obtain ⟨rfl, rfl, hC3⟩ := hq
    ·
      subst hM
      refine recx_of Tryd.func94 rfl x94_ok ?_
      refine defx_of Tryd.func93 rfl x93_ok ?_
      refine (is_c 0 _ _).call rfl rfl rfl ?_
      exact ⟨rfl, rfl, hC3.1⟩
    all_goals
      obtain ⟨rfl, rfl, hle, he⟩ := hq
      subst hM
      refine recx_of Tryd.func94 rfl x94_ok ?_
      refine defx_of Tryd.func93 rfl x93_ok ?_
      refine (is_c e _ _).call rfl rfl rfl ?_
      refine bsplit_of (fun _ => ?_) (fun k => absurd k (by simp [he]))
      exact ⟨rfl, rfl, hle⟩
  have k3 : ¬ x1 = h3B := of_decide_eq_false (strT k3)
  rw [if_neg k3] at hM
  · refine absK fun K hK => ?_
    refine (throw_k hC1 3 0 (by decide)).callS [2] 3 rfl rfl rfl rfl ?_
    rintro o L1 gT ⟨rfl, rfl, rfl⟩ _
    subst hK hM
    refine recx_of Tryd.func94 rfl x94_ok ?_
    refine defx_of Tryd.func93 rfl x93_ok ?_
    refine (is_c 3 _ _).call rfl rfl rfl ?_
    exact ⟨rfl, rfl, hC1.1⟩
  all_goals
    obtain ⟨rfl, rfl, hle, he⟩ := hq
    subst hM
    refine recx_of Tryd.func94 rfl x94_ok ?_
    refine defx_of Tryd.func93 rfl x93_ok ?_
    refine (is_c e _ _).call rfl rfl rfl ?_
    refine bsplit_of (fun _ => ?_) (fun k => absurd k (by simp [he]))
    exact ⟨rfl, rfl, hle⟩

/-! ### The reader -/
theorem one_byte (r : RdV) : rdWant z1B r = ((), (rdFail (decide (((rdNum 1 r).1 : Int) ≠ 0)) 3 r.place (rdNum 1 r).2).2) := by
  have e : (rdNum 1 r).2 = (rdBytes 1 r).2 := rfl
  have n : (rdNum 1 r).1 = numL (rdBytes 1 r).1.data.toList := rfl
  show ((), (rdFail (decide ((rdBytes z1B.size r).1 ≠ z1B)) 3 r.place (rdBytes z1B.size r).2).2) = _
  rw [show z1B.size = 1 from rfl, e, n]
  rcases he : (rdBytes 1 r).2.err with _ | p
  · have hz : (rdBytes 1 r).1.size = 1 := by
      rcases he0 : r.err with _ | p
      · by_cases k : (r.s.size : Int) - r.at_ < (1 : Nat)
        · have := RdV.bytes_short he0 (n := (1 : Nat)) (by decide) k
          rw [show (rdBytes 1 r).2 = (r.bytes (1 : Nat)).2 from rfl, this] at he
          cases he
        · have h1 := RdV.bytes_good he0 (n := (1 : Nat)) (by decide) k
          rw [show (rdBytes 1 r).1 = (r.bytes (1 : Nat)).1 from rfl, h1]
          simp [ByteArray.size_extract]
          omega
      · rw [show (rdBytes 1 r).2 = (r.bytes (1 : Nat)).2 from rfl, RdV.bytes_err he0] at he
        cases he
    generalize (rdBytes 1 r).1 = t at hz
    have ht : ∃ b : UInt8, t = ⟨#[b]⟩ := by
      rcases t with ⟨⟨l⟩⟩
      rcases l with _ | ⟨b, _ | ⟨c, l⟩⟩
      · cases hz
      · exact ⟨b, rfl⟩
      · have : l.length + 1 + 1 = 1 := hz
        omega
    obtain ⟨b, rfl⟩ := ht
    have key : decide ((ByteArray.mk #[b]) ≠ z1B) = decide (((numL (ByteArray.mk #[b]).data.toList : Nat) : Int) ≠ 0) := by
      rw [decide_eq_decide]
      have n1 : numL (ByteArray.mk #[b]).data.toList = b.toNat := by simp [numL]
      rw [n1]
      constructor
      · intro h hb
        apply h
        have : b = 0 := UInt8.toNat_inj.1 (by simpa using hb)
        rw [this]; rfl
      · intro h hb
        apply h
        have : b = 0 := by
          have := congrArg (fun x : ByteArray => x.data.toList) hb
          simpa [z1B] using this
        rw [this]; rfl
    rw [key]
  · rw [rdFail_err he, rdFail_err he]
end Go.Proofs.YtidbblgahmjakaaDoor
