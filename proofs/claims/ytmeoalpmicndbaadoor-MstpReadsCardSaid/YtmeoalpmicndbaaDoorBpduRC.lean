/- bpdu.ReadBody, the reference's body: what each reads. Conditions: the readers' places and texts are of a size that memory holds. -/
import Derived.Test.YtmeoalpmicndbaaDoorXbpdur
import Derived.Test.YtmeoalpmicndbaaDoorFlagsC
import Derived.Test.YtmeoalpmicndbaaDoorPrioRdC
import Derived.Test.YtmeoalpmicndbaaDoorRM
import Derived.Test.YtmeoalpmicndbaaDoorBaseC
namespace Go.Proofs.YtmeoalpmicndbaaDoor
open Go.Sx
set_option maxRecDepth 100000
set_option maxHeartbeats 8000000
attribute [local irreducible] Meets

def cuBridge : CM BridgeV := (cuNum 2).bind fun n => cuAddr.bind fun a => CM.pure (bridgeN n (addrRd a))
def cuPort : CM PortV := cuAt.bind fun a => (cuNum 2).bind fun n => (cuThrow (decide (n % 4096 = 0)) 2 a).bind fun _ => CM.pure (portN n)
def rdBridgeM : RM BridgeV := (rdNum 2).bind fun n => (rdBytes 6).bind fun a => RM.pure (bridgeN n (addrRd a))
def rdPortM : RM PortV := rdAt.bind fun a => (rdNum 2).bind fun n => (rdFail (decide (n % 4096 = 0)) 2 a).bind fun _ => RM.pure (portN n)
theorem bridge_sim : Sim cuBridge rdBridgeM := Sim.bind (Sim.num 2) (fun _ => Sim.bind (Sim.eat 6) (fun _ => Sim.pure _) fun _ => Keeps.pure _) fun _ => Keeps.bind (Keeps.bytes 6) fun _ => Keeps.pure _
theorem port_keeps (a : Int) : Keeps ((rdNum 2).bind fun n => (rdFail (decide (n % 4096 = 0)) 2 a).bind fun _ => RM.pure (portN n)) := Keeps.bind (Keeps.num 2) fun _ => Keeps.bind (Keeps.fail _ _ _) fun _ => Keeps.pure _
theorem port_sim : Sim cuPort rdPortM := Sim.bind Sim.at_ (fun a => Sim.bind (Sim.num 2) (fun _ => Sim.bind (Sim.fail _ _ _) (fun _ => Sim.pure _) fun _ => Keeps.pure _) fun _ => Keeps.bind (Keeps.fail _ _ _) fun _ => Keeps.pure _) port_keeps
theorem rdPort_eq (r : RdV) : rdPortM r = rdPort r := by
  show (portN (r.num 2).1, (rdFail (decide ((r.num 2).1 % 4096 = 0)) 2 r.place (r.num 2).2).2) = (portN (r.num 2).1, _)
  congr 1
  by_cases h : (r.num 2).1 % 4096 = 0
  · rcases he : (r.num 2).2.err with _ | p
    · rw [if_pos ⟨rfl, h⟩, decide_eq_true h]; rfl
    · rw [if_neg (fun k => by cases k.1)]; exact rdFail_err he
  · rw [if_neg (fun k => h k.2), decide_eq_false h]; rfl

theorem bridge_k {g0 g : G} {r : RdV} {v : Value} (h : RdAt g0 g v r) : Meets Tryd.prog 120 [.ptr 0 0] [rdC r v] g (RdQ g0 (rdBridgeM r).2 (.agg ((rdBridgeM r).1.cells.map .v))) :=
  (prioRead_c r v g h.2.1 h.2.2).mono fun _ _ _ k => RdQ.of h.1 (RdV.bytes_ok (num_ok h.2.1 2) 6) k
theorem port_k {g0 g : G} {r : RdV} {v : Value} (h : RdAt g0 g v r) : Meets Tryd.prog 163 [.ptr 0 0] [rdC r v] g (RdQ g0 (rdPortM r).2 (.agg ((rdPortM r).1.cells.map .v))) := by
  refine (prioReadPort_c r v g h.2.1 h.2.2).mono fun _ _ _ k => ?_
  rw [← rdPort_eq] at k
  refine RdQ.of h.1 ?_ k
  rw [rdPort_eq, rdPort]
  split
  · exact RdV.fail_ok (num_ok h.2.1 2) _ _
  · exact num_ok h.2.1 2

theorem cbridge_k {g0 g : G} {off : Int} {c : CurV} (h : CuAt g0 off g c) : Meets Tryd.prog 115 [.ptr 0 0] [cuC c] g (CuQ g0 off (fun b => .agg (b.cells.map .v)) (cuBridge c)) := by
  by_cases k1 : c.at_ + 2 ≤ c.s.size
  · have e1 : cuNum 2 c = .ok (c.numOf 2) (c.fwd 2) := by rw [cuNum, if_pos k1]
    by_cases k2 : c.at_ + 8 ≤ c.s.size
    · have e2 : cuAddr (c.fwd 2) = .ok ((c.fwd 2).cut 6) ((c.fwd 2).fwd 6) := by rw [cuAddr, cuEat, if_pos (by show c.at_ + 2 + 6 ≤ c.s.size; omega)]
      have hz : addrRd ((c.fwd 2).cut 6) = addrOf ((c.fwd 2).cut 6) := addrRd_of (cut_size (by show c.at_ + 2 + 6 ≤ c.s.size; omega))
      rw [cuBridge, CM.bind_ok e1, CM.bind_ok e2, hz]
      refine (cbridge_good c g h.2.1 k2).mono ?_
      rintro o L' g' ⟨rfl, rfl, hle⟩
      exact ⟨rfl, rfl, le_trans h.1 hle, CurV.fwd_ok (CurV.fwd_ok h.2.1 k1) (by show c.at_ + 2 + 6 ≤ c.s.size; omega), h.2.2⟩
    · have e2 : cuAddr (c.fwd 2) = .thr 7 (c.off + (c.at_ + 2 : Nat)) (c.fwd 2) := by rw [cuAddr, cuEat, if_neg (by show ¬ c.at_ + 2 + 6 ≤ c.s.size; omega)]; rfl
      rw [cuBridge, CM.bind_ok e1, CM.bind_thr e2]
      refine (cbridge_short2 c g h.2.1 k1 (by omega)).mono ?_
      rintro o L' g' ⟨rfl, rfl, hle⟩
      exact ⟨rfl, rfl, le_trans h.1 hle, by decide⟩
  · have e1 : cuNum 2 c = .thr 7 (c.off + c.at_) c := by rw [cuNum, if_neg k1]
    rw [cuBridge, CM.bind_thr e1]
    refine (cbridge_short1 c g h.2.1 (by omega)).mono ?_
    rintro o L' g' ⟨rfl, rfl, rfl⟩
    exact ⟨rfl, rfl, h.1, by decide⟩
theorem cport_k {g0 g : G} {off : Int} {c : CurV} (h : CuAt g0 off g c) : Meets Tryd.prog 160 [.ptr 0 0] [cuC c] g (CuQ g0 off (fun b => .agg (b.cells.map .v)) (cuPort c)) := by
  rw [cuPort, CM.bind_ok (show cuAt c = .ok (c.off + c.at_) c from rfl)]
  by_cases k1 : c.at_ + 2 ≤ c.s.size
  · have e1 : cuNum 2 c = .ok (c.numOf 2) (c.fwd 2) := by rw [cuNum, if_pos k1]
    rw [CM.bind_ok e1]
    by_cases k2 : c.numOf 2 % 4096 = 0
    · rw [decide_eq_true k2]
      refine (cport_bad c g h.2.1 k1 k2).mono ?_
      rintro o L' g' ⟨rfl, rfl, hle⟩
      exact ⟨rfl, rfl, le_trans h.1 hle, by decide⟩
    · rw [decide_eq_false k2]
      refine (cport_good c g h.2.1 k1 k2).mono ?_
      rintro o L' g' ⟨rfl, rfl, hle⟩
      exact ⟨rfl, rfl, le_trans h.1 hle, CurV.fwd_ok h.2.1 k1, h.2.2⟩
  · have e1 : cuNum 2 c = .thr 7 (c.off + c.at_) c := by rw [cuNum, if_neg k1]
    rw [CM.bind_thr e1]
    refine (cport_short c g h.2.1 (by omega)).mono ?_
    rintro o L' g' ⟨rfl, rfl, rfl⟩
    exact ⟨rfl, rfl, h.1, by decide⟩

/-! ### The body -/
def cuBody (kind : Int) : CM BpduV := (cuNum 1).bind fun f => cuBridge.bind fun root => (cuNum 4).bind fun cost => cuBridge.bind fun sender => cuPort.bind fun port => (cuNum 2).bind fun age => (cuNum 2).bind fun max => (cuNum 2).bind fun hello => (cuNum 2).bind fun wait => CM.pure ⟨kind, flagsP f, root, cost, sender, port, age, max, hello, wait⟩
def rdBody (kind : Int) : RM BpduV := (rdNum 1).bind fun f => rdBridgeM.bind fun root => (rdNum 4).bind fun cost => rdBridgeM.bind fun sender => rdPortM.bind fun port => (rdNum 2).bind fun age => (rdNum 2).bind fun max => (rdNum 2).bind fun hello => (rdNum 2).bind fun wait => RM.pure ⟨kind, flagsP f, root, cost, sender, port, age, max, hello, wait⟩
theorem bridge_keeps : Keeps rdBridgeM := Keeps.bind (Keeps.num 2) fun _ => Keeps.bind (Keeps.bytes 6) fun _ => Keeps.pure _
theorem rdPortM_keeps : Keeps rdPortM := Keeps.bind Keeps.at_ port_keeps
theorem rdBody_keeps (kind : Int) : Keeps (rdBody kind) := by
  unfold rdBody
  repeat' first | exact Keeps.pure _ | exact Keeps.num _ | exact bridge_keeps | exact rdPortM_keeps | refine Keeps.bind ?_ fun _ => ?_
theorem body_sim (kind : Int) : Sim (cuBody kind) (rdBody kind) := by
  unfold cuBody rdBody
  repeat' first | exact Sim.pure _ | exact Sim.num _ | exact bridge_sim | exact port_sim | exact Keeps.pure _ | exact Keeps.num _ | exact bridge_keeps | exact rdPortM_keeps | refine Sim.bind ?_ (fun _ => ?_) fun _ => ?_ | refine Keeps.bind ?_ fun _ => ?_
theorem flags_same {f : Nat} (h : f < 256 ^ 1) : flagsR f = flagsP f := by
  have := of_eq (f : Int) (by omega) (by omega)
  rcases hp : flagsP (f : Int) with ⟨a1, a2, a3, a4, a5, a6, a7⟩
  rcases hr : flagsR (f : Int) with ⟨b1, b2, b3, b4, b5, b6, b7⟩
  rw [hp, hr] at this
  simp [FlagsV.eq] at this
  simp [this]

theorem cbody_k {g0 g : G} {off : Int} {c : CurV} (hC : CuAt g0 off g c) (kind : Int) : Meets Tryd.prog 113 [.ptr 0 0, .v (.int .i64 kind)] [cuC c] g (CuQ g0 off (fun b => .agg (b.cells.map .v)) (cuBody kind c)) := by
  obtain ⟨c0, hc0⟩ : ∃ c0, c = c0 := ⟨_, rfl⟩
  rw [hc0] at hC ⊢
  generalize hM : cuBody kind c0 = M
  rw [cuBody] at hM
  refine meets_of mixedW Tryd.func113 (by kernel_rfl) x113_ok (some []) ?_
  refine (cnum_k hC 1 (by decide)).callS [0] 2 rfl rfl rfl rfl ?_
  intro o L1 g1 hq _
  rcases hx : cuNum 1 c0 with ⟨x1, c1⟩ | ⟨e, pl, cx⟩ <;> rw [hx] at hq <;> first | rw [CM.bind_ok hx] at hM | rw [CM.bind_thr hx] at hM
  obtain ⟨rfl, rfl, hC1⟩ := hq
  have hf := flags_same (cuNum_lt hx)
  refine (ofR_c (x1 : Int) _).call rfl rfl rfl ?_
  refine (cbridge_k hC1).callS [0] 2 rfl rfl rfl rfl ?_
  intro o L1 g2 hq _
  rcases hx : cuBridge c1 with ⟨x2, c2⟩ | ⟨e, pl, cx⟩ <;> rw [hx] at hq <;> first | rw [CM.bind_ok hx] at hM | rw [CM.bind_thr hx] at hM
  obtain ⟨rfl, rfl, hC2⟩ := hq
  refine (cnum_k hC2 4 (by decide)).callS [0] 2 rfl rfl rfl rfl ?_
  intro o L1 g3 hq _
  rcases hx : cuNum 4 c2 with ⟨x3, c3⟩ | ⟨e, pl, cx⟩ <;> rw [hx] at hq <;> first | rw [CM.bind_ok hx] at hM | rw [CM.bind_thr hx] at hM
  obtain ⟨rfl, rfl, hC3⟩ := hq
  refine (cbridge_k hC3).callS [0] 2 rfl rfl rfl rfl ?_
  intro o L1 g4 hq _
  rcases hx : cuBridge c3 with ⟨x4, c4⟩ | ⟨e, pl, cx⟩ <;> rw [hx] at hq <;> first | rw [CM.bind_ok hx] at hM | rw [CM.bind_thr hx] at hM
  obtain ⟨rfl, rfl, hC4⟩ := hq
  refine (cport_k hC4).callS [0] 2 rfl rfl rfl rfl ?_
  intro o L1 g5 hq _
  rcases hx : cuPort c4 with ⟨x5, c5⟩ | ⟨e, pl, cx⟩ <;> rw [hx] at hq <;> first | rw [CM.bind_ok hx] at hM | rw [CM.bind_thr hx] at hM
  obtain ⟨rfl, rfl, hC5⟩ := hq
  refine (cnum_k hC5 2 (by decide)).callS [0] 2 rfl rfl rfl rfl ?_
  intro o L1 g6 hq _
  rcases hx : cuNum 2 c5 with ⟨x6, c6⟩ | ⟨e, pl, cx⟩ <;> rw [hx] at hq <;> first | rw [CM.bind_ok hx] at hM | rw [CM.bind_thr hx] at hM
  obtain ⟨rfl, rfl, hC6⟩ := hq
  refine (cnum_k hC6 2 (by decide)).callS [0] 2 rfl rfl rfl rfl ?_
  intro o L1 g7 hq _
  rcases hx : cuNum 2 c6 with ⟨x7, c7⟩ | ⟨e, pl, cx⟩ <;> rw [hx] at hq <;> first | rw [CM.bind_ok hx] at hM | rw [CM.bind_thr hx] at hM
  obtain ⟨rfl, rfl, hC7⟩ := hq
  refine (cnum_k hC7 2 (by decide)).callS [0] 2 rfl rfl rfl rfl ?_
  intro o L1 g8 hq _
  rcases hx : cuNum 2 c7 with ⟨x8, c8⟩ | ⟨e, pl, cx⟩ <;> rw [hx] at hq <;> first | rw [CM.bind_ok hx] at hM | rw [CM.bind_thr hx] at hM
  obtain ⟨rfl, rfl, hC8⟩ := hq
  refine (cnum_k hC8 2 (by decide)).callS [0] 2 rfl rfl rfl rfl ?_
  intro o L1 g9 hq _
  rcases hx : cuNum 2 c8 with ⟨x9, c9⟩ | ⟨e, pl, cx⟩ <;> rw [hx] at hq <;> first | rw [CM.bind_ok hx] at hM | rw [CM.bind_thr hx] at hM
  obtain ⟨rfl, rfl, hC9⟩ := hq
  · subst hM
    refine ⟨?_, rfl, hC9⟩
    rw [← hf]
    rfl
  all_goals
    obtain ⟨rfl, rfl, hle, he⟩ := hq
    subst hM
    exact ⟨rfl, rfl, hle, he⟩
theorem body_k {g0 g : G} {r : RdV} {v : Value} (hR : RdAt g0 g v r) (kind : Int) : Meets Tryd.prog 118 [.ptr 0 0, .v (.int .i64 kind)] [rdC r v] g (RdQ g0 (rdBody kind r).2 (.agg ((rdBody kind r).1.cells.map .v))) := by
  obtain ⟨r0, hr0⟩ : ∃ r0, r = r0 := ⟨_, rfl⟩
  rw [hr0] at hR ⊢
  generalize hM : rdBody kind r0 = M
  rw [rdBody] at hM
  refine meets_of mixedW Tryd.func118 (by kernel_rfl) x118_ok (some []) ?_
  refine (num_k hR 1 (by decide) (by decide)).callS [0] 3 rfl rfl rfl rfl ?_
  intro o L1 g1 hq _
  rcases hx1 : rdNum 1 r0 with ⟨x1, r1⟩
  rw [hx1] at hq
  dsimp only at hq
  first | rw [RM.bind_eq hx1] at hM | skip
  obtain ⟨rfl, v1, rfl, hR1⟩ := hq
  refine (of_c (x1 : Int) _).call rfl rfl rfl ?_
  refine (bridge_k hR1).callS [0] 3 rfl rfl rfl rfl ?_
  intro o L1 g2 hq _
  rcases hx2 : rdBridgeM r1 with ⟨x2, r2⟩
  rw [hx2] at hq
  dsimp only at hq
  first | rw [RM.bind_eq hx2] at hM | skip
  obtain ⟨rfl, v2, rfl, hR2⟩ := hq
  refine (num_k hR2 4 (by decide) (by decide)).callS [0] 3 rfl rfl rfl rfl ?_
  intro o L1 g3 hq _
  rcases hx3 : rdNum 4 r2 with ⟨x3, r3⟩
  rw [hx3] at hq
  dsimp only at hq
  first | rw [RM.bind_eq hx3] at hM | skip
  obtain ⟨rfl, v3, rfl, hR3⟩ := hq
  refine (bridge_k hR3).callS [0] 3 rfl rfl rfl rfl ?_
  intro o L1 g4 hq _
  rcases hx4 : rdBridgeM r3 with ⟨x4, r4⟩
  rw [hx4] at hq
  dsimp only at hq
  first | rw [RM.bind_eq hx4] at hM | skip
  obtain ⟨rfl, v4, rfl, hR4⟩ := hq
  refine (port_k hR4).callS [0] 3 rfl rfl rfl rfl ?_
  intro o L1 g5 hq _
  rcases hx5 : rdPortM r4 with ⟨x5, r5⟩
  rw [hx5] at hq
  dsimp only at hq
  first | rw [RM.bind_eq hx5] at hM | skip
  obtain ⟨rfl, v5, rfl, hR5⟩ := hq
  refine (num_k hR5 2 (by decide) (by decide)).callS [0] 3 rfl rfl rfl rfl ?_
  intro o L1 g6 hq _
  rcases hx6 : rdNum 2 r5 with ⟨x6, r6⟩
  rw [hx6] at hq
  dsimp only at hq
  first | rw [RM.bind_eq hx6] at hM | skip
  obtain ⟨rfl, v6, rfl, hR6⟩ := hq
  refine (num_k hR6 2 (by decide) (by decide)).callS [0] 3 rfl rfl rfl rfl ?_
  intro o L1 g7 hq _
  rcases hx7 : rdNum 2 r6 with ⟨x7, r7⟩
  rw [hx7] at hq
  dsimp only at hq
  first | rw [RM.bind_eq hx7] at hM | skip
  obtain ⟨rfl, v7, rfl, hR7⟩ := hq
  refine (num_k hR7 2 (by decide) (by decide)).callS [0] 3 rfl rfl rfl rfl ?_
  intro o L1 g8 hq _
  rcases hx8 : rdNum 2 r7 with ⟨x8, r8⟩
  rw [hx8] at hq
  dsimp only at hq
  first | rw [RM.bind_eq hx8] at hM | skip
  obtain ⟨rfl, v8, rfl, hR8⟩ := hq
  refine (num_k hR8 2 (by decide) (by decide)).callS [0] 3 rfl rfl rfl rfl ?_
  intro o L1 g9 hq _
  rcases hx9 : rdNum 2 r8 with ⟨x9, r9⟩
  rw [hx9] at hq
  dsimp only at hq
  first | rw [RM.bind_eq hx9] at hM | skip
  obtain ⟨rfl, v9, rfl, hR9⟩ := hq
  subst hM
  exact ⟨rfl, v9, rfl, hR9⟩
end Go.Proofs.YtmeoalpmicndbaaDoor
