/- pause.Read, its reference, the law PauseReads: what each returns. Conditions: none; of the law: the variable errors.errorType is as laid. -/
import Derived.Test.YtfagdcpfebghoaaDoorXpauser
import Derived.Test.YtfagdcpfebghoaaDoorRM
namespace Go.Proofs.YtfagdcpfebghoaaDoor
open Go.Sx
set_option maxRecDepth 100000
set_option maxHeartbeats 8000000
attribute [local irreducible] Meets

def timesOf (l : List Nat) : A8xi64V := ⟨l.getD 0 0, l.getD 1 0, l.getD 2 0, l.getD 3 0, l.getD 4 0, l.getD 5 0, l.getD 6 0, l.getD 7 0⟩
def cuPauseB (op : Nat) : CM PauseV := if op = 1 then (cuNum 2).bind fun t => CM.pure ⟨false, 0, timesOf [t]⟩ else
  if op = 257 then (cuNum 2).bind fun e => (cuThrow (decide (e > 255)) 2 2).bind fun _ => (cuNums 2 8 []).bind fun l => CM.pure ⟨true, e, timesOf l⟩ else (cuThrow true 3 0).bind fun _ => CM.pure PauseV.zero
def cuPause : CM PauseV := (cuNum 2).bind fun op => (cuPauseB op).bind fun p => cuNoughts.bind fun _ => CM.pure p
def rdPauseB (op : Nat) : RM PauseV := if op = 1 then (rdNum 2).bind fun t => RM.pure ⟨false, 0, timesOf [t]⟩ else
  if op = 257 then (rdNum 2).bind fun e => (rdFail (decide (e > 255)) 2 2).bind fun _ => (rdNums 2 8 []).bind fun l => RM.pure ⟨true, e, timesOf l⟩ else (rdFail true 3 0).bind fun _ => RM.pure PauseV.zero
def rdPause : RM PauseV := (rdNum 2).bind fun op => (rdIfOk (rdPauseB op) PauseV.zero).bind fun p => rdZeros.bind fun _ => RM.pure p
theorem pauseB_sim (op : Nat) : Sim (cuPauseB op) (rdPauseB op) := by
  refine Sim.ite (fun _ => Sim.bind (Sim.num 2) (fun _ => Sim.pure _) fun _ => Keeps.pure _) fun _ => Sim.ite (fun _ => ?_) fun _ => Sim.bind (Sim.fail _ _ _) (fun _ => Sim.pure _) fun _ => Keeps.pure _
  refine Sim.bind (Sim.num 2) (fun e => Sim.bind (Sim.fail _ _ _) (fun _ => Sim.bind (Sim.nums 2 8 _) (fun _ => Sim.pure _) fun _ => Keeps.pure _) fun _ => ?_) fun e => ?_
  · exact Keeps.bind (Keeps.nums 2 8 _) fun _ => Keeps.pure _
  · exact Keeps.bind (Keeps.fail _ _ _) fun _ => Keeps.bind (Keeps.nums 2 8 _) fun _ => Keeps.pure _
theorem pause_sim : Sim cuPause rdPause :=
  Sim.bind (Sim.num 2) (fun op => Sim.bind (Sim.ifOk (pauseB_sim op)) (fun p => Sim.bind Sim.noughts (fun _ => Sim.pure _) fun _ => Keeps.pure _) fun _ => Keeps.bind Keeps.zeros fun _ => Keeps.pure _)
    fun op => Keeps.bind Keeps.ifOk fun _ => Keeps.bind Keeps.zeros fun _ => Keeps.pure _

/-- What the reference tells of bytes. -/
def pauseOut : CR PauseV → SV
  | .ok x _ => .tup [.agg (x.cells.map .v), .agg [.v (.int .i64 0), .v (.int .i64 (-1))]]
  | .thr e pl _ => .tup [.agg (PauseV.zero.cells.map .v), .agg [.v (.int .i64 e), .v (.int .i64 pl)]]

theorem refPauseRead_c (s : ByteArray) (g : G) (hs : s.size ≤ 1000000000000) : Meets Tryd.prog 59 [.v (.string s)] [] g (fun o L' g' => o = .ret (pauseOut (cuPause (cur0 s))) ∧ L' = [] ∧ G.le g g') := by
  obtain ⟨c0, hc0⟩ : ∃ c0, cur0 s = c0 := ⟨_, rfl⟩
  have hC0 := cu0_at hs g
  rw [hc0] at hC0 ⊢
  generalize hM : cuPause c0 = M
  rw [cuPause] at hM
  refine meets_ofD mixedW Tryd.func59 (by kernel_rfl) x59_ok (some []) ?_
  refine (good_c g).call rfl rfl rfl ?_
  refine ⟨by kernel_rfl, by kernel_rfl, ?_⟩
  change vC _ _ _ _ [_, _, .cells 125 [.v (.string s), .v (.int .i64 0), .v (.int .i64 0)]] _ _
  rw [show Chunk.cells 125 [.v (.string s), .v (.int .i64 0), .v (.int .i64 0)] = cuC c0 by rw [← hc0]; rfl]
  refine (cnum_k hC0 2 (by decide)).callS [2] 3 rfl rfl rfl rfl ?_
  intro o L1 g1 hq _
  rcases hx : cuNum 2 c0 with ⟨x1, c1⟩ | ⟨e, pl, cx⟩ <;> rw [hx] at hq <;> first | rw [CM.bind_ok hx] at hM | rw [CM.bind_thr hx] at hM
  obtain ⟨rfl, rfl, hC1⟩ := hq
  rcases (by omega : x1 = 1 ∨ x1 = 257 ∨ x1 ≠ 1 ∧ x1 ≠ 257) with rfl | rfl | k
  · rw [show cuPauseB 1 = (cuNum 2).bind fun t => CM.pure ⟨false, 0, timesOf [t]⟩ from rfl] at hM
    simp only [CM.bind_assoc, CM.pure_bind] at hM
    refine (cnum_k hC1 2 (by decide)).callS [2] 3 rfl rfl rfl rfl ?_
    intro o L1 g2 hq _
    rcases hx : cuNum 2 c1 with ⟨x2, c2⟩ | ⟨e, pl, cx⟩ <;> rw [hx] at hq <;> first | rw [CM.bind_ok hx] at hM | rw [CM.bind_thr hx] at hM
    obtain ⟨rfl, rfl, hC2⟩ := hq
    refine ⟨by decide, ?_⟩
    refine (noughts_k hC2).callS [2] 3 rfl rfl rfl rfl ?_
    intro o L1 g3 hq _
    rcases hx : cuNoughts c2 with ⟨x3, c3⟩ | ⟨e, pl, cx⟩ <;> rw [hx] at hq <;> first | rw [CM.bind_ok hx] at hM | rw [CM.bind_thr hx] at hM
    obtain ⟨rfl, rfl, hC3⟩ := hq
    subst hM
    refine recx_of Tryd.func70 rfl x70_ok ?_
    refine defx_of Tryd.func85 rfl x85_ok ?_
    refine (is_c 0 _ _).call rfl rfl rfl ?_
    exact ⟨rfl, rfl, hC3.1⟩
    all_goals
      obtain ⟨rfl, rfl, hle, he⟩ := hq
      subst hM
      refine recx_of Tryd.func70 rfl x70_ok ?_
      refine defx_of Tryd.func85 rfl x85_ok ?_
      refine (is_c e _ _).call rfl rfl rfl ?_
      refine bsplit_of (fun _ => ?_) (fun k => absurd k (by simp [he]))
      exact ⟨rfl, rfl, hle⟩
  · rw [show cuPauseB 257 = (cuNum 2).bind fun e => (cuThrow (decide (e > 255)) 2 2).bind fun _ => (cuNums 2 8 []).bind fun l => CM.pure ⟨true, e, timesOf l⟩ from rfl] at hM
    simp only [CM.bind_assoc, CM.pure_bind] at hM
    refine (cnum_k hC1 2 (by decide)).callS [2] 3 rfl rfl rfl rfl ?_
    intro o L1 g2 hq _
    rcases hx : cuNum 2 c1 with ⟨x2, c2⟩ | ⟨e, pl, cx⟩ <;> rw [hx] at hq <;> first | rw [CM.bind_ok hx] at hM | rw [CM.bind_thr hx] at hM
    obtain ⟨rfl, rfl, hC2⟩ := hq
    rcases hgt : decide (x2 > 255) with _ | _ <;> rw [hgt] at hM
    · refine bsplit_of (fun h => absurd h (by simp at hgt ⊢; omega)) (fun _ => ?_)
      change LoopW _ _ _ _ _ _ _
      have hM : ((cuNums 2 8 []).bind fun l => cuNoughts.bind fun _ => CM.pure (PauseV.mk true x2 (timesOf l))) c2 = M := hM
      apply loop_rule [] (α := List Nat × CurV × G) (fun y => [(32, .v (.int .i64 y.1.length))]) (fun y => [.cells 78 ((PauseV.mk true x2 (timesOf y.1)).cells.map .v), .cells 83 [.v (.int .i64 0), .v (.int .i64 (-1))], cuC y.2.1]) (fun y => y.2.2) (fun y => y.1.length ≤ 8 ∧ CuAt g 0 y.2.2 y.2.1 ∧ ((cuNums 2 (8 - y.1.length) y.1).bind fun l => cuNoughts.bind fun _ => CM.pure (PauseV.mk true x2 (timesOf l))) y.2.1 = M) (fun y => 8 - y.1.length) ([], c2, _)
      · intro x; kernel_rfl
      · exact ⟨Nat.zero_le 8, hC2, hM⟩
      · exact ⟨rfl, trivial⟩
      · rfl
      · rfl
      intro y hy
      obtain ⟨l, cL, gl⟩ := y
      obtain ⟨hl, hC, hM⟩ := hy
      rcases l with _ | ⟨t0, _ | ⟨t1, _ | ⟨t2, _ | ⟨t3, _ | ⟨t4, _ | ⟨t5, _ | ⟨t6, _ | ⟨t7, _ | ⟨t8, l⟩⟩⟩⟩⟩⟩⟩⟩⟩
      · have hM : ((cuNum 2).bind fun x => (cuNums 2 7 ([] ++ [x])).bind fun l => cuNoughts.bind fun _ => CM.pure (PauseV.mk true x2 (timesOf l))) cL = M := by rw [← hM]; exact congrFun (CM.bind_assoc _ _ _).symm cL
        refine (cnum_k hC 2 (by decide)).callS [2] 3 rfl rfl rfl rfl ?_
        intro o L1 g3 hq _
        rcases hx : cuNum 2 cL with ⟨x3, c3⟩ | ⟨e, pl, cx⟩ <;> rw [hx] at hq <;> first | rw [CM.bind_ok hx] at hM | rw [CM.bind_thr hx] at hM
        obtain ⟨rfl, rfl, hC3⟩ := hq
        · refine ⟨(show (0 : Int) ≤ ((0 : Nat) : Int) ∧ ((0 : Nat) : Int) < ((8 : Nat) : Int) by decide), ?_⟩
          exact ⟨([x3], c3, g3), ⟨(show 1 ≤ 8 by decide), hC3, hM⟩, (show 8 - 1 < 8 - 0 by decide), [0, 1, 2], rfl, ⟨rfl, trivial⟩, rfl, rfl, rfl, rfl⟩
        all_goals
          obtain ⟨rfl, rfl, hle, he⟩ := hq
          subst hM
          refine recx_of Tryd.func70 rfl x70_ok ?_
          refine defx_of Tryd.func85 rfl x85_ok ?_
          refine (is_c e _ _).call rfl rfl rfl ?_
          refine bsplit_of (fun _ => ?_) (fun k => absurd k (by simp [he]))
          exact ⟨rfl, rfl, hle⟩
      · have hM : ((cuNum 2).bind fun x => (cuNums 2 6 ([t0] ++ [x])).bind fun l => cuNoughts.bind fun _ => CM.pure (PauseV.mk true x2 (timesOf l))) cL = M := by rw [← hM]; exact congrFun (CM.bind_assoc _ _ _).symm cL
        refine (cnum_k hC 2 (by decide)).callS [2] 3 rfl rfl rfl rfl ?_
        intro o L1 g3 hq _
        rcases hx : cuNum 2 cL with ⟨x3, c3⟩ | ⟨e, pl, cx⟩ <;> rw [hx] at hq <;> first | rw [CM.bind_ok hx] at hM | rw [CM.bind_thr hx] at hM
        obtain ⟨rfl, rfl, hC3⟩ := hq
        · refine ⟨(show (0 : Int) ≤ ((1 : Nat) : Int) ∧ ((1 : Nat) : Int) < ((8 : Nat) : Int) by decide), ?_⟩
          exact ⟨([t0, x3], c3, g3), ⟨(show 2 ≤ 8 by decide), hC3, hM⟩, (show 8 - 2 < 8 - 1 by decide), [0, 1, 2], rfl, ⟨rfl, trivial⟩, rfl, rfl, rfl, rfl⟩
        all_goals
          obtain ⟨rfl, rfl, hle, he⟩ := hq
          subst hM
          refine recx_of Tryd.func70 rfl x70_ok ?_
          refine defx_of Tryd.func85 rfl x85_ok ?_
          refine (is_c e _ _).call rfl rfl rfl ?_
          refine bsplit_of (fun _ => ?_) (fun k => absurd k (by simp [he]))
          exact ⟨rfl, rfl, hle⟩
      · have hM : ((cuNum 2).bind fun x => (cuNums 2 5 ([t0, t1] ++ [x])).bind fun l => cuNoughts.bind fun _ => CM.pure (PauseV.mk true x2 (timesOf l))) cL = M := by rw [← hM]; exact congrFun (CM.bind_assoc _ _ _).symm cL
        refine (cnum_k hC 2 (by decide)).callS [2] 3 rfl rfl rfl rfl ?_
        intro o L1 g3 hq _
        rcases hx : cuNum 2 cL with ⟨x3, c3⟩ | ⟨e, pl, cx⟩ <;> rw [hx] at hq <;> first | rw [CM.bind_ok hx] at hM | rw [CM.bind_thr hx] at hM
        obtain ⟨rfl, rfl, hC3⟩ := hq
        · refine ⟨(show (0 : Int) ≤ ((2 : Nat) : Int) ∧ ((2 : Nat) : Int) < ((8 : Nat) : Int) by decide), ?_⟩
          exact ⟨([t0, t1, x3], c3, g3), ⟨(show 3 ≤ 8 by decide), hC3, hM⟩, (show 8 - 3 < 8 - 2 by decide), [0, 1, 2], rfl, ⟨rfl, trivial⟩, rfl, rfl, rfl, rfl⟩
        all_goals
          obtain ⟨rfl, rfl, hle, he⟩ := hq
          subst hM
          refine recx_of Tryd.func70 rfl x70_ok ?_
          refine defx_of Tryd.func85 rfl x85_ok ?_
          refine (is_c e _ _).call rfl rfl rfl ?_
          refine bsplit_of (fun _ => ?_) (fun k => absurd k (by simp [he]))
          exact ⟨rfl, rfl, hle⟩
      · have hM : ((cuNum 2).bind fun x => (cuNums 2 4 ([t0, t1, t2] ++ [x])).bind fun l => cuNoughts.bind fun _ => CM.pure (PauseV.mk true x2 (timesOf l))) cL = M := by rw [← hM]; exact congrFun (CM.bind_assoc _ _ _).symm cL
        refine (cnum_k hC 2 (by decide)).callS [2] 3 rfl rfl rfl rfl ?_
        intro o L1 g3 hq _
        rcases hx : cuNum 2 cL with ⟨x3, c3⟩ | ⟨e, pl, cx⟩ <;> rw [hx] at hq <;> first | rw [CM.bind_ok hx] at hM | rw [CM.bind_thr hx] at hM
        obtain ⟨rfl, rfl, hC3⟩ := hq
        · refine ⟨(show (0 : Int) ≤ ((3 : Nat) : Int) ∧ ((3 : Nat) : Int) < ((8 : Nat) : Int) by decide), ?_⟩
          exact ⟨([t0, t1, t2, x3], c3, g3), ⟨(show 4 ≤ 8 by decide), hC3, hM⟩, (show 8 - 4 < 8 - 3 by decide), [0, 1, 2], rfl, ⟨rfl, trivial⟩, rfl, rfl, rfl, rfl⟩
        all_goals
          obtain ⟨rfl, rfl, hle, he⟩ := hq
          subst hM
          refine recx_of Tryd.func70 rfl x70_ok ?_
          refine defx_of Tryd.func85 rfl x85_ok ?_
          refine (is_c e _ _).call rfl rfl rfl ?_
          refine bsplit_of (fun _ => ?_) (fun k => absurd k (by simp [he]))
          exact ⟨rfl, rfl, hle⟩
      · have hM : ((cuNum 2).bind fun x => (cuNums 2 3 ([t0, t1, t2, t3] ++ [x])).bind fun l => cuNoughts.bind fun _ => CM.pure (PauseV.mk true x2 (timesOf l))) cL = M := by rw [← hM]; exact congrFun (CM.bind_assoc _ _ _).symm cL
        refine (cnum_k hC 2 (by decide)).callS [2] 3 rfl rfl rfl rfl ?_
        intro o L1 g3 hq _
        rcases hx : cuNum 2 cL with ⟨x3, c3⟩ | ⟨e, pl, cx⟩ <;> rw [hx] at hq <;> first | rw [CM.bind_ok hx] at hM | rw [CM.bind_thr hx] at hM
        obtain ⟨rfl, rfl, hC3⟩ := hq
        · refine ⟨(show (0 : Int) ≤ ((4 : Nat) : Int) ∧ ((4 : Nat) : Int) < ((8 : Nat) : Int) by decide), ?_⟩
          exact ⟨([t0, t1, t2, t3, x3], c3, g3), ⟨(show 5 ≤ 8 by decide), hC3, hM⟩, (show 8 - 5 < 8 - 4 by decide), [0, 1, 2], rfl, ⟨rfl, trivial⟩, rfl, rfl, rfl, rfl⟩
        all_goals
          obtain ⟨rfl, rfl, hle, he⟩ := hq
          subst hM
          refine recx_of Tryd.func70 rfl x70_ok ?_
          refine defx_of Tryd.func85 rfl x85_ok ?_
          refine (is_c e _ _).call rfl rfl rfl ?_
          refine bsplit_of (fun _ => ?_) (fun k => absurd k (by simp [he]))
          exact ⟨rfl, rfl, hle⟩
      · have hM : ((cuNum 2).bind fun x => (cuNums 2 2 ([t0, t1, t2, t3, t4] ++ [x])).bind fun l => cuNoughts.bind fun _ => CM.pure (PauseV.mk true x2 (timesOf l))) cL = M := by rw [← hM]; exact congrFun (CM.bind_assoc _ _ _).symm cL
        refine (cnum_k hC 2 (by decide)).callS [2] 3 rfl rfl rfl rfl ?_
        intro o L1 g3 hq _
        rcases hx : cuNum 2 cL with ⟨x3, c3⟩ | ⟨e, pl, cx⟩ <;> rw [hx] at hq <;> first | rw [CM.bind_ok hx] at hM | rw [CM.bind_thr hx] at hM
        obtain ⟨rfl, rfl, hC3⟩ := hq
        · refine ⟨(show (0 : Int) ≤ ((5 : Nat) : Int) ∧ ((5 : Nat) : Int) < ((8 : Nat) : Int) by decide), ?_⟩
          exact ⟨([t0, t1, t2, t3, t4, x3], c3, g3), ⟨(show 6 ≤ 8 by decide), hC3, hM⟩, (show 8 - 6 < 8 - 5 by decide), [0, 1, 2], rfl, ⟨rfl, trivial⟩, rfl, rfl, rfl, rfl⟩
        all_goals
          obtain ⟨rfl, rfl, hle, he⟩ := hq
          subst hM
          refine recx_of Tryd.func70 rfl x70_ok ?_
          refine defx_of Tryd.func85 rfl x85_ok ?_
          refine (is_c e _ _).call rfl rfl rfl ?_
          refine bsplit_of (fun _ => ?_) (fun k => absurd k (by simp [he]))
          exact ⟨rfl, rfl, hle⟩
      · have hM : ((cuNum 2).bind fun x => (cuNums 2 1 ([t0, t1, t2, t3, t4, t5] ++ [x])).bind fun l => cuNoughts.bind fun _ => CM.pure (PauseV.mk true x2 (timesOf l))) cL = M := by rw [← hM]; exact congrFun (CM.bind_assoc _ _ _).symm cL
        refine (cnum_k hC 2 (by decide)).callS [2] 3 rfl rfl rfl rfl ?_
        intro o L1 g3 hq _
        rcases hx : cuNum 2 cL with ⟨x3, c3⟩ | ⟨e, pl, cx⟩ <;> rw [hx] at hq <;> first | rw [CM.bind_ok hx] at hM | rw [CM.bind_thr hx] at hM
        obtain ⟨rfl, rfl, hC3⟩ := hq
        · refine ⟨(show (0 : Int) ≤ ((6 : Nat) : Int) ∧ ((6 : Nat) : Int) < ((8 : Nat) : Int) by decide), ?_⟩
          exact ⟨([t0, t1, t2, t3, t4, t5, x3], c3, g3), ⟨(show 7 ≤ 8 by decide), hC3, hM⟩, (show 8 - 7 < 8 - 6 by decide), [0, 1, 2], rfl, ⟨rfl, trivial⟩, rfl, rfl, rfl, rfl⟩
        all_goals
          obtain ⟨rfl, rfl, hle, he⟩ := hq
          subst hM
          refine recx_of Tryd.func70 rfl x70_ok ?_
          refine defx_of Tryd.func85 rfl x85_ok ?_
          refine (is_c e _ _).call rfl rfl rfl ?_
          refine bsplit_of (fun _ => ?_) (fun k => absurd k (by simp [he]))
          exact ⟨rfl, rfl, hle⟩
      · have hM : ((cuNum 2).bind fun x => (cuNums 2 0 ([t0, t1, t2, t3, t4, t5, t6] ++ [x])).bind fun l => cuNoughts.bind fun _ => CM.pure (PauseV.mk true x2 (timesOf l))) cL = M := by rw [← hM]; exact congrFun (CM.bind_assoc _ _ _).symm cL
        refine (cnum_k hC 2 (by decide)).callS [2] 3 rfl rfl rfl rfl ?_
        intro o L1 g3 hq _
        rcases hx : cuNum 2 cL with ⟨x3, c3⟩ | ⟨e, pl, cx⟩ <;> rw [hx] at hq <;> first | rw [CM.bind_ok hx] at hM | rw [CM.bind_thr hx] at hM
        obtain ⟨rfl, rfl, hC3⟩ := hq
        · refine ⟨(show (0 : Int) ≤ ((7 : Nat) : Int) ∧ ((7 : Nat) : Int) < ((8 : Nat) : Int) by decide), ?_⟩
          exact ⟨([t0, t1, t2, t3, t4, t5, t6, x3], c3, g3), ⟨(show 8 ≤ 8 by decide), hC3, hM⟩, (show 8 - 8 < 8 - 7 by decide), [0, 1, 2], rfl, ⟨rfl, trivial⟩, rfl, rfl, rfl, rfl⟩
        all_goals
          obtain ⟨rfl, rfl, hle, he⟩ := hq
          subst hM
          refine recx_of Tryd.func70 rfl x70_ok ?_
          refine defx_of Tryd.func85 rfl x85_ok ?_
          refine (is_c e _ _).call rfl rfl rfl ?_
          refine bsplit_of (fun _ => ?_) (fun k => absurd k (by simp [he]))
          exact ⟨rfl, rfl, hle⟩
      · have hM : (cuNoughts.bind fun _ => CM.pure (PauseV.mk true x2 (timesOf [t0, t1, t2, t3, t4, t5, t6, t7]))) cL = M := hM
        refine (noughts_k hC).callS [2] 3 rfl rfl rfl rfl ?_
        intro o L1 g3 hq _
        rcases hx : cuNoughts cL with ⟨x3, c3⟩ | ⟨e, pl, cx⟩ <;> rw [hx] at hq <;> first | rw [CM.bind_ok hx] at hM | rw [CM.bind_thr hx] at hM
        obtain ⟨rfl, rfl, hC3⟩ := hq
        subst hM
        refine recx_of Tryd.func70 rfl x70_ok ?_
        refine defx_of Tryd.func85 rfl x85_ok ?_
        refine (is_c 0 _ _).call rfl rfl rfl ?_
        exact ⟨rfl, rfl, hC3.1⟩
        all_goals
          obtain ⟨rfl, rfl, hle, he⟩ := hq
          subst hM
          refine recx_of Tryd.func70 rfl x70_ok ?_
          refine defx_of Tryd.func85 rfl x85_ok ?_
          refine (is_c e _ _).call rfl rfl rfl ?_
          refine bsplit_of (fun _ => ?_) (fun k => absurd k (by simp [he]))
          exact ⟨rfl, rfl, hle⟩
      · simp at hl
    · refine bsplit_of (fun _ => ?_) (fun h => absurd h (by simp at hgt ⊢; omega))
      refine absK fun K hK => ?_
      refine (throw_k hC2 2 2 (by decide)).callS [2] 3 rfl rfl rfl rfl ?_
      rintro o L1 gT ⟨rfl, rfl, rfl⟩ _
      subst hK hM
      refine recx_of Tryd.func70 rfl x70_ok ?_
      refine defx_of Tryd.func85 rfl x85_ok ?_
      refine (is_c 2 _ _).call rfl rfl rfl ?_
      exact ⟨rfl, rfl, hC2.1⟩
    all_goals
      obtain ⟨rfl, rfl, hle, he⟩ := hq
      subst hM
      refine recx_of Tryd.func70 rfl x70_ok ?_
      refine defx_of Tryd.func85 rfl x85_ok ?_
      refine (is_c e _ _).call rfl rfl rfl ?_
      refine bsplit_of (fun _ => ?_) (fun k => absurd k (by simp [he]))
      exact ⟨rfl, rfl, hle⟩
  · rw [show cuPauseB x1 = (cuThrow true 3 0).bind fun _ => CM.pure PauseV.zero by rw [cuPauseB, if_neg k.1, if_neg k.2]] at hM
    refine bsplit_of (fun h => absurd h (by simp; omega)) (fun _ => ?_)
    refine bsplit_of (fun h => absurd h (by simp; omega)) (fun _ => ?_)
    refine absK fun K hK => ?_
    refine (throw_k hC1 3 0 (by decide)).callS [2] 3 rfl rfl rfl rfl ?_
    rintro o L1 gT ⟨rfl, rfl, rfl⟩ _
    subst hK hM
    refine recx_of Tryd.func70 rfl x70_ok ?_
    refine defx_of Tryd.func85 rfl x85_ok ?_
    refine (is_c 3 _ _).call rfl rfl rfl ?_
    exact ⟨rfl, rfl, hC1.1⟩
  all_goals
    obtain ⟨rfl, rfl, hle, he⟩ := hq
    subst hM
    refine recx_of Tryd.func70 rfl x70_ok ?_
    refine defx_of Tryd.func85 rfl x85_ok ?_
    refine (is_c e _ _).call rfl rfl rfl ?_
    refine bsplit_of (fun _ => ?_) (fun k => absurd k (by simp [he]))
    exact ⟨rfl, rfl, hle⟩

theorem pauseRead_c (s : ByteArray) (g : G) (hs : s.size ≤ 1000000000000) : Meets Tryd.prog 60 [.v (.string s)] [] g (fun o L' g' => match (rdPause (rd0 s)).2.err with
    | none => o = .ret (.tup [.agg ((rdPause (rd0 s)).1.cells.map .v), .v .nilIface]) ∧ L' = [] ∧ G.le g g'
    | some p => ∃ v, o = .ret (.tup [.agg (PauseV.zero.cells.map .v), .v v]) ∧ L' = [] ∧ errAt g' v (some p) ∧ G.le g g') := by
  have hR0 := rd0_at hs g
  generalize hM : rdPause (rd0 s) = M
  obtain ⟨r0, hr0⟩ : ∃ r0, rd0 s = r0 := ⟨_, rfl⟩
  rw [hr0] at hM hR0
  rw [rdPause] at hM
  refine meets_ofJ mixedW Tryd.func60 (by kernel_rfl) x60_ok (some []) ?_
  refine (new_c s 0 g).call0 rfl rfl 1 rfl ?_
  rintro o L1 g0 ⟨rfl, rfl, rfl⟩
  change vC _ _ _ _ [_, rdC (rd0 s) _] _ _
  rw [hr0]
  refine (num_k hR0 2 (by decide) (by decide)).callS [1] 3 rfl rfl rfl rfl ?_
  intro o L1 g1 hq _
  rcases hx1 : rdNum 2 r0 with ⟨x1, r1⟩
  rw [hx1] at hq
  dsimp only at hq
  first | rw [RM.bind_eq hx1] at hM | skip
  obtain ⟨rfl, v1, rfl, hR1⟩ := hq
  obtain ⟨⟨p, rb⟩, hb⟩ : ∃ y, rdIfOk (rdPauseB x1) PauseV.zero r1 = y := ⟨_, rfl⟩
  rw [RM.bind_eq hb] at hM
  change JoinW _ _ _ _ _ _ _
  refine join_rule [] (α := Value × G) (fun _ => []) (fun y => [.cells 78 [.v (.bool false), .v (.int .i64 0), .v (.int .i64 0), .v (.int .i64 0), .v (.int .i64 0), .v (.int .i64 0), .v (.int .i64 0), .v (.int .i64 0), .v (.int .i64 0), .v (.int .i64 0)], rdC rb y.1, .cells 78 (p.cells.map .v)]) (fun y => y.2) (fun y => RdAt g0 y.2 y.1 rb) (fun y => by kernel_rfl) ?_ ?_
  · refine (err_k hR1).callS [1] 3 rfl rfl rfl rfl ?_
    rintro o L1 g2 ⟨rfl, rfl, rfl⟩ _
    rcases he : r1.err with _ | q
    · obtain rfl := hR1.nil he
      rw [rdIfOk_none he] at hb
      rcases (by omega : x1 = 1 ∨ x1 = 257 ∨ x1 ≠ 1 ∧ x1 ≠ 257) with rfl | rfl | k
      · rw [show rdPauseB 1 = (rdNum 2).bind fun t => RM.pure ⟨false, 0, timesOf [t]⟩ from rfl] at hb
        refine (num_k hR1 2 (by decide) (by decide)).callS [1] 3 rfl rfl rfl rfl ?_
        intro o L1 g2 hq _
        rcases hx2 : rdNum 2 r1 with ⟨x2, r2⟩
        rw [hx2] at hq
        dsimp only at hq
        first | rw [RM.bind_eq hx2] at hM | skip
        obtain ⟨rfl, v2, rfl, hR2⟩ := hq
        rw [RM.bind_eq hx2] at hb
        cases hb
        refine ⟨by decide, ?_⟩
        exact ⟨(v2, g2), hR2, [0, 1, 2], rfl, trivial, rfl, rfl, rfl, rfl⟩
      · rw [show rdPauseB 257 = (rdNum 2).bind fun e => (rdFail (decide (e > 255)) 2 2).bind fun _ => (rdNums 2 8 []).bind fun l => RM.pure ⟨true, e, timesOf l⟩ from rfl] at hb
        refine (num_k hR1 2 (by decide) (by decide)).callS [1] 3 rfl rfl rfl rfl ?_
        intro o L1 g2 hq _
        rcases hx2 : rdNum 2 r1 with ⟨x2, r2⟩
        rw [hx2] at hq
        dsimp only at hq
        first | rw [RM.bind_eq hx2] at hM | skip
        obtain ⟨rfl, v2, rfl, hR2⟩ := hq
        rw [RM.bind_eq hx2] at hb
        have loop : ∀ (rL : RdV) (vL : Value) (gL : G), RdAt g0 gL vL rL → ((rdNums 2 8 []).bind fun l => RM.pure (PauseV.mk true x2 (timesOf l))) rL = (p, rb) → ∃ lf : List Nat, ∃ rf, rdNums 2 8 [] rL = (lf, rf) ∧ p = PauseV.mk true x2 (timesOf lf) ∧ rf = rb := by
          intro rL vL gL _ h
          rcases hn : rdNums 2 8 [] rL with ⟨lf, rf⟩
          rw [RM.bind_eq hn] at h
          cases h
          exact ⟨lf, _, rfl, rfl, rfl⟩
        rcases hgt : decide (x2 > 255) with _ | _ <;> rw [hgt] at hb
        · refine bsplit_of (fun h => absurd h (by simp at hgt ⊢; omega)) (fun _ => ?_)
          obtain ⟨lf, rf, hN, rfl, rfl⟩ := loop r2 v2 g2 hR2 hb
          change LoopW _ _ _ _ _ _ _
          apply loop_rule [] (α := List Nat × RdV × Value × G) (fun y => [(37, .v (.int .i64 y.1.length))]) (fun y => [.cells 78 [.v (.bool false), .v (.int .i64 0), .v (.int .i64 0), .v (.int .i64 0), .v (.int .i64 0), .v (.int .i64 0), .v (.int .i64 0), .v (.int .i64 0), .v (.int .i64 0), .v (.int .i64 0)], rdC y.2.1 y.2.2.1, .cells 78 ((PauseV.mk true x2 (timesOf y.1)).cells.map .v)]) (fun y => y.2.2.2) (fun y => y.1.length ≤ 8 ∧ RdAt g0 y.2.2.2 y.2.2.1 y.2.1 ∧ rdNums 2 (8 - y.1.length) y.1 y.2.1 = (lf, rf)) (fun y => 8 - y.1.length) ([], r2, v2, _)
          · intro x; kernel_rfl
          · exact ⟨Nat.zero_le 8, hR2, hN⟩
          · exact ⟨rfl, trivial⟩
          · rfl
          · rfl
          clear hN
          intro y hy
          obtain ⟨l, rL, vL, gl⟩ := y
          obtain ⟨hl, hR, hN⟩ := hy
          rcases l with _ | ⟨t0, _ | ⟨t1, _ | ⟨t2, _ | ⟨t3, _ | ⟨t4, _ | ⟨t5, _ | ⟨t6, _ | ⟨t7, _ | ⟨t8, l⟩⟩⟩⟩⟩⟩⟩⟩⟩
          · have hN : ((rdNum 2).bind fun x => rdNums 2 7 ([] ++ [x])) rL = (lf, rf) := hN
            refine (num_k hR 2 (by decide) (by decide)).callS [1] 3 rfl rfl rfl rfl ?_
            intro o L1 g3 hq _
            rcases hx3 : rdNum 2 rL with ⟨x3, r3⟩
            rw [hx3] at hq
            dsimp only at hq
            first | rw [RM.bind_eq hx3] at hM | skip
            obtain ⟨rfl, v3, rfl, hR3⟩ := hq
            rw [RM.bind_eq hx3] at hN
            refine ⟨(show (0 : Int) ≤ ((0 : Nat) : Int) ∧ ((0 : Nat) : Int) < ((8 : Nat) : Int) by decide), ?_⟩
            exact ⟨([x3], r3, v3, g3), ⟨(show 1 ≤ 8 by decide), hR3, hN⟩, (show 8 - 1 < 8 - 0 by decide), [0, 1, 2], rfl, ⟨rfl, trivial⟩, rfl, rfl, rfl, rfl⟩
          · have hN : ((rdNum 2).bind fun x => rdNums 2 6 ([t0] ++ [x])) rL = (lf, rf) := hN
            refine (num_k hR 2 (by decide) (by decide)).callS [1] 3 rfl rfl rfl rfl ?_
            intro o L1 g3 hq _
            rcases hx3 : rdNum 2 rL with ⟨x3, r3⟩
            rw [hx3] at hq
            dsimp only at hq
            first | rw [RM.bind_eq hx3] at hM | skip
            obtain ⟨rfl, v3, rfl, hR3⟩ := hq
            rw [RM.bind_eq hx3] at hN
            refine ⟨(show (0 : Int) ≤ ((1 : Nat) : Int) ∧ ((1 : Nat) : Int) < ((8 : Nat) : Int) by decide), ?_⟩
            exact ⟨([t0, x3], r3, v3, g3), ⟨(show 2 ≤ 8 by decide), hR3, hN⟩, (show 8 - 2 < 8 - 1 by decide), [0, 1, 2], rfl, ⟨rfl, trivial⟩, rfl, rfl, rfl, rfl⟩
          · have hN : ((rdNum 2).bind fun x => rdNums 2 5 ([t0, t1] ++ [x])) rL = (lf, rf) := hN
            refine (num_k hR 2 (by decide) (by decide)).callS [1] 3 rfl rfl rfl rfl ?_
            intro o L1 g3 hq _
            rcases hx3 : rdNum 2 rL with ⟨x3, r3⟩
            rw [hx3] at hq
            dsimp only at hq
            first | rw [RM.bind_eq hx3] at hM | skip
            obtain ⟨rfl, v3, rfl, hR3⟩ := hq
            rw [RM.bind_eq hx3] at hN
            refine ⟨(show (0 : Int) ≤ ((2 : Nat) : Int) ∧ ((2 : Nat) : Int) < ((8 : Nat) : Int) by decide), ?_⟩
            exact ⟨([t0, t1, x3], r3, v3, g3), ⟨(show 3 ≤ 8 by decide), hR3, hN⟩, (show 8 - 3 < 8 - 2 by decide), [0, 1, 2], rfl, ⟨rfl, trivial⟩, rfl, rfl, rfl, rfl⟩
          · have hN : ((rdNum 2).bind fun x => rdNums 2 4 ([t0, t1, t2] ++ [x])) rL = (lf, rf) := hN
            refine (num_k hR 2 (by decide) (by decide)).callS [1] 3 rfl rfl rfl rfl ?_
            intro o L1 g3 hq _
            rcases hx3 : rdNum 2 rL with ⟨x3, r3⟩
            rw [hx3] at hq
            dsimp only at hq
            first | rw [RM.bind_eq hx3] at hM | skip
            obtain ⟨rfl, v3, rfl, hR3⟩ := hq
            rw [RM.bind_eq hx3] at hN
            refine ⟨(show (0 : Int) ≤ ((3 : Nat) : Int) ∧ ((3 : Nat) : Int) < ((8 : Nat) : Int) by decide), ?_⟩
            exact ⟨([t0, t1, t2, x3], r3, v3, g3), ⟨(show 4 ≤ 8 by decide), hR3, hN⟩, (show 8 - 4 < 8 - 3 by decide), [0, 1, 2], rfl, ⟨rfl, trivial⟩, rfl, rfl, rfl, rfl⟩
          · have hN : ((rdNum 2).bind fun x => rdNums 2 3 ([t0, t1, t2, t3] ++ [x])) rL = (lf, rf) := hN
            refine (num_k hR 2 (by decide) (by decide)).callS [1] 3 rfl rfl rfl rfl ?_
            intro o L1 g3 hq _
            rcases hx3 : rdNum 2 rL with ⟨x3, r3⟩
            rw [hx3] at hq
            dsimp only at hq
            first | rw [RM.bind_eq hx3] at hM | skip
            obtain ⟨rfl, v3, rfl, hR3⟩ := hq
            rw [RM.bind_eq hx3] at hN
            refine ⟨(show (0 : Int) ≤ ((4 : Nat) : Int) ∧ ((4 : Nat) : Int) < ((8 : Nat) : Int) by decide), ?_⟩
            exact ⟨([t0, t1, t2, t3, x3], r3, v3, g3), ⟨(show 5 ≤ 8 by decide), hR3, hN⟩, (show 8 - 5 < 8 - 4 by decide), [0, 1, 2], rfl, ⟨rfl, trivial⟩, rfl, rfl, rfl, rfl⟩
          · have hN : ((rdNum 2).bind fun x => rdNums 2 2 ([t0, t1, t2, t3, t4] ++ [x])) rL = (lf, rf) := hN
            refine (num_k hR 2 (by decide) (by decide)).callS [1] 3 rfl rfl rfl rfl ?_
            intro o L1 g3 hq _
            rcases hx3 : rdNum 2 rL with ⟨x3, r3⟩
            rw [hx3] at hq
            dsimp only at hq
            first | rw [RM.bind_eq hx3] at hM | skip
            obtain ⟨rfl, v3, rfl, hR3⟩ := hq
            rw [RM.bind_eq hx3] at hN
            refine ⟨(show (0 : Int) ≤ ((5 : Nat) : Int) ∧ ((5 : Nat) : Int) < ((8 : Nat) : Int) by decide), ?_⟩
            exact ⟨([t0, t1, t2, t3, t4, x3], r3, v3, g3), ⟨(show 6 ≤ 8 by decide), hR3, hN⟩, (show 8 - 6 < 8 - 5 by decide), [0, 1, 2], rfl, ⟨rfl, trivial⟩, rfl, rfl, rfl, rfl⟩
          · have hN : ((rdNum 2).bind fun x => rdNums 2 1 ([t0, t1, t2, t3, t4, t5] ++ [x])) rL = (lf, rf) := hN
            refine (num_k hR 2 (by decide) (by decide)).callS [1] 3 rfl rfl rfl rfl ?_
            intro o L1 g3 hq _
            rcases hx3 : rdNum 2 rL with ⟨x3, r3⟩
            rw [hx3] at hq
            dsimp only at hq
            first | rw [RM.bind_eq hx3] at hM | skip
            obtain ⟨rfl, v3, rfl, hR3⟩ := hq
            rw [RM.bind_eq hx3] at hN
            refine ⟨(show (0 : Int) ≤ ((6 : Nat) : Int) ∧ ((6 : Nat) : Int) < ((8 : Nat) : Int) by decide), ?_⟩
            exact ⟨([t0, t1, t2, t3, t4, t5, x3], r3, v3, g3), ⟨(show 7 ≤ 8 by decide), hR3, hN⟩, (show 8 - 7 < 8 - 6 by decide), [0, 1, 2], rfl, ⟨rfl, trivial⟩, rfl, rfl, rfl, rfl⟩
          · have hN : ((rdNum 2).bind fun x => rdNums 2 0 ([t0, t1, t2, t3, t4, t5, t6] ++ [x])) rL = (lf, rf) := hN
            refine (num_k hR 2 (by decide) (by decide)).callS [1] 3 rfl rfl rfl rfl ?_
            intro o L1 g3 hq _
            rcases hx3 : rdNum 2 rL with ⟨x3, r3⟩
            rw [hx3] at hq
            dsimp only at hq
            first | rw [RM.bind_eq hx3] at hM | skip
            obtain ⟨rfl, v3, rfl, hR3⟩ := hq
            rw [RM.bind_eq hx3] at hN
            refine ⟨(show (0 : Int) ≤ ((7 : Nat) : Int) ∧ ((7 : Nat) : Int) < ((8 : Nat) : Int) by decide), ?_⟩
            exact ⟨([t0, t1, t2, t3, t4, t5, t6, x3], r3, v3, g3), ⟨(show 8 ≤ 8 by decide), hR3, hN⟩, (show 8 - 8 < 8 - 7 by decide), [0, 1, 2], rfl, ⟨rfl, trivial⟩, rfl, rfl, rfl, rfl⟩
          · cases (show ([t0, t1, t2, t3, t4, t5, t6, t7], rL) = (lf, rf) from hN)
            exact ⟨(vL, gl), hR, [0, 1, 2], rfl, trivial, rfl, rfl, rfl, rfl⟩
          · simp at hl
        · refine bsplit_of (fun _ => ?_) (fun h => absurd h (by simp at hgt ⊢; omega))
          refine (fail_k hR2 2 2).callS [1] 3 rfl rfl rfl rfl ?_
          rintro o L1 g4 ⟨rfl, v4, rfl, hR4⟩ _
          obtain ⟨lf, rf, hN, rfl, rfl⟩ := loop (r2.fail 2 2) v4 g4 hR4 hb
          change LoopW _ _ _ _ _ _ _
          apply loop_rule [] (α := List Nat × RdV × Value × G) (fun y => [(37, .v (.int .i64 y.1.length))]) (fun y => [.cells 78 [.v (.bool false), .v (.int .i64 0), .v (.int .i64 0), .v (.int .i64 0), .v (.int .i64 0), .v (.int .i64 0), .v (.int .i64 0), .v (.int .i64 0), .v (.int .i64 0), .v (.int .i64 0)], rdC y.2.1 y.2.2.1, .cells 78 ((PauseV.mk true x2 (timesOf y.1)).cells.map .v)]) (fun y => y.2.2.2) (fun y => y.1.length ≤ 8 ∧ RdAt g0 y.2.2.2 y.2.2.1 y.2.1 ∧ rdNums 2 (8 - y.1.length) y.1 y.2.1 = (lf, rf)) (fun y => 8 - y.1.length) ([], r2.fail 2 2, v4, _)
          · intro x; kernel_rfl
          · exact ⟨Nat.zero_le 8, hR4, hN⟩
          · exact ⟨rfl, trivial⟩
          · rfl
          · rfl
          clear hN
          intro y hy
          obtain ⟨l, rL, vL, gl⟩ := y
          obtain ⟨hl, hR, hN⟩ := hy
          rcases l with _ | ⟨t0, _ | ⟨t1, _ | ⟨t2, _ | ⟨t3, _ | ⟨t4, _ | ⟨t5, _ | ⟨t6, _ | ⟨t7, _ | ⟨t8, l⟩⟩⟩⟩⟩⟩⟩⟩⟩
          · have hN : ((rdNum 2).bind fun x => rdNums 2 7 ([] ++ [x])) rL = (lf, rf) := hN
            refine (num_k hR 2 (by decide) (by decide)).callS [1] 3 rfl rfl rfl rfl ?_
            intro o L1 g3 hq _
            rcases hx3 : rdNum 2 rL with ⟨x3, r3⟩
            rw [hx3] at hq
            dsimp only at hq
            first | rw [RM.bind_eq hx3] at hM | skip
            obtain ⟨rfl, v3, rfl, hR3⟩ := hq
            rw [RM.bind_eq hx3] at hN
            refine ⟨(show (0 : Int) ≤ ((0 : Nat) : Int) ∧ ((0 : Nat) : Int) < ((8 : Nat) : Int) by decide), ?_⟩
            exact ⟨([x3], r3, v3, g3), ⟨(show 1 ≤ 8 by decide), hR3, hN⟩, (show 8 - 1 < 8 - 0 by decide), [0, 1, 2], rfl, ⟨rfl, trivial⟩, rfl, rfl, rfl, rfl⟩
          · have hN : ((rdNum 2).bind fun x => rdNums 2 6 ([t0] ++ [x])) rL = (lf, rf) := hN
            refine (num_k hR 2 (by decide) (by decide)).callS [1] 3 rfl rfl rfl rfl ?_
            intro o L1 g3 hq _
            rcases hx3 : rdNum 2 rL with ⟨x3, r3⟩
            rw [hx3] at hq
            dsimp only at hq
            first | rw [RM.bind_eq hx3] at hM | skip
            obtain ⟨rfl, v3, rfl, hR3⟩ := hq
            rw [RM.bind_eq hx3] at hN
            refine ⟨(show (0 : Int) ≤ ((1 : Nat) : Int) ∧ ((1 : Nat) : Int) < ((8 : Nat) : Int) by decide), ?_⟩
            exact ⟨([t0, x3], r3, v3, g3), ⟨(show 2 ≤ 8 by decide), hR3, hN⟩, (show 8 - 2 < 8 - 1 by decide), [0, 1, 2], rfl, ⟨rfl, trivial⟩, rfl, rfl, rfl, rfl⟩
          · have hN : ((rdNum 2).bind fun x => rdNums 2 5 ([t0, t1] ++ [x])) rL = (lf, rf) := hN
            refine (num_k hR 2 (by decide) (by decide)).callS [1] 3 rfl rfl rfl rfl ?_
            intro o L1 g3 hq _
            rcases hx3 : rdNum 2 rL with ⟨x3, r3⟩
            rw [hx3] at hq
            dsimp only at hq
            first | rw [RM.bind_eq hx3] at hM | skip
            obtain ⟨rfl, v3, rfl, hR3⟩ := hq
            rw [RM.bind_eq hx3] at hN
            refine ⟨(show (0 : Int) ≤ ((2 : Nat) : Int) ∧ ((2 : Nat) : Int) < ((8 : Nat) : Int) by decide), ?_⟩
            exact ⟨([t0, t1, x3], r3, v3, g3), ⟨(show 3 ≤ 8 by decide), hR3, hN⟩, (show 8 - 3 < 8 - 2 by decide), [0, 1, 2], rfl, ⟨rfl, trivial⟩, rfl, rfl, rfl, rfl⟩
          · have hN : ((rdNum 2).bind fun x => rdNums 2 4 ([t0, t1, t2] ++ [x])) rL = (lf, rf) := hN
            refine (num_k hR 2 (by decide) (by decide)).callS [1] 3 rfl rfl rfl rfl ?_
            intro o L1 g3 hq _
            rcases hx3 : rdNum 2 rL with ⟨x3, r3⟩
            rw [hx3] at hq
            dsimp only at hq
            first | rw [RM.bind_eq hx3] at hM | skip
            obtain ⟨rfl, v3, rfl, hR3⟩ := hq
            rw [RM.bind_eq hx3] at hN
            refine ⟨(show (0 : Int) ≤ ((3 : Nat) : Int) ∧ ((3 : Nat) : Int) < ((8 : Nat) : Int) by decide), ?_⟩
            exact ⟨([t0, t1, t2, x3], r3, v3, g3), ⟨(show 4 ≤ 8 by decide), hR3, hN⟩, (show 8 - 4 < 8 - 3 by decide), [0, 1, 2], rfl, ⟨rfl, trivial⟩, rfl, rfl, rfl, rfl⟩
          · have hN : ((rdNum 2).bind fun x => rdNums 2 3 ([t0, t1, t2, t3] ++ [x])) rL = (lf, rf) := hN
            refine (num_k hR 2 (by decide) (by decide)).callS [1] 3 rfl rfl rfl rfl ?_
            intro o L1 g3 hq _
            rcases hx3 : rdNum 2 rL with ⟨x3, r3⟩
            rw [hx3] at hq
            dsimp only at hq
            first | rw [RM.bind_eq hx3] at hM | skip
            obtain ⟨rfl, v3, rfl, hR3⟩ := hq
            rw [RM.bind_eq hx3] at hN
            refine ⟨(show (0 : Int) ≤ ((4 : Nat) : Int) ∧ ((4 : Nat) : Int) < ((8 : Nat) : Int) by decide), ?_⟩
            exact ⟨([t0, t1, t2, t3, x3], r3, v3, g3), ⟨(show 5 ≤ 8 by decide), hR3, hN⟩, (show 8 - 5 < 8 - 4 by decide), [0, 1, 2], rfl, ⟨rfl, trivial⟩, rfl, rfl, rfl, rfl⟩
          · have hN : ((rdNum 2).bind fun x => rdNums 2 2 ([t0, t1, t2, t3, t4] ++ [x])) rL = (lf, rf) := hN
            refine (num_k hR 2 (by decide) (by decide)).callS [1] 3 rfl rfl rfl rfl ?_
            intro o L1 g3 hq _
            rcases hx3 : rdNum 2 rL with ⟨x3, r3⟩
            rw [hx3] at hq
            dsimp only at hq
            first | rw [RM.bind_eq hx3] at hM | skip
            obtain ⟨rfl, v3, rfl, hR3⟩ := hq
            rw [RM.bind_eq hx3] at hN
            refine ⟨(show (0 : Int) ≤ ((5 : Nat) : Int) ∧ ((5 : Nat) : Int) < ((8 : Nat) : Int) by decide), ?_⟩
            exact ⟨([t0, t1, t2, t3, t4, x3], r3, v3, g3), ⟨(show 6 ≤ 8 by decide), hR3, hN⟩, (show 8 - 6 < 8 - 5 by decide), [0, 1, 2], rfl, ⟨rfl, trivial⟩, rfl, rfl, rfl, rfl⟩
          · have hN : ((rdNum 2).bind fun x => rdNums 2 1 ([t0, t1, t2, t3, t4, t5] ++ [x])) rL = (lf, rf) := hN
            refine (num_k hR 2 (by decide) (by decide)).callS [1] 3 rfl rfl rfl rfl ?_
            intro o L1 g3 hq _
            rcases hx3 : rdNum 2 rL with ⟨x3, r3⟩
            rw [hx3] at hq
            dsimp only at hq
            first | rw [RM.bind_eq hx3] at hM | skip
            obtain ⟨rfl, v3, rfl, hR3⟩ := hq
            rw [RM.bind_eq hx3] at hN
            refine ⟨(show (0 : Int) ≤ ((6 : Nat) : Int) ∧ ((6 : Nat) : Int) < ((8 : Nat) : Int) by decide), ?_⟩
            exact ⟨([t0, t1, t2, t3, t4, t5, x3], r3, v3, g3), ⟨(show 7 ≤ 8 by decide), hR3, hN⟩, (show 8 - 7 < 8 - 6 by decide), [0, 1, 2], rfl, ⟨rfl, trivial⟩, rfl, rfl, rfl, rfl⟩
          · have hN : ((rdNum 2).bind fun x => rdNums 2 0 ([t0, t1, t2, t3, t4, t5, t6] ++ [x])) rL = (lf, rf) := hN
            refine (num_k hR 2 (by decide) (by decide)).callS [1] 3 rfl rfl rfl rfl ?_
            intro o L1 g3 hq _
            rcases hx3 : rdNum 2 rL with ⟨x3, r3⟩
            rw [hx3] at hq
            dsimp only at hq
            first | rw [RM.bind_eq hx3] at hM | skip
            obtain ⟨rfl, v3, rfl, hR3⟩ := hq
            rw [RM.bind_eq hx3] at hN
            refine ⟨(show (0 : Int) ≤ ((7 : Nat) : Int) ∧ ((7 : Nat) : Int) < ((8 : Nat) : Int) by decide), ?_⟩
            exact ⟨([t0, t1, t2, t3, t4, t5, t6, x3], r3, v3, g3), ⟨(show 8 ≤ 8 by decide), hR3, hN⟩, (show 8 - 8 < 8 - 7 by decide), [0, 1, 2], rfl, ⟨rfl, trivial⟩, rfl, rfl, rfl, rfl⟩
          · cases (show ([t0, t1, t2, t3, t4, t5, t6, t7], rL) = (lf, rf) from hN)
            exact ⟨(vL, gl), hR, [0, 1, 2], rfl, trivial, rfl, rfl, rfl, rfl⟩
          · simp at hl
      · rw [show rdPauseB x1 = (rdFail true 3 0).bind fun _ => RM.pure PauseV.zero by rw [rdPauseB, if_neg k.1, if_neg k.2]] at hb
        refine bsplit_of (fun h => absurd h (by simp; omega)) (fun _ => ?_)
        refine bsplit_of (fun h => absurd h (by simp; omega)) (fun _ => ?_)
        refine (fail_k hR1 3 0).callS [1] 3 rfl rfl rfl rfl ?_
        rintro o L1 g4 ⟨rfl, v4, rfl, hR4⟩ _
        cases hb
        exact ⟨(v4, g4), hR4, [0, 1, 2], rfl, trivial, rfl, rfl, rfl, rfl⟩
    · rw [rdIfOk_some he] at hb
      cases hb
      obtain ⟨ad, rfl, -⟩ := hR1.some he
      exact ⟨(_, _), hR1, [0, 1, 2], rfl, trivial, rfl, rfl, rfl, rfl⟩
  intro y hR2
  obtain ⟨v2, g2⟩ := y
  refine (zeros_k hR2).callS [1] 3 rfl rfl rfl rfl ?_
  rintro o L1 g9 ⟨rfl, v9, rfl, hR9⟩ _
  rw [RM.bind_eq (show rdZeros rb = ((), rb.zeros) from rfl)] at hM
  obtain ⟨rz, hz⟩ : ∃ rz, rb.zeros = rz := ⟨_, rfl⟩
  rw [hz] at hR9 hM ⊢
  subst hM
  refine bsplit_of (fun k => ?_) (fun k => ?_)
  · rcases he : rz.err with _ | p
    · rw [he] at k; cases k
    obtain ⟨ad, rfl, hat⟩ := hR9.some he
    refine (err_k hR9).callS [1] 3 rfl rfl rfl rfl ?_
    rintro o L1 g10 ⟨rfl, rfl, rfl⟩ _
    show match rz.err with
      | none => _
      | some p => _
    rw [he]
    exact ⟨_, rfl, rfl, ⟨ad, rfl, hat⟩, hR9.1⟩
  · rcases he : rz.err with _ | p
    · show match rz.err with
        | none => _
        | some p => _
      rw [he]
      exact ⟨rfl, rfl, hR9.1⟩
    · rw [he] at k; cases k

/-- The law PauseReads. -/
theorem pauseReads_c (s : ByteArray) (g : G) (_ : sok s) (hE : ErrVar g) : Meets Tryd.prog 11 [.v (.string s)] [] g (fun o _ _ => o = .ret (.v (.bool true))) := by
  refine meets_of mixedW Tryd.func11 (by kernel_rfl) x11_ok none ?_
  refine bsplit_of (fun _ => ⟨[], rfl⟩) (fun hlen => ?_)
  have hs : s.size ≤ 1000000000000 := by simp at hlen; omega
  obtain ⟨h1, h2⟩ := pause_sim.run s
  refine (refPauseRead_c s g hs).call0 rfl rfl 0 rfl ?_
  rintro o L1 g1 ⟨rfl, rfl, hle1⟩
  rcases hm : cuPause (cur0 s) with ⟨x, c⟩ | ⟨e, pl, c⟩
  · obtain ⟨ha, he⟩ := h1 x c hm
    refine (pauseRead_c s g1 hs).call0 rfl rfl 2 rfl ?_
    intro o L1 g2 hq
    rw [show (rdPause (rd0 s)).2.err = none from he, show (rdPause (rd0 s)).1 = x from ha] at hq
    obtain ⟨rfl, rfl, hle2⟩ := hq
    refine (placed_c .nilIface 0 (-1) 0 (-1) _ (G.at.mono (le_trans hle1 hle2) hE) .nil).call rfl rfl rfl ?_
    exact ⟨[], rb (by simp)⟩
  · have he := h2 e pl c hm
    refine (pauseRead_c s g1 hs).call0 rfl rfl 2 rfl ?_
    intro o L1 g2 hq
    rw [show (rdPause (rd0 s)).2.err = some (e, pl) from he] at hq
    obtain ⟨v, rfl, rfl, ⟨ad, rfl, hat⟩, hle2⟩ := hq
    refine (placed_c _ e pl e pl _ (G.at.mono (le_trans hle1 hle2) hE) (.at_ ad _ _ hat)).call rfl rfl rfl ?_
    refine bsplit_of (fun _ => ?_) (fun k => absurd k (by simp))
    exact ⟨[], rfl⟩
end Go.Proofs.YtfagdcpfebghoaaDoor
