/- arp.Read, its reference, the law ArpReads: what each returns. Conditions: none; of the law: the variable errors.errorType is as laid. -/
import Derived.Test.YtfagdcpfebghoaaDoorXarp
import Derived.Test.YtfagdcpfebghoaaDoorRM
namespace Go.Proofs.YtfagdcpfebghoaaDoor
open Go.Sx
set_option maxRecDepth 100000
set_option maxHeartbeats 8000000
attribute [local irreducible] Meets

def arpHead : ByteArray := ⟨#[0, 1, 8, 0, 6, 4]⟩
structure ArpB where
  op : Nat
  a : ByteArray
  b : ByteArray
  c : ByteArray
  d : ByteArray
def ip4Of (s : ByteArray) : A4xu8V := ⟨byteI s 0, byteI s 1, byteI s 2, byteI s 3⟩
def ip4Rd (s : ByteArray) : A4xu8V := if s.size = 4 then ip4Of s else A4xu8V.zero
def ArpB.v (x : ArpB) : ArpV := ⟨x.op, addrRd x.a, addrRd x.c, ip4Rd x.b, ip4Rd x.d⟩
def arpWrong (n : Nat) : Bool := !(n == 1 || n == 2)
def cuArp : CM ArpB := (cuWant arpHead).bind fun _ => (cuNum 2).bind fun op => (cuThrow (arpWrong op) 2 6).bind fun _ => cuAddr.bind fun a => (cuEat 4).bind fun b => cuAddr.bind fun c => (cuEat 4).bind fun d => cuNoughts.bind fun _ => CM.pure ⟨op, a, b, c, d⟩
def rdArp : RM ArpB := (rdWant arpHead).bind fun _ => (rdNum 2).bind fun op => (rdFail (arpWrong op) 2 6).bind fun _ => (rdBytes 6).bind fun a => (rdBytes 4).bind fun b => (rdBytes 6).bind fun c => (rdBytes 4).bind fun d => rdZeros.bind fun _ => RM.pure ⟨op, a, b, c, d⟩
theorem arp_sim : Sim cuArp rdArp := by
  refine Sim.bind (Sim.want _) (fun _ => Sim.bind (Sim.num 2) (fun op => Sim.bind (Sim.fail _ _ _) (fun _ => Sim.bind (Sim.eat 6) (fun _ => Sim.bind (Sim.eat 4) (fun _ => Sim.bind (Sim.eat 6) (fun _ => Sim.bind (Sim.eat 4) (fun _ => Sim.bind Sim.noughts (fun _ => Sim.pure _) ?_) ?_) ?_) ?_) ?_) ?_) ?_) ?_ <;> intros <;>
    repeat' first | exact Keeps.pure _ | exact Keeps.num _ | exact Keeps.bytes _ | exact Keeps.zeros | exact Keeps.fail _ _ _ | refine Keeps.bind ?_ fun _ => ?_
theorem copyIp {P : Program} {L : List Chunk} {g : G} {chk : List Nat → List Nat → Bool} {K : Out → List Chunk → G → Prop} {c : Call} {x y : Operand} {dT sT elem : TypeId} {b off cap : Nat} {s : ByteArray} (ty : TypeId) (pre post : List SV) (hs : s.size = 4 ∨ s = ⟨#[]⟩) (hcal : c.callee = .builtin .copy) (hargs : c.args.toList = [x, y]) (htys : c.argTypes = #[dT, sT]) (hu : P.underlying dT = some (.slice elem)) (hsz : (P.info? elem).map (·.size) = some 1)
    (hL : L[b]? = some (.cells ty (pre ++ (A4xu8V.zero.cells.map .v ++ post)))) (hoff : pre.length = off) (hcs : scL L.length (pre ++ (A4xu8V.zero.cells.map .v ++ post)) = true) (hc : chk [] [b] = true)
    (k : K (.ret (.v (.int .i64 s.size))) (L.set b (.cells ty (pre ++ ((ip4Rd s).cells.map .v ++ post)))) g) :
    PrimX P (.call c) [x, y] [.slc b off 4 cap, .v (.string s)] L g chk K := by
  have h4 : s.size ≤ 4 := by rcases hs with h | h <;> subst_vars <;> first | omega | exact Nat.zero_le _
  refine prim_copyC (elem := elem) ty (pre ++ (A4xu8V.zero.cells.map .v ++ post)) _ hcal hargs htys hu hsz hL h4 ?_ hcs hc ?_ k
  · rw [List.length_append, List.length_append]
    have : (A4xu8V.zero.cells.map SV.v).length = 4 := rfl
    omega
  · subst hoff
    rw [List.take_left, ← List.drop_drop, List.drop_left]
    rcases hs with h | rfl
    · rw [cells4 h, h, ip4Rd, if_pos h]; rfl
    · rfl

theorem arpRight_b (a : ArpV) (n : Nat) (g : G) (h : a.op = n) : Tells Tryd.prog 30 [.agg (a.cells.map .v)] g (.v (.bool (!(arpWrong n)))) := by
  refine meets_of mixedW Tryd.func30 (by kernel_rfl) x30_ok (some []) ?_
  refine bsplit_of (fun h1 => ?_) (fun h1 => ?_)
  · exact ⟨rb (by rw [h] at h1; simp at h1; simp [arpWrong]; omega), rfl, rfl⟩
  · exact ⟨rb (by rw [h] at h1 ⊢; rw [Bool.eq_iff_iff]; simp at h1; simp [arpWrong]; omega), rfl, rfl⟩

/-- What the reference tells of bytes. -/
def arpOut : CR ArpB → SV
  | .ok x _ => .tup [.agg (x.v.cells.map .v), .agg [.v (.int .i64 0), .v (.int .i64 (-1))]]
  | .thr e pl _ => .tup [.agg (ArpV.zero.cells.map .v), .agg [.v (.int .i64 e), .v (.int .i64 pl)]]

theorem refArpRead_c (s : ByteArray) (g : G) (hs : s.size ≤ 1000000000000) : Meets Tryd.prog 57 [.v (.string s)] [] g (fun o L' g' => o = .ret (arpOut (cuArp (cur0 s))) ∧ L' = [] ∧ G.le g g') := by
  obtain ⟨c0, hc0⟩ : ∃ c0, cur0 s = c0 := ⟨_, rfl⟩
  have hC0 := cu0_at hs g
  rw [hc0] at hC0 ⊢
  generalize hM : cuArp c0 = M
  rw [cuArp] at hM
  refine meets_ofD mixedW Tryd.func57 (by kernel_rfl) x57_ok (some []) ?_
  refine (good_c g).call rfl rfl rfl ?_
  refine ⟨by kernel_rfl, by kernel_rfl, ?_⟩
  change vC _ _ _ _ [_, _, .cells 125 [.v (.string s), .v (.int .i64 0), .v (.int .i64 0)]] _ _
  rw [show Chunk.cells 125 [.v (.string s), .v (.int .i64 0), .v (.int .i64 0)] = cuC c0 by rw [← hc0]; rfl]
  refine (want_k hC0 arpHead (by decide)).callS [2] 3 rfl rfl rfl rfl ?_
  intro o L1 g1 hq _
  rcases hx : cuWant arpHead c0 with ⟨x1, c1⟩ | ⟨e, pl, cx⟩ <;> rw [hx] at hq <;> first | rw [CM.bind_ok hx] at hM | rw [CM.bind_thr hx] at hM
  obtain ⟨rfl, rfl, hC1⟩ := hq
  refine (cnum_k hC1 2 (by decide)).callS [2] 3 rfl rfl rfl rfl ?_
  intro o L1 g2 hq _
  rcases hx : cuNum 2 c1 with ⟨x2, c2⟩ | ⟨e, pl, cx⟩ <;> rw [hx] at hq <;> first | rw [CM.bind_ok hx] at hM | rw [CM.bind_thr hx] at hM
  obtain ⟨rfl, rfl, hC2⟩ := hq
  have hlt := cuNum_lt hx
  rcases hw : arpWrong x2 with _ | _ <;> rw [hw] at hM
  · have hM : (cuAddr.bind fun a => (cuEat 4).bind fun b => cuAddr.bind fun c => (cuEat 4).bind fun d => cuNoughts.bind fun _ => CM.pure (ArpB.mk x2 a b c d)) c2 = M := hM
    have h12 : x2 = 1 ∨ x2 = 2 := by simp [arpWrong] at hw; omega
    clear hw hlt hx
    rcases h12 with rfl | rfl
    all_goals
      refine (caddr_k hC2).callS [2] 3 rfl rfl rfl rfl ?_
      intro o L1 g4 hq _
      rcases hx : cuAddr c2 with ⟨x4, c4⟩ | ⟨e, pl, cx⟩ <;> rw [hx] at hq <;> first | rw [CM.bind_ok hx] at hM | rw [CM.bind_thr hx] at hM
      obtain ⟨rfl, rfl, hC4⟩ := hq
      have k4 := cuEat_size hx
      refine (eat_k hC4 4 (by decide)).callS [2] 3 rfl rfl rfl rfl ?_
      intro o L1 g5 hq _
      rcases hx : cuEat 4 c4 with ⟨x5, c5⟩ | ⟨e, pl, cx⟩ <;> rw [hx] at hq <;> first | rw [CM.bind_ok hx] at hM | rw [CM.bind_thr hx] at hM
      obtain ⟨rfl, rfl, hC5⟩ := hq
      have k5 := cuEat_size hx
      refine copyIp (elem := 5) 50 ([.v (.int .i64 _)] ++ ((addrOf x4).cells.map .v ++ AddrV.zero.cells.map .v)) (A4xu8V.zero.cells.map .v) (.inl k5) rfl rfl rfl (by kernel_rfl) (by kernel_rfl) rfl rfl rfl rfl ?_
      refine (caddr_k hC5).callS [2] 3 rfl rfl rfl rfl ?_
      intro o L1 g6 hq _
      rcases hx : cuAddr c5 with ⟨x6, c6⟩ | ⟨e, pl, cx⟩ <;> rw [hx] at hq <;> first | rw [CM.bind_ok hx] at hM | rw [CM.bind_thr hx] at hM
      obtain ⟨rfl, rfl, hC6⟩ := hq
      have k6 := cuEat_size hx
      refine (eat_k hC6 4 (by decide)).callS [2] 3 rfl rfl rfl rfl ?_
      intro o L1 g7 hq _
      rcases hx : cuEat 4 c6 with ⟨x7, c7⟩ | ⟨e, pl, cx⟩ <;> rw [hx] at hq <;> first | rw [CM.bind_ok hx] at hM | rw [CM.bind_thr hx] at hM
      obtain ⟨rfl, rfl, hC7⟩ := hq
      have k7 := cuEat_size hx
      refine copyIp (elem := 5) 50 ([.v (.int .i64 _)] ++ ((addrOf x4).cells.map .v ++ ((addrOf x6).cells.map .v ++ (ip4Rd x5).cells.map .v))) [] (.inl k7) rfl rfl rfl (by kernel_rfl) (by kernel_rfl) rfl rfl rfl rfl ?_
      refine (noughts_k hC7).callS [2] 3 rfl rfl rfl rfl ?_
      intro o L1 g8 hq _
      rcases hx : cuNoughts c7 with ⟨x8, c8⟩ | ⟨e, pl, cx⟩ <;> rw [hx] at hq <;> first | rw [CM.bind_ok hx] at hM | rw [CM.bind_thr hx] at hM
      obtain ⟨rfl, rfl, hC8⟩ := hq
      subst hM
      refine recx_of Tryd.func70 rfl x70_ok ?_
      refine defx_of Tryd.func77 rfl x77_ok ?_
      refine (is_c 0 _ _).call rfl rfl rfl ?_
      refine ⟨?_, rfl, hC8.1⟩
      rw [← addrRd_of k4, ← addrRd_of k6]
      rfl
    all_goals
      obtain ⟨rfl, rfl, hle, he⟩ := hq
      subst hM
      refine recx_of Tryd.func70 rfl x70_ok ?_
      refine defx_of Tryd.func77 rfl x77_ok ?_
      refine (is_c e _ _).call rfl rfl rfl ?_
      refine bsplit_of (fun _ => ?_) (fun k => absurd k (by simp [he]))
      exact ⟨rfl, rfl, hle⟩
  · have k1 : ((x2 : Int) != 1) = true := by simp [arpWrong] at hw ⊢; omega
    have k2 : ((x2 : Int) != 2) = true := by simp [arpWrong] at hw ⊢; omega
    refine bsplit_of (fun _ => ?_) (fun h1 => absurd (k1.symm.trans h1) (by decide))
    refine bsplit_of (fun _ => ?_) (fun h1 => absurd (k2.symm.trans h1) (by decide))
    refine absK fun K hK => ?_
    refine (throw_k hC2 2 6 (by decide)).callS [2] 3 rfl rfl rfl rfl ?_
    rintro o L1 g3 ⟨rfl, rfl, rfl⟩ _
    subst hK hM
    refine recx_of Tryd.func70 rfl x70_ok ?_
    refine defx_of Tryd.func77 rfl x77_ok ?_
    refine (is_c 2 _ _).call rfl rfl rfl ?_
    exact ⟨rfl, rfl, hC2.1⟩
  all_goals
    obtain ⟨rfl, rfl, hle, he⟩ := hq
    subst hM
    refine recx_of Tryd.func70 rfl x70_ok ?_
    refine defx_of Tryd.func77 rfl x77_ok ?_
    refine (is_c e _ _).call rfl rfl rfl ?_
    refine bsplit_of (fun _ => ?_) (fun k => absurd k (by simp [he]))
    exact ⟨rfl, rfl, hle⟩

theorem arpRead_c (s : ByteArray) (g : G) (hs : s.size ≤ 1000000000000) : Meets Tryd.prog 58 [.v (.string s)] [] g (fun o L' g' => match (rdArp (rd0 s)).2.err with
    | none => o = .ret (.tup [.agg ((rdArp (rd0 s)).1.v.cells.map .v), .v .nilIface]) ∧ L' = [] ∧ G.le g g'
    | some p => ∃ v, o = .ret (.tup [.agg (ArpV.zero.cells.map .v), .v v]) ∧ L' = [] ∧ errAt g' v (some p) ∧ G.le g g') := by
  have hR0 := rd0_at hs g
  generalize hM : rdArp (rd0 s) = M
  obtain ⟨r0, hr0⟩ : ∃ r0, rd0 s = r0 := ⟨_, rfl⟩
  have hp : r0.place = 0 := by rw [← hr0]; rfl
  rw [hr0] at hM hR0
  rw [rdArp] at hM
  refine meets_ofJ mixedW Tryd.func58 (by kernel_rfl) x58_ok (some []) ?_
  refine (new_c s 0 g).call0 rfl rfl 1 rfl ?_
  rintro o L1 g0 ⟨rfl, rfl, rfl⟩
  change vC _ _ _ _ [_, rdC (rd0 s) _] _ _
  rw [hr0]
  refine (bytes_k hR0 6 (by decide)).callS [1] 2 rfl rfl rfl rfl ?_
  intro o L1 g1 hq _
  rcases hx1 : rdBytes 6 r0 with ⟨x1, r1⟩
  rw [hx1] at hq
  dsimp only at hq
  first | rw [RM.bind_eq hx1] at hM | skip
  obtain ⟨rfl, v1, rfl, hR1⟩ := hq
  obtain ⟨r2, hr2⟩ : ∃ r, (rdFail (decide (x1 ≠ arpHead)) 3 0 r1).2 = r := ⟨_, rfl⟩
  change JoinW _ _ _ _ _ _ _
  refine join_rule [] (α := Value × G) (fun _ => []) (fun y => [.cells 50 (ArpV.zero.cells.map .v), rdC r2 y.1]) (fun y => y.2) (fun y => RdAt g0 y.2 y.1 r2) (fun y => by kernel_rfl) ?_ ?_
  · refine (err_k hR1).callS [1] 2 rfl rfl rfl rfl ?_
    rintro o L1 g2 ⟨rfl, rfl, rfl⟩ _
    rcases he : r1.err with _ | p
    · obtain rfl := hR1.nil he
      skip
      refine bsplit_of (fun k => ?_) (fun k => ?_)
      · have hb : (decide (x1 ≠ arpHead)) = true := neTest k
        rw [hb] at hr2
        refine (fail_k hR1 3 0).callS [1] 2 rfl rfl rfl rfl ?_
        rintro o L1 g2 ⟨rfl, v2, rfl, hR2⟩ _
        subst hr2
        exact ⟨(v2, g2), hR2, (List.range 2), rfl, trivial, rfl, rfl, rfl, rfl⟩
      · have hb : (decide (x1 ≠ arpHead)) = false := neTest k
        rw [hb] at hr2
        subst hr2
        exact ⟨(_, _), hR1, (List.range 2), rfl, trivial, rfl, rfl, rfl, rfl⟩
    · rw [rdFail_err he] at hr2
      subst hr2
      obtain ⟨ad, rfl, -⟩ := hR1.some he
      exact ⟨(_, _), hR1, (List.range 2), rfl, trivial, rfl, rfl, rfl, rfl⟩
  intro y hR2
  obtain ⟨v2, g2⟩ := y
  rw [RM.bind_eq (rdWant_eq (s := arpHead) hx1 hp hr2)] at hM
  refine (num_k hR2 2 (by decide) (by decide)).callS [1] 3 rfl rfl rfl rfl ?_
  intro o L1 g3 hq _
  rcases hx3 : rdNum 2 r2 with ⟨x3, r3⟩
  rw [hx3] at hq
  dsimp only at hq
  first | rw [RM.bind_eq hx3] at hM | skip
  obtain ⟨rfl, v3, rfl, hR3⟩ := hq
  have h3 := rdNum_lt 2 r2
  rw [hx3] at h3
  have h3 : x3 < 65536 := h3
  obtain ⟨r4, hr4⟩ : ∃ r, (rdFail (arpWrong x3) 2 6 r3).2 = r := ⟨_, rfl⟩
  change JoinW _ _ _ _ _ _ _
  refine join_rule [] (α := Value × G) (fun _ => []) (fun y => [.cells 50 (ArpV.zero.cells.map .v), rdC r4 y.1, .cells 50 ((ArpV.mk x3 AddrV.zero AddrV.zero A4xu8V.zero A4xu8V.zero).cells.map .v)]) (fun y => y.2) (fun y => RdAt g0 y.2 y.1 r4) (fun y => by kernel_rfl) ?_ ?_
  · refine (err_k hR3).callS [1] 3 rfl rfl rfl rfl ?_
    rintro o L1 g4 ⟨rfl, rfl, rfl⟩ _
    rcases he : r3.err with _ | p
    · obtain rfl := hR3.nil he
      refine (arpRight_b (ArpV.mk x3 AddrV.zero AddrV.zero A4xu8V.zero A4xu8V.zero) x3 _ rfl).call rfl rfl rfl ?_
      refine bsplit_of (fun k => ?_) (fun k => ?_)
      · have hb : (arpWrong x3) = true := notNot k
        rw [hb] at hr4
        refine (fail_k hR3 2 6).callS [1] 3 rfl rfl rfl rfl ?_
        rintro o L1 g4 ⟨rfl, v4, rfl, hR4⟩ _
        subst hr4
        exact ⟨(v4, g4), hR4, (List.range 3), rfl, trivial, rfl, rfl, rfl, rfl⟩
      · have hb : (arpWrong x3) = false := notNot k
        rw [hb] at hr4
        subst hr4
        exact ⟨(_, _), hR3, (List.range 3), rfl, trivial, rfl, rfl, rfl, rfl⟩
    · rw [rdFail_err he] at hr4
      subst hr4
      obtain ⟨ad, rfl, -⟩ := hR3.some he
      exact ⟨(_, _), hR3, (List.range 3), rfl, trivial, rfl, rfl, rfl, rfl⟩
  intro y hR4
  obtain ⟨v4, g4⟩ := y
  rw [RM.bind_eq (rdFail_eq hr4)] at hM
  refine (bytes_k hR4 6 (by decide)).callS [1] 3 rfl rfl rfl rfl ?_
  intro o L1 g5 hq _
  rcases hx5 : rdBytes 6 r4 with ⟨x5, r5⟩
  rw [hx5] at hq
  dsimp only at hq
  first | rw [RM.bind_eq hx5] at hM | skip
  obtain ⟨rfl, v5, rfl, hR5⟩ := hq
  have k5 := rdBytes_all 6 r4
  rw [hx5] at k5
  show dR _ _ _ _ _ _ _ _
  refine dR_prim rfl rfl ?_
  refine copyAddr (elem := 5) 50 [.v (.int .i64 x3)] ((AddrV.zero.cells ++ (A4xu8V.zero.cells ++ A4xu8V.zero.cells)).map .v) k5 rfl rfl rfl (by kernel_rfl) (by kernel_rfl) rfl rfl rfl rfl ?_
  refine (bytes_k hR5 4 (by decide)).callS [1] 3 rfl rfl rfl rfl ?_
  intro o L1 g6 hq _
  rcases hx6 : rdBytes 4 r5 with ⟨x6, r6⟩
  rw [hx6] at hq
  dsimp only at hq
  first | rw [RM.bind_eq hx6] at hM | skip
  obtain ⟨rfl, v6, rfl, hR6⟩ := hq
  have k6 := rdBytes_all 4 r5
  rw [hx6] at k6
  show dR _ _ _ _ _ _ _ _
  refine dR_prim rfl rfl ?_
  refine copyIp (elem := 5) 50 ([.v (.int .i64 x3)] ++ ((addrRd x5).cells.map .v ++ AddrV.zero.cells.map .v)) (A4xu8V.zero.cells.map .v) k6 rfl rfl rfl (by kernel_rfl) (by kernel_rfl) rfl rfl rfl rfl ?_
  refine (bytes_k hR6 6 (by decide)).callS [1] 3 rfl rfl rfl rfl ?_
  intro o L1 g7 hq _
  rcases hx7 : rdBytes 6 r6 with ⟨x7, r7⟩
  rw [hx7] at hq
  dsimp only at hq
  first | rw [RM.bind_eq hx7] at hM | skip
  obtain ⟨rfl, v7, rfl, hR7⟩ := hq
  have k7 := rdBytes_all 6 r6
  rw [hx7] at k7
  show dR _ _ _ _ _ _ _ _
  refine dR_prim rfl rfl ?_
  refine copyAddr (elem := 5) 50 ([.v (.int .i64 x3)] ++ (addrRd x5).cells.map .v) (((ip4Rd x6).cells ++ A4xu8V.zero.cells).map .v) k7 rfl rfl rfl (by kernel_rfl) (by kernel_rfl) rfl rfl rfl rfl ?_
  refine (bytes_k hR7 4 (by decide)).callS [1] 3 rfl rfl rfl rfl ?_
  intro o L1 g8 hq _
  rcases hx8 : rdBytes 4 r7 with ⟨x8, r8⟩
  rw [hx8] at hq
  dsimp only at hq
  first | rw [RM.bind_eq hx8] at hM | skip
  obtain ⟨rfl, v8, rfl, hR8⟩ := hq
  have k8 := rdBytes_all 4 r7
  rw [hx8] at k8
  show dR _ _ _ _ _ _ _ _
  refine dR_prim rfl rfl ?_
  refine copyIp (elem := 5) 50 ([.v (.int .i64 x3)] ++ ((addrRd x5).cells.map .v ++ ((addrRd x7).cells.map .v ++ (ip4Rd x6).cells.map .v))) [] k8 rfl rfl rfl (by kernel_rfl) (by kernel_rfl) rfl rfl rfl rfl ?_
  refine (zeros_k hR8).callS [1] 3 rfl rfl rfl rfl ?_
  rintro o L1 g9 ⟨rfl, v9, rfl, hR9⟩ _
  rw [RM.bind_eq (show rdZeros r8 = ((), r8.zeros) from rfl)] at hM
  obtain ⟨rz, hz⟩ : ∃ rz, r8.zeros = rz := ⟨_, rfl⟩
  rw [hz] at hR9 hM ⊢
  subst hM
  refine bsplit_of (fun k => ?_) (fun k => ?_)
  · rcases he : rz.err with _ | p
    · rw [he] at k; cases k
    obtain ⟨ad, rfl, hat⟩ := hR9.some he
    refine (err_k hR9).callS [1] 3 rfl rfl rfl rfl ?_
    rintro o L1 g10 ⟨rfl, rfl, rfl⟩ _
    show match rz.err with
      | none => _
      | some p => _
    rw [he]
    exact ⟨_, rfl, rfl, ⟨ad, rfl, hat⟩, hR9.1⟩
  · rcases he : rz.err with _ | p
    · show match rz.err with
        | none => _
        | some p => _
      rw [he]
      exact ⟨rfl, rfl, hR9.1⟩
    · rw [he] at k; cases k

/-- The law ArpReads. -/
theorem arpReads_c (s : ByteArray) (g : G) (_ : sok s) (hE : ErrVar g) : Meets Tryd.prog 10 [.v (.string s)] [] g (fun o _ _ => o = .ret (.v (.bool true))) := by
  refine meets_of mixedW Tryd.func10 (by kernel_rfl) x10_ok none ?_
  refine bsplit_of (fun _ => ⟨[], rfl⟩) (fun hlen => ?_)
  have hs : s.size ≤ 1000000000000 := by simp at hlen; omega
  obtain ⟨h1, h2⟩ := arp_sim.run s
  refine (refArpRead_c s g hs).call0 rfl rfl 0 rfl ?_
  rintro o L1 g1 ⟨rfl, rfl, hle1⟩
  rcases hm : cuArp (cur0 s) with ⟨x, c⟩ | ⟨e, pl, c⟩
  · obtain ⟨ha, he⟩ := h1 x c hm
    refine (arpRead_c s g1 hs).call0 rfl rfl 2 rfl ?_
    intro o L1 g2 hq
    rw [show (rdArp (rd0 s)).2.err = none from he, show (rdArp (rd0 s)).1 = x from ha] at hq
    obtain ⟨rfl, rfl, hle2⟩ := hq
    refine (placed_c .nilIface 0 (-1) 0 (-1) _ (G.at.mono (le_trans hle1 hle2) hE) .nil).call rfl rfl rfl ?_
    exact ⟨[], rb (by simp)⟩
  · have he := h2 e pl c hm
    refine (arpRead_c s g1 hs).call0 rfl rfl 2 rfl ?_
    intro o L1 g2 hq
    rw [show (rdArp (rd0 s)).2.err = some (e, pl) from he] at hq
    obtain ⟨v, rfl, rfl, ⟨ad, rfl, hat⟩, hle2⟩ := hq
    refine (placed_c _ e pl e pl _ (G.at.mono (le_trans hle1 hle2) hE) (.at_ ad _ _ hat)).call rfl rfl rfl ?_
    refine bsplit_of (fun _ => ?_) (fun k => absurd k (by simp))
    exact ⟨[], rfl⟩
end Go.Proofs.YtfagdcpfebghoaaDoor
