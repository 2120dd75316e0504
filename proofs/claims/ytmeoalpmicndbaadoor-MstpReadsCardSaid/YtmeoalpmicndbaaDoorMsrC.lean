/- The reference's reading of an MST BPDU: what it returns. Conditions: the text is not longer than 10^9 bytes. -/
import Derived.Test.YtmeoalpmicndbaaDoorXmstr
import Derived.Test.YtmeoalpmicndbaaDoorMsrL
import Derived.Test.YtmeoalpmicndbaaDoorTagRC
namespace Go.Proofs.YtmeoalpmicndbaaDoor
open Go.Sx
set_option maxRecDepth 100000
set_option maxHeartbeats 8000000
attribute [local irreducible] Meets
attribute [local instance] Classical.propDecidable

/-- What a record's cells hold: its last one is the slice of instances. -/
def mstS (b : BpduV) (nm : ByteArray) (rv : Int) (dg : ByteArray) (co : Int) (br : BridgeV) (ho : Int) (i : SV) : List SV := b.cells.map .v ++ ([.v (.string nm), .v (.int .i64 rv), .v (.string dg), .v (.int .i64 co)] ++ (br.cells.map .v ++ [.v (.int .i64 ho), i]))
def msC (b : BpduV) (nm : ByteArray) (rv : Int) (dg : ByteArray) (co : Int) (br : BridgeV) (ho : Int) (i : SV) : Chunk := .cells 68 (mstS b nm rv dg co br ho i)
def fltC : Chunk := .cells 40 [.v (.int .i64 0), .v (.int .i64 (-1))]
def MstP.out (x : MstP) (i : SV) : SV := .agg (mstS x.base x.name x.rev x.digest x.cost x.bridge x.hops i)
structure GrI where
  n : Nat
  l : List InstV
  cap : Nat
  sp : List Value
def GrI.ok (y : GrI) : Prop := y.l.length = y.n ∧ grOk 19 y.n y.cap (y.l.flatMap InstV.cells) y.sp
theorem inst_cells (x : InstV) : x.cells.length = 19 := rfl
theorem wrap_quo (b : Nat) (h : b < 1000000) : IntKind.i64.wrap ((b : Int).tdiv 16) = ((b / 16 : Nat) : Int) := by
  rw [show (b : Int).tdiv 16 = ((b / 16 : Nat) : Int) from by rw [Int.tdiv_eq_ediv_of_nonneg (by omega)]; omega, wrap_id (by omega) (by omega)]

theorem refMstRead_b (s : ByteArray) (g : G) (hs : s.size ≤ 1000000000) : Meets Tryd.prog 36 [.v (.string s)] [] g (fun o L' g' => match cuMst (cur0 s) with
    | .ok x _ => ∃ cap sp, o = .ret (.tup [x.out (grS 0 x.insts.length cap), .agg [.v (.int .i64 0), .v (.int .i64 (-1))]]) ∧ L' = grL 165 x.insts.length (x.insts.flatMap InstV.cells) sp ∧ G.le g g' ∧ grOk 19 x.insts.length cap (x.insts.flatMap InstV.cells) sp
    | .thr e pl _ => o = .ret (.tup [.agg (MstV.zero.cells.map .v), .agg [.v (.int .i64 e), .v (.int .i64 pl)]]) ∧ L' = [] ∧ G.le g g') := by
  obtain ⟨c0, hc0⟩ : ∃ c0, cur0 s = c0 := ⟨_, rfl⟩
  have hC0 := cu0_at (show s.size ≤ 1000000000000 by omega) g
  rw [hc0] at hC0 ⊢
  generalize hM : cuMst c0 = M
  rw [cuMst] at hM
  refine meets_ofDJ mixedW Tryd.func36 (by kernel_rfl) x36_ok none ?_
  refine (good_c g).call rfl rfl rfl ?_
  refine ⟨by kernel_rfl, by kernel_rfl, ?_⟩
  change CallX _ _ _ [_, _, .cells 189 [.v (.string s), .v (.int .i64 0), .v (.int .i64 0)]] _ _ _
  rw [show Chunk.cells 189 [.v (.string s), .v (.int .i64 0), .v (.int .i64 0)] = cuC c0 by rw [← hc0]; rfl]
  refine (want_k hC0 hMB (by decide)).callS [2] 3 rfl rfl rfl rfl ?_
  intro o L1 g1 hq _
  rcases hx : cuWant hMB c0 with ⟨x1, c1⟩ | ⟨e, pl, cx⟩ <;> rw [hx] at hq <;> first | rw [CM.bind_ok hx] at hM | rw [CM.bind_thr hx] at hM
  obtain ⟨rfl, rfl, hC1⟩ := hq
  refine (cbody_k hC1 3).callS [2] 3 rfl rfl rfl rfl ?_
  intro o L1 g2 hq _
  rcases hx : cuBody 3 c1 with ⟨x2, c2⟩ | ⟨e, pl, cx⟩ <;> rw [hx] at hq <;> first | rw [CM.bind_ok hx] at hM | rw [CM.bind_thr hx] at hM
  obtain ⟨rfl, rfl, hC2⟩ := hq
  refine (want_k hC2 z1B (by decide)).callS [2] 3 rfl rfl rfl rfl ?_
  intro o L1 g3 hq _
  rcases hx : cuWant z1B c2 with ⟨x3, c3⟩ | ⟨e, pl, cx⟩ <;> rw [hx] at hq <;> first | rw [CM.bind_ok hx] at hM | rw [CM.bind_thr hx] at hM
  obtain ⟨rfl, rfl, hC3⟩ := hq
  rw [CM.bind_ok (show cuAt c3 = .ok (c3.off + c3.at_) c3 from rfl)] at hM
  have hb3 : (c3.at_ : Int) = c3.off + c3.at_ := by rw [hC3.2.2]; omega
  rw [← hb3] at hM
  refine (cnum_k hC3 2 (by decide)).callS [2] 3 rfl rfl rfl rfl ?_
  intro o L1 g4 hq _
  rcases hx : cuNum 2 c3 with ⟨x4, c4⟩ | ⟨e, pl, cx⟩ <;> rw [hx] at hq <;> first | rw [CM.bind_ok hx] at hM | rw [CM.bind_thr hx] at hM
  obtain ⟨rfl, rfl, hC4⟩ := hq
  have hlt := cuNum_lt hx
  have hx4 : x4 < 65536 := hlt
  have hrem : ((x4 : Int).tmod 16) = ((x4 % 16 : Nat) : Int) := by rw [Int.tmod_eq_emod_of_nonneg (by omega)]; omega
  have hp3 : 0 ≤ (c3.at_ : Int) ∧ (c3.at_ : Int) ≤ 1000000000000 := by have := hC3.2.1.1; have := hC3.2.1.2.1; omega
  refine ⟨by decide, ?_⟩
  refine bsplit_of (fun k1 => ?_) (fun k1 => ?_)
  · rw [hrem] at k1
    have hbn : mstBad x4 = true := decide_eq_true (.inl (by simp at k1; omega))
    rw [hbn] at hM
    have hM : CR.thr 2 (c3.at_ : Int) c4 = M := hM
    refine (throw_k hC4 2 c3.at_ (by omega)).callS [2] 3 rfl rfl rfl rfl ?_
    rintro o L1 gT ⟨rfl, rfl, rfl⟩ _
    subst hM
    refine recx_of Tryd.func85 rfl x85_ok ?_
    refine defx_of Tryd.func112 rfl x112_ok ?_
    refine (is_c 2 _ _).call rfl rfl rfl ?_
    refine ⟨[], ?_, rfl, hC4.1⟩
    rw [Int.zero_add]
    rfl
  rw [hrem] at k1
  refine (within_c (x4 : Int) 64 1088 _).call rfl rfl rfl ?_
  refine bsplit_of (fun k2 => ?_) (fun k2 => ?_)
  ·
    have hbn : mstBad x4 = true := decide_eq_true (by simp at k1 k2; omega)
    rw [hbn] at hM
    have hM : CR.thr 2 (c3.at_ : Int) c4 = M := hM
    refine (throw_k hC4 2 c3.at_ (by omega)).callS [2] 3 rfl rfl rfl rfl ?_
    rintro o L1 gT ⟨rfl, rfl, rfl⟩ _
    subst hM
    refine recx_of Tryd.func85 rfl x85_ok ?_
    refine defx_of Tryd.func112 rfl x112_ok ?_
    refine (is_c 2 _ _).call rfl rfl rfl ?_
    refine ⟨[], ?_, rfl, hC4.1⟩
    rw [Int.zero_add]
    rfl
  have hbn : mstBad x4 = false := decide_eq_false (by simp at k1 k2; omega)
  have h64 : 64 ≤ x4 := by simp at k2; omega
  rw [hbn, CM.bind_ok (show cuThrow false 2 (c3.at_ : Int) c4 = .ok () c4 from rfl)] at hM
  refine (want_k hC4 z1B (by decide)).callS [2] 3 rfl rfl rfl rfl ?_
  intro o L1 g5 hq _
  rcases hx : cuWant z1B c4 with ⟨x5, c5⟩ | ⟨e, pl, cx⟩ <;> rw [hx] at hq <;> first | rw [CM.bind_ok hx] at hM | rw [CM.bind_thr hx] at hM
  obtain ⟨rfl, rfl, hC5⟩ := hq
  refine (eat_k hC5 32 (by decide)).callS [2] 3 rfl rfl rfl rfl ?_
  intro o L1 g6 hq _
  rcases hx : cuEat 32 c5 with ⟨x6, c6⟩ | ⟨e, pl, cx⟩ <;> rw [hx] at hq <;> first | rw [CM.bind_ok hx] at hM | rw [CM.bind_thr hx] at hM
  obtain ⟨rfl, rfl, hC6⟩ := hq
  have hx6 : x6.size ≤ 32 := by
    unfold cuEat at hx
    split at hx
    · cases hx; rw [cut_size (by assumption)]; exact Nat.le_refl _
    · cases hx
  change JoinW _ _ _ _ _ _ _ _ _
  refine join_rule [] (α := Unit) (fun _ => []) (fun _ => [msC x2 (trim0 x6) 0 ⟨#[]⟩ 0 BridgeV.zero 0 (.v (.slice none 0 0)), fltC, cuC c6]) (fun _ => g6) (fun _ => True) (fun y => by kernel_rfl) ?_ ?_
  · change LoopW _ _ _ _ _ _ _ _ _
    apply loop_rule [] (α := ByteArray) (fun _ => []) (fun t => [msC x2 t 0 ⟨#[]⟩ 0 BridgeV.zero 0 (.v (.slice none 0 0)), fltC, cuC c6]) (fun _ => g6) (fun t => trim0 t = trim0 x6 ∧ t.size ≤ 32) (fun t => t.size) x6
    · intro x; kernel_rfl
    · exact ⟨rfl, hx6⟩
    · trivial
    · rfl
    · rfl
    intro t ht
    refine bsplit_of (fun k => ?_) (fun k => ?_)
    · have hne : t ≠ ⟨#[]⟩ := fun e => by subst e; simp at k
      obtain ⟨m, hm⟩ : ∃ m, t.size = m + 1 := by
        rcases h0 : t.size with _ | m
        · exact absurd (ByteArray.ext (Array.eq_empty_of_size_eq_zero h0)) hne
        · exact ⟨m, rfl⟩
      have hm32 : m < 32 := by have := ht.2; omega
      have w1 : IntKind.i64.wrap ((t.size : Int) - 1) = m := by rw [wrap_id (by omega) (by omega)]; omega
      have hlt : t.data.toList.length = m + 1 := by rw [Array.length_toList]; exact hm
      obtain ⟨b, hb⟩ : ∃ b, t.data.toList[m]? = some b := ⟨_, List.getElem?_eq_getElem (by omega)⟩
      have hbD : t.data.toList.getD (Int.toNat (IntKind.i64.wrap ((t.size : Int) - 1))) 0 = b := by rw [w1, Int.toNat_natCast, List.getD_eq_getElem?_getD, hb]; rfl
      refine ⟨⟨by rw [w1]; omega, by rw [w1]; omega⟩, ?_⟩
      refine bsplit_of (fun k3 => ?_) (fun k3 => ?_)
      · have hb0 : b = 0 := by
          rw [hbD] at k3
          exact UInt8.toNat_inj.1 (by simpa using k3)
        subst hb0
        refine ⟨⟨by rw [w1]; omega, by rw [w1]; omega⟩, ?_⟩
        refine ⟨t.extract 0 m, ⟨by rw [trim0_end hm hb]; exact ht.1, by rw [ByteArray.size_extract]; omega⟩, by rw [ByteArray.size_extract]; omega, [0, 1, 2], rfl, trivial, ?_, rfl, rfl, rfl⟩
        exact congrArg (fun n => [msC x2 n 0 ⟨#[]⟩ 0 BridgeV.zero 0 (.v (.slice none 0 0)), fltC, cuC c6]) (show t.extract 0 (Int.toNat (IntKind.i64.wrap ((t.size : Int) - 1))) = t.extract 0 m by rw [w1]; rfl)
      · have hbn : b ≠ 0 := fun e => by rw [hbD, e] at k3; simp at k3
        exact ⟨(), trivial, [0, 1, 2], rfl, trivial, congrArg (fun n => [msC x2 n 0 ⟨#[]⟩ 0 BridgeV.zero 0 (.v (.slice none 0 0)), fltC, cuC c6]) (by rw [← ht.1]; exact (trim0_stop hm hb hbn).symm : t = trim0 x6), rfl, rfl, rfl⟩
    · have he : t = ⟨#[]⟩ := by
        rw [str_beq] at k
        simpa using k
      exact ⟨(), trivial, [0, 1, 2], rfl, trivial, congrArg (fun n => [msC x2 n 0 ⟨#[]⟩ 0 BridgeV.zero 0 (.v (.slice none 0 0)), fltC, cuC c6]) (by rw [← ht.1, he]; rfl : t = trim0 x6), rfl, rfl, rfl⟩
  intro _ _
  refine (cnum_k hC6 2 (by decide)).callS [2] 3 rfl rfl rfl rfl ?_
  intro o L1 g7 hq _
  rcases hx : cuNum 2 c6 with ⟨x7, c7⟩ | ⟨e, pl, cx⟩ <;> rw [hx] at hq <;> first | rw [CM.bind_ok hx] at hM | rw [CM.bind_thr hx] at hM
  obtain ⟨rfl, rfl, hC7⟩ := hq
  refine (eat_k hC7 16 (by decide)).callS [2] 3 rfl rfl rfl rfl ?_
  intro o L1 g8 hq _
  rcases hx : cuEat 16 c7 with ⟨x8, c8⟩ | ⟨e, pl, cx⟩ <;> rw [hx] at hq <;> first | rw [CM.bind_ok hx] at hM | rw [CM.bind_thr hx] at hM
  obtain ⟨rfl, rfl, hC8⟩ := hq
  refine (cnum_k hC8 4 (by decide)).callS [2] 3 rfl rfl rfl rfl ?_
  intro o L1 g9 hq _
  rcases hx : cuNum 4 c8 with ⟨x9, c9⟩ | ⟨e, pl, cx⟩ <;> rw [hx] at hq <;> first | rw [CM.bind_ok hx] at hM | rw [CM.bind_thr hx] at hM
  obtain ⟨rfl, rfl, hC9⟩ := hq
  refine (cbridge_k hC9).callS [2] 3 rfl rfl rfl rfl ?_
  intro o L1 g10 hq _
  rcases hx : cuBridge c9 with ⟨x10, c10⟩ | ⟨e, pl, cx⟩ <;> rw [hx] at hq <;> first | rw [CM.bind_ok hx] at hM | rw [CM.bind_thr hx] at hM
  obtain ⟨rfl, rfl, hC10⟩ := hq
  refine (cnum_k hC10 1 (by decide)).callS [2] 3 rfl rfl rfl rfl ?_
  intro o L1 g11 hq _
  rcases hx : cuNum 1 c10 with ⟨x11, c11⟩ | ⟨e, pl, cx⟩ <;> rw [hx] at hq <;> first | rw [CM.bind_ok hx] at hM | rw [CM.bind_thr hx] at hM
  obtain ⟨rfl, rfl, hC11⟩ := hq
  obtain ⟨fin, hfin⟩ : ∃ fin : List InstV → MstP, (fun insts => ⟨x2, trim0 x6, x7, x8, x9, x10, x11, insts⟩) = fin := ⟨_, rfl⟩
  have hfin' : ∀ l, (⟨x2, trim0 x6, x7, x8, x9, x10, x11, l⟩ : MstP) = fin l := fun l => congrFun hfin l
  have hM : ((cuInsts ((x4 - 64) / 16) []).bind fun insts => CM.pure (fin insts)) c11 = M := by rw [← hfin]; exact hM
  have hle4 : x4 ≤ 1088 := by simp at k2; omega
  obtain ⟨K0, hK0⟩ : ∃ K0, (x4 - 64) / 16 = K0 := ⟨_, rfl⟩
  rw [hK0] at hM
  have hquo : IntKind.i64.wrap ((IntKind.i64.wrap ((x4 : Int) - 64)).tdiv 16) = (K0 : Int) := by
    rw [wrap_id (a := (x4 : Int) - 64) (by omega) (by omega), Int.tdiv_eq_ediv_of_nonneg (by omega), wrap_id (by omega) (by omega)]
    omega
  refine ⟨by decide, ?_⟩
  change LoopW _ _ _ _ _ _ _ _ _
  refine loop_gone ?_
  apply loop_rule [3] (α := Nat × GrI × CurV × G) (fun y => [(80, .v (.int .i64 y.1))]) (fun y => [msC x2 (trim0 x6) x7 x8 x9 x10 x11 (grS 3 y.2.1.n y.2.1.cap), fltC, cuC y.2.2.1, grC 165 y.2.1.n (y.2.1.l.flatMap InstV.cells) y.2.1.sp]) (fun y => y.2.2.2)
    (fun y => y.2.1.ok ∧ CuAt g 0 y.2.2.2 y.2.2.1 ∧ (y.1 ≤ K0 ∧ y.2.1.n ≤ y.1) ∧ ((cuInsts (K0 - y.1) y.2.1.l).bind fun insts => CM.pure (fin insts)) y.2.2.1 = M) (fun y => K0 - y.1) (0, ⟨0, [], 0, []⟩, c11, _)
  · intro x
    obtain ⟨i, ⟨n, l, cap, sp⟩, c, gl⟩ := x
    cases n <;> kernel_rfl
  · exact ⟨⟨rfl, grOk.zero 19⟩, hC11, ⟨Nat.zero_le _, Nat.le_refl _⟩, hM⟩
  · exact ⟨rfl, trivial⟩
  · rfl
  · rfl
  clear hM
  intro y hy
  obtain ⟨i, ⟨n, l, cap, sp⟩, cL, gl⟩ := y
  obtain ⟨⟨hl, ho⟩, hC, ⟨hi, hni⟩, hM⟩ := hy
  dsimp only at hl ho hC hi hni hM
  rcases n with _ | n
  · obtain rfl : l = [] := List.eq_nil_of_length_eq_zero hl
    refine bsplit_of (fun hlt => ?_) (fun hlt => ?_)
    rotate_left
    · have hik : i = K0 := by rw [hquo] at hlt; simp at hlt; omega
      subst hik
      have hM : CR.ok (fin []) cL = M := by rw [← hM, Nat.sub_self]; rfl
      subst hM
      refine recx_of Tryd.func85 rfl x85_ok ?_
      refine defx_of Tryd.func112 rfl x112_ok ?_
      refine (is_c 0 _ _).call rfl rfl rfl ?_
      subst hfin
      exact ⟨[], 0, [], rfl, rfl, hC.1, grOk.zero 19⟩
    have hlt' : i < K0 := by rw [hquo] at hlt; simpa using hlt
    obtain ⟨j, hj⟩ : ∃ j, K0 - i = j + 1 := ⟨K0 - i - 1, by omega⟩
    have hj' : K0 - (i + 1) = j := by omega
    rw [hj, cuInsts] at hM
    simp only [cuInst, CM.bind_assoc, CM.pure_bind] at hM
    refine (cnum_k hC 1 (by decide)).callS [2] 4 rfl rfl rfl rfl ?_
    intro o L1 g12 hq _
    rcases hx : cuNum 1 cL with ⟨x12, c12⟩ | ⟨e, pl, cx⟩ <;> rw [hx] at hq <;> first | rw [CM.bind_ok hx] at hM | rw [CM.bind_thr hx] at hM
    obtain ⟨rfl, rfl, hC12⟩ := hq
    have hf := flags_same (cuNum_lt hx)
    refine (ofR_c (x12 : Int) _).call rfl rfl rfl ?_
    refine (cbridge_k hC12).callS [2] 4 rfl rfl rfl rfl ?_
    intro o L1 g13 hq _
    rcases hx : cuBridge c12 with ⟨x13, c13⟩ | ⟨e, pl, cx⟩ <;> rw [hx] at hq <;> first | rw [CM.bind_ok hx] at hM | rw [CM.bind_thr hx] at hM
    obtain ⟨rfl, rfl, hC13⟩ := hq
    refine (cnum_k hC13 4 (by decide)).callS [2] 4 rfl rfl rfl rfl ?_
    intro o L1 g14 hq _
    rcases hx : cuNum 4 c13 with ⟨x14, c14⟩ | ⟨e, pl, cx⟩ <;> rw [hx] at hq <;> first | rw [CM.bind_ok hx] at hM | rw [CM.bind_thr hx] at hM
    obtain ⟨rfl, rfl, hC14⟩ := hq
    refine (cnum_k hC14 1 (by decide)).callS [2] 4 rfl rfl rfl rfl ?_
    intro o L1 g15 hq _
    rcases hx : cuNum 1 c14 with ⟨x15, c15⟩ | ⟨e, pl, cx⟩ <;> rw [hx] at hq <;> first | rw [CM.bind_ok hx] at hM | rw [CM.bind_thr hx] at hM
    obtain ⟨rfl, rfl, hC15⟩ := hq
    have h15 : x15 < 256 := cuNum_lt hx
    refine ⟨by decide, ?_⟩
    refine (cnum_k hC15 1 (by decide)).callS [2] 4 rfl rfl rfl rfl ?_
    intro o L1 g16 hq _
    rcases hx : cuNum 1 c15 with ⟨x16, c16⟩ | ⟨e, pl, cx⟩ <;> rw [hx] at hq <;> first | rw [CM.bind_ok hx] at hM | rw [CM.bind_thr hx] at hM
    obtain ⟨rfl, rfl, hC16⟩ := hq
    have h16 : x16 < 256 := cuNum_lt hx
    refine ⟨by decide, ?_⟩
    refine (cnum_k hC16 1 (by decide)).callS [2] 4 rfl rfl rfl rfl ?_
    intro o L1 g17 hq _
    rcases hx : cuNum 1 c16 with ⟨x17, c17⟩ | ⟨e, pl, cx⟩ <;> rw [hx] at hq <;> first | rw [CM.bind_ok hx] at hM | rw [CM.bind_thr hx] at hM
    obtain ⟨rfl, rfl, hC17⟩ := hq
    obtain ⟨z, hz⟩ : ∃ z : InstV, ⟨flagsR x12, x13, x14, IntKind.i64.wrap ((x15 : Int).tdiv 16), IntKind.i64.wrap ((x16 : Int).tdiv 16), x17⟩ = z := ⟨_, rfl⟩
    have hM : ((cuInsts (K0 - (i + 1)) ([] ++ [z])).bind fun insts => CM.pure (fin insts)) c17 = M := by
      rw [← hz, hf, wrap_quo _ (by omega), wrap_quo _ (by omega), hj']
      exact hM
    subst hz
    refine ⟨by show 0 + 1 * 19 ≤ 19; decide, fun u hu => by simp at hu; rcases hu with rfl | rfl | rfl | rfl | rfl | rfl | rfl | rfl | rfl | rfl | rfl | rfl | rfl | rfl | rfl | rfl | rfl | rfl | rfl <;> rfl, ?_⟩
    refine ⟨by decide, fun cap sp k1 k2 k3 => ?_⟩
    exact ⟨(i + 1, ⟨1, [⟨flagsR x12, x13, x14, IntKind.i64.wrap ((x15 : Int).tdiv 16), IntKind.i64.wrap ((x16 : Int).tdiv 16), x17⟩], cap, sp⟩, c17, _), ⟨⟨rfl, gr_first rfl k1 k2 k3⟩, hC17, ⟨hlt', by show 1 ≤ i + 1; omega⟩, hM⟩, by show K0 - (i + 1) < K0 - i; omega, [0, 1, 2, 5], rfl, ⟨vi (wrap_id (by omega) (by omega)), trivial⟩, rfl, rfl, rfl, rfl⟩
    all_goals
      obtain ⟨rfl, rfl, hle, he⟩ := hq
      subst hM
      refine recx_of Tryd.func85 rfl x85_ok ?_
      refine defx_of Tryd.func112 rfl x112_ok ?_
      refine (is_c e _ _).call rfl rfl rfl ?_
      refine bsplit_of (fun _ => ?_) (fun k => absurd k (by simp [he]))
      exact ⟨[], rfl, rfl, hle⟩
  ·
    refine bsplit_of (fun hlt => ?_) (fun hlt => ?_)
    rotate_left
    · have hik : i = K0 := by rw [hquo] at hlt; simp at hlt; omega
      subst hik
      have hM : CR.ok (fin l) cL = M := by rw [← hM, Nat.sub_self]; rfl
      subst hM
      refine recx_of Tryd.func85 rfl x85_ok ?_
      refine defx_of Tryd.func112 rfl x112_ok ?_
      refine (is_c 0 _ _).call rfl rfl rfl ?_
      subst hfin
      exact ⟨[3], cap, sp, by rw [hl]; rfl, by rw [hl]; rfl, hC.1, by rw [hl]; exact ho⟩
    have hlt' : i < K0 := by rw [hquo] at hlt; simpa using hlt
    obtain ⟨j, hj⟩ : ∃ j, K0 - i = j + 1 := ⟨K0 - i - 1, by omega⟩
    have hj' : K0 - (i + 1) = j := by omega
    rw [hj, cuInsts] at hM
    simp only [cuInst, CM.bind_assoc, CM.pure_bind] at hM
    refine (cnum_k hC 1 (by decide)).callS [2] 4 rfl rfl rfl rfl ?_
    intro o L1 g12 hq _
    rcases hx : cuNum 1 cL with ⟨x12, c12⟩ | ⟨e, pl, cx⟩ <;> rw [hx] at hq <;> first | rw [CM.bind_ok hx] at hM | rw [CM.bind_thr hx] at hM
    obtain ⟨rfl, rfl, hC12⟩ := hq
    have hf := flags_same (cuNum_lt hx)
    refine (ofR_c (x12 : Int) _).call rfl rfl rfl ?_
    refine (cbridge_k hC12).callS [2] 4 rfl rfl rfl rfl ?_
    intro o L1 g13 hq _
    rcases hx : cuBridge c12 with ⟨x13, c13⟩ | ⟨e, pl, cx⟩ <;> rw [hx] at hq <;> first | rw [CM.bind_ok hx] at hM | rw [CM.bind_thr hx] at hM
    obtain ⟨rfl, rfl, hC13⟩ := hq
    refine (cnum_k hC13 4 (by decide)).callS [2] 4 rfl rfl rfl rfl ?_
    intro o L1 g14 hq _
    rcases hx : cuNum 4 c13 with ⟨x14, c14⟩ | ⟨e, pl, cx⟩ <;> rw [hx] at hq <;> first | rw [CM.bind_ok hx] at hM | rw [CM.bind_thr hx] at hM
    obtain ⟨rfl, rfl, hC14⟩ := hq
    refine (cnum_k hC14 1 (by decide)).callS [2] 4 rfl rfl rfl rfl ?_
    intro o L1 g15 hq _
    rcases hx : cuNum 1 c14 with ⟨x15, c15⟩ | ⟨e, pl, cx⟩ <;> rw [hx] at hq <;> first | rw [CM.bind_ok hx] at hM | rw [CM.bind_thr hx] at hM
    obtain ⟨rfl, rfl, hC15⟩ := hq
    have h15 : x15 < 256 := cuNum_lt hx
    refine ⟨by decide, ?_⟩
    refine (cnum_k hC15 1 (by decide)).callS [2] 4 rfl rfl rfl rfl ?_
    intro o L1 g16 hq _
    rcases hx : cuNum 1 c15 with ⟨x16, c16⟩ | ⟨e, pl, cx⟩ <;> rw [hx] at hq <;> first | rw [CM.bind_ok hx] at hM | rw [CM.bind_thr hx] at hM
    obtain ⟨rfl, rfl, hC16⟩ := hq
    have h16 : x16 < 256 := cuNum_lt hx
    refine ⟨by decide, ?_⟩
    refine (cnum_k hC16 1 (by decide)).callS [2] 4 rfl rfl rfl rfl ?_
    intro o L1 g17 hq _
    rcases hx : cuNum 1 c16 with ⟨x17, c17⟩ | ⟨e, pl, cx⟩ <;> rw [hx] at hq <;> first | rw [CM.bind_ok hx] at hM | rw [CM.bind_thr hx] at hM
    obtain ⟨rfl, rfl, hC17⟩ := hq
    obtain ⟨z, hz⟩ : ∃ z : InstV, ⟨flagsR x12, x13, x14, IntKind.i64.wrap ((x15 : Int).tdiv 16), IntKind.i64.wrap ((x16 : Int).tdiv 16), x17⟩ = z := ⟨_, rfl⟩
    have hM : ((cuInsts (K0 - (i + 1)) (l ++ [z])).bind fun insts => CM.pure (fin insts)) c17 = M := by
      rw [← hz, hf, wrap_quo _ (by omega), wrap_quo _ (by omega), hj']
      exact hM
    subst hz
    have g1 := gr_bounds ho
    refine ⟨by show 0 + 1 * 19 ≤ 19; decide, fun u hu => by simp at hu; rcases hu with rfl | rfl | rfl | rfl | rfl | rfl | rfl | rfl | rfl | rfl | rfl | rfl | rfl | rfl | rfl | rfl | rfl | rfl | rfl <;> rfl, ?_⟩
    refine ⟨l.flatMap InstV.cells, sp, rfl, g1.1, ⟨g1.2.1, g1.2.2.1, g1.2.2.2⟩, by omega, fun cap3 sp3 k1 k2 k3 => ?_⟩
    refine ⟨(i + 1, ⟨n + 1 + 1, l ++ [⟨flagsR x12, x13, x14, IntKind.i64.wrap ((x15 : Int).tdiv 16), IntKind.i64.wrap ((x16 : Int).tdiv 16), x17⟩], cap3, sp3⟩, c17, _), ⟨⟨by simp [hl], by rw [flat_app]; exact gr_next ho rfl k1 k2 k3⟩, hC17, ⟨hlt', by show n + 1 + 1 ≤ i + 1; omega⟩, hM⟩, by show K0 - (i + 1) < K0 - i; omega, [0, 1, 2, 5], rfl, ⟨vi (wrap_id (by omega) (by omega)), trivial⟩, ?_, rfl, rfl, rfl⟩
    exact congrArg (fun a => [msC x2 (trim0 x6) x7 x8 x9 x10 x11 (.slc 5 0 (n + 1 + 1) cap3), fltC, cuC c17, .vals 165 a]) (flat_app2 InstV.cells l ⟨flagsR x12, x13, x14, IntKind.i64.wrap ((x15 : Int).tdiv 16), IntKind.i64.wrap ((x16 : Int).tdiv 16), x17⟩ sp3).symm
    all_goals
      obtain ⟨rfl, rfl, hle, he⟩ := hq
      subst hM
      refine recx_of Tryd.func85 rfl x85_ok ?_
      refine defx_of Tryd.func112 rfl x112_ok ?_
      refine (is_c e _ _).call rfl rfl rfl ?_
      refine bsplit_of (fun _ => ?_) (fun k => absurd k (by simp [he]))
      exact ⟨[], rfl, rfl, hle⟩
  all_goals
    obtain ⟨rfl, rfl, hle, he⟩ := hq
    subst hM
    refine recx_of Tryd.func85 rfl x85_ok ?_
    refine defx_of Tryd.func112 rfl x112_ok ?_
    refine (is_c e _ _).call rfl rfl rfl ?_
    refine bsplit_of (fun _ => ?_) (fun k => absurd k (by simp [he]))
    exact ⟨[], rfl, rfl, hle⟩
end Go.Proofs.YtmeoalpmicndbaaDoor
