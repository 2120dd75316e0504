/- mstp.Read: what it returns. Conditions: the text is not longer than 10^9 bytes. -/
import Derived.Test.YtmeoalpmicndbaaDoorMsrC
import Derived.Test.YtmeoalpmicndbaaDoorShelfB
import Derived.Test.YtmeoalpmicndbaaDoorBaseD
namespace Go.Proofs.YtmeoalpmicndbaaDoor
open Go.Sx Go.Lib Go.RowKit
set_option maxRecDepth 100000
set_option maxHeartbeats 8000000
attribute [local irreducible] Meets

theorem trimR_c (s : ByteArray) (hs : s.size ≤ 9223372036854775807) (g : G) : Tells Tryd.prog 119 [.v (.string s), .v (.string ⟨#[0]⟩)] g (.v (.string (trim0 s))) := by
  refine Tells.of_below (by kernel_rfl) rfl fun σ w _ => (sh_strings_TrimRight_one s 0 (by decide) w hs).mono ?_
  rintro e w' ⟨he, rfl⟩
  exact ⟨he, Below.refl _ _⟩
theorem bad_t {n : Nat} (h : n % 16 ≠ 0 ∨ n < 64 ∨ 1088 < n) : mstBad n = true := decide_eq_true h
theorem bad_f {n : Nat} (h : ¬ (n % 16 ≠ 0 ∨ n < 64 ∨ 1088 < n)) : mstBad n = false := decide_eq_false h
theorem shr4 {n : Nat} (h : n < 256) : (n : Int).fdiv (2 ^ (min (Int.toNat 4) IntKind.i64.bits)) = ((n / 16 : Nat) : Int) := by
  show (n : Int).fdiv (2 ^ (min 4 IntKind.i64.bits)) = _
  rw [shr64 (by decide)]; omega
theorem rdBytes_len (n : Nat) (r : RdV) : (rdBytes n r).1.size ≤ n := by
  show (r.bytes n).1.size ≤ n
  unfold RdV.bytes
  split
  · exact Nat.zero_le _
  · split
    · exact Nat.zero_le _
    · split
      · exact Nat.zero_le _
      · rw [ByteArray.size_extract]; omega
theorem Keeps.none {α : Type} {p : RM α} (h : Keeps p) {r r' : RdV} {x : α} (e : p r = (x, r')) (hn : r'.err = Option.none) : r.err = Option.none := by
  cases hr : r.err with
  | none => rfl
  | some q =>
    have := h r q hr
    rw [e, hn] at this
    cases this
theorem mstRead_b (s : ByteArray) (g : G) (hs : s.size ≤ 1000000000) : Meets Tryd.prog 37 [.v (.string s)] [] g (fun o L' g' =>
    (∃ cap sp, (rdMst (rd0 s)).2.err = none ∧ o = .ret (.tup [(rdMst (rd0 s)).1.out (grS 0 (rdMst (rd0 s)).1.insts.length cap), .v .nilIface]) ∧ L' = grL 165 (rdMst (rd0 s)).1.insts.length ((rdMst (rd0 s)).1.insts.flatMap InstV.cells) sp ∧ G.le g g' ∧ grOk 19 (rdMst (rd0 s)).1.insts.length cap ((rdMst (rd0 s)).1.insts.flatMap InstV.cells) sp) ∨
    (∃ p v, (rdMst (rd0 s)).2.err = some p ∧ o = .ret (.tup [.agg (MstV.zero.cells.map .v), .v v]) ∧ L' = [] ∧ errAt g' v (some p) ∧ G.le g g')) := by
  have hR0 := rd0_at (show s.size ≤ 1000000000000 by omega) g
  have hp0 : (rd0 s).place = 0 := rfl
  generalize hM : rdMst (rd0 s) = M
  obtain ⟨r0, hr0⟩ : ∃ r0, rd0 s = r0 := ⟨_, rfl⟩
  rw [hr0] at hM hR0 hp0
  rw [rdMst] at hM
  refine meets_ofJ mixedW Tryd.func37 (by kernel_rfl) x37_ok none ?_
  refine (new_c s 0 g).call0 rfl rfl 1 rfl ?_
  rintro o L1 g0 ⟨rfl, rfl, rfl⟩
  change CallX _ _ _ [_, rdC (rd0 s) _] _ _ _
  rw [hr0]
  refine (bytes_k hR0 4 (by decide)).callS [1] 2 rfl rfl rfl rfl ?_
  intro o L1 g1 hq _
  rcases hx1 : rdBytes 4 r0 with ⟨x1, r1⟩
  rw [hx1] at hq
  dsimp only at hq
  obtain ⟨rfl, v1, rfl, hR1⟩ := hq
  obtain ⟨r2, hr2⟩ : ∃ r, (rdFail (decide (x1 ≠ hMB)) 3 (0) r1).2 = r := ⟨_, rfl⟩
  change JoinW _ _ _ _ _ _ _ _ _
  refine join_rule [] (α := Value × G) (fun _ => []) (fun y => [.cells 68 (MstV.zero.cells.map .v), rdC r2 y.1]) (fun y => y.2) (fun y => RdAt g0 y.2 y.1 r2) (fun y => by kernel_rfl) ?_ ?_
  · refine (err_k hR1).callS [1] 2 rfl rfl rfl rfl ?_
    rintro o L1 gE ⟨rfl, rfl, rfl⟩ _
    rcases he : r1.err with _ | p
    · obtain rfl := hR1.nil he
      refine bsplit_of (fun k => ?_) (fun k => ?_)
      ·
        rw [(neTest k : (decide (x1 ≠ hMB)) = true)] at hr2
        refine (fail_k hR1 3 (0)).callS [1] 2 rfl rfl rfl rfl ?_
        rintro o L1 gW ⟨rfl, vW, rfl, hRW⟩ _
        have hr2 : r1.fail 3 (0) = r2 := hr2
        rw [hr2] at hRW ⊢
        exact ⟨(_, _), hRW, List.range 2, rfl, trivial, rfl, rfl, rfl, rfl⟩
      ·
        rw [(neTest k : (decide (x1 ≠ hMB)) = false)] at hr2
        have hr2 : r1 = r2 := hr2
        rw [← hr2]
        exact ⟨(_, _), hR1, List.range 2, rfl, trivial, rfl, rfl, rfl, rfl⟩
    · rw [rdFail_err he] at hr2
      subst hr2
      obtain ⟨ad, rfl, -⟩ := hR1.some he
      exact ⟨(_, _), hR1, List.range 2, rfl, trivial, rfl, rfl, rfl, rfl⟩
  intro y hR2
  obtain ⟨v2, g2⟩ := y
  dsimp only at hR2
  rw [RM.bind_eq (rdWant_eq (s := hMB) hx1 hp0 hr2)] at hM
  refine (body_k hR2 3).callS [1] 3 rfl rfl rfl rfl ?_
  intro o L1 g3 hq _
  rcases hx3 : rdBody 3 r2 with ⟨x3, r3⟩
  rw [hx3] at hq
  dsimp only at hq
  first | rw [RM.bind_eq hx3] at hM | skip
  obtain ⟨rfl, v3, rfl, hR3⟩ := hq
  refine (at_k hR3).callS [1] 3 rfl rfl rfl rfl ?_
  rintro o L1 gA ⟨rfl, rfl, rfl⟩ _
  refine (num_k hR3 1 (by decide) (by decide)).callS [1] 3 rfl rfl rfl rfl ?_
  intro o L1 g4 hq _
  rcases hx4 : rdNum 1 r3 with ⟨x4, r4⟩
  rw [hx4] at hq
  dsimp only at hq
  obtain ⟨rfl, v4, rfl, hR4⟩ := hq
  obtain ⟨r5, hr5⟩ : ∃ r, (rdFail (decide ((x4 : Int) ≠ 0)) 3 (r3.place) r4).2 = r := ⟨_, rfl⟩
  change JoinW _ _ _ _ _ _ _ _ _
  refine join_rule [] (α := Value × G) (fun _ => []) (fun y => [.cells 68 (MstV.zero.cells.map .v), rdC r5 y.1, msC x3 ⟨#[]⟩ 0 ⟨#[]⟩ 0 BridgeV.zero 0 (.v (.slice none 0 0))]) (fun y => y.2) (fun y => RdAt g0 y.2 y.1 r5) (fun y => by kernel_rfl) ?_ ?_
  · refine bsplit_of (fun k => ?_) (fun k => ?_)
    ·
      rw [(decide_eq_true (by simpa using k) : (decide ((x4 : Int) ≠ 0)) = true)] at hr5
      refine (fail_k hR4 3 (r3.place)).callS [1] 3 rfl rfl rfl rfl ?_
      rintro o L1 gW ⟨rfl, vW, rfl, hRW⟩ _
      have hr5 : r4.fail 3 (r3.place) = r5 := hr5
      rw [hr5] at hRW ⊢
      exact ⟨(_, _), hRW, List.range 3, rfl, trivial, rfl, rfl, rfl, rfl⟩
    ·
      rw [(decide_eq_false (by simpa using k) : (decide ((x4 : Int) ≠ 0)) = false)] at hr5
      have hr5 : r4 = r5 := hr5
      rw [← hr5]
      exact ⟨(_, _), hR4, List.range 3, rfl, trivial, rfl, rfl, rfl, rfl⟩
  intro y hR5
  obtain ⟨v5, g5⟩ := y
  dsimp only at hR5
  rw [RM.bind_eq (show rdWant z1B r3 = ((), r5) by rw [one_byte, hx4]; exact congrArg (Prod.mk ()) hr5)] at hM
  rw [RM.bind_eq (show rdAt r5 = (r5.place, r5) from rfl)] at hM
  refine (at_k hR5).callS [1] 3 rfl rfl rfl rfl ?_
  rintro o L1 gA ⟨rfl, rfl, rfl⟩ _
  refine (num_k hR5 2 (by decide) (by decide)).callS [1] 3 rfl rfl rfl rfl ?_
  intro o L1 g6 hq _
  rcases hx6 : rdNum 2 r5 with ⟨x6, r6⟩
  rw [hx6] at hq
  dsimp only at hq
  first | rw [RM.bind_eq hx6] at hM | skip
  obtain ⟨rfl, v6, rfl, hR6⟩ := hq
  have hlt6 := rdNum_lt 2 r5
  rw [hx6] at hlt6
  have hlt6 : x6 < 65536 := hlt6
  have hn6 : IntKind.i64.wrap ((x6 : Int) - 64) = (x6 : Int) - 64 := wrap_id (by omega) (by omega)
  obtain ⟨r7, hr7⟩ : ∃ r, (rdFail (mstBad x6) 2 (r5.place) r6).2 = r := ⟨_, rfl⟩
  change JoinW _ _ _ _ _ _ _ _ _
  refine join_rule [] (α := Value × G) (fun _ => []) (fun y => [.cells 68 (MstV.zero.cells.map .v), rdC r7 y.1, msC x3 ⟨#[]⟩ 0 ⟨#[]⟩ 0 BridgeV.zero 0 (.v (.slice none 0 0))]) (fun y => y.2) (fun y => RdAt g0 y.2 y.1 r7) (fun y => by kernel_rfl) ?_ ?_
  · refine bsplit_of (fun k => ?_) (fun k => ?_)
    · rw [hn6] at k
      rw [(bad_t (by simp at k; omega) : (mstBad x6) = true)] at hr7
      refine (fail_k hR6 2 (r5.place)).callS [1] 3 rfl rfl rfl rfl ?_
      rintro o L1 gW ⟨rfl, vW, rfl, hRW⟩ _
      have hr7 : r6.fail 2 (r5.place) = r7 := hr7
      rw [hr7] at hRW ⊢
      exact ⟨(_, _), hRW, List.range 3, rfl, trivial, rfl, rfl, rfl, rfl⟩
    rw [hn6] at k
    have h64 : 64 ≤ x6 := by simp at k; omega
    have e1 : ((x6 : Int) - 64).tmod 16 = ((x6 % 16 : Nat) : Int) := by rw [Int.tmod_eq_emod_of_nonneg (by omega)]; omega
    have e2 : IntKind.i64.wrap (((x6 : Int) - 64).tdiv 16) = (((x6 - 64) / 16 : Nat) : Int) := by rw [Int.tdiv_eq_ediv_of_nonneg (by omega), wrap_id (by omega) (by omega)]; omega
    refine ⟨by decide, ?_⟩
    refine bsplit_of (fun k2 => ?_) (fun k2 => ?_)
    · rw [hn6, e1] at k2
      rw [(bad_t (by simp at k2; omega) : (mstBad x6) = true)] at hr7
      refine (fail_k hR6 2 (r5.place)).callS [1] 3 rfl rfl rfl rfl ?_
      rintro o L1 gW ⟨rfl, vW, rfl, hRW⟩ _
      have hr7 : r6.fail 2 (r5.place) = r7 := hr7
      rw [hr7] at hRW ⊢
      exact ⟨(_, _), hRW, List.range 3, rfl, trivial, rfl, rfl, rfl, rfl⟩
    rw [hn6, e1] at k2
    refine ⟨by decide, ?_⟩
    refine bsplit_of (fun k3 => ?_) (fun k3 => ?_)
    · rw [hn6, e2] at k3
      rw [(bad_t (by simp at k2 k3; omega) : (mstBad x6) = true)] at hr7
      refine (fail_k hR6 2 (r5.place)).callS [1] 3 rfl rfl rfl rfl ?_
      rintro o L1 gW ⟨rfl, vW, rfl, hRW⟩ _
      have hr7 : r6.fail 2 (r5.place) = r7 := hr7
      rw [hr7] at hRW ⊢
      exact ⟨(_, _), hRW, List.range 3, rfl, trivial, rfl, rfl, rfl, rfl⟩
    · rw [hn6, e2] at k3
      rw [(bad_f (by simp at k2 k3; omega) : (mstBad x6) = false)] at hr7
      have hr7 : r6 = r7 := hr7
      rw [← hr7]
      exact ⟨(_, _), hR6, List.range 3, rfl, trivial, rfl, rfl, rfl, rfl⟩
  intro y hR7
  obtain ⟨v7, g7⟩ := y
  dsimp only at hR7
  rw [RM.bind_eq (rdFail_eq hr7)] at hM
  refine (at_k hR7).callS [1] 3 rfl rfl rfl rfl ?_
  rintro o L1 gA ⟨rfl, rfl, rfl⟩ _
  refine (num_k hR7 1 (by decide) (by decide)).callS [1] 3 rfl rfl rfl rfl ?_
  intro o L1 g8 hq _
  rcases hx8 : rdNum 1 r7 with ⟨x8, r8⟩
  rw [hx8] at hq
  dsimp only at hq
  obtain ⟨rfl, v8, rfl, hR8⟩ := hq
  obtain ⟨r9, hr9⟩ : ∃ r, (rdFail (decide ((x8 : Int) ≠ 0)) 3 (r7.place) r8).2 = r := ⟨_, rfl⟩
  change JoinW _ _ _ _ _ _ _ _ _
  refine join_rule [] (α := Value × G) (fun _ => []) (fun y => [.cells 68 (MstV.zero.cells.map .v), rdC r9 y.1, msC x3 ⟨#[]⟩ 0 ⟨#[]⟩ 0 BridgeV.zero 0 (.v (.slice none 0 0))]) (fun y => y.2) (fun y => RdAt g0 y.2 y.1 r9) (fun y => by kernel_rfl) ?_ ?_
  · refine bsplit_of (fun k => ?_) (fun k => ?_)
    ·
      rw [(decide_eq_true (by simpa using k) : (decide ((x8 : Int) ≠ 0)) = true)] at hr9
      refine (fail_k hR8 3 (r7.place)).callS [1] 3 rfl rfl rfl rfl ?_
      rintro o L1 gW ⟨rfl, vW, rfl, hRW⟩ _
      have hr9 : r8.fail 3 (r7.place) = r9 := hr9
      rw [hr9] at hRW ⊢
      exact ⟨(_, _), hRW, List.range 3, rfl, trivial, rfl, rfl, rfl, rfl⟩
    ·
      rw [(decide_eq_false (by simpa using k) : (decide ((x8 : Int) ≠ 0)) = false)] at hr9
      have hr9 : r8 = r9 := hr9
      rw [← hr9]
      exact ⟨(_, _), hR8, List.range 3, rfl, trivial, rfl, rfl, rfl, rfl⟩
  intro y hR9
  obtain ⟨v9, g9⟩ := y
  dsimp only at hR9
  rw [RM.bind_eq (show rdWant z1B r7 = ((), r9) by rw [one_byte, hx8]; exact congrArg (Prod.mk ()) hr9)] at hM
  refine (bytes_k hR9 32 (by decide)).callS [1] 3 rfl rfl rfl rfl ?_
  intro o L1 g10 hq _
  rcases hx10 : rdBytes 32 r9 with ⟨x10, r10⟩
  rw [hx10] at hq
  dsimp only at hq
  first | rw [RM.bind_eq hx10] at hM | skip
  obtain ⟨rfl, v10, rfl, hR10⟩ := hq
  have hs10 : x10.size ≤ 9223372036854775807 := by
    have := rdBytes_len 32 r9
    rw [hx10] at this
    have : x10.size ≤ 32 := this
    omega
  refine (trimR_c x10 hs10 _).call rfl rfl rfl ?_
  refine (num_k hR10 2 (by decide) (by decide)).callS [1] 3 rfl rfl rfl rfl ?_
  intro o L1 g11 hq _
  rcases hx11 : rdNum 2 r10 with ⟨x11, r11⟩
  rw [hx11] at hq
  dsimp only at hq
  first | rw [RM.bind_eq hx11] at hM | skip
  obtain ⟨rfl, v11, rfl, hR11⟩ := hq
  refine (bytes_k hR11 16 (by decide)).callS [1] 3 rfl rfl rfl rfl ?_
  intro o L1 g12 hq _
  rcases hx12 : rdBytes 16 r11 with ⟨x12, r12⟩
  rw [hx12] at hq
  dsimp only at hq
  first | rw [RM.bind_eq hx12] at hM | skip
  obtain ⟨rfl, v12, rfl, hR12⟩ := hq
  refine (num_k hR12 4 (by decide) (by decide)).callS [1] 3 rfl rfl rfl rfl ?_
  intro o L1 g13 hq _
  rcases hx13 : rdNum 4 r12 with ⟨x13, r13⟩
  rw [hx13] at hq
  dsimp only at hq
  first | rw [RM.bind_eq hx13] at hM | skip
  obtain ⟨rfl, v13, rfl, hR13⟩ := hq
  refine (bridge_k hR13).callS [1] 3 rfl rfl rfl rfl ?_
  intro o L1 g14 hq _
  rcases hx14 : rdBridgeM r13 with ⟨x14, r14⟩
  rw [hx14] at hq
  dsimp only at hq
  first | rw [RM.bind_eq hx14] at hM | skip
  obtain ⟨rfl, v14, rfl, hR14⟩ := hq
  refine (num_k hR14 1 (by decide) (by decide)).callS [1] 3 rfl rfl rfl rfl ?_
  intro o L1 g15 hq _
  rcases hx15 : rdNum 1 r14 with ⟨x15, r15⟩
  rw [hx15] at hq
  dsimp only at hq
  first | rw [RM.bind_eq hx15] at hM | skip
  obtain ⟨rfl, v15, rfl, hR15⟩ := hq
  obtain ⟨fin, hfin⟩ : ∃ fin : List InstV → MstP, (fun insts => ⟨x3, trim0 x10, x11, x12, x13, x14, x15, insts⟩) = fin := ⟨_, rfl⟩
  have hM : ((rdInsts ((x6 - 64) / 16) []).bind fun insts => RM.pure (fin insts)) r15 = M := by rw [← hfin]; exact hM
  obtain ⟨K0, hK0⟩ : ∃ K0, (x6 - 64) / 16 = K0 := ⟨_, rfl⟩
  rw [hK0] at hM
  have hgood : r15.err = none → mstBad x6 = false := fun h => by
    have h9 := Keeps.none (Keeps.bytes 32) hx10 (Keeps.none (Keeps.num 2) hx11 (Keeps.none (Keeps.bytes 16) hx12 (Keeps.none (Keeps.num 4) hx13 (Keeps.none bridge_keeps hx14 (Keeps.none (Keeps.num 1) hx15 h)))))
    have h8 : r8.err = none := Keeps.none (Keeps.fail _ _ _) (rdFail_eq hr9) h9
    have h7 : r7.err = none := Keeps.none (Keeps.num 1) hx8 h8
    cases hb : mstBad x6 with
    | false => rfl
    | true =>
      rw [hb] at hr7
      have hr7 : r6.fail 2 r5.place = r7 := hr7
      rw [← hr7] at h7
      cases h6 : r6.err with
      | none => rw [RdV.fail, h6] at h7; cases h7
      | some p => rw [RdV.fail_err h6, h6] at h7; cases h7
  have hfk : ∀ k l, Keeps ((rdInsts k l).bind fun insts => RM.pure (fin insts)) := fun k l => Keeps.bind (insts_keeps k l) fun _ => Keeps.pure _
  have hKq : mstBad x6 = false → IntKind.i64.wrap ((IntKind.i64.wrap ((x6 : Int) - 64)).tdiv 16) = (K0 : Int) ∧ K0 ≤ 64 := fun h => by
    have := of_decide_eq_false h
    rw [hn6, Int.tdiv_eq_ediv_of_nonneg (by omega), wrap_id (by omega) (by omega)]
    omega
  change LoopW _ _ _ _ _ _ _ _ _
  refine loop_gone ?_
  apply loop_rule [3] (α := Nat × GrI × RdV × Value × G) (fun y => [(11, .v (.int .i64 y.1))]) (fun y => [.cells 68 (MstV.zero.cells.map .v), rdC y.2.2.1 y.2.2.2.1, msC x3 (trim0 x10) x11 x12 x13 x14 x15 (grS 3 y.2.1.n y.2.1.cap), grC 165 y.2.1.n (y.2.1.l.flatMap InstV.cells) y.2.1.sp]) (fun y => y.2.2.2.2)
    (fun y => y.2.1.ok ∧ RdAt g0 y.2.2.2.2 y.2.2.2.1 y.2.2.1 ∧ (y.1 ≤ 64 ∧ y.2.1.n ≤ y.1) ∧ (y.2.2.1.err = none → mstBad x6 = false ∧ y.1 ≤ K0 ∧ ((rdInsts (K0 - y.1) y.2.1.l).bind fun insts => RM.pure (fin insts)) y.2.2.1 = M) ∧ (y.2.2.1.err ≠ none → M.2.err = y.2.2.1.err)) (fun y => 64 - y.1) (0, ⟨0, [], 0, []⟩, r15, v15, _)
  · intro x
    obtain ⟨i, ⟨n, l, cap, sp⟩, c, v, gl⟩ := x
    cases n <;> kernel_rfl
  · refine ⟨⟨rfl, grOk.zero 19⟩, hR15, ⟨Nat.zero_le _, Nat.le_refl _⟩, fun h => ⟨hgood h, Nat.zero_le _, hM⟩, fun h => ?_⟩
    rcases he : r15.err with _ | p
    · exact absurd he h
    · rw [← hM]; exact hfk _ _ _ _ he
  · exact ⟨rfl, trivial⟩
  · rfl
  · rfl
  clear hM hgood
  intro y hy
  obtain ⟨i, ⟨n, l, cap, sp⟩, rL, vL, gl⟩ := y
  obtain ⟨⟨hl, ho⟩, hR, ⟨hi, hni⟩, hgood, hbad⟩ := hy
  dsimp only at hl ho hR hi hni hgood hbad
  rcases n with _ | n
  · obtain rfl : l = [] := List.eq_nil_of_length_eq_zero hl
    rcases he : rL.err with _ | p
    rotate_left
    · obtain ⟨ad, rfl, hat⟩ := hR.some he
      have hM2 : M.2.err = some p := by rw [hbad (by rw [he]; simp), he]
      refine ⟨by decide, ?_⟩
      refine bsplit_of (fun _ => ?_) (fun _ => ?_)
      · refine (err_k hR).callS [1] 4 rfl rfl rfl rfl ?_
        rintro o L1 gE ⟨rfl, rfl, rfl⟩ _
        refine (err_k hR).callS [1] 4 rfl rfl rfl rfl ?_
        rintro o L1 gE ⟨rfl, rfl, rfl⟩ _
        refine (err_k hR).callS [1] 4 rfl rfl rfl rfl ?_
        rintro o L1 gE ⟨rfl, rfl, rfl⟩ _
        exact ⟨[], .inr ⟨p, _, hM2, rfl, rfl, ⟨ad, rfl, hat⟩, hR.1⟩⟩
      ·
        refine (err_k hR).callS [1] 4 rfl rfl rfl rfl ?_
        rintro o L1 gE ⟨rfl, rfl, rfl⟩ _
        refine (err_k hR).callS [1] 4 rfl rfl rfl rfl ?_
        rintro o L1 gE ⟨rfl, rfl, rfl⟩ _
        exact ⟨[], .inr ⟨p, _, hM2, rfl, rfl, ⟨ad, rfl, hat⟩, hR.1⟩⟩
    obtain rfl := hR.nil he
    obtain ⟨hb6, hiK, hM⟩ := hgood he
    obtain ⟨hq, hK64⟩ := hKq hb6
    refine ⟨by decide, ?_⟩
    refine bsplit_of (fun hlt => ?_) (fun hlt => ?_)
    rotate_left
    · have hik : i = K0 := by rw [hq] at hlt; simp at hlt; omega
      have hM : (fin [], rL) = M := by rw [← hM, hik, Nat.sub_self]; rfl
      subst hM hfin
      refine (err_k hR).callS [1] 4 rfl rfl rfl rfl ?_
      rintro o L1 gE ⟨rfl, rfl, rfl⟩ _
      exact ⟨[], .inl ⟨0, [], he, rfl, rfl, hR.1, grOk.zero 19⟩⟩
    have hlt' : i < K0 := by rw [hq] at hlt; simpa using hlt
    refine (err_k hR).callS [1] 4 rfl rfl rfl rfl ?_
    rintro o L1 gE ⟨rfl, rfl, rfl⟩ _
    obtain ⟨j, hj⟩ : ∃ j, K0 - i = j + 1 := ⟨K0 - i - 1, by omega⟩
    have hj' : K0 - (i + 1) = j := by omega
    rw [hj, rdInsts, RM.bind, rdIfOk_none he] at hM
    have hM : ((rdInst.bind fun x => rdInsts j ([] ++ [x])).bind fun insts => RM.pure (fin insts)) rL = M := hM
    simp only [rdInst, RM.bind_assoc, RM.pure_bind] at hM
    refine (num_k hR 1 (by decide) (by decide)).callS [1] 5 rfl rfl rfl rfl ?_
    intro o L1 g16 hq _
    rcases hx16 : rdNum 1 rL with ⟨x16, r16⟩
    rw [hx16] at hq
    dsimp only at hq
    first | rw [RM.bind_eq hx16] at hM | skip
    obtain ⟨rfl, v16, rfl, hR16⟩ := hq
    refine (of_c (x16 : Int) _).call rfl rfl rfl ?_
    refine (bridge_k hR16).callS [1] 5 rfl rfl rfl rfl ?_
    intro o L1 g17 hq _
    rcases hx17 : rdBridgeM r16 with ⟨x17, r17⟩
    rw [hx17] at hq
    dsimp only at hq
    first | rw [RM.bind_eq hx17] at hM | skip
    obtain ⟨rfl, v17, rfl, hR17⟩ := hq
    refine (num_k hR17 4 (by decide) (by decide)).callS [1] 5 rfl rfl rfl rfl ?_
    intro o L1 g18 hq _
    rcases hx18 : rdNum 4 r17 with ⟨x18, r18⟩
    rw [hx18] at hq
    dsimp only at hq
    first | rw [RM.bind_eq hx18] at hM | skip
    obtain ⟨rfl, v18, rfl, hR18⟩ := hq
    refine (num_k hR18 1 (by decide) (by decide)).callS [1] 5 rfl rfl rfl rfl ?_
    intro o L1 g19 hq _
    rcases hx19 : rdNum 1 r18 with ⟨x19, r19⟩
    rw [hx19] at hq
    dsimp only at hq
    first | rw [RM.bind_eq hx19] at hM | skip
    obtain ⟨rfl, v19, rfl, hR19⟩ := hq
    have h19 := rdNum_lt 1 r18
    rw [hx19] at h19
    refine ⟨by decide, ?_⟩
    refine (num_k hR19 1 (by decide) (by decide)).callS [1] 5 rfl rfl rfl rfl ?_
    intro o L1 g20 hq _
    rcases hx20 : rdNum 1 r19 with ⟨x20, r20⟩
    rw [hx20] at hq
    dsimp only at hq
    first | rw [RM.bind_eq hx20] at hM | skip
    obtain ⟨rfl, v20, rfl, hR20⟩ := hq
    have h20 := rdNum_lt 1 r19
    rw [hx20] at h20
    refine ⟨by decide, ?_⟩
    refine (num_k hR20 1 (by decide) (by decide)).callS [1] 5 rfl rfl rfl rfl ?_
    intro o L1 g21 hq _
    rcases hx21 : rdNum 1 r20 with ⟨x21, r21⟩
    rw [hx21] at hq
    dsimp only at hq
    first | rw [RM.bind_eq hx21] at hM | skip
    obtain ⟨rfl, v21, rfl, hR21⟩ := hq
    have bad : r21.err ≠ none → M.2.err = r21.err := fun e => by
      rcases h2 : r21.err with _ | p
      · exact absurd h2 e
      · rw [← hM]; exact hfk _ _ _ _ h2
    have hM : ((rdInsts (K0 - (i + 1)) ([] ++ [⟨flagsP x16, x17, x18, (x19 : Int).fdiv (2 ^ (min (Int.toNat 4) IntKind.i64.bits)), (x20 : Int).fdiv (2 ^ (min (Int.toNat 4) IntKind.i64.bits)), x21⟩])).bind fun insts => RM.pure (fin insts)) r21 = M := by
      rw [shr4 h19, shr4 h20, hj']
      exact hM
    refine ⟨by show 0 + 1 * 19 ≤ 19; decide, fun u hu => by simp at hu; rcases hu with rfl | rfl | rfl | rfl | rfl | rfl | rfl | rfl | rfl | rfl | rfl | rfl | rfl | rfl | rfl | rfl | rfl | rfl | rfl <;> rfl, ?_⟩
    refine ⟨by decide, fun cap sp k1 k2 k3 => ?_⟩
    exact ⟨(i + 1, ⟨1, [⟨flagsP x16, x17, x18, (x19 : Int).fdiv (2 ^ (min (Int.toNat 4) IntKind.i64.bits)), (x20 : Int).fdiv (2 ^ (min (Int.toNat 4) IntKind.i64.bits)), x21⟩], cap, sp⟩, r21, v21, _), ⟨⟨rfl, gr_first rfl k1 k2 k3⟩, hR21, ⟨by show i + 1 ≤ 64; omega, by show 1 ≤ i + 1; omega⟩, fun _ => ⟨hb6, hlt', hM⟩, bad⟩, by show 64 - (i + 1) < 64 - i; omega, [0, 1, 2, 6], rfl, ⟨vi (wrap_id (by omega) (by omega)), trivial⟩, rfl, rfl, rfl, rfl⟩
  ·
    rcases he : rL.err with _ | p
    rotate_left
    · obtain ⟨ad, rfl, hat⟩ := hR.some he
      have hM2 : M.2.err = some p := by rw [hbad (by rw [he]; simp), he]
      refine ⟨by decide, ?_⟩
      refine bsplit_of (fun _ => ?_) (fun _ => ?_)
      · refine (err_k hR).callS [1] 4 rfl rfl rfl rfl ?_
        rintro o L1 gE ⟨rfl, rfl, rfl⟩ _
        refine (err_k hR).callS [1] 4 rfl rfl rfl rfl ?_
        rintro o L1 gE ⟨rfl, rfl, rfl⟩ _
        refine (err_k hR).callS [1] 4 rfl rfl rfl rfl ?_
        rintro o L1 gE ⟨rfl, rfl, rfl⟩ _
        exact ⟨[], .inr ⟨p, _, hM2, rfl, rfl, ⟨ad, rfl, hat⟩, hR.1⟩⟩
      ·
        refine (err_k hR).callS [1] 4 rfl rfl rfl rfl ?_
        rintro o L1 gE ⟨rfl, rfl, rfl⟩ _
        refine (err_k hR).callS [1] 4 rfl rfl rfl rfl ?_
        rintro o L1 gE ⟨rfl, rfl, rfl⟩ _
        exact ⟨[], .inr ⟨p, _, hM2, rfl, rfl, ⟨ad, rfl, hat⟩, hR.1⟩⟩
    obtain rfl := hR.nil he
    obtain ⟨hb6, hiK, hM⟩ := hgood he
    obtain ⟨hq, hK64⟩ := hKq hb6
    refine ⟨by decide, ?_⟩
    refine bsplit_of (fun hlt => ?_) (fun hlt => ?_)
    rotate_left
    · have hik : i = K0 := by rw [hq] at hlt; simp at hlt; omega
      have hM : (fin l, rL) = M := by rw [← hM, hik, Nat.sub_self]; rfl
      subst hM hfin
      refine (err_k hR).callS [1] 4 rfl rfl rfl rfl ?_
      rintro o L1 gE ⟨rfl, rfl, rfl⟩ _
      exact ⟨[3], .inl ⟨cap, sp, he, by rw [hl]; rfl, by rw [hl]; rfl, hR.1, by rw [hl]; exact ho⟩⟩
    have hlt' : i < K0 := by rw [hq] at hlt; simpa using hlt
    refine (err_k hR).callS [1] 4 rfl rfl rfl rfl ?_
    rintro o L1 gE ⟨rfl, rfl, rfl⟩ _
    obtain ⟨j, hj⟩ : ∃ j, K0 - i = j + 1 := ⟨K0 - i - 1, by omega⟩
    have hj' : K0 - (i + 1) = j := by omega
    rw [hj, rdInsts, RM.bind, rdIfOk_none he] at hM
    have hM : ((rdInst.bind fun x => rdInsts j (l ++ [x])).bind fun insts => RM.pure (fin insts)) rL = M := hM
    simp only [rdInst, RM.bind_assoc, RM.pure_bind] at hM
    refine (num_k hR 1 (by decide) (by decide)).callS [1] 5 rfl rfl rfl rfl ?_
    intro o L1 g16 hq _
    rcases hx16 : rdNum 1 rL with ⟨x16, r16⟩
    rw [hx16] at hq
    dsimp only at hq
    first | rw [RM.bind_eq hx16] at hM | skip
    obtain ⟨rfl, v16, rfl, hR16⟩ := hq
    refine (of_c (x16 : Int) _).call rfl rfl rfl ?_
    refine (bridge_k hR16).callS [1] 5 rfl rfl rfl rfl ?_
    intro o L1 g17 hq _
    rcases hx17 : rdBridgeM r16 with ⟨x17, r17⟩
    rw [hx17] at hq
    dsimp only at hq
    first | rw [RM.bind_eq hx17] at hM | skip
    obtain ⟨rfl, v17, rfl, hR17⟩ := hq
    refine (num_k hR17 4 (by decide) (by decide)).callS [1] 5 rfl rfl rfl rfl ?_
    intro o L1 g18 hq _
    rcases hx18 : rdNum 4 r17 with ⟨x18, r18⟩
    rw [hx18] at hq
    dsimp only at hq
    first | rw [RM.bind_eq hx18] at hM | skip
    obtain ⟨rfl, v18, rfl, hR18⟩ := hq
    refine (num_k hR18 1 (by decide) (by decide)).callS [1] 5 rfl rfl rfl rfl ?_
    intro o L1 g19 hq _
    rcases hx19 : rdNum 1 r18 with ⟨x19, r19⟩
    rw [hx19] at hq
    dsimp only at hq
    first | rw [RM.bind_eq hx19] at hM | skip
    obtain ⟨rfl, v19, rfl, hR19⟩ := hq
    have h19 := rdNum_lt 1 r18
    rw [hx19] at h19
    refine ⟨by decide, ?_⟩
    refine (num_k hR19 1 (by decide) (by decide)).callS [1] 5 rfl rfl rfl rfl ?_
    intro o L1 g20 hq _
    rcases hx20 : rdNum 1 r19 with ⟨x20, r20⟩
    rw [hx20] at hq
    dsimp only at hq
    first | rw [RM.bind_eq hx20] at hM | skip
    obtain ⟨rfl, v20, rfl, hR20⟩ := hq
    have h20 := rdNum_lt 1 r19
    rw [hx20] at h20
    refine ⟨by decide, ?_⟩
    refine (num_k hR20 1 (by decide) (by decide)).callS [1] 5 rfl rfl rfl rfl ?_
    intro o L1 g21 hq _
    rcases hx21 : rdNum 1 r20 with ⟨x21, r21⟩
    rw [hx21] at hq
    dsimp only at hq
    first | rw [RM.bind_eq hx21] at hM | skip
    obtain ⟨rfl, v21, rfl, hR21⟩ := hq
    have bad : r21.err ≠ none → M.2.err = r21.err := fun e => by
      rcases h2 : r21.err with _ | p
      · exact absurd h2 e
      · rw [← hM]; exact hfk _ _ _ _ h2
    have hM : ((rdInsts (K0 - (i + 1)) (l ++ [⟨flagsP x16, x17, x18, (x19 : Int).fdiv (2 ^ (min (Int.toNat 4) IntKind.i64.bits)), (x20 : Int).fdiv (2 ^ (min (Int.toNat 4) IntKind.i64.bits)), x21⟩])).bind fun insts => RM.pure (fin insts)) r21 = M := by
      rw [shr4 h19, shr4 h20, hj']
      exact hM
    have g1 := gr_bounds ho
    refine ⟨by show 0 + 1 * 19 ≤ 19; decide, fun u hu => by simp at hu; rcases hu with rfl | rfl | rfl | rfl | rfl | rfl | rfl | rfl | rfl | rfl | rfl | rfl | rfl | rfl | rfl | rfl | rfl | rfl | rfl <;> rfl, ?_⟩
    refine ⟨l.flatMap InstV.cells, sp, rfl, g1.1, ⟨g1.2.1, g1.2.2.1, g1.2.2.2⟩, by omega, fun cap3 sp3 k1 k2 k3 => ?_⟩
    refine ⟨(i + 1, ⟨n + 1 + 1, l ++ [⟨flagsP x16, x17, x18, (x19 : Int).fdiv (2 ^ (min (Int.toNat 4) IntKind.i64.bits)), (x20 : Int).fdiv (2 ^ (min (Int.toNat 4) IntKind.i64.bits)), x21⟩], cap3, sp3⟩, r21, v21, _), ⟨⟨by simp [hl], by rw [flat_app]; exact gr_next ho rfl k1 k2 k3⟩, hR21, ⟨by show i + 1 ≤ 64; omega, by show n + 1 + 1 ≤ i + 1; omega⟩, fun _ => ⟨hb6, hlt', hM⟩, bad⟩, by show 64 - (i + 1) < 64 - i; omega, [0, 1, 2, 6], rfl, ⟨vi (wrap_id (by omega) (by omega)), trivial⟩, ?_, rfl, rfl, rfl⟩
    exact congrArg (fun a => [.cells 68 (MstV.zero.cells.map .v), rdC r21 v21, msC x3 (trim0 x10) x11 x12 x13 x14 x15 (.slc 6 0 (n + 1 + 1) cap3), .vals 165 a]) (flat_app2 InstV.cells l ⟨flagsP x16, x17, x18, (x19 : Int).fdiv (2 ^ (min (Int.toNat 4) IntKind.i64.bits)), (x20 : Int).fdiv (2 ^ (min (Int.toNat 4) IntKind.i64.bits)), x21⟩ sp3).symm
end Go.Proofs.YtmeoalpmicndbaaDoor
