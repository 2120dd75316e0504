/- tlv.Read, its reference, the law TlvReads: what each returns. Conditions: the text is not longer than 10^9 bytes; of the law: the variable errors.errorType is as laid. -/
import Derived.Test.YtfagdcpfebghoaaDoorXtlvr
import Derived.Test.YtfagdcpfebghoaaDoorRM
import Derived.Test.YtfagdcpfebghoaaDoorBaseC
namespace Go.Proofs.YtfagdcpfebghoaaDoor
open Go.Sx
set_option maxRecDepth 100000
set_option maxHeartbeats 8000000
attribute [local irreducible] Meets

def tlvOf (n : Nat) (s : ByteArray) : TlvV := ⟨(n / 512 : Nat), s⟩
def cuTlvs : Nat → List (TlvV × Int) → CM (List (TlvV × Int) × Int)
  | 0, l => CM.pure (l, 0)
  | k + 1, l => cuAt.bind fun b => (cuNum 2).bind fun n => if n < 512 then (cuThrow (decide (0 < n)) 3 b).bind fun _ => cuNoughts.bind fun _ => CM.pure (l, b) else (cuEat (n % 512)).bind fun s => cuTlvs k (l ++ [(tlvOf n s, b)])
def rdTlvs : Nat → List (TlvV × Int) → RM (List (TlvV × Int) × Int)
  | 0, l => RM.pure (l, 0)
  | k + 1, l => rdIfOk (rdAt.bind fun b => (rdNum 2).bind fun n => rdIfOk (if n < 512 then (rdFail (decide (0 < n)) 3 b).bind fun _ => rdZeros.bind fun _ => RM.pure (l, b) else (rdBytes (n % 512)).bind fun s => rdTlvs k (l ++ [(tlvOf n s, b)])) (l, 0)) (l, 0)
theorem tlvs_keeps : ∀ k l, Keeps (rdTlvs k l)
  | 0, _ => Keeps.pure _
  | _ + 1, _ => Keeps.ifOk
theorem tlvs_sim : ∀ k l, Sim (cuTlvs k l) (rdTlvs k l)
  | 0, _ => Sim.pure _
  | k + 1, l => Sim.ifOk (Sim.bind Sim.at_ (fun b => Sim.bind (Sim.num 2) (fun n => Sim.ifOk (Sim.ite (fun _ => Sim.bind (Sim.fail _ _ _) (fun _ => Sim.bind Sim.noughts (fun _ => Sim.pure _) fun _ => Keeps.pure _) fun _ => Keeps.bind Keeps.zeros fun _ => Keeps.pure _)
      fun _ => Sim.bind (Sim.eat _) (fun _ => tlvs_sim k _) fun _ => tlvs_keeps k _)) fun _ => Keeps.ifOk) fun _ => Keeps.bind (Keeps.num 2) fun _ => Keeps.ifOk)

def tlvXs (l : List (TlvV × Int)) : List Value := (l.map Prod.fst).flatMap TlvV.cells
def tlvAs (l : List (TlvV × Int)) : List Value := (l.map Prod.snd).flatMap (intC .i64)
theorem tlvXs_snoc (l : List (TlvV × Int)) (t : TlvV) (b : Int) : tlvXs (l ++ [(t, b)]) = tlvXs l ++ t.cells := by simp [tlvXs]
theorem tlvAs_snoc (l : List (TlvV × Int)) (t : TlvV) (b : Int) : tlvAs (l ++ [(t, b)]) = tlvAs l ++ [.int .i64 b] := by simp [tlvAs, intC]
/-- What lies at hand of the reading. -/
structure TlvSt where
  k : Nat
  n : Nat
  l : List (TlvV × Int)
  cap : Nat
  sp : List Value
  cap2 : Nat
  sp2 : List Value
def TlvSt.ok (y : TlvSt) : Prop := y.l.length = y.n ∧ grOk 2 y.n y.cap (tlvXs y.l) y.sp ∧ grOk 1 y.n y.cap2 (tlvAs y.l) y.sp2
def tlvL (n : Nat) (xs ys : List Value) : List Chunk := match n with
  | 0 => []
  | _ + 1 => [.vals 102 xs, .vals 3 ys]

theorem two {α β γ : Type} (f : α → β → γ) {a a' : α} {b b' : β} (h : a = a') (k : b = b') : f a b = f a' b' := by rw [h, k]
theorem cuNum_fwd {n x : Nat} {c c' : CurV} (h : cuNum n c = .ok x c') : c' = c.fwd n := by
  unfold cuNum at h
  split at h <;> cases h
  rfl
theorem cuEat_fwd {n : Nat} {x : ByteArray} {c c' : CurV} (h : cuEat n c = .ok x c') : c' = c.fwd n := by
  unfold cuEat at h
  split at h <;> cases h
  rfl
theorem fwd_at (c : CurV) (n : Nat) : (c.fwd n).at_ = c.at_ + n ∧ (c.fwd n).s = c.s := ⟨rfl, rfl⟩
theorem tlvOf_eq {n : Nat} (h : n < 65536) (s : ByteArray) : tlvOf n s = ⟨IntKind.i64.wrap ((n : Int).tdiv 512), s⟩ := by
  rw [show (n : Int).tdiv 512 = ((n / 512 : Nat) : Int) from by rw [Int.tdiv_eq_ediv_of_nonneg (by omega)]; omega, wrap_id (by omega) (by omega)]; rfl
theorem refTlvRead_b (s : ByteArray) (g : G) (hs : s.size ≤ 1000000000) : Meets Tryd.prog 63 [.v (.string s)] [] g (fun o L' g' => match cuTlvs (s.size + 1) [] (cur0 s) with
    | .ok x _ => ∃ cap sp cap2 sp2, o = .ret (.tup [grS 0 x.1.length cap, grS 1 x.1.length cap2, .v (.int .i64 x.2), .agg [.v (.int .i64 0), .v (.int .i64 (-1))]]) ∧ L' = tlvL x.1.length (tlvXs x.1 ++ sp) (tlvAs x.1 ++ sp2) ∧ G.le g g' ∧
        grOk 2 x.1.length cap (tlvXs x.1) sp ∧ grOk 1 x.1.length cap2 (tlvAs x.1) sp2
    | .thr e pl _ => o = .ret (.tup [.v (.slice none 0 0), .v (.slice none 0 0), .v (.int .i64 0), .agg [.v (.int .i64 e), .v (.int .i64 pl)]]) ∧ L' = [] ∧ G.le g g') := by
  obtain ⟨c0, hc0⟩ : ∃ c0, cur0 s = c0 := ⟨_, rfl⟩
  have hC0 := cu0_at (show s.size ≤ 1000000000000 by omega) g
  have hs0 : c0.s = s ∧ c0.at_ = 0 := by rw [← hc0]; exact ⟨rfl, rfl⟩
  rw [hc0] at hC0 ⊢
  generalize hM : cuTlvs (s.size + 1) [] c0 = M
  refine meets_ofD mixedW Tryd.func63 (by kernel_rfl) x63_ok none ?_
  refine (good_c g).call rfl rfl rfl ?_
  refine ⟨by kernel_rfl, by kernel_rfl, ?_⟩
  change LoopW _ _ _ _ _ _ _
  refine loop_gone (loop_gone ?_)
  apply loop_rule [5, 6] (α := TlvSt × CurV × G) (fun _ => []) (fun y => [.cells 100 [grS 5 y.1.n y.1.cap], .cells 107 [grS 6 y.1.n y.1.cap2], .cells 3 [.v (.int .i64 0)], .cells 83 [.v (.int .i64 0), .v (.int .i64 (-1))], cuC y.2.1, grC 102 y.1.n (tlvXs y.1.l) y.1.sp, grC 3 y.1.n (tlvAs y.1.l) y.1.sp2]) (fun y => y.2.2)
    (fun y => y.1.ok ∧ CuAt g 0 y.2.2 y.2.1 ∧ y.2.1.s = s ∧ 2 * y.1.n ≤ y.2.1.at_ ∧ s.size < 2 * y.1.k + y.2.1.at_ ∧ cuTlvs y.1.k y.1.l y.2.1 = M) (fun y => y.1.k) (⟨s.size + 1, 0, [], 0, [], 0, []⟩, c0, _)
  · intro x
    obtain ⟨⟨k, n, l, cap, sp, cap2, sp2⟩, c, gl⟩ := x
    cases n <;> kernel_rfl
  · exact ⟨⟨rfl, grOk.zero 2, grOk.zero 1⟩, hC0, hs0.1, by rw [hs0.2]; exact Nat.le_refl 0, by show s.size < 2 * (s.size + 1) + c0.at_; omega, hM⟩
  · trivial
  · rw [← hc0]; rfl
  · rfl
  clear hM
  intro y hy
  obtain ⟨⟨k, n, l, cap, sp, cap2, sp2⟩, cL, gl⟩ := y
  obtain ⟨⟨hl, ho1, ho2⟩, hC, hcs, hat, hk, hM⟩ := hy
  dsimp only at hl ho1 ho2 hC hcs hat hk hM
  have hcs2 : cL.at_ ≤ s.size := by rw [← hcs]; exact hC.2.1.1
  rcases k with _ | k
  · omega
  have hb : (cL.at_ : Int) = cL.off + cL.at_ := by rw [hC.2.2]; omega
  rw [cuTlvs, CM.bind_ok (show cuAt cL = .ok (cL.off + cL.at_) cL from rfl), ← hb] at hM
  rcases n with _ | n
  · obtain rfl : l = [] := List.eq_nil_of_length_eq_zero hl
    refine (cnum_k hC 2 (by decide)).callS [4] 7 rfl rfl rfl rfl ?_
    intro o L1 g1 hq _
    rcases hx : cuNum 2 cL with ⟨x1, c1⟩ | ⟨e, pl, cx⟩ <;> rw [hx] at hq <;> first | rw [CM.bind_ok hx] at hM | rw [CM.bind_thr hx] at hM
    obtain ⟨rfl, rfl, hC1⟩ := hq
    have hlt := cuNum_lt hx
    have hf1 := cuNum_fwd hx
    rcases Nat.lt_or_ge x1 512 with k5 | k5
    · rw [if_pos k5] at hM
      refine bsplit_of (fun _ => ?_) (fun h => absurd h (by simp; omega))
      rcases Nat.eq_zero_or_pos x1 with rfl | kp
      · rw [show decide (0 < 0) = false from rfl] at hM
        have hM : (cuNoughts.bind fun _ => CM.pure ([], (cL.at_ : Int))) c1 = M := hM
        refine (noughts_k hC1).callS [4] 7 rfl rfl rfl rfl ?_
        intro o L1 g2 hq _
        rcases hx : cuNoughts c1 with ⟨x2, c2⟩ | ⟨e, pl, cx⟩ <;> rw [hx] at hq <;> first | rw [CM.bind_ok hx] at hM | rw [CM.bind_thr hx] at hM
        obtain ⟨rfl, rfl, hC2⟩ := hq
        · subst hM
          refine recx_of Tryd.func70 rfl x70_ok ?_
          refine defx_of Tryd.func90 rfl x90_ok ?_
          refine (is_c 0 _ _).call rfl rfl rfl ?_
          exact ⟨[], 0, [], 0, [], rfl, rfl, hC2.1, grOk.zero 2, grOk.zero 1⟩
        all_goals
          obtain ⟨rfl, rfl, hle, he⟩ := hq
          subst hM
          refine recx_of Tryd.func70 rfl x70_ok ?_
          refine defx_of Tryd.func90 rfl x90_ok ?_
          refine (is_c e _ _).call rfl rfl rfl ?_
          refine bsplit_of (fun _ => ?_) (fun k => absurd k (by simp [he]))
          exact ⟨[], rfl, rfl, hle⟩
      · rw [decide_eq_true kp] at hM
        refine bsplit_of (fun _ => ?_) (fun h => absurd h (by simp; omega))
        refine absK fun K hK => ?_
        refine (throw_k hC1 3 cL.at_ (by omega)).callS [4] 7 rfl rfl rfl rfl ?_
        rintro o L1 gT ⟨rfl, rfl, rfl⟩ _
        subst hK hM
        refine recx_of Tryd.func70 rfl x70_ok ?_
        refine defx_of Tryd.func90 rfl x90_ok ?_
        refine (is_c 3 _ _).call rfl rfl rfl ?_
        refine ⟨[], ?_, rfl, hC1.1⟩
        rw [Int.zero_add]
        rfl
    rw [if_neg (by omega)] at hM
    refine bsplit_of (fun h => absurd h (by simp; omega)) (fun _ => ?_)
    refine ⟨by decide, by decide, ?_⟩
    refine (eat_k hC1 (x1 % 512) (by omega)).callS [4] 7 rfl rfl rfl rfl ?_
    intro o L1 g2 hq _
    rcases hx : cuEat (x1 % 512) c1 with ⟨x2, c2⟩ | ⟨e, pl, cx⟩ <;> rw [hx] at hq <;> first | rw [CM.bind_ok hx] at hM | rw [CM.bind_thr hx] at hM
    obtain ⟨rfl, rfl, hC2⟩ := hq
    · have hf2 := cuEat_fwd hx
      have hx1 : x1 < 65536 := hlt
      have hM : cuTlvs k [(⟨IntKind.i64.wrap ((x1 : Int).tdiv 512), x2⟩, (cL.at_ : Int))] c2 = M := by rw [← tlvOf_eq hx1]; exact hM
      obtain ⟨fa1, fs1⟩ := fwd_at cL 2
      obtain ⟨fa2, fs2⟩ := fwd_at c1 (x1 % 512)
      rw [← hf1] at fa1 fs1
      rw [← hf2] at fa2 fs2
      refine ⟨by show 0 + 1 * 2 ≤ 2; decide, fun u hu => by simp at hu; rcases hu with rfl | rfl <;> rfl, ?_⟩
      refine ⟨by decide, fun cap sp k1 k2 k3 => ?_⟩
      refine ⟨by show 0 + 1 * 1 ≤ 1; decide, fun u hu => by simp at hu; subst hu; rfl, ?_⟩
      refine ⟨by decide, fun cap2 sp2 k4 k5 k6 => ?_⟩
      exact ⟨(⟨k, 1, [(⟨IntKind.i64.wrap ((x1 : Int).tdiv 512), x2⟩, (cL.at_ : Int))], cap, sp, cap2, sp2⟩, c2, g2), ⟨⟨rfl, gr_first rfl k1 k2 k3, gr_first rfl k4 k5 k6⟩, hC2, by rw [fs2, fs1]; exact hcs, by show 2 * 1 ≤ c2.at_; rw [fa2, fa1]; omega, by show s.size < 2 * k + c2.at_; rw [fa2, fa1]; omega, hM⟩, by show k < k + 1; omega, [0, 1, 2, 3, 4, 8, 10], rfl, trivial, rfl, rfl, rfl, rfl⟩
    all_goals
      obtain ⟨rfl, rfl, hle, he⟩ := hq
      subst hM
      refine recx_of Tryd.func70 rfl x70_ok ?_
      refine defx_of Tryd.func90 rfl x90_ok ?_
      refine (is_c e _ _).call rfl rfl rfl ?_
      refine bsplit_of (fun _ => ?_) (fun k => absurd k (by simp [he]))
      exact ⟨[], rfl, rfl, hle⟩
  ·
    refine (cnum_k hC 2 (by decide)).callS [4] 7 rfl rfl rfl rfl ?_
    intro o L1 g1 hq _
    rcases hx : cuNum 2 cL with ⟨x1, c1⟩ | ⟨e, pl, cx⟩ <;> rw [hx] at hq <;> first | rw [CM.bind_ok hx] at hM | rw [CM.bind_thr hx] at hM
    obtain ⟨rfl, rfl, hC1⟩ := hq
    have hlt := cuNum_lt hx
    have hf1 := cuNum_fwd hx
    rcases Nat.lt_or_ge x1 512 with k5 | k5
    · rw [if_pos k5] at hM
      refine bsplit_of (fun _ => ?_) (fun h => absurd h (by simp; omega))
      rcases Nat.eq_zero_or_pos x1 with rfl | kp
      · rw [show decide (0 < 0) = false from rfl] at hM
        have hM : (cuNoughts.bind fun _ => CM.pure (l, (cL.at_ : Int))) c1 = M := hM
        refine (noughts_k hC1).callS [4] 7 rfl rfl rfl rfl ?_
        intro o L1 g2 hq _
        rcases hx : cuNoughts c1 with ⟨x2, c2⟩ | ⟨e, pl, cx⟩ <;> rw [hx] at hq <;> first | rw [CM.bind_ok hx] at hM | rw [CM.bind_thr hx] at hM
        obtain ⟨rfl, rfl, hC2⟩ := hq
        · subst hM
          refine recx_of Tryd.func70 rfl x70_ok ?_
          refine defx_of Tryd.func90 rfl x90_ok ?_
          refine (is_c 0 _ _).call rfl rfl rfl ?_
          exact ⟨[5, 6], cap, sp, cap2, sp2, by rw [hl]; rfl, by rw [hl]; rfl, hC2.1, by rw [hl]; exact ho1, by rw [hl]; exact ho2⟩
        all_goals
          obtain ⟨rfl, rfl, hle, he⟩ := hq
          subst hM
          refine recx_of Tryd.func70 rfl x70_ok ?_
          refine defx_of Tryd.func90 rfl x90_ok ?_
          refine (is_c e _ _).call rfl rfl rfl ?_
          refine bsplit_of (fun _ => ?_) (fun k => absurd k (by simp [he]))
          exact ⟨[], rfl, rfl, hle⟩
      · rw [decide_eq_true kp] at hM
        refine bsplit_of (fun _ => ?_) (fun h => absurd h (by simp; omega))
        refine absK fun K hK => ?_
        refine (throw_k hC1 3 cL.at_ (by omega)).callS [4] 7 rfl rfl rfl rfl ?_
        rintro o L1 gT ⟨rfl, rfl, rfl⟩ _
        subst hK hM
        refine recx_of Tryd.func70 rfl x70_ok ?_
        refine defx_of Tryd.func90 rfl x90_ok ?_
        refine (is_c 3 _ _).call rfl rfl rfl ?_
        refine ⟨[], ?_, rfl, hC1.1⟩
        rw [Int.zero_add]
        rfl
    rw [if_neg (by omega)] at hM
    refine bsplit_of (fun h => absurd h (by simp; omega)) (fun _ => ?_)
    refine ⟨by decide, by decide, ?_⟩
    refine (eat_k hC1 (x1 % 512) (by omega)).callS [4] 7 rfl rfl rfl rfl ?_
    intro o L1 g2 hq _
    rcases hx : cuEat (x1 % 512) c1 with ⟨x2, c2⟩ | ⟨e, pl, cx⟩ <;> rw [hx] at hq <;> first | rw [CM.bind_ok hx] at hM | rw [CM.bind_thr hx] at hM
    obtain ⟨rfl, rfl, hC2⟩ := hq
    · have hf2 := cuEat_fwd hx
      have hx1 : x1 < 65536 := hlt
      have hM : cuTlvs k (l ++ [(⟨IntKind.i64.wrap ((x1 : Int).tdiv 512), x2⟩, (cL.at_ : Int))]) c2 = M := by rw [← tlvOf_eq hx1]; exact hM
      obtain ⟨fa1, fs1⟩ := fwd_at cL 2
      obtain ⟨fa2, fs2⟩ := fwd_at c1 (x1 % 512)
      rw [← hf1] at fa1 fs1
      rw [← hf2] at fa2 fs2
      have g1 := gr_bounds ho1
      have g2' := gr_bounds ho2
      refine ⟨by show 0 + 1 * 2 ≤ 2; decide, fun u hu => by simp at hu; rcases hu with rfl | rfl <;> rfl, ?_⟩
      refine ⟨tlvXs l, sp, rfl, g1.1, ⟨g1.2.1, g1.2.2.1, g1.2.2.2⟩, by omega, fun cap3 sp3 k1 k2 k3 => ?_⟩
      refine ⟨by show 0 + 1 * 1 ≤ 1; decide, fun u hu => by simp at hu; subst hu; rfl, ?_⟩
      refine ⟨tlvAs l, sp2, rfl, g2'.1, ⟨g2'.2.1, g2'.2.2.1, g2'.2.2.2⟩, by omega, fun cap4 sp4 k4 k5 k6 => ?_⟩
      refine ⟨(⟨k, n + 1 + 1, l ++ [(⟨IntKind.i64.wrap ((x1 : Int).tdiv 512), x2⟩, (cL.at_ : Int))], cap3, sp3, cap4, sp4⟩, c2, g2), ⟨⟨by simp [hl], by rw [tlvXs_snoc]; exact gr_next ho1 rfl k1 k2 k3, by rw [tlvAs_snoc]; exact gr_next ho2 rfl k4 k5 k6⟩, hC2, by rw [fs2, fs1]; exact hcs, by show 2 * (n + 1 + 1) ≤ c2.at_; rw [fa2, fa1]; omega, by show s.size < 2 * k + c2.at_; rw [fa2, fa1]; omega, hM⟩, by show k < k + 1; omega, [0, 1, 2, 3, 4, 8, 10], rfl, trivial, ?_, rfl, rfl, rfl⟩
      exact two (fun a b => [.cells 100 [.slc 8 0 (n + 1 + 1) cap3], .cells 107 [.slc 10 0 (n + 1 + 1) cap4], .cells 3 [.v (.int .i64 0)], .cells 83 [.v (.int .i64 0), .v (.int .i64 (-1))], cuC c2, .vals 102 a, .vals 3 b])
        (show tlvXs l ++ ([.int .i64 (IntKind.i64.wrap ((x1 : Int).tdiv 512)), .string x2] ++ sp3) = tlvXs (l ++ [(⟨IntKind.i64.wrap ((x1 : Int).tdiv 512), x2⟩, (cL.at_ : Int))]) ++ sp3 by rw [tlvXs_snoc, List.append_assoc]; rfl)
        (show tlvAs l ++ ([.int .i64 cL.at_] ++ sp4) = tlvAs (l ++ [(⟨IntKind.i64.wrap ((x1 : Int).tdiv 512), x2⟩, (cL.at_ : Int))]) ++ sp4 by rw [tlvAs_snoc, List.append_assoc])
    all_goals
      obtain ⟨rfl, rfl, hle, he⟩ := hq
      subst hM
      refine recx_of Tryd.func70 rfl x70_ok ?_
      refine defx_of Tryd.func90 rfl x90_ok ?_
      refine (is_c e _ _).call rfl rfl rfl ?_
      refine bsplit_of (fun _ => ?_) (fun k => absurd k (by simp [he]))
      exact ⟨[], rfl, rfl, hle⟩
end Go.Proofs.YtfagdcpfebghoaaDoor
