/- The reference's reading of events: what it returns. Conditions: the text is not longer than 10^9 bytes. -/
import Derived.Test.YtfianfpmnglfnaaDoorMvC
namespace Go.Proofs.YtfianfpmnglfnaaDoor
open Go.Sx
set_option maxRecDepth 100000
set_option maxHeartbeats 80000000
attribute [local irreducible] Meets

def cuStep (pl : Int) (f : Nat) (l : List AttP) : Option AttP → CM (List AttP)
  | none => CM.pure l
  | some a => (cuThrow (decide (40 < l.length + 1)) 4 pl).bind fun _ => cuAttrs pl f (l ++ [a])
theorem cuAttrs_succ (pl : Int) (f : Nat) (l : List AttP) : cuAttrs pl (f + 1) l = cuAttr.bind (cuStep pl f l) := by
  rw [cuAttrs]
  congr 1
theorem attr_flat {β : Type} (K : Option AttP → CM β) : cuAttr.bind K = cuAt.bind fun pl => (cuNum 2).bind fun n => if n = 0 then K none else (cuThrow (attBad n) 2 pl).bind fun _ => (cuNum 2).bind fun first => (cuEvs (n % 8192) 134 []).bind fun evs =>
    (cuThrow (!attB ⟨decide (8192 ≤ n), first, evs⟩) 2 pl).bind fun _ => K (some ⟨decide (8192 ≤ n), first, evs⟩) := by
  rw [cuAttr, CM.bind_assoc]
  congr 1; funext pl
  rw [CM.bind_assoc]
  congr 1; funext n
  by_cases h : n = 0
  · rw [if_pos h, if_pos h]; rfl
  · rw [if_neg h, if_neg h]
    simp only [CM.bind_assoc, CM.pure_bind]
theorem evs_flat {β : Type} (N f : Nat) (acc : List Int) (K : List Int → CM β) (h : acc.length < N) : (cuEvs N (f + 1) acc).bind K = cuAt.bind fun pl => (cuNum 1).bind fun x => (cuThrow (decide (215 < x)) 2 pl).bind fun _ => (cuThree N pl (three x) acc).bind fun acc => (cuEvs N f acc).bind K := by
  rw [cuEvs, if_pos h]
  simp only [CM.bind_assoc]
theorem evs_end {β : Type} (N f : Nat) (acc : List Int) (K : List Int → CM β) (h : ¬ acc.length < N) : (cuEvs N f acc).bind K = K acc := by
  cases f with
  | zero => rfl
  | succ f => rw [cuEvs, if_neg h]; rfl
theorem three_in {β : Type} (N : Nat) (pl : Int) (e : Nat) (t : List Nat) (acc : List Int) (K : List Int → CM β) (h : acc.length < N) : (cuThree N pl (e :: t) acc).bind K = (cuThree N pl t (acc ++ [(e : Int)])).bind K := by
  rw [cuThree, if_pos h]
theorem three_out {β : Type} (N : Nat) (pl : Int) (e : Nat) (t : List Nat) (acc : List Int) (K : List Int → CM β) (h : ¬ acc.length < N) : (cuThree N pl (e :: t) acc).bind K = (cuThrow (decide (0 < e)) 15 pl).bind fun _ => (cuThree N pl t acc).bind K := by
  rw [cuThree, if_neg h, CM.bind_assoc]

def thW (x : Nat) : List Value := [.int .i64 (IntKind.i64.wrap ((x : Int).tdiv 36)), .int .i64 (IntKind.i64.wrap (((x : Int).tmod 36).tdiv 6)), .int .i64 ((x : Int).tmod 6)]
def thD (x : Nat) : Chunk := .cells 3 [.v (.int .i64 (IntKind.i64.wrap ((x : Int).tdiv 36))), .v (.int .i64 (IntKind.i64.wrap (((x : Int).tmod 36).tdiv 6))), .v (.int .i64 ((x : Int).tmod 6))]
theorem thW_at {x i : Nat} (hx : x < 256) (hi : i < 3) : ∃ e : Nat, (three x).drop i = e :: (three x).drop (i + 1) ∧ (thW x)[i]? = some (.int .i64 (e : Int)) ∧ e < 256 := by
  have e1 : IntKind.i64.wrap ((x : Int).tdiv 36) = ((x / 36 : Nat) : Int) := by
    rw [show (x : Int).tdiv 36 = ((x / 36 : Nat) : Int) from by rw [Int.tdiv_eq_ediv_of_nonneg (by omega)]; omega, wrap_id (by omega) (by omega)]
  have e2 : IntKind.i64.wrap (((x : Int).tmod 36).tdiv 6) = ((x / 6 % 6 : Nat) : Int) := by
    rw [show (x : Int).tmod 36 = ((x % 36 : Nat) : Int) from by rw [Int.tmod_eq_emod_of_nonneg (by omega)]; omega]
    rw [show ((x % 36 : Nat) : Int).tdiv 6 = ((x % 36 / 6 : Nat) : Int) from by rw [Int.tdiv_eq_ediv_of_nonneg (by omega)]; omega, wrap_id (by omega) (by omega)]
    omega
  have e3 : (x : Int).tmod 6 = ((x % 6 : Nat) : Int) := by rw [Int.tmod_eq_emod_of_nonneg (by omega)]; omega
  unfold thW three
  rw [e1, e2, e3]
  rcases i with _ | _ | _ | i
  · exact ⟨x / 36, rfl, rfl, by omega⟩
  · exact ⟨x / 6 % 6, rfl, rfl, by omega⟩
  · exact ⟨x % 6, rfl, rfl, by omega⟩
  · omega
theorem seven {c0 c1 c2 c3 c4 c6 : Chunk} {ty : TypeId} {X Y : List Value} (h : X = Y) : [c0, c1, c2, c3, c4, .vals ty X, c6] = [c0, c1, c2, c3, c4, .vals ty Y, c6] := by rw [h]
theorem four {c0 c1 c2 : Chunk} {ty : TypeId} {X Y : List Value} (h : X = Y) : [c0, c1, c2, .vals ty X] = [c0, c1, c2, .vals ty Y] := by rw [h]
def fltC : Chunk := .cells 40 [.v (.int .i64 0), .v (.int .i64 (-1))]
def atlC (n cap : Nat) : Chunk := .cells 75 [grS 3 n cap]

theorem refMvrpRead_b (s : ByteArray) (g : G) (hs : s.size ≤ 1000000000) : Meets Tryd.prog 17 [.v (.string s)] [] g (fun o L' g' => match cuMvrp (s.size + 1) (cur0 s) with
    | .ok x _ => ∃ (l : List AttrV) (cap : Nat) (sp : List Value), o = .ret (.tup [grS 0 l.length cap, .agg [.v (.int .i64 0), .v (.int .i64 (-1))]]) ∧ L' = grL 156 l.length (atX l) sp ∧ grOk 3 l.length cap (atX l) sp ∧ allEv g' l ∧ x = l.map AttrV.p ∧ G.le g g'
    | .thr e pl _ => o = .ret (.tup [.v (.slice none 0 0), .agg [.v (.int .i64 e), .v (.int .i64 pl)]]) ∧ L' = [] ∧ G.le g g') := by
  obtain ⟨c0, hc0⟩ : ∃ c0, cur0 s = c0 := ⟨_, rfl⟩
  have hC0 := cu0_at (show s.size ≤ 1000000000000 by omega) g
  have hs0 : c0.s = s ∧ c0.at_ = 0 := by rw [← hc0]; exact ⟨rfl, rfl⟩
  rw [hc0] at hC0 ⊢
  generalize hM : cuMvrp (s.size + 1) c0 = M
  rw [cuMvrp] at hM
  have hbase : G.le g g := le_refl g
  refine meets_ofDJ mixedW Tryd.func17 (by kernel_rfl) x17_ok none ?_
  refine (good_c g).call rfl rfl rfl ?_
  refine ⟨by kernel_rfl, by kernel_rfl, ?_⟩
  change CallX _ _ _ [_, _, .cells 152 [.v (.string s), .v (.int .i64 0), .v (.int .i64 0)]] _ _ _
  rw [show Chunk.cells 152 [.v (.string s), .v (.int .i64 0), .v (.int .i64 0)] = cuC c0 by rw [← hc0]; rfl]
  refine (want_k hC0 z1B (by decide)).callS [2] 3 rfl rfl rfl rfl ?_
  intro o L1 g9 hq _
  rcases hx : cuWant z1B c0 with ⟨x9, c9⟩ | ⟨e, pl, cx⟩ <;> rw [hx] at hq <;> first | rw [CM.bind_ok hx] at hM | rw [CM.bind_thr hx] at hM
  obtain ⟨rfl, rfl, hC9⟩ := hq
  have hs9 : c9.s = s := by
    unfold cuWant at hx
    split at hx
    · split at hx <;> cases hx
      exact hs0.1
    · cases hx
  change LoopW _ _ _ _ _ _ _ _ _
  refine loop_gone ?_
  apply loop_rule [3] (α := AtL × Nat × CurV × G) (fun _ => []) (fun y => [atlC y.1.n y.1.cap, fltC, cuC y.2.2.1, grC 156 y.1.n (atX y.1.l) y.1.sp]) (fun y => y.2.2.2)
    (fun y => y.1.ok ∧ allEv y.2.2.2 y.1.l ∧ CuAt g 0 y.2.2.2 y.2.2.1 ∧ y.2.2.1.s = s ∧ y.1.n ≤ 40 ∧ s.size < 2 * y.2.1 + y.2.2.1.at_ ∧ cuMsgs y.2.1 (y.1.l.map AttrV.p) y.2.2.1 = M) (fun y => y.2.1) (⟨0, [], 0, []⟩, s.size + 1, c9, g9)
  · intro x; obtain ⟨⟨n, l, cap, sp⟩, f, c, g⟩ := x; cases n <;> kernel_rfl
  · exact ⟨⟨rfl, grOk.zero 3⟩, fun a ha => by simp at ha, hC9, hs9, Nat.zero_le _, by show s.size < 2 * (s.size + 1) + c9.at_; omega, hM⟩
  · trivial
  · rfl
  · rfl
  · clear hM
    intro y hy
    obtain ⟨⟨n, l, cap, sp⟩, F, cL, gA⟩ := y
    obtain ⟨⟨hl, ho⟩, hal, hC', hcs, hn40, haA, hM⟩ := hy
    dsimp only at hl ho hal hC' hcs hn40 haA hM
    have hbase : G.le g gA := hC'.1
    have hC : CuAt gA 0 gA cL := ⟨le_refl gA, hC'.2⟩
    have hcle : cL.at_ ≤ s.size := by rw [← hcs]; exact hC.2.1.1
    obtain ⟨F, rfl⟩ : ∃ j, F = j + 1 := ⟨F - 1, by omega⟩
    have hbL : (cL.at_ : Int) = cL.off + cL.at_ := by rw [hC.2.2]; omega
    have hpL : 0 ≤ (cL.at_ : Int) ∧ (cL.at_ : Int) ≤ 1000000000000 := hC.at_lt
    rw [cuMsgs, CM.bind_ok (show cuAt cL = .ok (cL.off + cL.at_) cL from rfl), ← hbL] at hM
    rcases n with _ | n
    · obtain rfl : l = [] := List.eq_nil_of_length_eq_zero hl
      refine (cnum_k hC 1 (by decide)).callS [2] 4 rfl rfl rfl rfl ?_
      intro o L1 g1 hq _
      rcases hx : cuNum 1 cL with ⟨x1, c1⟩ | ⟨e, pl, cx⟩ <;> rw [hx] at hq <;> first | rw [CM.bind_ok hx] at hM | rw [CM.bind_thr hx] at hM
      obtain ⟨rfl, rfl, hC1⟩ := hq
      have hx1 : x1 < 256 := cuNum_lt hx
      have hf1 := cuNum_fwd hx
      have hs1 : c1.s = s := by rw [hf1]; exact hcs
      have ha1 : c1.at_ = cL.at_ + 1 := by rw [hf1]; rfl
      refine (cnum_k hC1 1 (by decide)).callS [2] 4 rfl rfl rfl rfl ?_
      intro o L1 g2 hq _
      rcases hx : cuNum 1 c1 with ⟨x2, c2⟩ | ⟨e, pl, cx⟩ <;> rw [hx] at hq <;> first | rw [CM.bind_ok hx] at hM | rw [CM.bind_thr hx] at hM
      obtain ⟨rfl, rfl, hC2⟩ := hq
      have hx2 : x2 < 256 := cuNum_lt hx
      have hf2 := cuNum_fwd hx
      have hs2 : c2.s = s := by rw [hf2]; exact hs1
      have ha2 : c2.at_ = c1.at_ + 1 := by rw [hf2]; rfl
      refine bsplit_of (fun (h1 : ((x1 : Int) == 0) = true) => ?_) (fun (h1 : ((x1 : Int) == 0) = false) => ?_)
      · have h1 : x1 = 0 := by have := eq_of_beq h1; omega
        refine bsplit_of (fun (h2 : ((x2 : Int) == 0) = true) => ?_) (fun (h2 : ((x2 : Int) == 0) = false) => ?_)
        · have h2 : x2 = 0 := by have := eq_of_beq h2; omega
          rw [if_pos ⟨h1, h2⟩] at hM
          refine (noughts_k hC2).callS [2] 4 rfl rfl rfl rfl ?_
          intro o L1 g3 hq _
          rcases hx : cuNoughts c2 with ⟨x3, c3⟩ | ⟨e, pl, cx⟩ <;> rw [hx] at hq <;> first | rw [CM.bind_ok hx] at hM | rw [CM.bind_thr hx] at hM
          obtain ⟨rfl, rfl, hC3⟩ := hq
          · have hfin := allEv.mono hal hC3.1
            subst hM
            refine recx_of Tryd.func59 rfl x59_ok ?_
            refine defx_of Tryd.func58 rfl x58_ok ?_
            refine (is_c 0 _ _).call rfl rfl rfl ?_
            exact ⟨[], [], 0, [], rfl, rfl, grOk.zero 3, hfin, rfl, le_trans hbase hC3.1⟩
          all_goals
            obtain ⟨rfl, rfl, hle, he⟩ := hq
            subst hM
            refine recx_of Tryd.func59 rfl x59_ok ?_
            refine defx_of Tryd.func58 rfl x58_ok ?_
            refine (is_c e _ _).call rfl rfl rfl ?_
            refine bsplit_of (fun _ => ?_) (fun k => absurd k (by simp [he]))
            exact ⟨[], rfl, rfl, le_trans hbase hle⟩
        · have h2 : x2 ≠ 0 := by have := ne_of_beq_false h2; omega
          rw [if_neg (by omega)] at hM
          refine bsplit_of (fun (h3 : (((x1 : Int) != 1)) = true) => ?_) (fun (h3 : (((x1 : Int) != 1)) = false) => absurd h3 (by simp; omega))
          have hb2 : decide (x1 ≠ 1) = true := decide_eq_true (by omega)
          rw [hb2] at hM
          have hM : CR.thr 5 (cL.at_ : Int) c2 = M := hM
          refine (throw_k hC2 5 cL.at_ hpL).callS [2] 4 rfl rfl rfl rfl ?_
          rintro o L1 gT ⟨rfl, rfl, hgT⟩ _
          subst gT
          subst hM
          refine recx_of Tryd.func59 rfl x59_ok ?_
          refine defx_of Tryd.func58 rfl x58_ok ?_
          refine (is_c 5 _ _).call rfl rfl rfl ?_
          refine ⟨[], ?_, rfl, (le_trans hbase hC2.1)⟩
          rw [Int.zero_add]
          rfl
      have h1 : x1 ≠ 0 := by have := ne_of_beq_false h1; omega
      rw [if_neg (by omega)] at hM
      refine bsplit_of (fun (h3 : (((x1 : Int) != 1)) = true) => ?_) (fun (h3 : (((x1 : Int) != 1)) = false) => ?_)
      · have h3 : x1 ≠ 1 := by intro e; subst e; exact absurd h3 (by decide)
        have hb2 : decide (x1 ≠ 1) = true := decide_eq_true (by omega)
        rw [hb2] at hM
        have hM : CR.thr 5 (cL.at_ : Int) c2 = M := hM
        refine (throw_k hC2 5 cL.at_ hpL).callS [2] 4 rfl rfl rfl rfl ?_
        rintro o L1 gT ⟨rfl, rfl, hgT⟩ _
        subst gT
        subst hM
        refine recx_of Tryd.func59 rfl x59_ok ?_
        refine defx_of Tryd.func58 rfl x58_ok ?_
        refine (is_c 5 _ _).call rfl rfl rfl ?_
        refine ⟨[], ?_, rfl, (le_trans hbase hC2.1)⟩
        rw [Int.zero_add]
        rfl
      have h3 : x1 = 1 := by simp at h3; omega
      have hb2 : decide (x1 ≠ 1) = false := decide_eq_false (by omega)
      rw [hb2, CM.bind_ok (show cuThrow false 5 (cL.at_ : Int) c2 = .ok () c2 from rfl)] at hM
      refine bsplit_of (fun (h5 : (((x2 : Int) != 2)) = true) => ?_) (fun (h5 : (((x2 : Int) != 2)) = false) => ?_)
      · have h5 : x2 ≠ 2 := by intro e; subst e; exact absurd h5 (by decide)
        have hb3 : decide (x2 ≠ 2) = true := decide_eq_true h5
        rw [hb3] at hM
        have hw : IntKind.i64.wrap ((cL.at_ : Int) + 1) = (cL.at_ : Int) + 1 := wrap_id (by omega) (by omega)
        have hM : CR.thr 3 ((cL.at_ : Int) + 1) c2 = M := hM
        refine (throw_k hC2 3 (IntKind.i64.wrap ((cL.at_ : Int) + 1)) ⟨by rw [hw]; omega, by rw [hw]; omega⟩).callS [2] 4 rfl rfl rfl rfl ?_
        rintro o L1 gT ⟨rfl, rfl, hgT⟩ _
        subst gT
        subst hM
        refine recx_of Tryd.func59 rfl x59_ok ?_
        refine defx_of Tryd.func58 rfl x58_ok ?_
        refine (is_c 3 _ _).call rfl rfl rfl ?_
        refine ⟨[], ?_, rfl, le_trans hbase hC2.1⟩
        rw [Int.zero_add, hw]
        rfl
      have h5 : x2 = 2 := by simp at h5; omega
      have hb3 : decide (x2 ≠ 2) = false := decide_eq_false (by omega)
      rw [hb3, CM.bind_ok (show cuThrow false 3 ((cL.at_ : Int) + 1) c2 = .ok () c2 from rfl)] at hM
      change LoopW _ _ _ _ _ _ _ _ _
      apply loop_rule [3] (α := AtL × Nat × CurV × G) (fun _ => []) (fun y => [atlC y.1.n y.1.cap, fltC, cuC y.2.2.1, grC 156 y.1.n (atX y.1.l) y.1.sp]) (fun y => y.2.2.2)
        (fun y => y.1.ok ∧ allEv y.2.2.2 y.1.l ∧ CuAt g 0 y.2.2.2 y.2.2.1 ∧ y.2.2.1.s = s ∧ y.1.n ≤ 40 ∧ 45 ≤ y.2.1 + y.1.n ∧ s.size < 2 * F + y.2.2.1.at_ ∧ ((cuAttrs (cL.at_ : Int) y.2.1 (y.1.l.map AttrV.p)).bind (cuMsgs F)) y.2.2.1 = M) (fun y => y.2.1) (⟨0, [], cap, sp⟩, 45, c2, g2)
      · intro x; obtain ⟨⟨n, l, cap, sp⟩, f, c, g⟩ := x; cases n <;> kernel_rfl
      · exact ⟨⟨hl, ho⟩, allEv.mono hal hC2.1, ⟨le_trans hbase hC2.1, hC2.2⟩, hs2, hn40, by show 45 ≤ 45 + (0 : Nat); omega, by show s.size < 2 * F + c2.at_; omega, hM⟩
      · trivial
      · rfl
      · rfl
      · clear hM
        intro y hy
        obtain ⟨⟨n, l, cap, sp⟩, f, cB, gB⟩ := y
        obtain ⟨⟨hl, ho⟩, hal, hCB', hsB, hn40, hf45, haB, hM⟩ := hy
        dsimp only at hl ho hal hCB' hsB hn40 hf45 haB hM
        have hbase : G.le g gB := hCB'.1
        have hCB : CuAt gB 0 gB cB := ⟨le_refl gB, hCB'.2⟩
        rcases n with _ | n
        · obtain rfl : l = [] := List.eq_nil_of_length_eq_zero hl
          have hbB : (cB.at_ : Int) = cB.off + cB.at_ := by rw [hCB.2.2]; omega
          have hpB : 0 ≤ (cB.at_ : Int) ∧ (cB.at_ : Int) ≤ 1000000000000 := hCB.at_lt
          obtain ⟨f, rfl⟩ : ∃ j, f = j + 1 := ⟨f - 1, by omega⟩
          rw [cuAttrs_succ, CM.bind_assoc, attr_flat, CM.bind_ok (show cuAt cB = .ok (cB.off + cB.at_) cB from rfl), ← hbB] at hM
          refine (cnum_k hCB 2 (by decide)).callS [2] 4 rfl rfl rfl rfl ?_
          intro o L1 g3 hq _
          rcases hx : cuNum 2 cB with ⟨x3, c3⟩ | ⟨e, pl, cx⟩ <;> rw [hx] at hq <;> first | rw [CM.bind_ok hx] at hM | rw [CM.bind_thr hx] at hM
          obtain ⟨rfl, rfl, hC3⟩ := hq
          have hx3 : x3 < 65536 := cuNum_lt hx
          have hf3 := cuNum_fwd hx
          have hs3 : c3.s = s := by rw [hf3]; exact hsB
          have ha3 : c3.at_ = cB.at_ + 2 := by rw [hf3]; rfl
          refine bsplit_of (fun (h : ((x3 : Int) == 0) = true) => ?_) (fun (h : ((x3 : Int) == 0) = false) => ?_)
          · have h0 : x3 = 0 := by have := eq_of_beq h; omega
            rw [if_pos h0] at hM
            have hM : cuMsgs F (([] : List AttrV).map AttrV.p) c3 = M := hM
            exact ⟨(⟨0, [], cap, sp⟩, F, c3, g3), ⟨⟨hl, ho⟩, allEv.mono hal hC3.1, ⟨le_trans hbase hC3.1, hC3.2⟩, hs3, hn40, by show s.size < 2 * F + c3.at_; omega, hM⟩, by show F < F + 1; omega, [0, 1, 2, 3], rfl, trivial, rfl, rfl, rfl, rfl⟩
          have h0 : x3 ≠ 0 := by have := ne_of_beq_false h; omega
          rw [if_neg h0] at hM
          have hrem : ((x3 : Int).tmod 8192) = ((x3 % 8192 : Nat) : Int) := by rw [Int.tmod_eq_emod_of_nonneg (by omega)]; omega
          refine bsplit_of (fun (h1 : decide ((x3 : Int) ≥ 16384) = true) => ?_) (fun (h1 : decide ((x3 : Int) ≥ 16384) = false) => ?_)
          · have h1 := of_decide_eq_true h1
            have hb : attBad x3 = true := decide_eq_true (.inl (by omega))
            rw [hb] at hM
            have hM : CR.thr 2 (cB.at_ : Int) c3 = M := hM
            refine (throw_k hC3 2 cB.at_ hpB).callS [2] 4 rfl rfl rfl rfl ?_
            rintro o L1 gT ⟨rfl, rfl, hgT⟩ _
            subst gT
            subst hM
            refine recx_of Tryd.func59 rfl x59_ok ?_
            refine defx_of Tryd.func58 rfl x58_ok ?_
            refine (is_c 2 _ _).call rfl rfl rfl ?_
            refine ⟨[], ?_, rfl, (le_trans hbase hC3.1)⟩
            rw [Int.zero_add]
            rfl
          have h1 := of_decide_eq_false h1
          refine ⟨by decide, ?_⟩
          refine bsplit_of (fun h2 => ?_) (fun h2 => ?_)
          · have h2 : ((x3 % 8192 : Nat) : Int) > 400 := by rw [← hrem]; exact of_decide_eq_true h2
            have hb : attBad x3 = true := decide_eq_true (.inr (by omega))
            rw [hb] at hM
            have hM : CR.thr 2 (cB.at_ : Int) c3 = M := hM
            refine (throw_k hC3 2 cB.at_ hpB).callS [2] 4 rfl rfl rfl rfl ?_
            rintro o L1 gT ⟨rfl, rfl, hgT⟩ _
            subst gT
            subst hM
            refine recx_of Tryd.func59 rfl x59_ok ?_
            refine defx_of Tryd.func58 rfl x58_ok ?_
            refine (is_c 2 _ _).call rfl rfl rfl ?_
            refine ⟨[], ?_, rfl, (le_trans hbase hC3.1)⟩
            rw [Int.zero_add]
            rfl
          have h2 : ¬ ((x3 % 8192 : Nat) : Int) > 400 := by rw [← hrem]; exact of_decide_eq_false h2
          have hb : attBad x3 = false := decide_eq_false (by omega)
          rw [hb, CM.bind_ok (show cuThrow false 2 (cB.at_ : Int) c3 = .ok () c3 from rfl)] at hM
          obtain ⟨la, hla⟩ : ∃ la : Bool, decide ((x3 : Int) ≥ 8192) = la := ⟨_, rfl⟩
          have hla' : decide (8192 ≤ x3) = la := by
            rw [← hla, decide_eq_decide]; omega
          rw [hla'] at hM
          refine (cnum_k hC3 2 (by decide)).callS [2] 4 rfl rfl rfl rfl ?_
          intro o L1 g4 hq _
          rcases hx : cuNum 2 c3 with ⟨x4, c4⟩ | ⟨e, pl, cx⟩ <;> rw [hx] at hq <;> first | rw [CM.bind_ok hx] at hM | rw [CM.bind_thr hx] at hM
          obtain ⟨rfl, rfl, hC4⟩ := hq
          have hx4 : x4 < 65536 := cuNum_lt hx
          have hf4 := cuNum_fwd hx
          have hs4 : c4.s = s := by rw [hf4]; exact hs3
          have ha4 : c4.at_ = c3.at_ + 2 := by rw [hf4]; rfl
          refine ⟨by decide, ?_⟩
          obtain ⟨N, hN⟩ : ∃ N, x3 % 8192 = N := ⟨_, rfl⟩
          have hNr := hrem
          rw [hN] at hM hNr h2
          obtain ⟨K2, hK2⟩ : ∃ K2 : List Int → CM (List AttP), (fun evs => (cuThrow (!attB ⟨la, x4, evs⟩) 2 (cB.at_ : Int)).bind fun _ => (cuStep (cL.at_ : Int) f (([] : List AttrV).map AttrV.p) (some ⟨la, x4, evs⟩)).bind (cuMsgs F)) = K2 := ⟨_, rfl⟩
          have hM : (cuEvs N 134 []).bind K2 c4 = M := by rw [← hK2]; exact hM
          change LoopW _ _ _ _ _ _ _ _ _
          refine loop_gone ?_
          apply loop_rule [5] (α := EvSt × Nat × CurV × G) (fun _ => []) (fun y => [atlC (0) cap, fltC, cuC y.2.2.1, grC 156 (0) (atX []) sp, atC la x4 5 y.1, grC 3 y.1.n (evX y.1.l) y.1.sp]) (fun y => y.2.2.2)
            (fun y => y.1.ok ∧ CuAt gB 0 y.2.2.2 y.2.2.1 ∧ y.2.2.1.s = s ∧ s.size < 2 * F + y.2.2.1.at_ ∧ N ≤ y.1.l.length + 3 * y.2.1 ∧ ((cuEvs N y.2.1 y.1.l).bind K2) y.2.2.1 = M) (fun y => y.2.1) (⟨0, [], 0, []⟩, 134, c4, g4)
          · intro x; obtain ⟨⟨n, l, cap, sp⟩, f, c, g⟩ := x; cases n <;> kernel_rfl
          · exact ⟨⟨rfl, grOk.zero 1⟩, hC4, hs4, by show s.size < 2 * F + c4.at_; omega, by show N ≤ 0 + 3 * 134; omega, hM⟩
          · trivial
          · rw [← hla]; rfl
          · rfl
          · clear hM
            intro y hy
            obtain ⟨⟨nV, lV, capV, spV⟩, f2, cC, gC⟩ := y
            obtain ⟨⟨hlC, hoC⟩, hCC, hsC, haC, hf2, hM⟩ := hy
            dsimp only at hlC hoC hCC hsC haC hf2 hM
            have hbC : (cC.at_ : Int) = cC.off + cC.at_ := by rw [hCC.2.2]; omega
            have hpC : 0 ≤ (cC.at_ : Int) ∧ (cC.at_ : Int) ≤ 1000000000000 := hCC.at_lt
            rcases nV with _ | nV
            · obtain rfl : lV = [] := List.eq_nil_of_length_eq_zero hlC
              refine bsplit_of (fun h => ?_) (fun h => ?_)
              rotate_left
              · have hge : ¬ ([] : List Int).length < N := by
                  have h : ¬ (((0 : Nat) : Int) < (N : Int)) := by rw [← hNr]; exact of_decide_eq_false h
                  rw [hlC]; omega
                rw [evs_end _ _ _ _ hge, ← hK2] at hM
                change TurnW _ _ _ _ _ _
                refine turn_same ?_
                have hEv : EvsOk gC (⟨la, (x4 : Int), ⟨none, [], 0⟩⟩ : AttrV).events := (sliceV_nil _ _ _ _)
                have hCR : CuAt gB 0 gC cC := ⟨le_trans hCC.1 (le_refl gC), hCC.2⟩
                refine (mvRightR_c ⟨la, (x4 : Int), ⟨none, [], 0⟩⟩ _ hEv ⟨by show (0 : Int) ≤ x4; omega, by show (x4 : Int) ≤ 65535; omega⟩).call rfl rfl rfl ?_
                have hM : ((cuThrow (!attB (⟨la, (x4 : Int), ⟨none, [], 0⟩⟩ : AttrV).p) 2 (cB.at_ : Int)).bind fun _ => (cuStep (cL.at_ : Int) f (([] : List AttrV).map AttrV.p) (some (⟨la, (x4 : Int), ⟨none, [], 0⟩⟩ : AttrV).p)).bind (cuMsgs F)) cC = M := hM
                refine bsplit_of (fun h => ?_) (fun h => ?_)
                · have h : (!attB (⟨la, (x4 : Int), ⟨none, [], 0⟩⟩ : AttrV).p) = true := h
                  rw [h] at hM
                  have hM : CR.thr 2 (cB.at_ : Int) cC = M := hM
                  refine (throw_k hCR 2 cB.at_ hpB).callS [2] 6 rfl rfl rfl rfl ?_
                  rintro o L1 gT ⟨rfl, rfl, hgT⟩ _
                  subst gT
                  subst hM
                  refine recx_of Tryd.func59 rfl x59_ok ?_
                  refine defx_of Tryd.func58 rfl x58_ok ?_
                  refine (is_c 2 _ _).call rfl rfl rfl ?_
                  refine ⟨[], ?_, rfl, (le_trans hbase hCR.1)⟩
                  rw [Int.zero_add]
                  rfl
                · have h : (!attB (⟨la, (x4 : Int), ⟨none, [], 0⟩⟩ : AttrV).p) = false := h
                  rw [h] at hM
                  have hM : ((cuStep (cL.at_ : Int) f (([] : List AttrV).map AttrV.p) (some (⟨la, (x4 : Int), ⟨none, [], 0⟩⟩ : AttrV).p)).bind (cuMsgs F)) cC = M := hM
                  rw [cuStep, CM.bind_assoc] at hM
                  refine ⟨by show 0 + 1 * 3 ≤ 3; decide, fun u hu => by simp at hu; rcases hu with rfl | rfl | rfl <;> rfl, ?_⟩
                  refine ⟨by decide, fun cap2 sp2 k1 k2 k3 => ?_⟩
                  have hM : ((cuAttrs (cL.at_ : Int) f ([] ++ [(⟨la, (x4 : Int), ⟨none, [], 0⟩⟩ : AttrV).p])).bind (cuMsgs F)) cC = M := hM
                  exact ⟨(⟨1, [⟨la, (x4 : Int), ⟨none, [], 0⟩⟩], cap2, sp2⟩, f, cC, gC), ⟨⟨rfl, gr_first rfl k1 k2 k3⟩, allEv.mono (allEv.snoc (l := []) (fun _ h => by simp at h) hEv) (le_refl _), ⟨le_trans hbase hCR.1, hCR.2⟩, hsC, (by decide : 1 ≤ 40), by show 45 ≤ f + 1; omega, by show s.size < 2 * F + cC.at_; omega, hM⟩, by show f < f + 1; omega, [0, 1, 2, 7], rfl, trivial, rfl, rfl, rfl, rfl⟩
              have hlt : ([] : List Int).length < N := by
                have h : (((0 : Nat) : Int) < (N : Int)) := by rw [← hNr]; exact of_decide_eq_true h
                rw [hlC]; omega
              obtain ⟨f2, rfl⟩ : ∃ j, f2 = j + 1 := ⟨f2 - 1, by omega⟩
              rw [evs_flat _ _ _ _ hlt, CM.bind_ok (show cuAt cC = .ok (cC.off + cC.at_) cC from rfl), ← hbC] at hM
              refine (cnum_k hCC 1 (by decide)).callS [2] 6 rfl rfl rfl rfl ?_
              intro o L1 g5 hq _
              rcases hx : cuNum 1 cC with ⟨x5, c5⟩ | ⟨e, pl, cx⟩ <;> rw [hx] at hq <;> first | rw [CM.bind_ok hx] at hM | rw [CM.bind_thr hx] at hM
              obtain ⟨rfl, rfl, hC5⟩ := hq
              have hx5 : x5 < 256 := cuNum_lt hx
              have hf5 := cuNum_fwd hx
              have hs5 : c5.s = s := by rw [hf5]; exact hsC
              have ha5 : c5.at_ = cC.at_ + 1 := by rw [hf5]; rfl
              refine bsplit_of (fun h => ?_) (fun h => ?_)
              · have h : 215 < x5 := by have h : ((x5 : Int) > 215) := of_decide_eq_true h; omega
                rw [decide_eq_true h] at hM
                have hM : CR.thr 2 (cC.at_ : Int) c5 = M := hM
                refine (throw_k hC5 2 cC.at_ hpC).callS [2] 6 rfl rfl rfl rfl ?_
                rintro o L1 gT ⟨rfl, rfl, hgT⟩ _
                subst gT
                subst hM
                refine recx_of Tryd.func59 rfl x59_ok ?_
                refine defx_of Tryd.func58 rfl x58_ok ?_
                refine (is_c 2 _ _).call rfl rfl rfl ?_
                refine ⟨[], ?_, rfl, (le_trans hbase hC5.1)⟩
                rw [Int.zero_add]
                rfl
              have h : ¬ 215 < x5 := by have h : ¬ ((x5 : Int) > 215) := of_decide_eq_false h; omega
              rw [decide_eq_false h] at hM
              refine ⟨by decide, by decide, by decide, by decide, ?_⟩
              change LoopW _ _ _ _ _ _ _ _ _
              apply loop_rule [5] (α := EvSt × Nat) (fun y => [(101, .v (.int .i64 y.2))]) (fun y => [atlC (0) cap, fltC, cuC c5, grC 156 (0) (atX []) sp, atC la x4 5 y.1, grC 3 y.1.n (evX y.1.l) y.1.sp, thD x5]) (fun _ => g5)
                (fun y => y.1.ok ∧ y.2 ≤ 3 ∧ y.1.l.length = min ((0) + y.2) N ∧ ((cuThree N (cC.at_ : Int) ((three x5).drop y.2) y.1.l).bind fun acc => (cuEvs N f2 acc).bind K2) c5 = M) (fun y => 3 - y.2) (⟨0, [], capV, spV⟩, 0)
              · intro x; obtain ⟨⟨n, l, cap, sp⟩, i⟩ := x; cases n <;> kernel_rfl
              · exact ⟨⟨hlC, hoC⟩, Nat.zero_le _, by show ([] : List Int).length = min ((0 : Nat) + 0) N; omega, hM⟩
              · exact ⟨rfl, trivial⟩
              · rfl
              · rfl
              · clear hM
                intro y hy
                obtain ⟨⟨nD, lD, capD, spD⟩, i⟩ := y
                obtain ⟨⟨hlD, hoD⟩, hi, hmD, hM⟩ := hy
                dsimp only at hlD hoD hi hmD hM
                rcases nD with _ | nD
                · obtain rfl : lD = [] := List.eq_nil_of_length_eq_zero hlD
                  refine bsplit_of (fun h => ?_) (fun h => ?_)
                  rotate_left
                  · have h3 : i = 3 := by
                      have h : ¬ ((i : Int) < 3) := of_decide_eq_false h
                      omega
                    subst h3
                    have hM : ((cuEvs N f2 []).bind K2) c5 = M := hM
                    exact ⟨(⟨0, [], capD, spD⟩, f2, c5, g5), ⟨⟨hlD, hoD⟩, hC5, hs5, by show s.size < 2 * F + c5.at_; omega, by show N ≤ ([] : List Int).length + 3 * f2; omega, hM⟩, by show f2 < f2 + 1; omega, [0, 1, 2, 3, 4, 5], rfl, trivial, rfl, rfl, rfl, rfl⟩
                  have hi3 : i < 3 := by
                    have h : ((i : Int) < 3) := of_decide_eq_true h
                    omega
                  obtain ⟨e, hd, hv, hwe⟩ := thW_at hx5 hi3
                  rw [hd] at hM
                  refine ⟨⟨by show (0 : Int) ≤ ((i : Nat) : Int); omega, by show ((i : Nat) : Int) < ((3 : Nat) : Int); omega⟩, ?_⟩
                  refine load1_cV (c := thW x5) (x := .int .i64 (e : Int)) rfl (show (thW x5)[0 + ((i : Int)).toNat * 1]? = some (.int .i64 (e : Int)) from by rw [offN]; exact hv) ?_
                  refine bsplit_of (fun h4 => ?_) (fun h4 => ?_)
                  · have h4' : ([] : List Int).length < N := by
                      have h4 : ((0 : Nat) : Int) < (N : Int) := by rw [← hNr]; exact of_decide_eq_true h4
                      rw [hlD]; omega
                    rw [three_in _ _ _ _ _ _ h4'] at hM
                    refine ⟨by show 0 + 1 * 1 ≤ 1; decide, fun u hu => by simp at hu; subst hu; rfl, ?_⟩
                    refine ⟨by decide, fun cap2 sp2 k1 k2 k3 => ?_⟩
                    exact ⟨(⟨1, [(e : Int)], cap2, sp2⟩, i + 1), ⟨⟨rfl, gr_first rfl k1 k2 k3⟩, by show i + 1 ≤ 3; omega, by show [(e : Int)].length = min (_ + (i + 1)) N; simp at hmD ⊢; omega, hM⟩, by show 3 - (i + 1) < 3 - i; omega, [0, 1, 2, 3, 4, 8, 6], rfl, ⟨vi (show IntKind.i64.wrap ((i : Int) + 1) = ((i + 1 : Nat) : Int) from by rw [wrap_id (by omega) (by omega)]; omega), trivial⟩, rfl, rfl, rfl, rfl⟩
                  · have h4' : ¬ ([] : List Int).length < N := by
                      have h4 : ¬ ((0 : Nat) : Int) < (N : Int) := by rw [← hNr]; exact of_decide_eq_false h4
                      rw [hlD]; omega
                    rw [three_out _ _ _ _ _ _ h4'] at hM
                    refine bsplit_of (fun h5 => ?_) (fun h5 => ?_)
                    · have h5' : 0 < e := by have h5 : ((e : Int) > 0) := of_decide_eq_true h5; omega
                      rw [decide_eq_true h5'] at hM
                      have hM : CR.thr 15 (cC.at_ : Int) c5 = M := hM
                      refine (throw_k hC5 15 cC.at_ hpC).callS [2] 7 rfl rfl rfl rfl ?_
                      rintro o L1 gT ⟨rfl, rfl, hgT⟩ _
                      subst gT
                      subst hM
                      refine recx_of Tryd.func59 rfl x59_ok ?_
                      refine defx_of Tryd.func58 rfl x58_ok ?_
                      refine (is_c 15 _ _).call rfl rfl rfl ?_
                      refine ⟨[], ?_, rfl, (le_trans hbase hC5.1)⟩
                      rw [Int.zero_add]
                      rfl
                    · have h5' : ¬ 0 < e := by have h5 : ¬ ((e : Int) > 0) := of_decide_eq_false h5; omega
                      rw [decide_eq_false h5'] at hM
                      exact ⟨(⟨0, [], capD, spD⟩, i + 1), ⟨⟨hlD, hoD⟩, by show i + 1 ≤ 3; omega, by show ([] : List Int).length = min (_ + (i + 1)) N; omega, hM⟩, by show 3 - (i + 1) < 3 - i; omega, [0, 1, 2, 3, 4, 5, 6], rfl, ⟨vi (show IntKind.i64.wrap ((i : Int) + 1) = ((i + 1 : Nat) : Int) from by rw [wrap_id (by omega) (by omega)]; omega), trivial⟩, rfl, rfl, rfl, rfl⟩
                ·
                  refine bsplit_of (fun h => ?_) (fun h => ?_)
                  rotate_left
                  · have h3 : i = 3 := by
                      have h : ¬ ((i : Int) < 3) := of_decide_eq_false h
                      omega
                    subst h3
                    have hM : ((cuEvs N f2 lD).bind K2) c5 = M := hM
                    exact ⟨(⟨nD + 1, lD, capD, spD⟩, f2, c5, g5), ⟨⟨hlD, hoD⟩, hC5, hs5, by show s.size < 2 * F + c5.at_; omega, by show N ≤ (lD : List Int).length + 3 * f2; omega, hM⟩, by show f2 < f2 + 1; omega, [0, 1, 2, 3, 4, 5], rfl, trivial, rfl, rfl, rfl, rfl⟩
                  have hi3 : i < 3 := by
                    have h : ((i : Int) < 3) := of_decide_eq_true h
                    omega
                  obtain ⟨e, hd, hv, hwe⟩ := thW_at hx5 hi3
                  rw [hd] at hM
                  refine ⟨⟨by show (0 : Int) ≤ ((i : Nat) : Int); omega, by show ((i : Nat) : Int) < ((3 : Nat) : Int); omega⟩, ?_⟩
                  refine load1_cV (c := thW x5) (x := .int .i64 (e : Int)) rfl (show (thW x5)[0 + ((i : Int)).toNat * 1]? = some (.int .i64 (e : Int)) from by rw [offN]; exact hv) ?_
                  refine bsplit_of (fun h4 => ?_) (fun h4 => ?_)
                  · have h4' : (lD : List Int).length < N := by
                      have h4 : ((nD + 1 : Nat) : Int) < (N : Int) := by rw [← hNr]; exact of_decide_eq_true h4
                      rw [hlD]; omega
                    rw [three_in _ _ _ _ _ _ h4'] at hM
                    have g1 := gr_bounds hoD
                    refine ⟨by show 0 + 1 * 1 ≤ 1; decide, fun u hu => by simp at hu; subst hu; rfl, ?_⟩
                    refine ⟨evX lD, spD, rfl, g1.1, ⟨g1.2.1, g1.2.2.1, g1.2.2.2⟩, by omega, fun cap2 sp2 k1 k2 k3 => ?_⟩
                    refine ⟨(⟨nD + 1 + 1, lD ++ [(e : Int)], cap2, sp2⟩, i + 1), ⟨⟨by simp [hlD], by rw [evX_snoc]; exact gr_next hoD rfl k1 k2 k3⟩, by show i + 1 ≤ 3; omega, by show (lD ++ [(e : Int)]).length = min (_ + (i + 1)) N; rw [List.length_append, hmD]; simp; omega, hM⟩, by show 3 - (i + 1) < 3 - i; omega, [0, 1, 2, 3, 4, 8, 6], rfl, ⟨vi (show IntKind.i64.wrap ((i : Int) + 1) = ((i + 1 : Nat) : Int) from by rw [wrap_id (by omega) (by omega)]; omega), trivial⟩, ?_, rfl, rfl, rfl⟩
                    exact seven (show evX lD ++ ([.int .i64 e] ++ sp2) = evX (lD ++ [(e : Int)]) ++ sp2 by rw [evX_snoc, List.append_assoc])
                  · have h4' : ¬ (lD : List Int).length < N := by
                      have h4 : ¬ ((nD + 1 : Nat) : Int) < (N : Int) := by rw [← hNr]; exact of_decide_eq_false h4
                      rw [hlD]; omega
                    rw [three_out _ _ _ _ _ _ h4'] at hM
                    refine bsplit_of (fun h5 => ?_) (fun h5 => ?_)
                    · have h5' : 0 < e := by have h5 : ((e : Int) > 0) := of_decide_eq_true h5; omega
                      rw [decide_eq_true h5'] at hM
                      have hM : CR.thr 15 (cC.at_ : Int) c5 = M := hM
                      refine (throw_k hC5 15 cC.at_ hpC).callS [2] 7 rfl rfl rfl rfl ?_
                      rintro o L1 gT ⟨rfl, rfl, hgT⟩ _
                      subst gT
                      subst hM
                      refine recx_of Tryd.func59 rfl x59_ok ?_
                      refine defx_of Tryd.func58 rfl x58_ok ?_
                      refine (is_c 15 _ _).call rfl rfl rfl ?_
                      refine ⟨[], ?_, rfl, (le_trans hbase hC5.1)⟩
                      rw [Int.zero_add]
                      rfl
                    · have h5' : ¬ 0 < e := by have h5 : ¬ ((e : Int) > 0) := of_decide_eq_false h5; omega
                      rw [decide_eq_false h5'] at hM
                      exact ⟨(⟨nD + 1, lD, capD, spD⟩, i + 1), ⟨⟨hlD, hoD⟩, by show i + 1 ≤ 3; omega, by show (lD : List Int).length = min (_ + (i + 1)) N; omega, hM⟩, by show 3 - (i + 1) < 3 - i; omega, [0, 1, 2, 3, 4, 5, 6], rfl, ⟨vi (show IntKind.i64.wrap ((i : Int) + 1) = ((i + 1 : Nat) : Int) from by rw [wrap_id (by omega) (by omega)]; omega), trivial⟩, rfl, rfl, rfl, rfl⟩
              all_goals
                obtain ⟨rfl, rfl, hle, he⟩ := hq
                subst hM
                refine recx_of Tryd.func59 rfl x59_ok ?_
                refine defx_of Tryd.func58 rfl x58_ok ?_
                refine (is_c e _ _).call rfl rfl rfl ?_
                refine bsplit_of (fun _ => ?_) (fun k => absurd k (by simp [he]))
                exact ⟨[], rfl, rfl, le_trans hbase hle⟩
            ·
              refine bsplit_of (fun h => ?_) (fun h => ?_)
              rotate_left
              · have hge : ¬ (lV : List Int).length < N := by
                  have h : ¬ (((nV + 1 : Nat) : Int) < (N : Int)) := by rw [← hNr]; exact of_decide_eq_false h
                  rw [hlC]; omega
                rw [evs_end _ _ _ _ hge, ← hK2] at hM
                change TurnW _ _ _ _ _ _
                rcases lV with _ | ⟨eV, tV⟩
                · cases hlC
                obtain rfl : nV = tV.length := by simpa using hlC.symm
                refine turn_freeze 5 3 (evX (eV :: tV) ++ spV) (.inl rfl) fun b g' hle hat => ?_
                have hEv : EvsOk g' (⟨la, (x4 : Int), ⟨some ⟨b, 0, none⟩, eV :: tV, capV⟩⟩ : AttrV).events := (slice_at hoC hat)
                have hCR : CuAt gB 0 g' cC := ⟨le_trans hCC.1 hle, hCC.2⟩
                refine (mvRightR_c ⟨la, (x4 : Int), ⟨some ⟨b, 0, none⟩, eV :: tV, capV⟩⟩ _ hEv ⟨by show (0 : Int) ≤ x4; omega, by show (x4 : Int) ≤ 65535; omega⟩).call rfl rfl rfl ?_
                have hM : ((cuThrow (!attB (⟨la, (x4 : Int), ⟨some ⟨b, 0, none⟩, eV :: tV, capV⟩⟩ : AttrV).p) 2 (cB.at_ : Int)).bind fun _ => (cuStep (cL.at_ : Int) f (([] : List AttrV).map AttrV.p) (some (⟨la, (x4 : Int), ⟨some ⟨b, 0, none⟩, eV :: tV, capV⟩⟩ : AttrV).p)).bind (cuMsgs F)) cC = M := hM
                refine bsplit_of (fun h => ?_) (fun h => ?_)
                · have h : (!attB (⟨la, (x4 : Int), ⟨some ⟨b, 0, none⟩, eV :: tV, capV⟩⟩ : AttrV).p) = true := h
                  rw [h] at hM
                  have hM : CR.thr 2 (cB.at_ : Int) cC = M := hM
                  refine (throw_k hCR 2 cB.at_ hpB).callS [2] 6 rfl rfl rfl rfl ?_
                  rintro o L1 gT ⟨rfl, rfl, hgT⟩ _
                  subst gT
                  subst hM
                  refine recx_of Tryd.func59 rfl x59_ok ?_
                  refine defx_of Tryd.func58 rfl x58_ok ?_
                  refine (is_c 2 _ _).call rfl rfl rfl ?_
                  refine ⟨[], ?_, rfl, (le_trans hbase hCR.1)⟩
                  rw [Int.zero_add]
                  rfl
                · have h : (!attB (⟨la, (x4 : Int), ⟨some ⟨b, 0, none⟩, eV :: tV, capV⟩⟩ : AttrV).p) = false := h
                  rw [h] at hM
                  have hM : ((cuStep (cL.at_ : Int) f (([] : List AttrV).map AttrV.p) (some (⟨la, (x4 : Int), ⟨some ⟨b, 0, none⟩, eV :: tV, capV⟩⟩ : AttrV).p)).bind (cuMsgs F)) cC = M := hM
                  rw [cuStep, CM.bind_assoc] at hM
                  refine ⟨by show 0 + 1 * 3 ≤ 3; decide, fun u hu => by simp at hu; rcases hu with rfl | rfl | rfl <;> rfl, ?_⟩
                  refine ⟨by decide, fun cap2 sp2 k1 k2 k3 => ?_⟩
                  have hM : ((cuAttrs (cL.at_ : Int) f ([] ++ [(⟨la, (x4 : Int), ⟨some ⟨b, 0, none⟩, eV :: tV, capV⟩⟩ : AttrV).p])).bind (cuMsgs F)) cC = M := hM
                  exact ⟨(⟨1, [⟨la, (x4 : Int), ⟨some ⟨b, 0, none⟩, eV :: tV, capV⟩⟩], cap2, sp2⟩, f, cC, g'), ⟨⟨rfl, gr_first rfl k1 k2 k3⟩, allEv.mono (allEv.snoc (l := []) (fun _ h => by simp at h) hEv) (le_refl _), ⟨le_trans hbase hCR.1, hCR.2⟩, hsC, (by decide : 1 ≤ 40), by show 45 ≤ f + 1; omega, by show s.size < 2 * F + cC.at_; omega, hM⟩, by show f < f + 1; omega, [0, 1, 2, 7], rfl, trivial, rfl, rfl, rfl, rfl⟩
              have hlt : (lV : List Int).length < N := by
                have h : (((nV + 1 : Nat) : Int) < (N : Int)) := by rw [← hNr]; exact of_decide_eq_true h
                rw [hlC]; omega
              obtain ⟨f2, rfl⟩ : ∃ j, f2 = j + 1 := ⟨f2 - 1, by omega⟩
              rw [evs_flat _ _ _ _ hlt, CM.bind_ok (show cuAt cC = .ok (cC.off + cC.at_) cC from rfl), ← hbC] at hM
              refine (cnum_k hCC 1 (by decide)).callS [2] 6 rfl rfl rfl rfl ?_
              intro o L1 g5 hq _
              rcases hx : cuNum 1 cC with ⟨x5, c5⟩ | ⟨e, pl, cx⟩ <;> rw [hx] at hq <;> first | rw [CM.bind_ok hx] at hM | rw [CM.bind_thr hx] at hM
              obtain ⟨rfl, rfl, hC5⟩ := hq
              have hx5 : x5 < 256 := cuNum_lt hx
              have hf5 := cuNum_fwd hx
              have hs5 : c5.s = s := by rw [hf5]; exact hsC
              have ha5 : c5.at_ = cC.at_ + 1 := by rw [hf5]; rfl
              refine bsplit_of (fun h => ?_) (fun h => ?_)
              · have h : 215 < x5 := by have h : ((x5 : Int) > 215) := of_decide_eq_true h; omega
                rw [decide_eq_true h] at hM
                have hM : CR.thr 2 (cC.at_ : Int) c5 = M := hM
                refine (throw_k hC5 2 cC.at_ hpC).callS [2] 6 rfl rfl rfl rfl ?_
                rintro o L1 gT ⟨rfl, rfl, hgT⟩ _
                subst gT
                subst hM
                refine recx_of Tryd.func59 rfl x59_ok ?_
                refine defx_of Tryd.func58 rfl x58_ok ?_
                refine (is_c 2 _ _).call rfl rfl rfl ?_
                refine ⟨[], ?_, rfl, (le_trans hbase hC5.1)⟩
                rw [Int.zero_add]
                rfl
              have h : ¬ 215 < x5 := by have h : ¬ ((x5 : Int) > 215) := of_decide_eq_false h; omega
              rw [decide_eq_false h] at hM
              refine ⟨by decide, by decide, by decide, by decide, ?_⟩
              change LoopW _ _ _ _ _ _ _ _ _
              apply loop_rule [5] (α := EvSt × Nat) (fun y => [(101, .v (.int .i64 y.2))]) (fun y => [atlC (0) cap, fltC, cuC c5, grC 156 (0) (atX []) sp, atC la x4 5 y.1, grC 3 y.1.n (evX y.1.l) y.1.sp, thD x5]) (fun _ => g5)
                (fun y => y.1.ok ∧ y.2 ≤ 3 ∧ y.1.l.length = min ((nV + 1) + y.2) N ∧ ((cuThree N (cC.at_ : Int) ((three x5).drop y.2) y.1.l).bind fun acc => (cuEvs N f2 acc).bind K2) c5 = M) (fun y => 3 - y.2) (⟨nV + 1, lV, capV, spV⟩, 0)
              · intro x; obtain ⟨⟨n, l, cap, sp⟩, i⟩ := x; cases n <;> kernel_rfl
              · exact ⟨⟨hlC, hoC⟩, Nat.zero_le _, by show (lV : List Int).length = min ((nV + 1 : Nat) + 0) N; omega, hM⟩
              · exact ⟨rfl, trivial⟩
              · rfl
              · rfl
              · clear hM
                intro y hy
                obtain ⟨⟨nD, lD, capD, spD⟩, i⟩ := y
                obtain ⟨⟨hlD, hoD⟩, hi, hmD, hM⟩ := hy
                dsimp only at hlD hoD hi hmD hM
                rcases nD with _ | nD
                · obtain rfl : lD = [] := List.eq_nil_of_length_eq_zero hlD
                  refine bsplit_of (fun h => ?_) (fun h => ?_)
                  rotate_left
                  · have h3 : i = 3 := by
                      have h : ¬ ((i : Int) < 3) := of_decide_eq_false h
                      omega
                    subst h3
                    have hM : ((cuEvs N f2 []).bind K2) c5 = M := hM
                    exact ⟨(⟨0, [], capD, spD⟩, f2, c5, g5), ⟨⟨hlD, hoD⟩, hC5, hs5, by show s.size < 2 * F + c5.at_; omega, by show N ≤ ([] : List Int).length + 3 * f2; omega, hM⟩, by show f2 < f2 + 1; omega, [0, 1, 2, 3, 4, 5], rfl, trivial, rfl, rfl, rfl, rfl⟩
                  have hi3 : i < 3 := by
                    have h : ((i : Int) < 3) := of_decide_eq_true h
                    omega
                  obtain ⟨e, hd, hv, hwe⟩ := thW_at hx5 hi3
                  rw [hd] at hM
                  refine ⟨⟨by show (0 : Int) ≤ ((i : Nat) : Int); omega, by show ((i : Nat) : Int) < ((3 : Nat) : Int); omega⟩, ?_⟩
                  refine load1_cV (c := thW x5) (x := .int .i64 (e : Int)) rfl (show (thW x5)[0 + ((i : Int)).toNat * 1]? = some (.int .i64 (e : Int)) from by rw [offN]; exact hv) ?_
                  refine bsplit_of (fun h4 => ?_) (fun h4 => ?_)
                  · have h4' : ([] : List Int).length < N := by
                      have h4 : ((0 : Nat) : Int) < (N : Int) := by rw [← hNr]; exact of_decide_eq_true h4
                      rw [hlD]; omega
                    rw [three_in _ _ _ _ _ _ h4'] at hM
                    refine ⟨by show 0 + 1 * 1 ≤ 1; decide, fun u hu => by simp at hu; subst hu; rfl, ?_⟩
                    refine ⟨by decide, fun cap2 sp2 k1 k2 k3 => ?_⟩
                    exact ⟨(⟨1, [(e : Int)], cap2, sp2⟩, i + 1), ⟨⟨rfl, gr_first rfl k1 k2 k3⟩, by show i + 1 ≤ 3; omega, by show [(e : Int)].length = min (_ + (i + 1)) N; simp at hmD ⊢; omega, hM⟩, by show 3 - (i + 1) < 3 - i; omega, [0, 1, 2, 3, 4, 8, 6], rfl, ⟨vi (show IntKind.i64.wrap ((i : Int) + 1) = ((i + 1 : Nat) : Int) from by rw [wrap_id (by omega) (by omega)]; omega), trivial⟩, rfl, rfl, rfl, rfl⟩
                  · have h4' : ¬ ([] : List Int).length < N := by
                      have h4 : ¬ ((0 : Nat) : Int) < (N : Int) := by rw [← hNr]; exact of_decide_eq_false h4
                      rw [hlD]; omega
                    rw [three_out _ _ _ _ _ _ h4'] at hM
                    refine bsplit_of (fun h5 => ?_) (fun h5 => ?_)
                    · have h5' : 0 < e := by have h5 : ((e : Int) > 0) := of_decide_eq_true h5; omega
                      rw [decide_eq_true h5'] at hM
                      have hM : CR.thr 15 (cC.at_ : Int) c5 = M := hM
                      refine (throw_k hC5 15 cC.at_ hpC).callS [2] 7 rfl rfl rfl rfl ?_
                      rintro o L1 gT ⟨rfl, rfl, hgT⟩ _
                      subst gT
                      subst hM
                      refine recx_of Tryd.func59 rfl x59_ok ?_
                      refine defx_of Tryd.func58 rfl x58_ok ?_
                      refine (is_c 15 _ _).call rfl rfl rfl ?_
                      refine ⟨[], ?_, rfl, (le_trans hbase hC5.1)⟩
                      rw [Int.zero_add]
                      rfl
                    · have h5' : ¬ 0 < e := by have h5 : ¬ ((e : Int) > 0) := of_decide_eq_false h5; omega
                      rw [decide_eq_false h5'] at hM
                      exact ⟨(⟨0, [], capD, spD⟩, i + 1), ⟨⟨hlD, hoD⟩, by show i + 1 ≤ 3; omega, by show ([] : List Int).length = min (_ + (i + 1)) N; omega, hM⟩, by show 3 - (i + 1) < 3 - i; omega, [0, 1, 2, 3, 4, 5, 6], rfl, ⟨vi (show IntKind.i64.wrap ((i : Int) + 1) = ((i + 1 : Nat) : Int) from by rw [wrap_id (by omega) (by omega)]; omega), trivial⟩, rfl, rfl, rfl, rfl⟩
                ·
                  refine bsplit_of (fun h => ?_) (fun h => ?_)
                  rotate_left
                  · have h3 : i = 3 := by
                      have h : ¬ ((i : Int) < 3) := of_decide_eq_false h
                      omega
                    subst h3
                    have hM : ((cuEvs N f2 lD).bind K2) c5 = M := hM
                    exact ⟨(⟨nD + 1, lD, capD, spD⟩, f2, c5, g5), ⟨⟨hlD, hoD⟩, hC5, hs5, by show s.size < 2 * F + c5.at_; omega, by show N ≤ (lD : List Int).length + 3 * f2; omega, hM⟩, by show f2 < f2 + 1; omega, [0, 1, 2, 3, 4, 5], rfl, trivial, rfl, rfl, rfl, rfl⟩
                  have hi3 : i < 3 := by
                    have h : ((i : Int) < 3) := of_decide_eq_true h
                    omega
                  obtain ⟨e, hd, hv, hwe⟩ := thW_at hx5 hi3
                  rw [hd] at hM
                  refine ⟨⟨by show (0 : Int) ≤ ((i : Nat) : Int); omega, by show ((i : Nat) : Int) < ((3 : Nat) : Int); omega⟩, ?_⟩
                  refine load1_cV (c := thW x5) (x := .int .i64 (e : Int)) rfl (show (thW x5)[0 + ((i : Int)).toNat * 1]? = some (.int .i64 (e : Int)) from by rw [offN]; exact hv) ?_
                  refine bsplit_of (fun h4 => ?_) (fun h4 => ?_)
                  · have h4' : (lD : List Int).length < N := by
                      have h4 : ((nD + 1 : Nat) : Int) < (N : Int) := by rw [← hNr]; exact of_decide_eq_true h4
                      rw [hlD]; omega
                    rw [three_in _ _ _ _ _ _ h4'] at hM
                    have g1 := gr_bounds hoD
                    refine ⟨by show 0 + 1 * 1 ≤ 1; decide, fun u hu => by simp at hu; subst hu; rfl, ?_⟩
                    refine ⟨evX lD, spD, rfl, g1.1, ⟨g1.2.1, g1.2.2.1, g1.2.2.2⟩, by omega, fun cap2 sp2 k1 k2 k3 => ?_⟩
                    refine ⟨(⟨nD + 1 + 1, lD ++ [(e : Int)], cap2, sp2⟩, i + 1), ⟨⟨by simp [hlD], by rw [evX_snoc]; exact gr_next hoD rfl k1 k2 k3⟩, by show i + 1 ≤ 3; omega, by show (lD ++ [(e : Int)]).length = min (_ + (i + 1)) N; rw [List.length_append, hmD]; simp; omega, hM⟩, by show 3 - (i + 1) < 3 - i; omega, [0, 1, 2, 3, 4, 8, 6], rfl, ⟨vi (show IntKind.i64.wrap ((i : Int) + 1) = ((i + 1 : Nat) : Int) from by rw [wrap_id (by omega) (by omega)]; omega), trivial⟩, ?_, rfl, rfl, rfl⟩
                    exact seven (show evX lD ++ ([.int .i64 e] ++ sp2) = evX (lD ++ [(e : Int)]) ++ sp2 by rw [evX_snoc, List.append_assoc])
                  · have h4' : ¬ (lD : List Int).length < N := by
                      have h4 : ¬ ((nD + 1 : Nat) : Int) < (N : Int) := by rw [← hNr]; exact of_decide_eq_false h4
                      rw [hlD]; omega
                    rw [three_out _ _ _ _ _ _ h4'] at hM
                    refine bsplit_of (fun h5 => ?_) (fun h5 => ?_)
                    · have h5' : 0 < e := by have h5 : ((e : Int) > 0) := of_decide_eq_true h5; omega
                      rw [decide_eq_true h5'] at hM
                      have hM : CR.thr 15 (cC.at_ : Int) c5 = M := hM
                      refine (throw_k hC5 15 cC.at_ hpC).callS [2] 7 rfl rfl rfl rfl ?_
                      rintro o L1 gT ⟨rfl, rfl, hgT⟩ _
                      subst gT
                      subst hM
                      refine recx_of Tryd.func59 rfl x59_ok ?_
                      refine defx_of Tryd.func58 rfl x58_ok ?_
                      refine (is_c 15 _ _).call rfl rfl rfl ?_
                      refine ⟨[], ?_, rfl, (le_trans hbase hC5.1)⟩
                      rw [Int.zero_add]
                      rfl
                    · have h5' : ¬ 0 < e := by have h5 : ¬ ((e : Int) > 0) := of_decide_eq_false h5; omega
                      rw [decide_eq_false h5'] at hM
                      exact ⟨(⟨nD + 1, lD, capD, spD⟩, i + 1), ⟨⟨hlD, hoD⟩, by show i + 1 ≤ 3; omega, by show (lD : List Int).length = min (_ + (i + 1)) N; omega, hM⟩, by show 3 - (i + 1) < 3 - i; omega, [0, 1, 2, 3, 4, 5, 6], rfl, ⟨vi (show IntKind.i64.wrap ((i : Int) + 1) = ((i + 1 : Nat) : Int) from by rw [wrap_id (by omega) (by omega)]; omega), trivial⟩, rfl, rfl, rfl, rfl⟩
              all_goals
                obtain ⟨rfl, rfl, hle, he⟩ := hq
                subst hM
                refine recx_of Tryd.func59 rfl x59_ok ?_
                refine defx_of Tryd.func58 rfl x58_ok ?_
                refine (is_c e _ _).call rfl rfl rfl ?_
                refine bsplit_of (fun _ => ?_) (fun k => absurd k (by simp [he]))
                exact ⟨[], rfl, rfl, le_trans hbase hle⟩
          all_goals
            obtain ⟨rfl, rfl, hle, he⟩ := hq
            subst hM
            refine recx_of Tryd.func59 rfl x59_ok ?_
            refine defx_of Tryd.func58 rfl x58_ok ?_
            refine (is_c e _ _).call rfl rfl rfl ?_
            refine bsplit_of (fun _ => ?_) (fun k => absurd k (by simp [he]))
            exact ⟨[], rfl, rfl, le_trans hbase hle⟩
        ·
          have hbB : (cB.at_ : Int) = cB.off + cB.at_ := by rw [hCB.2.2]; omega
          have hpB : 0 ≤ (cB.at_ : Int) ∧ (cB.at_ : Int) ≤ 1000000000000 := hCB.at_lt
          obtain ⟨f, rfl⟩ : ∃ j, f = j + 1 := ⟨f - 1, by omega⟩
          rw [cuAttrs_succ, CM.bind_assoc, attr_flat, CM.bind_ok (show cuAt cB = .ok (cB.off + cB.at_) cB from rfl), ← hbB] at hM
          refine (cnum_k hCB 2 (by decide)).callS [2] 4 rfl rfl rfl rfl ?_
          intro o L1 g3 hq _
          rcases hx : cuNum 2 cB with ⟨x3, c3⟩ | ⟨e, pl, cx⟩ <;> rw [hx] at hq <;> first | rw [CM.bind_ok hx] at hM | rw [CM.bind_thr hx] at hM
          obtain ⟨rfl, rfl, hC3⟩ := hq
          have hx3 : x3 < 65536 := cuNum_lt hx
          have hf3 := cuNum_fwd hx
          have hs3 : c3.s = s := by rw [hf3]; exact hsB
          have ha3 : c3.at_ = cB.at_ + 2 := by rw [hf3]; rfl
          refine bsplit_of (fun (h : ((x3 : Int) == 0) = true) => ?_) (fun (h : ((x3 : Int) == 0) = false) => ?_)
          · have h0 : x3 = 0 := by have := eq_of_beq h; omega
            rw [if_pos h0] at hM
            have hM : cuMsgs F ((l : List AttrV).map AttrV.p) c3 = M := hM
            exact ⟨(⟨n + 1, l, cap, sp⟩, F, c3, g3), ⟨⟨hl, ho⟩, allEv.mono hal hC3.1, ⟨le_trans hbase hC3.1, hC3.2⟩, hs3, hn40, by show s.size < 2 * F + c3.at_; omega, hM⟩, by show F < F + 1; omega, [0, 1, 2, 3], rfl, trivial, rfl, rfl, rfl, rfl⟩
          have h0 : x3 ≠ 0 := by have := ne_of_beq_false h; omega
          rw [if_neg h0] at hM
          have hrem : ((x3 : Int).tmod 8192) = ((x3 % 8192 : Nat) : Int) := by rw [Int.tmod_eq_emod_of_nonneg (by omega)]; omega
          refine bsplit_of (fun (h1 : decide ((x3 : Int) ≥ 16384) = true) => ?_) (fun (h1 : decide ((x3 : Int) ≥ 16384) = false) => ?_)
          · have h1 := of_decide_eq_true h1
            have hb : attBad x3 = true := decide_eq_true (.inl (by omega))
            rw [hb] at hM
            have hM : CR.thr 2 (cB.at_ : Int) c3 = M := hM
            refine (throw_k hC3 2 cB.at_ hpB).callS [2] 4 rfl rfl rfl rfl ?_
            rintro o L1 gT ⟨rfl, rfl, hgT⟩ _
            subst gT
            subst hM
            refine recx_of Tryd.func59 rfl x59_ok ?_
            refine defx_of Tryd.func58 rfl x58_ok ?_
            refine (is_c 2 _ _).call rfl rfl rfl ?_
            refine ⟨[], ?_, rfl, (le_trans hbase hC3.1)⟩
            rw [Int.zero_add]
            rfl
          have h1 := of_decide_eq_false h1
          refine ⟨by decide, ?_⟩
          refine bsplit_of (fun h2 => ?_) (fun h2 => ?_)
          · have h2 : ((x3 % 8192 : Nat) : Int) > 400 := by rw [← hrem]; exact of_decide_eq_true h2
            have hb : attBad x3 = true := decide_eq_true (.inr (by omega))
            rw [hb] at hM
            have hM : CR.thr 2 (cB.at_ : Int) c3 = M := hM
            refine (throw_k hC3 2 cB.at_ hpB).callS [2] 4 rfl rfl rfl rfl ?_
            rintro o L1 gT ⟨rfl, rfl, hgT⟩ _
            subst gT
            subst hM
            refine recx_of Tryd.func59 rfl x59_ok ?_
            refine defx_of Tryd.func58 rfl x58_ok ?_
            refine (is_c 2 _ _).call rfl rfl rfl ?_
            refine ⟨[], ?_, rfl, (le_trans hbase hC3.1)⟩
            rw [Int.zero_add]
            rfl
          have h2 : ¬ ((x3 % 8192 : Nat) : Int) > 400 := by rw [← hrem]; exact of_decide_eq_false h2
          have hb : attBad x3 = false := decide_eq_false (by omega)
          rw [hb, CM.bind_ok (show cuThrow false 2 (cB.at_ : Int) c3 = .ok () c3 from rfl)] at hM
          obtain ⟨la, hla⟩ : ∃ la : Bool, decide ((x3 : Int) ≥ 8192) = la := ⟨_, rfl⟩
          have hla' : decide (8192 ≤ x3) = la := by
            rw [← hla, decide_eq_decide]; omega
          rw [hla'] at hM
          refine (cnum_k hC3 2 (by decide)).callS [2] 4 rfl rfl rfl rfl ?_
          intro o L1 g4 hq _
          rcases hx : cuNum 2 c3 with ⟨x4, c4⟩ | ⟨e, pl, cx⟩ <;> rw [hx] at hq <;> first | rw [CM.bind_ok hx] at hM | rw [CM.bind_thr hx] at hM
          obtain ⟨rfl, rfl, hC4⟩ := hq
          have hx4 : x4 < 65536 := cuNum_lt hx
          have hf4 := cuNum_fwd hx
          have hs4 : c4.s = s := by rw [hf4]; exact hs3
          have ha4 : c4.at_ = c3.at_ + 2 := by rw [hf4]; rfl
          refine ⟨by decide, ?_⟩
          obtain ⟨N, hN⟩ : ∃ N, x3 % 8192 = N := ⟨_, rfl⟩
          have hNr := hrem
          rw [hN] at hM hNr h2
          obtain ⟨K2, hK2⟩ : ∃ K2 : List Int → CM (List AttP), (fun evs => (cuThrow (!attB ⟨la, x4, evs⟩) 2 (cB.at_ : Int)).bind fun _ => (cuStep (cL.at_ : Int) f ((l : List AttrV).map AttrV.p) (some ⟨la, x4, evs⟩)).bind (cuMsgs F)) = K2 := ⟨_, rfl⟩
          have hM : (cuEvs N 134 []).bind K2 c4 = M := by rw [← hK2]; exact hM
          change LoopW _ _ _ _ _ _ _ _ _
          refine loop_gone ?_
          apply loop_rule [5] (α := EvSt × Nat × CurV × G) (fun _ => []) (fun y => [atlC (n + 1) cap, fltC, cuC y.2.2.1, grC 156 (n + 1) (atX l) sp, atC la x4 5 y.1, grC 3 y.1.n (evX y.1.l) y.1.sp]) (fun y => y.2.2.2)
            (fun y => y.1.ok ∧ CuAt gB 0 y.2.2.2 y.2.2.1 ∧ y.2.2.1.s = s ∧ s.size < 2 * F + y.2.2.1.at_ ∧ N ≤ y.1.l.length + 3 * y.2.1 ∧ ((cuEvs N y.2.1 y.1.l).bind K2) y.2.2.1 = M) (fun y => y.2.1) (⟨0, [], 0, []⟩, 134, c4, g4)
          · intro x; obtain ⟨⟨n, l, cap, sp⟩, f, c, g⟩ := x; cases n <;> kernel_rfl
          · exact ⟨⟨rfl, grOk.zero 1⟩, hC4, hs4, by show s.size < 2 * F + c4.at_; omega, by show N ≤ 0 + 3 * 134; omega, hM⟩
          · trivial
          · rw [← hla]; rfl
          · rfl
          · clear hM
            intro y hy
            obtain ⟨⟨nV, lV, capV, spV⟩, f2, cC, gC⟩ := y
            obtain ⟨⟨hlC, hoC⟩, hCC, hsC, haC, hf2, hM⟩ := hy
            dsimp only at hlC hoC hCC hsC haC hf2 hM
            have hbC : (cC.at_ : Int) = cC.off + cC.at_ := by rw [hCC.2.2]; omega
            have hpC : 0 ≤ (cC.at_ : Int) ∧ (cC.at_ : Int) ≤ 1000000000000 := hCC.at_lt
            rcases nV with _ | nV
            · obtain rfl : lV = [] := List.eq_nil_of_length_eq_zero hlC
              refine bsplit_of (fun h => ?_) (fun h => ?_)
              rotate_left
              · have hge : ¬ ([] : List Int).length < N := by
                  have h : ¬ (((0 : Nat) : Int) < (N : Int)) := by rw [← hNr]; exact of_decide_eq_false h
                  rw [hlC]; omega
                rw [evs_end _ _ _ _ hge, ← hK2] at hM
                change TurnW _ _ _ _ _ _
                refine turn_same ?_
                have hEv : EvsOk gC (⟨la, (x4 : Int), ⟨none, [], 0⟩⟩ : AttrV).events := (sliceV_nil _ _ _ _)
                have hCR : CuAt gB 0 gC cC := ⟨le_trans hCC.1 (le_refl gC), hCC.2⟩
                refine (mvRightR_c ⟨la, (x4 : Int), ⟨none, [], 0⟩⟩ _ hEv ⟨by show (0 : Int) ≤ x4; omega, by show (x4 : Int) ≤ 65535; omega⟩).call rfl rfl rfl ?_
                have hM : ((cuThrow (!attB (⟨la, (x4 : Int), ⟨none, [], 0⟩⟩ : AttrV).p) 2 (cB.at_ : Int)).bind fun _ => (cuStep (cL.at_ : Int) f ((l : List AttrV).map AttrV.p) (some (⟨la, (x4 : Int), ⟨none, [], 0⟩⟩ : AttrV).p)).bind (cuMsgs F)) cC = M := hM
                refine bsplit_of (fun h => ?_) (fun h => ?_)
                · have h : (!attB (⟨la, (x4 : Int), ⟨none, [], 0⟩⟩ : AttrV).p) = true := h
                  rw [h] at hM
                  have hM : CR.thr 2 (cB.at_ : Int) cC = M := hM
                  refine (throw_k hCR 2 cB.at_ hpB).callS [2] 6 rfl rfl rfl rfl ?_
                  rintro o L1 gT ⟨rfl, rfl, hgT⟩ _
                  subst gT
                  subst hM
                  refine recx_of Tryd.func59 rfl x59_ok ?_
                  refine defx_of Tryd.func58 rfl x58_ok ?_
                  refine (is_c 2 _ _).call rfl rfl rfl ?_
                  refine ⟨[], ?_, rfl, (le_trans hbase hCR.1)⟩
                  rw [Int.zero_add]
                  rfl
                · have h : (!attB (⟨la, (x4 : Int), ⟨none, [], 0⟩⟩ : AttrV).p) = false := h
                  rw [h] at hM
                  have hM : ((cuStep (cL.at_ : Int) f ((l : List AttrV).map AttrV.p) (some (⟨la, (x4 : Int), ⟨none, [], 0⟩⟩ : AttrV).p)).bind (cuMsgs F)) cC = M := hM
                  rw [cuStep, CM.bind_assoc] at hM
                  have g1 := gr_bounds ho
                  refine ⟨by show 0 + 1 * 3 ≤ 3; decide, fun u hu => by simp at hu; rcases hu with rfl | rfl | rfl <;> rfl, ?_⟩
                  refine ⟨atX l, sp, rfl, g1.1, ⟨g1.2.1, g1.2.2.1, g1.2.2.2⟩, by omega, fun cap2 sp2 k1 k2 k3 => ?_⟩
                  have hM : ((cuThrow (decide (40 < n + 1 + 1)) 4 (cL.at_ : Int)).bind fun _ => (cuAttrs (cL.at_ : Int) f ((l ++ [(⟨la, (x4 : Int), ⟨none, [], 0⟩⟩ : AttrV)]).map AttrV.p)).bind (cuMsgs F)) cC = M := by
                    rw [List.map_append, ← hM, List.length_map, hl]; rfl
                  refine bsplit_of (fun h6 => ?_) (fun h6 => ?_)
                  · have h6 : 40 < n + 1 + 1 := by have h6 := of_decide_eq_true h6; omega
                    rw [decide_eq_true h6] at hM
                    have hM : CR.thr 4 (cL.at_ : Int) cC = M := hM
                    refine (throw_k hCR 4 cL.at_ hpL).callS [2] 8 rfl rfl rfl rfl ?_
                    rintro o L1 gT ⟨rfl, rfl, hgT⟩ _
                    subst gT
                    subst hM
                    refine recx_of Tryd.func59 rfl x59_ok ?_
                    refine defx_of Tryd.func58 rfl x58_ok ?_
                    refine (is_c 4 _ _).call rfl rfl rfl ?_
                    refine ⟨[], ?_, rfl, (le_trans hbase hCR.1)⟩
                    rw [Int.zero_add]
                    rfl
                  · have h6 : ¬ 40 < n + 1 + 1 := by have h6 := of_decide_eq_false h6; omega
                    rw [decide_eq_false h6] at hM
                    have hM : ((cuAttrs (cL.at_ : Int) f ((l ++ [(⟨la, (x4 : Int), ⟨none, [], 0⟩⟩ : AttrV)]).map AttrV.p)).bind (cuMsgs F)) cC = M := hM
                    refine ⟨(⟨n + 1 + 1, l ++ [(⟨la, (x4 : Int), ⟨none, [], 0⟩⟩ : AttrV)], cap2, sp2⟩, f, cC, gC), ⟨⟨by simp [hl], by show grOk 3 (n + 1 + 1) cap2 (atX (l ++ [(⟨la, (x4 : Int), ⟨none, [], 0⟩⟩ : AttrV)])) sp2; rw [atX_snoc]; exact gr_next ho rfl k1 k2 k3⟩, allEv.snoc (allEv.mono hal hCR.1) hEv, ⟨le_trans hbase hCR.1, hCR.2⟩, hsC, by show n + 1 + 1 ≤ 40; omega, by show 45 ≤ f + (n + 1 + 1); omega, by show s.size < 2 * F + cC.at_; omega, hM⟩, by show f < f + 1; omega, [0, 1, 2, 7], rfl, trivial, ?_, rfl, rfl, rfl⟩
                    exact four (show atX l ++ ((⟨la, (x4 : Int), ⟨none, [], 0⟩⟩ : AttrV).cells ++ sp2) = atX (l ++ [(⟨la, (x4 : Int), ⟨none, [], 0⟩⟩ : AttrV)]) ++ sp2 by rw [atX_snoc, List.append_assoc])
              have hlt : ([] : List Int).length < N := by
                have h : (((0 : Nat) : Int) < (N : Int)) := by rw [← hNr]; exact of_decide_eq_true h
                rw [hlC]; omega
              obtain ⟨f2, rfl⟩ : ∃ j, f2 = j + 1 := ⟨f2 - 1, by omega⟩
              rw [evs_flat _ _ _ _ hlt, CM.bind_ok (show cuAt cC = .ok (cC.off + cC.at_) cC from rfl), ← hbC] at hM
              refine (cnum_k hCC 1 (by decide)).callS [2] 6 rfl rfl rfl rfl ?_
              intro o L1 g5 hq _
              rcases hx : cuNum 1 cC with ⟨x5, c5⟩ | ⟨e, pl, cx⟩ <;> rw [hx] at hq <;> first | rw [CM.bind_ok hx] at hM | rw [CM.bind_thr hx] at hM
              obtain ⟨rfl, rfl, hC5⟩ := hq
              have hx5 : x5 < 256 := cuNum_lt hx
              have hf5 := cuNum_fwd hx
              have hs5 : c5.s = s := by rw [hf5]; exact hsC
              have ha5 : c5.at_ = cC.at_ + 1 := by rw [hf5]; rfl
              refine bsplit_of (fun h => ?_) (fun h => ?_)
              · have h : 215 < x5 := by have h : ((x5 : Int) > 215) := of_decide_eq_true h; omega
                rw [decide_eq_true h] at hM
                have hM : CR.thr 2 (cC.at_ : Int) c5 = M := hM
                refine (throw_k hC5 2 cC.at_ hpC).callS [2] 6 rfl rfl rfl rfl ?_
                rintro o L1 gT ⟨rfl, rfl, hgT⟩ _
                subst gT
                subst hM
                refine recx_of Tryd.func59 rfl x59_ok ?_
                refine defx_of Tryd.func58 rfl x58_ok ?_
                refine (is_c 2 _ _).call rfl rfl rfl ?_
                refine ⟨[], ?_, rfl, (le_trans hbase hC5.1)⟩
                rw [Int.zero_add]
                rfl
              have h : ¬ 215 < x5 := by have h : ¬ ((x5 : Int) > 215) := of_decide_eq_false h; omega
              rw [decide_eq_false h] at hM
              refine ⟨by decide, by decide, by decide, by decide, ?_⟩
              change LoopW _ _ _ _ _ _ _ _ _
              apply loop_rule [5] (α := EvSt × Nat) (fun y => [(101, .v (.int .i64 y.2))]) (fun y => [atlC (n + 1) cap, fltC, cuC c5, grC 156 (n + 1) (atX l) sp, atC la x4 5 y.1, grC 3 y.1.n (evX y.1.l) y.1.sp, thD x5]) (fun _ => g5)
                (fun y => y.1.ok ∧ y.2 ≤ 3 ∧ y.1.l.length = min ((0) + y.2) N ∧ ((cuThree N (cC.at_ : Int) ((three x5).drop y.2) y.1.l).bind fun acc => (cuEvs N f2 acc).bind K2) c5 = M) (fun y => 3 - y.2) (⟨0, [], capV, spV⟩, 0)
              · intro x; obtain ⟨⟨n, l, cap, sp⟩, i⟩ := x; cases n <;> kernel_rfl
              · exact ⟨⟨hlC, hoC⟩, Nat.zero_le _, by show ([] : List Int).length = min ((0 : Nat) + 0) N; omega, hM⟩
              · exact ⟨rfl, trivial⟩
              · rfl
              · rfl
              · clear hM
                intro y hy
                obtain ⟨⟨nD, lD, capD, spD⟩, i⟩ := y
                obtain ⟨⟨hlD, hoD⟩, hi, hmD, hM⟩ := hy
                dsimp only at hlD hoD hi hmD hM
                rcases nD with _ | nD
                · obtain rfl : lD = [] := List.eq_nil_of_length_eq_zero hlD
                  refine bsplit_of (fun h => ?_) (fun h => ?_)
                  rotate_left
                  · have h3 : i = 3 := by
                      have h : ¬ ((i : Int) < 3) := of_decide_eq_false h
                      omega
                    subst h3
                    have hM : ((cuEvs N f2 []).bind K2) c5 = M := hM
                    exact ⟨(⟨0, [], capD, spD⟩, f2, c5, g5), ⟨⟨hlD, hoD⟩, hC5, hs5, by show s.size < 2 * F + c5.at_; omega, by show N ≤ ([] : List Int).length + 3 * f2; omega, hM⟩, by show f2 < f2 + 1; omega, [0, 1, 2, 3, 4, 5], rfl, trivial, rfl, rfl, rfl, rfl⟩
                  have hi3 : i < 3 := by
                    have h : ((i : Int) < 3) := of_decide_eq_true h
                    omega
                  obtain ⟨e, hd, hv, hwe⟩ := thW_at hx5 hi3
                  rw [hd] at hM
                  refine ⟨⟨by show (0 : Int) ≤ ((i : Nat) : Int); omega, by show ((i : Nat) : Int) < ((3 : Nat) : Int); omega⟩, ?_⟩
                  refine load1_cV (c := thW x5) (x := .int .i64 (e : Int)) rfl (show (thW x5)[0 + ((i : Int)).toNat * 1]? = some (.int .i64 (e : Int)) from by rw [offN]; exact hv) ?_
                  refine bsplit_of (fun h4 => ?_) (fun h4 => ?_)
                  · have h4' : ([] : List Int).length < N := by
                      have h4 : ((0 : Nat) : Int) < (N : Int) := by rw [← hNr]; exact of_decide_eq_true h4
                      rw [hlD]; omega
                    rw [three_in _ _ _ _ _ _ h4'] at hM
                    refine ⟨by show 0 + 1 * 1 ≤ 1; decide, fun u hu => by simp at hu; subst hu; rfl, ?_⟩
                    refine ⟨by decide, fun cap2 sp2 k1 k2 k3 => ?_⟩
                    exact ⟨(⟨1, [(e : Int)], cap2, sp2⟩, i + 1), ⟨⟨rfl, gr_first rfl k1 k2 k3⟩, by show i + 1 ≤ 3; omega, by show [(e : Int)].length = min (_ + (i + 1)) N; simp at hmD ⊢; omega, hM⟩, by show 3 - (i + 1) < 3 - i; omega, [0, 1, 2, 3, 4, 8, 6], rfl, ⟨vi (show IntKind.i64.wrap ((i : Int) + 1) = ((i + 1 : Nat) : Int) from by rw [wrap_id (by omega) (by omega)]; omega), trivial⟩, rfl, rfl, rfl, rfl⟩
                  · have h4' : ¬ ([] : List Int).length < N := by
                      have h4 : ¬ ((0 : Nat) : Int) < (N : Int) := by rw [← hNr]; exact of_decide_eq_false h4
                      rw [hlD]; omega
                    rw [three_out _ _ _ _ _ _ h4'] at hM
                    refine bsplit_of (fun h5 => ?_) (fun h5 => ?_)
                    · have h5' : 0 < e := by have h5 : ((e : Int) > 0) := of_decide_eq_true h5; omega
                      rw [decide_eq_true h5'] at hM
                      have hM : CR.thr 15 (cC.at_ : Int) c5 = M := hM
                      refine (throw_k hC5 15 cC.at_ hpC).callS [2] 7 rfl rfl rfl rfl ?_
                      rintro o L1 gT ⟨rfl, rfl, hgT⟩ _
                      subst gT
                      subst hM
                      refine recx_of Tryd.func59 rfl x59_ok ?_
                      refine defx_of Tryd.func58 rfl x58_ok ?_
                      refine (is_c 15 _ _).call rfl rfl rfl ?_
                      refine ⟨[], ?_, rfl, (le_trans hbase hC5.1)⟩
                      rw [Int.zero_add]
                      rfl
                    · have h5' : ¬ 0 < e := by have h5 : ¬ ((e : Int) > 0) := of_decide_eq_false h5; omega
                      rw [decide_eq_false h5'] at hM
                      exact ⟨(⟨0, [], capD, spD⟩, i + 1), ⟨⟨hlD, hoD⟩, by show i + 1 ≤ 3; omega, by show ([] : List Int).length = min (_ + (i + 1)) N; omega, hM⟩, by show 3 - (i + 1) < 3 - i; omega, [0, 1, 2, 3, 4, 5, 6], rfl, ⟨vi (show IntKind.i64.wrap ((i : Int) + 1) = ((i + 1 : Nat) : Int) from by rw [wrap_id (by omega) (by omega)]; omega), trivial⟩, rfl, rfl, rfl, rfl⟩
                ·
                  refine bsplit_of (fun h => ?_) (fun h => ?_)
                  rotate_left
                  · have h3 : i = 3 := by
                      have h : ¬ ((i : Int) < 3) := of_decide_eq_false h
                      omega
                    subst h3
                    have hM : ((cuEvs N f2 lD).bind K2) c5 = M := hM
                    exact ⟨(⟨nD + 1, lD, capD, spD⟩, f2, c5, g5), ⟨⟨hlD, hoD⟩, hC5, hs5, by show s.size < 2 * F + c5.at_; omega, by show N ≤ (lD : List Int).length + 3 * f2; omega, hM⟩, by show f2 < f2 + 1; omega, [0, 1, 2, 3, 4, 5], rfl, trivial, rfl, rfl, rfl, rfl⟩
                  have hi3 : i < 3 := by
                    have h : ((i : Int) < 3) := of_decide_eq_true h
                    omega
                  obtain ⟨e, hd, hv, hwe⟩ := thW_at hx5 hi3
                  rw [hd] at hM
                  refine ⟨⟨by show (0 : Int) ≤ ((i : Nat) : Int); omega, by show ((i : Nat) : Int) < ((3 : Nat) : Int); omega⟩, ?_⟩
                  refine load1_cV (c := thW x5) (x := .int .i64 (e : Int)) rfl (show (thW x5)[0 + ((i : Int)).toNat * 1]? = some (.int .i64 (e : Int)) from by rw [offN]; exact hv) ?_
                  refine bsplit_of (fun h4 => ?_) (fun h4 => ?_)
                  · have h4' : (lD : List Int).length < N := by
                      have h4 : ((nD + 1 : Nat) : Int) < (N : Int) := by rw [← hNr]; exact of_decide_eq_true h4
                      rw [hlD]; omega
                    rw [three_in _ _ _ _ _ _ h4'] at hM
                    have g1 := gr_bounds hoD
                    refine ⟨by show 0 + 1 * 1 ≤ 1; decide, fun u hu => by simp at hu; subst hu; rfl, ?_⟩
                    refine ⟨evX lD, spD, rfl, g1.1, ⟨g1.2.1, g1.2.2.1, g1.2.2.2⟩, by omega, fun cap2 sp2 k1 k2 k3 => ?_⟩
                    refine ⟨(⟨nD + 1 + 1, lD ++ [(e : Int)], cap2, sp2⟩, i + 1), ⟨⟨by simp [hlD], by rw [evX_snoc]; exact gr_next hoD rfl k1 k2 k3⟩, by show i + 1 ≤ 3; omega, by show (lD ++ [(e : Int)]).length = min (_ + (i + 1)) N; rw [List.length_append, hmD]; simp; omega, hM⟩, by show 3 - (i + 1) < 3 - i; omega, [0, 1, 2, 3, 4, 8, 6], rfl, ⟨vi (show IntKind.i64.wrap ((i : Int) + 1) = ((i + 1 : Nat) : Int) from by rw [wrap_id (by omega) (by omega)]; omega), trivial⟩, ?_, rfl, rfl, rfl⟩
                    exact seven (show evX lD ++ ([.int .i64 e] ++ sp2) = evX (lD ++ [(e : Int)]) ++ sp2 by rw [evX_snoc, List.append_assoc])
                  · have h4' : ¬ (lD : List Int).length < N := by
                      have h4 : ¬ ((nD + 1 : Nat) : Int) < (N : Int) := by rw [← hNr]; exact of_decide_eq_false h4
                      rw [hlD]; omega
                    rw [three_out _ _ _ _ _ _ h4'] at hM
                    refine bsplit_of (fun h5 => ?_) (fun h5 => ?_)
                    · have h5' : 0 < e := by have h5 : ((e : Int) > 0) := of_decide_eq_true h5; omega
                      rw [decide_eq_true h5'] at hM
                      have hM : CR.thr 15 (cC.at_ : Int) c5 = M := hM
                      refine (throw_k hC5 15 cC.at_ hpC).callS [2] 7 rfl rfl rfl rfl ?_
                      rintro o L1 gT ⟨rfl, rfl, hgT⟩ _
                      subst gT
                      subst hM
                      refine recx_of Tryd.func59 rfl x59_ok ?_
                      refine defx_of Tryd.func58 rfl x58_ok ?_
                      refine (is_c 15 _ _).call rfl rfl rfl ?_
                      refine ⟨[], ?_, rfl, (le_trans hbase hC5.1)⟩
                      rw [Int.zero_add]
                      rfl
                    · have h5' : ¬ 0 < e := by have h5 : ¬ ((e : Int) > 0) := of_decide_eq_false h5; omega
                      rw [decide_eq_false h5'] at hM
                      exact ⟨(⟨nD + 1, lD, capD, spD⟩, i + 1), ⟨⟨hlD, hoD⟩, by show i + 1 ≤ 3; omega, by show (lD : List Int).length = min (_ + (i + 1)) N; omega, hM⟩, by show 3 - (i + 1) < 3 - i; omega, [0, 1, 2, 3, 4, 5, 6], rfl, ⟨vi (show IntKind.i64.wrap ((i : Int) + 1) = ((i + 1 : Nat) : Int) from by rw [wrap_id (by omega) (by omega)]; omega), trivial⟩, rfl, rfl, rfl, rfl⟩
              all_goals
                obtain ⟨rfl, rfl, hle, he⟩ := hq
                subst hM
                refine recx_of Tryd.func59 rfl x59_ok ?_
                refine defx_of Tryd.func58 rfl x58_ok ?_
                refine (is_c e _ _).call rfl rfl rfl ?_
                refine bsplit_of (fun _ => ?_) (fun k => absurd k (by simp [he]))
                exact ⟨[], rfl, rfl, le_trans hbase hle⟩
            ·
              refine bsplit_of (fun h => ?_) (fun h => ?_)
              rotate_left
              · have hge : ¬ (lV : List Int).length < N := by
                  have h : ¬ (((nV + 1 : Nat) : Int) < (N : Int)) := by rw [← hNr]; exact of_decide_eq_false h
                  rw [hlC]; omega
                rw [evs_end _ _ _ _ hge, ← hK2] at hM
                change TurnW _ _ _ _ _ _
                rcases lV with _ | ⟨eV, tV⟩
                · cases hlC
                obtain rfl : nV = tV.length := by simpa using hlC.symm
                refine turn_freeze 5 3 (evX (eV :: tV) ++ spV) (.inl rfl) fun b g' hle hat => ?_
                have hEv : EvsOk g' (⟨la, (x4 : Int), ⟨some ⟨b, 0, none⟩, eV :: tV, capV⟩⟩ : AttrV).events := (slice_at hoC hat)
                have hCR : CuAt gB 0 g' cC := ⟨le_trans hCC.1 hle, hCC.2⟩
                refine (mvRightR_c ⟨la, (x4 : Int), ⟨some ⟨b, 0, none⟩, eV :: tV, capV⟩⟩ _ hEv ⟨by show (0 : Int) ≤ x4; omega, by show (x4 : Int) ≤ 65535; omega⟩).call rfl rfl rfl ?_
                have hM : ((cuThrow (!attB (⟨la, (x4 : Int), ⟨some ⟨b, 0, none⟩, eV :: tV, capV⟩⟩ : AttrV).p) 2 (cB.at_ : Int)).bind fun _ => (cuStep (cL.at_ : Int) f ((l : List AttrV).map AttrV.p) (some (⟨la, (x4 : Int), ⟨some ⟨b, 0, none⟩, eV :: tV, capV⟩⟩ : AttrV).p)).bind (cuMsgs F)) cC = M := hM
                refine bsplit_of (fun h => ?_) (fun h => ?_)
                · have h : (!attB (⟨la, (x4 : Int), ⟨some ⟨b, 0, none⟩, eV :: tV, capV⟩⟩ : AttrV).p) = true := h
                  rw [h] at hM
                  have hM : CR.thr 2 (cB.at_ : Int) cC = M := hM
                  refine (throw_k hCR 2 cB.at_ hpB).callS [2] 6 rfl rfl rfl rfl ?_
                  rintro o L1 gT ⟨rfl, rfl, hgT⟩ _
                  subst gT
                  subst hM
                  refine recx_of Tryd.func59 rfl x59_ok ?_
                  refine defx_of Tryd.func58 rfl x58_ok ?_
                  refine (is_c 2 _ _).call rfl rfl rfl ?_
                  refine ⟨[], ?_, rfl, (le_trans hbase hCR.1)⟩
                  rw [Int.zero_add]
                  rfl
                · have h : (!attB (⟨la, (x4 : Int), ⟨some ⟨b, 0, none⟩, eV :: tV, capV⟩⟩ : AttrV).p) = false := h
                  rw [h] at hM
                  have hM : ((cuStep (cL.at_ : Int) f ((l : List AttrV).map AttrV.p) (some (⟨la, (x4 : Int), ⟨some ⟨b, 0, none⟩, eV :: tV, capV⟩⟩ : AttrV).p)).bind (cuMsgs F)) cC = M := hM
                  rw [cuStep, CM.bind_assoc] at hM
                  have g1 := gr_bounds ho
                  refine ⟨by show 0 + 1 * 3 ≤ 3; decide, fun u hu => by simp at hu; rcases hu with rfl | rfl | rfl <;> rfl, ?_⟩
                  refine ⟨atX l, sp, rfl, g1.1, ⟨g1.2.1, g1.2.2.1, g1.2.2.2⟩, by omega, fun cap2 sp2 k1 k2 k3 => ?_⟩
                  have hM : ((cuThrow (decide (40 < n + 1 + 1)) 4 (cL.at_ : Int)).bind fun _ => (cuAttrs (cL.at_ : Int) f ((l ++ [(⟨la, (x4 : Int), ⟨some ⟨b, 0, none⟩, eV :: tV, capV⟩⟩ : AttrV)]).map AttrV.p)).bind (cuMsgs F)) cC = M := by
                    rw [List.map_append, ← hM, List.length_map, hl]; rfl
                  refine bsplit_of (fun h6 => ?_) (fun h6 => ?_)
                  · have h6 : 40 < n + 1 + 1 := by have h6 := of_decide_eq_true h6; omega
                    rw [decide_eq_true h6] at hM
                    have hM : CR.thr 4 (cL.at_ : Int) cC = M := hM
                    refine (throw_k hCR 4 cL.at_ hpL).callS [2] 8 rfl rfl rfl rfl ?_
                    rintro o L1 gT ⟨rfl, rfl, hgT⟩ _
                    subst gT
                    subst hM
                    refine recx_of Tryd.func59 rfl x59_ok ?_
                    refine defx_of Tryd.func58 rfl x58_ok ?_
                    refine (is_c 4 _ _).call rfl rfl rfl ?_
                    refine ⟨[], ?_, rfl, (le_trans hbase hCR.1)⟩
                    rw [Int.zero_add]
                    rfl
                  · have h6 : ¬ 40 < n + 1 + 1 := by have h6 := of_decide_eq_false h6; omega
                    rw [decide_eq_false h6] at hM
                    have hM : ((cuAttrs (cL.at_ : Int) f ((l ++ [(⟨la, (x4 : Int), ⟨some ⟨b, 0, none⟩, eV :: tV, capV⟩⟩ : AttrV)]).map AttrV.p)).bind (cuMsgs F)) cC = M := hM
                    refine ⟨(⟨n + 1 + 1, l ++ [(⟨la, (x4 : Int), ⟨some ⟨b, 0, none⟩, eV :: tV, capV⟩⟩ : AttrV)], cap2, sp2⟩, f, cC, g'), ⟨⟨by simp [hl], by show grOk 3 (n + 1 + 1) cap2 (atX (l ++ [(⟨la, (x4 : Int), ⟨some ⟨b, 0, none⟩, eV :: tV, capV⟩⟩ : AttrV)])) sp2; rw [atX_snoc]; exact gr_next ho rfl k1 k2 k3⟩, allEv.snoc (allEv.mono hal hCR.1) hEv, ⟨le_trans hbase hCR.1, hCR.2⟩, hsC, by show n + 1 + 1 ≤ 40; omega, by show 45 ≤ f + (n + 1 + 1); omega, by show s.size < 2 * F + cC.at_; omega, hM⟩, by show f < f + 1; omega, [0, 1, 2, 7], rfl, trivial, ?_, rfl, rfl, rfl⟩
                    exact four (show atX l ++ ((⟨la, (x4 : Int), ⟨some ⟨b, 0, none⟩, eV :: tV, capV⟩⟩ : AttrV).cells ++ sp2) = atX (l ++ [(⟨la, (x4 : Int), ⟨some ⟨b, 0, none⟩, eV :: tV, capV⟩⟩ : AttrV)]) ++ sp2 by rw [atX_snoc, List.append_assoc])
              have hlt : (lV : List Int).length < N := by
                have h : (((nV + 1 : Nat) : Int) < (N : Int)) := by rw [← hNr]; exact of_decide_eq_true h
                rw [hlC]; omega
              obtain ⟨f2, rfl⟩ : ∃ j, f2 = j + 1 := ⟨f2 - 1, by omega⟩
              rw [evs_flat _ _ _ _ hlt, CM.bind_ok (show cuAt cC = .ok (cC.off + cC.at_) cC from rfl), ← hbC] at hM
              refine (cnum_k hCC 1 (by decide)).callS [2] 6 rfl rfl rfl rfl ?_
              intro o L1 g5 hq _
              rcases hx : cuNum 1 cC with ⟨x5, c5⟩ | ⟨e, pl, cx⟩ <;> rw [hx] at hq <;> first | rw [CM.bind_ok hx] at hM | rw [CM.bind_thr hx] at hM
              obtain ⟨rfl, rfl, hC5⟩ := hq
              have hx5 : x5 < 256 := cuNum_lt hx
              have hf5 := cuNum_fwd hx
              have hs5 : c5.s = s := by rw [hf5]; exact hsC
              have ha5 : c5.at_ = cC.at_ + 1 := by rw [hf5]; rfl
              refine bsplit_of (fun h => ?_) (fun h => ?_)
              · have h : 215 < x5 := by have h : ((x5 : Int) > 215) := of_decide_eq_true h; omega
                rw [decide_eq_true h] at hM
                have hM : CR.thr 2 (cC.at_ : Int) c5 = M := hM
                refine (throw_k hC5 2 cC.at_ hpC).callS [2] 6 rfl rfl rfl rfl ?_
                rintro o L1 gT ⟨rfl, rfl, hgT⟩ _
                subst gT
                subst hM
                refine recx_of Tryd.func59 rfl x59_ok ?_
                refine defx_of Tryd.func58 rfl x58_ok ?_
                refine (is_c 2 _ _).call rfl rfl rfl ?_
                refine ⟨[], ?_, rfl, (le_trans hbase hC5.1)⟩
                rw [Int.zero_add]
                rfl
              have h : ¬ 215 < x5 := by have h : ¬ ((x5 : Int) > 215) := of_decide_eq_false h; omega
              rw [decide_eq_false h] at hM
              refine ⟨by decide, by decide, by decide, by decide, ?_⟩
              change LoopW _ _ _ _ _ _ _ _ _
              apply loop_rule [5] (α := EvSt × Nat) (fun y => [(101, .v (.int .i64 y.2))]) (fun y => [atlC (n + 1) cap, fltC, cuC c5, grC 156 (n + 1) (atX l) sp, atC la x4 5 y.1, grC 3 y.1.n (evX y.1.l) y.1.sp, thD x5]) (fun _ => g5)
                (fun y => y.1.ok ∧ y.2 ≤ 3 ∧ y.1.l.length = min ((nV + 1) + y.2) N ∧ ((cuThree N (cC.at_ : Int) ((three x5).drop y.2) y.1.l).bind fun acc => (cuEvs N f2 acc).bind K2) c5 = M) (fun y => 3 - y.2) (⟨nV + 1, lV, capV, spV⟩, 0)
              · intro x; obtain ⟨⟨n, l, cap, sp⟩, i⟩ := x; cases n <;> kernel_rfl
              · exact ⟨⟨hlC, hoC⟩, Nat.zero_le _, by show (lV : List Int).length = min ((nV + 1 : Nat) + 0) N; omega, hM⟩
              · exact ⟨rfl, trivial⟩
              · rfl
              · rfl
              · clear hM
                intro y hy
                obtain ⟨⟨nD, lD, capD, spD⟩, i⟩ := y
                obtain ⟨⟨hlD, hoD⟩, hi, hmD, hM⟩ := hy
                dsimp only at hlD hoD hi hmD hM
                rcases nD with _ | nD
                · obtain rfl : lD = [] := List.eq_nil_of_length_eq_zero hlD
                  refine bsplit_of (fun h => ?_) (fun h => ?_)
                  rotate_left
                  · have h3 : i = 3 := by
                      have h : ¬ ((i : Int) < 3) := of_decide_eq_false h
                      omega
                    subst h3
                    have hM : ((cuEvs N f2 []).bind K2) c5 = M := hM
                    exact ⟨(⟨0, [], capD, spD⟩, f2, c5, g5), ⟨⟨hlD, hoD⟩, hC5, hs5, by show s.size < 2 * F + c5.at_; omega, by show N ≤ ([] : List Int).length + 3 * f2; omega, hM⟩, by show f2 < f2 + 1; omega, [0, 1, 2, 3, 4, 5], rfl, trivial, rfl, rfl, rfl, rfl⟩
                  have hi3 : i < 3 := by
                    have h : ((i : Int) < 3) := of_decide_eq_true h
                    omega
                  obtain ⟨e, hd, hv, hwe⟩ := thW_at hx5 hi3
                  rw [hd] at hM
                  refine ⟨⟨by show (0 : Int) ≤ ((i : Nat) : Int); omega, by show ((i : Nat) : Int) < ((3 : Nat) : Int); omega⟩, ?_⟩
                  refine load1_cV (c := thW x5) (x := .int .i64 (e : Int)) rfl (show (thW x5)[0 + ((i : Int)).toNat * 1]? = some (.int .i64 (e : Int)) from by rw [offN]; exact hv) ?_
                  refine bsplit_of (fun h4 => ?_) (fun h4 => ?_)
                  · have h4' : ([] : List Int).length < N := by
                      have h4 : ((0 : Nat) : Int) < (N : Int) := by rw [← hNr]; exact of_decide_eq_true h4
                      rw [hlD]; omega
                    rw [three_in _ _ _ _ _ _ h4'] at hM
                    refine ⟨by show 0 + 1 * 1 ≤ 1; decide, fun u hu => by simp at hu; subst hu; rfl, ?_⟩
                    refine ⟨by decide, fun cap2 sp2 k1 k2 k3 => ?_⟩
                    exact ⟨(⟨1, [(e : Int)], cap2, sp2⟩, i + 1), ⟨⟨rfl, gr_first rfl k1 k2 k3⟩, by show i + 1 ≤ 3; omega, by show [(e : Int)].length = min (_ + (i + 1)) N; simp at hmD ⊢; omega, hM⟩, by show 3 - (i + 1) < 3 - i; omega, [0, 1, 2, 3, 4, 8, 6], rfl, ⟨vi (show IntKind.i64.wrap ((i : Int) + 1) = ((i + 1 : Nat) : Int) from by rw [wrap_id (by omega) (by omega)]; omega), trivial⟩, rfl, rfl, rfl, rfl⟩
                  · have h4' : ¬ ([] : List Int).length < N := by
                      have h4 : ¬ ((0 : Nat) : Int) < (N : Int) := by rw [← hNr]; exact of_decide_eq_false h4
                      rw [hlD]; omega
                    rw [three_out _ _ _ _ _ _ h4'] at hM
                    refine bsplit_of (fun h5 => ?_) (fun h5 => ?_)
                    · have h5' : 0 < e := by have h5 : ((e : Int) > 0) := of_decide_eq_true h5; omega
                      rw [decide_eq_true h5'] at hM
                      have hM : CR.thr 15 (cC.at_ : Int) c5 = M := hM
                      refine (throw_k hC5 15 cC.at_ hpC).callS [2] 7 rfl rfl rfl rfl ?_
                      rintro o L1 gT ⟨rfl, rfl, hgT⟩ _
                      subst gT
                      subst hM
                      refine recx_of Tryd.func59 rfl x59_ok ?_
                      refine defx_of Tryd.func58 rfl x58_ok ?_
                      refine (is_c 15 _ _).call rfl rfl rfl ?_
                      refine ⟨[], ?_, rfl, (le_trans hbase hC5.1)⟩
                      rw [Int.zero_add]
                      rfl
                    · have h5' : ¬ 0 < e := by have h5 : ¬ ((e : Int) > 0) := of_decide_eq_false h5; omega
                      rw [decide_eq_false h5'] at hM
                      exact ⟨(⟨0, [], capD, spD⟩, i + 1), ⟨⟨hlD, hoD⟩, by show i + 1 ≤ 3; omega, by show ([] : List Int).length = min (_ + (i + 1)) N; omega, hM⟩, by show 3 - (i + 1) < 3 - i; omega, [0, 1, 2, 3, 4, 5, 6], rfl, ⟨vi (show IntKind.i64.wrap ((i : Int) + 1) = ((i + 1 : Nat) : Int) from by rw [wrap_id (by omega) (by omega)]; omega), trivial⟩, rfl, rfl, rfl, rfl⟩
                ·
                  refine bsplit_of (fun h => ?_) (fun h => ?_)
                  rotate_left
                  · have h3 : i = 3 := by
                      have h : ¬ ((i : Int) < 3) := of_decide_eq_false h
                      omega
                    subst h3
                    have hM : ((cuEvs N f2 lD).bind K2) c5 = M := hM
                    exact ⟨(⟨nD + 1, lD, capD, spD⟩, f2, c5, g5), ⟨⟨hlD, hoD⟩, hC5, hs5, by show s.size < 2 * F + c5.at_; omega, by show N ≤ (lD : List Int).length + 3 * f2; omega, hM⟩, by show f2 < f2 + 1; omega, [0, 1, 2, 3, 4, 5], rfl, trivial, rfl, rfl, rfl, rfl⟩
                  have hi3 : i < 3 := by
                    have h : ((i : Int) < 3) := of_decide_eq_true h
                    omega
                  obtain ⟨e, hd, hv, hwe⟩ := thW_at hx5 hi3
                  rw [hd] at hM
                  refine ⟨⟨by show (0 : Int) ≤ ((i : Nat) : Int); omega, by show ((i : Nat) : Int) < ((3 : Nat) : Int); omega⟩, ?_⟩
                  refine load1_cV (c := thW x5) (x := .int .i64 (e : Int)) rfl (show (thW x5)[0 + ((i : Int)).toNat * 1]? = some (.int .i64 (e : Int)) from by rw [offN]; exact hv) ?_
                  refine bsplit_of (fun h4 => ?_) (fun h4 => ?_)
                  · have h4' : (lD : List Int).length < N := by
                      have h4 : ((nD + 1 : Nat) : Int) < (N : Int) := by rw [← hNr]; exact of_decide_eq_true h4
                      rw [hlD]; omega
                    rw [three_in _ _ _ _ _ _ h4'] at hM
                    have g1 := gr_bounds hoD
                    refine ⟨by show 0 + 1 * 1 ≤ 1; decide, fun u hu => by simp at hu; subst hu; rfl, ?_⟩
                    refine ⟨evX lD, spD, rfl, g1.1, ⟨g1.2.1, g1.2.2.1, g1.2.2.2⟩, by omega, fun cap2 sp2 k1 k2 k3 => ?_⟩
                    refine ⟨(⟨nD + 1 + 1, lD ++ [(e : Int)], cap2, sp2⟩, i + 1), ⟨⟨by simp [hlD], by rw [evX_snoc]; exact gr_next hoD rfl k1 k2 k3⟩, by show i + 1 ≤ 3; omega, by show (lD ++ [(e : Int)]).length = min (_ + (i + 1)) N; rw [List.length_append, hmD]; simp; omega, hM⟩, by show 3 - (i + 1) < 3 - i; omega, [0, 1, 2, 3, 4, 8, 6], rfl, ⟨vi (show IntKind.i64.wrap ((i : Int) + 1) = ((i + 1 : Nat) : Int) from by rw [wrap_id (by omega) (by omega)]; omega), trivial⟩, ?_, rfl, rfl, rfl⟩
                    exact seven (show evX lD ++ ([.int .i64 e] ++ sp2) = evX (lD ++ [(e : Int)]) ++ sp2 by rw [evX_snoc, List.append_assoc])
                  · have h4' : ¬ (lD : List Int).length < N := by
                      have h4 : ¬ ((nD + 1 : Nat) : Int) < (N : Int) := by rw [← hNr]; exact of_decide_eq_false h4
                      rw [hlD]; omega
                    rw [three_out _ _ _ _ _ _ h4'] at hM
                    refine bsplit_of (fun h5 => ?_) (fun h5 => ?_)
                    · have h5' : 0 < e := by have h5 : ((e : Int) > 0) := of_decide_eq_true h5; omega
                      rw [decide_eq_true h5'] at hM
                      have hM : CR.thr 15 (cC.at_ : Int) c5 = M := hM
                      refine (throw_k hC5 15 cC.at_ hpC).callS [2] 7 rfl rfl rfl rfl ?_
                      rintro o L1 gT ⟨rfl, rfl, hgT⟩ _
                      subst gT
                      subst hM
                      refine recx_of Tryd.func59 rfl x59_ok ?_
                      refine defx_of Tryd.func58 rfl x58_ok ?_
                      refine (is_c 15 _ _).call rfl rfl rfl ?_
                      refine ⟨[], ?_, rfl, (le_trans hbase hC5.1)⟩
                      rw [Int.zero_add]
                      rfl
                    · have h5' : ¬ 0 < e := by have h5 : ¬ ((e : Int) > 0) := of_decide_eq_false h5; omega
                      rw [decide_eq_false h5'] at hM
                      exact ⟨(⟨nD + 1, lD, capD, spD⟩, i + 1), ⟨⟨hlD, hoD⟩, by show i + 1 ≤ 3; omega, by show (lD : List Int).length = min (_ + (i + 1)) N; omega, hM⟩, by show 3 - (i + 1) < 3 - i; omega, [0, 1, 2, 3, 4, 5, 6], rfl, ⟨vi (show IntKind.i64.wrap ((i : Int) + 1) = ((i + 1 : Nat) : Int) from by rw [wrap_id (by omega) (by omega)]; omega), trivial⟩, rfl, rfl, rfl, rfl⟩
              all_goals
                obtain ⟨rfl, rfl, hle, he⟩ := hq
                subst hM
                refine recx_of Tryd.func59 rfl x59_ok ?_
                refine defx_of Tryd.func58 rfl x58_ok ?_
                refine (is_c e _ _).call rfl rfl rfl ?_
                refine bsplit_of (fun _ => ?_) (fun k => absurd k (by simp [he]))
                exact ⟨[], rfl, rfl, le_trans hbase hle⟩
          all_goals
            obtain ⟨rfl, rfl, hle, he⟩ := hq
            subst hM
            refine recx_of Tryd.func59 rfl x59_ok ?_
            refine defx_of Tryd.func58 rfl x58_ok ?_
            refine (is_c e _ _).call rfl rfl rfl ?_
            refine bsplit_of (fun _ => ?_) (fun k => absurd k (by simp [he]))
            exact ⟨[], rfl, rfl, le_trans hbase hle⟩
      all_goals
        obtain ⟨rfl, rfl, hle, he⟩ := hq
        subst hM
        refine recx_of Tryd.func59 rfl x59_ok ?_
        refine defx_of Tryd.func58 rfl x58_ok ?_
        refine (is_c e _ _).call rfl rfl rfl ?_
        refine bsplit_of (fun _ => ?_) (fun k => absurd k (by simp [he]))
        exact ⟨[], rfl, rfl, le_trans hbase hle⟩
    ·
      refine (cnum_k hC 1 (by decide)).callS [2] 4 rfl rfl rfl rfl ?_
      intro o L1 g1 hq _
      rcases hx : cuNum 1 cL with ⟨x1, c1⟩ | ⟨e, pl, cx⟩ <;> rw [hx] at hq <;> first | rw [CM.bind_ok hx] at hM | rw [CM.bind_thr hx] at hM
      obtain ⟨rfl, rfl, hC1⟩ := hq
      have hx1 : x1 < 256 := cuNum_lt hx
      have hf1 := cuNum_fwd hx
      have hs1 : c1.s = s := by rw [hf1]; exact hcs
      have ha1 : c1.at_ = cL.at_ + 1 := by rw [hf1]; rfl
      refine (cnum_k hC1 1 (by decide)).callS [2] 4 rfl rfl rfl rfl ?_
      intro o L1 g2 hq _
      rcases hx : cuNum 1 c1 with ⟨x2, c2⟩ | ⟨e, pl, cx⟩ <;> rw [hx] at hq <;> first | rw [CM.bind_ok hx] at hM | rw [CM.bind_thr hx] at hM
      obtain ⟨rfl, rfl, hC2⟩ := hq
      have hx2 : x2 < 256 := cuNum_lt hx
      have hf2 := cuNum_fwd hx
      have hs2 : c2.s = s := by rw [hf2]; exact hs1
      have ha2 : c2.at_ = c1.at_ + 1 := by rw [hf2]; rfl
      refine bsplit_of (fun (h1 : ((x1 : Int) == 0) = true) => ?_) (fun (h1 : ((x1 : Int) == 0) = false) => ?_)
      · have h1 : x1 = 0 := by have := eq_of_beq h1; omega
        refine bsplit_of (fun (h2 : ((x2 : Int) == 0) = true) => ?_) (fun (h2 : ((x2 : Int) == 0) = false) => ?_)
        · have h2 : x2 = 0 := by have := eq_of_beq h2; omega
          rw [if_pos ⟨h1, h2⟩] at hM
          refine (noughts_k hC2).callS [2] 4 rfl rfl rfl rfl ?_
          intro o L1 g3 hq _
          rcases hx : cuNoughts c2 with ⟨x3, c3⟩ | ⟨e, pl, cx⟩ <;> rw [hx] at hq <;> first | rw [CM.bind_ok hx] at hM | rw [CM.bind_thr hx] at hM
          obtain ⟨rfl, rfl, hC3⟩ := hq
          · have hfin := allEv.mono hal hC3.1
            subst hM
            refine recx_of Tryd.func59 rfl x59_ok ?_
            refine defx_of Tryd.func58 rfl x58_ok ?_
            refine (is_c 0 _ _).call rfl rfl rfl ?_
            exact ⟨[3], l, cap, sp, by rw [hl]; rfl, by rw [hl]; rfl, by rw [hl]; exact ho, hfin, rfl, le_trans hbase hC3.1⟩
          all_goals
            obtain ⟨rfl, rfl, hle, he⟩ := hq
            subst hM
            refine recx_of Tryd.func59 rfl x59_ok ?_
            refine defx_of Tryd.func58 rfl x58_ok ?_
            refine (is_c e _ _).call rfl rfl rfl ?_
            refine bsplit_of (fun _ => ?_) (fun k => absurd k (by simp [he]))
            exact ⟨[], rfl, rfl, le_trans hbase hle⟩
        · have h2 : x2 ≠ 0 := by have := ne_of_beq_false h2; omega
          rw [if_neg (by omega)] at hM
          refine bsplit_of (fun (h3 : (((x1 : Int) != 1)) = true) => ?_) (fun (h3 : (((x1 : Int) != 1)) = false) => absurd h3 (by simp; omega))
          have hb2 : decide (x1 ≠ 1) = true := decide_eq_true (by omega)
          rw [hb2] at hM
          have hM : CR.thr 5 (cL.at_ : Int) c2 = M := hM
          refine (throw_k hC2 5 cL.at_ hpL).callS [2] 4 rfl rfl rfl rfl ?_
          rintro o L1 gT ⟨rfl, rfl, hgT⟩ _
          subst gT
          subst hM
          refine recx_of Tryd.func59 rfl x59_ok ?_
          refine defx_of Tryd.func58 rfl x58_ok ?_
          refine (is_c 5 _ _).call rfl rfl rfl ?_
          refine ⟨[], ?_, rfl, (le_trans hbase hC2.1)⟩
          rw [Int.zero_add]
          rfl
      have h1 : x1 ≠ 0 := by have := ne_of_beq_false h1; omega
      rw [if_neg (by omega)] at hM
      refine bsplit_of (fun (h3 : (((x1 : Int) != 1)) = true) => ?_) (fun (h3 : (((x1 : Int) != 1)) = false) => ?_)
      · have h3 : x1 ≠ 1 := by intro e; subst e; exact absurd h3 (by decide)
        have hb2 : decide (x1 ≠ 1) = true := decide_eq_true (by omega)
        rw [hb2] at hM
        have hM : CR.thr 5 (cL.at_ : Int) c2 = M := hM
        refine (throw_k hC2 5 cL.at_ hpL).callS [2] 4 rfl rfl rfl rfl ?_
        rintro o L1 gT ⟨rfl, rfl, hgT⟩ _
        subst gT
        subst hM
        refine recx_of Tryd.func59 rfl x59_ok ?_
        refine defx_of Tryd.func58 rfl x58_ok ?_
        refine (is_c 5 _ _).call rfl rfl rfl ?_
        refine ⟨[], ?_, rfl, (le_trans hbase hC2.1)⟩
        rw [Int.zero_add]
        rfl
      have h3 : x1 = 1 := by simp at h3; omega
      have hb2 : decide (x1 ≠ 1) = false := decide_eq_false (by omega)
      rw [hb2, CM.bind_ok (show cuThrow false 5 (cL.at_ : Int) c2 = .ok () c2 from rfl)] at hM
      refine bsplit_of (fun (h5 : (((x2 : Int) != 2)) = true) => ?_) (fun (h5 : (((x2 : Int) != 2)) = false) => ?_)
      · have h5 : x2 ≠ 2 := by intro e; subst e; exact absurd h5 (by decide)
        have hb3 : decide (x2 ≠ 2) = true := decide_eq_true h5
        rw [hb3] at hM
        have hw : IntKind.i64.wrap ((cL.at_ : Int) + 1) = (cL.at_ : Int) + 1 := wrap_id (by omega) (by omega)
        have hM : CR.thr 3 ((cL.at_ : Int) + 1) c2 = M := hM
        refine (throw_k hC2 3 (IntKind.i64.wrap ((cL.at_ : Int) + 1)) ⟨by rw [hw]; omega, by rw [hw]; omega⟩).callS [2] 4 rfl rfl rfl rfl ?_
        rintro o L1 gT ⟨rfl, rfl, hgT⟩ _
        subst gT
        subst hM
        refine recx_of Tryd.func59 rfl x59_ok ?_
        refine defx_of Tryd.func58 rfl x58_ok ?_
        refine (is_c 3 _ _).call rfl rfl rfl ?_
        refine ⟨[], ?_, rfl, le_trans hbase hC2.1⟩
        rw [Int.zero_add, hw]
        rfl
      have h5 : x2 = 2 := by simp at h5; omega
      have hb3 : decide (x2 ≠ 2) = false := decide_eq_false (by omega)
      rw [hb3, CM.bind_ok (show cuThrow false 3 ((cL.at_ : Int) + 1) c2 = .ok () c2 from rfl)] at hM
      change LoopW _ _ _ _ _ _ _ _ _
      apply loop_rule [3] (α := AtL × Nat × CurV × G) (fun _ => []) (fun y => [atlC y.1.n y.1.cap, fltC, cuC y.2.2.1, grC 156 y.1.n (atX y.1.l) y.1.sp]) (fun y => y.2.2.2)
        (fun y => y.1.ok ∧ allEv y.2.2.2 y.1.l ∧ CuAt g 0 y.2.2.2 y.2.2.1 ∧ y.2.2.1.s = s ∧ y.1.n ≤ 40 ∧ 45 ≤ y.2.1 + y.1.n ∧ s.size < 2 * F + y.2.2.1.at_ ∧ ((cuAttrs (cL.at_ : Int) y.2.1 (y.1.l.map AttrV.p)).bind (cuMsgs F)) y.2.2.1 = M) (fun y => y.2.1) (⟨n + 1, l, cap, sp⟩, 45, c2, g2)
      · intro x; obtain ⟨⟨n, l, cap, sp⟩, f, c, g⟩ := x; cases n <;> kernel_rfl
      · exact ⟨⟨hl, ho⟩, allEv.mono hal hC2.1, ⟨le_trans hbase hC2.1, hC2.2⟩, hs2, hn40, by show 45 ≤ 45 + (n + 1 : Nat); omega, by show s.size < 2 * F + c2.at_; omega, hM⟩
      · trivial
      · rfl
      · rfl
      · clear hM
        intro y hy
        obtain ⟨⟨n, l, cap, sp⟩, f, cB, gB⟩ := y
        obtain ⟨⟨hl, ho⟩, hal, hCB', hsB, hn40, hf45, haB, hM⟩ := hy
        dsimp only at hl ho hal hCB' hsB hn40 hf45 haB hM
        have hbase : G.le g gB := hCB'.1
        have hCB : CuAt gB 0 gB cB := ⟨le_refl gB, hCB'.2⟩
        rcases n with _ | n
        · obtain rfl : l = [] := List.eq_nil_of_length_eq_zero hl
          have hbB : (cB.at_ : Int) = cB.off + cB.at_ := by rw [hCB.2.2]; omega
          have hpB : 0 ≤ (cB.at_ : Int) ∧ (cB.at_ : Int) ≤ 1000000000000 := hCB.at_lt
          obtain ⟨f, rfl⟩ : ∃ j, f = j + 1 := ⟨f - 1, by omega⟩
          rw [cuAttrs_succ, CM.bind_assoc, attr_flat, CM.bind_ok (show cuAt cB = .ok (cB.off + cB.at_) cB from rfl), ← hbB] at hM
          refine (cnum_k hCB 2 (by decide)).callS [2] 4 rfl rfl rfl rfl ?_
          intro o L1 g3 hq _
          rcases hx : cuNum 2 cB with ⟨x3, c3⟩ | ⟨e, pl, cx⟩ <;> rw [hx] at hq <;> first | rw [CM.bind_ok hx] at hM | rw [CM.bind_thr hx] at hM
          obtain ⟨rfl, rfl, hC3⟩ := hq
          have hx3 : x3 < 65536 := cuNum_lt hx
          have hf3 := cuNum_fwd hx
          have hs3 : c3.s = s := by rw [hf3]; exact hsB
          have ha3 : c3.at_ = cB.at_ + 2 := by rw [hf3]; rfl
          refine bsplit_of (fun (h : ((x3 : Int) == 0) = true) => ?_) (fun (h : ((x3 : Int) == 0) = false) => ?_)
          · have h0 : x3 = 0 := by have := eq_of_beq h; omega
            rw [if_pos h0] at hM
            have hM : cuMsgs F (([] : List AttrV).map AttrV.p) c3 = M := hM
            exact ⟨(⟨0, [], cap, sp⟩, F, c3, g3), ⟨⟨hl, ho⟩, allEv.mono hal hC3.1, ⟨le_trans hbase hC3.1, hC3.2⟩, hs3, hn40, by show s.size < 2 * F + c3.at_; omega, hM⟩, by show F < F + 1; omega, [0, 1, 2, 3], rfl, trivial, rfl, rfl, rfl, rfl⟩
          have h0 : x3 ≠ 0 := by have := ne_of_beq_false h; omega
          rw [if_neg h0] at hM
          have hrem : ((x3 : Int).tmod 8192) = ((x3 % 8192 : Nat) : Int) := by rw [Int.tmod_eq_emod_of_nonneg (by omega)]; omega
          refine bsplit_of (fun (h1 : decide ((x3 : Int) ≥ 16384) = true) => ?_) (fun (h1 : decide ((x3 : Int) ≥ 16384) = false) => ?_)
          · have h1 := of_decide_eq_true h1
            have hb : attBad x3 = true := decide_eq_true (.inl (by omega))
            rw [hb] at hM
            have hM : CR.thr 2 (cB.at_ : Int) c3 = M := hM
            refine (throw_k hC3 2 cB.at_ hpB).callS [2] 4 rfl rfl rfl rfl ?_
            rintro o L1 gT ⟨rfl, rfl, hgT⟩ _
            subst gT
            subst hM
            refine recx_of Tryd.func59 rfl x59_ok ?_
            refine defx_of Tryd.func58 rfl x58_ok ?_
            refine (is_c 2 _ _).call rfl rfl rfl ?_
            refine ⟨[], ?_, rfl, (le_trans hbase hC3.1)⟩
            rw [Int.zero_add]
            rfl
          have h1 := of_decide_eq_false h1
          refine ⟨by decide, ?_⟩
          refine bsplit_of (fun h2 => ?_) (fun h2 => ?_)
          · have h2 : ((x3 % 8192 : Nat) : Int) > 400 := by rw [← hrem]; exact of_decide_eq_true h2
            have hb : attBad x3 = true := decide_eq_true (.inr (by omega))
            rw [hb] at hM
            have hM : CR.thr 2 (cB.at_ : Int) c3 = M := hM
            refine (throw_k hC3 2 cB.at_ hpB).callS [2] 4 rfl rfl rfl rfl ?_
            rintro o L1 gT ⟨rfl, rfl, hgT⟩ _
            subst gT
            subst hM
            refine recx_of Tryd.func59 rfl x59_ok ?_
            refine defx_of Tryd.func58 rfl x58_ok ?_
            refine (is_c 2 _ _).call rfl rfl rfl ?_
            refine ⟨[], ?_, rfl, (le_trans hbase hC3.1)⟩
            rw [Int.zero_add]
            rfl
          have h2 : ¬ ((x3 % 8192 : Nat) : Int) > 400 := by rw [← hrem]; exact of_decide_eq_false h2
          have hb : attBad x3 = false := decide_eq_false (by omega)
          rw [hb, CM.bind_ok (show cuThrow false 2 (cB.at_ : Int) c3 = .ok () c3 from rfl)] at hM
          obtain ⟨la, hla⟩ : ∃ la : Bool, decide ((x3 : Int) ≥ 8192) = la := ⟨_, rfl⟩
          have hla' : decide (8192 ≤ x3) = la := by
            rw [← hla, decide_eq_decide]; omega
          rw [hla'] at hM
          refine (cnum_k hC3 2 (by decide)).callS [2] 4 rfl rfl rfl rfl ?_
          intro o L1 g4 hq _
          rcases hx : cuNum 2 c3 with ⟨x4, c4⟩ | ⟨e, pl, cx⟩ <;> rw [hx] at hq <;> first | rw [CM.bind_ok hx] at hM | rw [CM.bind_thr hx] at hM
          obtain ⟨rfl, rfl, hC4⟩ := hq
          have hx4 : x4 < 65536 := cuNum_lt hx
          have hf4 := cuNum_fwd hx
          have hs4 : c4.s = s := by rw [hf4]; exact hs3
          have ha4 : c4.at_ = c3.at_ + 2 := by rw [hf4]; rfl
          refine ⟨by decide, ?_⟩
          obtain ⟨N, hN⟩ : ∃ N, x3 % 8192 = N := ⟨_, rfl⟩
          have hNr := hrem
          rw [hN] at hM hNr h2
          obtain ⟨K2, hK2⟩ : ∃ K2 : List Int → CM (List AttP), (fun evs => (cuThrow (!attB ⟨la, x4, evs⟩) 2 (cB.at_ : Int)).bind fun _ => (cuStep (cL.at_ : Int) f (([] : List AttrV).map AttrV.p) (some ⟨la, x4, evs⟩)).bind (cuMsgs F)) = K2 := ⟨_, rfl⟩
          have hM : (cuEvs N 134 []).bind K2 c4 = M := by rw [← hK2]; exact hM
          change LoopW _ _ _ _ _ _ _ _ _
          refine loop_gone ?_
          apply loop_rule [5] (α := EvSt × Nat × CurV × G) (fun _ => []) (fun y => [atlC (0) cap, fltC, cuC y.2.2.1, grC 156 (0) (atX []) sp, atC la x4 5 y.1, grC 3 y.1.n (evX y.1.l) y.1.sp]) (fun y => y.2.2.2)
            (fun y => y.1.ok ∧ CuAt gB 0 y.2.2.2 y.2.2.1 ∧ y.2.2.1.s = s ∧ s.size < 2 * F + y.2.2.1.at_ ∧ N ≤ y.1.l.length + 3 * y.2.1 ∧ ((cuEvs N y.2.1 y.1.l).bind K2) y.2.2.1 = M) (fun y => y.2.1) (⟨0, [], 0, []⟩, 134, c4, g4)
          · intro x; obtain ⟨⟨n, l, cap, sp⟩, f, c, g⟩ := x; cases n <;> kernel_rfl
          · exact ⟨⟨rfl, grOk.zero 1⟩, hC4, hs4, by show s.size < 2 * F + c4.at_; omega, by show N ≤ 0 + 3 * 134; omega, hM⟩
          · trivial
          · rw [← hla]; rfl
          · rfl
          · clear hM
            intro y hy
            obtain ⟨⟨nV, lV, capV, spV⟩, f2, cC, gC⟩ := y
            obtain ⟨⟨hlC, hoC⟩, hCC, hsC, haC, hf2, hM⟩ := hy
            dsimp only at hlC hoC hCC hsC haC hf2 hM
            have hbC : (cC.at_ : Int) = cC.off + cC.at_ := by rw [hCC.2.2]; omega
            have hpC : 0 ≤ (cC.at_ : Int) ∧ (cC.at_ : Int) ≤ 1000000000000 := hCC.at_lt
            rcases nV with _ | nV
            · obtain rfl : lV = [] := List.eq_nil_of_length_eq_zero hlC
              refine bsplit_of (fun h => ?_) (fun h => ?_)
              rotate_left
              · have hge : ¬ ([] : List Int).length < N := by
                  have h : ¬ (((0 : Nat) : Int) < (N : Int)) := by rw [← hNr]; exact of_decide_eq_false h
                  rw [hlC]; omega
                rw [evs_end _ _ _ _ hge, ← hK2] at hM
                change TurnW _ _ _ _ _ _
                refine turn_same ?_
                have hEv : EvsOk gC (⟨la, (x4 : Int), ⟨none, [], 0⟩⟩ : AttrV).events := (sliceV_nil _ _ _ _)
                have hCR : CuAt gB 0 gC cC := ⟨le_trans hCC.1 (le_refl gC), hCC.2⟩
                refine (mvRightR_c ⟨la, (x4 : Int), ⟨none, [], 0⟩⟩ _ hEv ⟨by show (0 : Int) ≤ x4; omega, by show (x4 : Int) ≤ 65535; omega⟩).call rfl rfl rfl ?_
                have hM : ((cuThrow (!attB (⟨la, (x4 : Int), ⟨none, [], 0⟩⟩ : AttrV).p) 2 (cB.at_ : Int)).bind fun _ => (cuStep (cL.at_ : Int) f (([] : List AttrV).map AttrV.p) (some (⟨la, (x4 : Int), ⟨none, [], 0⟩⟩ : AttrV).p)).bind (cuMsgs F)) cC = M := hM
                refine bsplit_of (fun h => ?_) (fun h => ?_)
                · have h : (!attB (⟨la, (x4 : Int), ⟨none, [], 0⟩⟩ : AttrV).p) = true := h
                  rw [h] at hM
                  have hM : CR.thr 2 (cB.at_ : Int) cC = M := hM
                  refine (throw_k hCR 2 cB.at_ hpB).callS [2] 6 rfl rfl rfl rfl ?_
                  rintro o L1 gT ⟨rfl, rfl, hgT⟩ _
                  subst gT
                  subst hM
                  refine recx_of Tryd.func59 rfl x59_ok ?_
                  refine defx_of Tryd.func58 rfl x58_ok ?_
                  refine (is_c 2 _ _).call rfl rfl rfl ?_
                  refine ⟨[], ?_, rfl, (le_trans hbase hCR.1)⟩
                  rw [Int.zero_add]
                  rfl
                · have h : (!attB (⟨la, (x4 : Int), ⟨none, [], 0⟩⟩ : AttrV).p) = false := h
                  rw [h] at hM
                  have hM : ((cuStep (cL.at_ : Int) f (([] : List AttrV).map AttrV.p) (some (⟨la, (x4 : Int), ⟨none, [], 0⟩⟩ : AttrV).p)).bind (cuMsgs F)) cC = M := hM
                  rw [cuStep, CM.bind_assoc] at hM
                  refine ⟨by show 0 + 1 * 3 ≤ 3; decide, fun u hu => by simp at hu; rcases hu with rfl | rfl | rfl <;> rfl, ?_⟩
                  refine ⟨by decide, fun cap2 sp2 k1 k2 k3 => ?_⟩
                  have hM : ((cuAttrs (cL.at_ : Int) f ([] ++ [(⟨la, (x4 : Int), ⟨none, [], 0⟩⟩ : AttrV).p])).bind (cuMsgs F)) cC = M := hM
                  exact ⟨(⟨1, [⟨la, (x4 : Int), ⟨none, [], 0⟩⟩], cap2, sp2⟩, f, cC, gC), ⟨⟨rfl, gr_first rfl k1 k2 k3⟩, allEv.mono (allEv.snoc (l := []) (fun _ h => by simp at h) hEv) (le_refl _), ⟨le_trans hbase hCR.1, hCR.2⟩, hsC, (by decide : 1 ≤ 40), by show 45 ≤ f + 1; omega, by show s.size < 2 * F + cC.at_; omega, hM⟩, by show f < f + 1; omega, [0, 1, 2, 7], rfl, trivial, rfl, rfl, rfl, rfl⟩
              have hlt : ([] : List Int).length < N := by
                have h : (((0 : Nat) : Int) < (N : Int)) := by rw [← hNr]; exact of_decide_eq_true h
                rw [hlC]; omega
              obtain ⟨f2, rfl⟩ : ∃ j, f2 = j + 1 := ⟨f2 - 1, by omega⟩
              rw [evs_flat _ _ _ _ hlt, CM.bind_ok (show cuAt cC = .ok (cC.off + cC.at_) cC from rfl), ← hbC] at hM
              refine (cnum_k hCC 1 (by decide)).callS [2] 6 rfl rfl rfl rfl ?_
              intro o L1 g5 hq _
              rcases hx : cuNum 1 cC with ⟨x5, c5⟩ | ⟨e, pl, cx⟩ <;> rw [hx] at hq <;> first | rw [CM.bind_ok hx] at hM | rw [CM.bind_thr hx] at hM
              obtain ⟨rfl, rfl, hC5⟩ := hq
              have hx5 : x5 < 256 := cuNum_lt hx
              have hf5 := cuNum_fwd hx
              have hs5 : c5.s = s := by rw [hf5]; exact hsC
              have ha5 : c5.at_ = cC.at_ + 1 := by rw [hf5]; rfl
              refine bsplit_of (fun h => ?_) (fun h => ?_)
              · have h : 215 < x5 := by have h : ((x5 : Int) > 215) := of_decide_eq_true h; omega
                rw [decide_eq_true h] at hM
                have hM : CR.thr 2 (cC.at_ : Int) c5 = M := hM
                refine (throw_k hC5 2 cC.at_ hpC).callS [2] 6 rfl rfl rfl rfl ?_
                rintro o L1 gT ⟨rfl, rfl, hgT⟩ _
                subst gT
                subst hM
                refine recx_of Tryd.func59 rfl x59_ok ?_
                refine defx_of Tryd.func58 rfl x58_ok ?_
                refine (is_c 2 _ _).call rfl rfl rfl ?_
                refine ⟨[], ?_, rfl, (le_trans hbase hC5.1)⟩
                rw [Int.zero_add]
                rfl
              have h : ¬ 215 < x5 := by have h : ¬ ((x5 : Int) > 215) := of_decide_eq_false h; omega
              rw [decide_eq_false h] at hM
              refine ⟨by decide, by decide, by decide, by decide, ?_⟩
              change LoopW _ _ _ _ _ _ _ _ _
              apply loop_rule [5] (α := EvSt × Nat) (fun y => [(101, .v (.int .i64 y.2))]) (fun y => [atlC (0) cap, fltC, cuC c5, grC 156 (0) (atX []) sp, atC la x4 5 y.1, grC 3 y.1.n (evX y.1.l) y.1.sp, thD x5]) (fun _ => g5)
                (fun y => y.1.ok ∧ y.2 ≤ 3 ∧ y.1.l.length = min ((0) + y.2) N ∧ ((cuThree N (cC.at_ : Int) ((three x5).drop y.2) y.1.l).bind fun acc => (cuEvs N f2 acc).bind K2) c5 = M) (fun y => 3 - y.2) (⟨0, [], capV, spV⟩, 0)
              · intro x; obtain ⟨⟨n, l, cap, sp⟩, i⟩ := x; cases n <;> kernel_rfl
              · exact ⟨⟨hlC, hoC⟩, Nat.zero_le _, by show ([] : List Int).length = min ((0 : Nat) + 0) N; omega, hM⟩
              · exact ⟨rfl, trivial⟩
              · rfl
              · rfl
              · clear hM
                intro y hy
                obtain ⟨⟨nD, lD, capD, spD⟩, i⟩ := y
                obtain ⟨⟨hlD, hoD⟩, hi, hmD, hM⟩ := hy
                dsimp only at hlD hoD hi hmD hM
                rcases nD with _ | nD
                · obtain rfl : lD = [] := List.eq_nil_of_length_eq_zero hlD
                  refine bsplit_of (fun h => ?_) (fun h => ?_)
                  rotate_left
                  · have h3 : i = 3 := by
                      have h : ¬ ((i : Int) < 3) := of_decide_eq_false h
                      omega
                    subst h3
                    have hM : ((cuEvs N f2 []).bind K2) c5 = M := hM
                    exact ⟨(⟨0, [], capD, spD⟩, f2, c5, g5), ⟨⟨hlD, hoD⟩, hC5, hs5, by show s.size < 2 * F + c5.at_; omega, by show N ≤ ([] : List Int).length + 3 * f2; omega, hM⟩, by show f2 < f2 + 1; omega, [0, 1, 2, 3, 4, 5], rfl, trivial, rfl, rfl, rfl, rfl⟩
                  have hi3 : i < 3 := by
                    have h : ((i : Int) < 3) := of_decide_eq_true h
                    omega
                  obtain ⟨e, hd, hv, hwe⟩ := thW_at hx5 hi3
                  rw [hd] at hM
                  refine ⟨⟨by show (0 : Int) ≤ ((i : Nat) : Int); omega, by show ((i : Nat) : Int) < ((3 : Nat) : Int); omega⟩, ?_⟩
                  refine load1_cV (c := thW x5) (x := .int .i64 (e : Int)) rfl (show (thW x5)[0 + ((i : Int)).toNat * 1]? = some (.int .i64 (e : Int)) from by rw [offN]; exact hv) ?_
                  refine bsplit_of (fun h4 => ?_) (fun h4 => ?_)
                  · have h4' : ([] : List Int).length < N := by
                      have h4 : ((0 : Nat) : Int) < (N : Int) := by rw [← hNr]; exact of_decide_eq_true h4
                      rw [hlD]; omega
                    rw [three_in _ _ _ _ _ _ h4'] at hM
                    refine ⟨by show 0 + 1 * 1 ≤ 1; decide, fun u hu => by simp at hu; subst hu; rfl, ?_⟩
                    refine ⟨by decide, fun cap2 sp2 k1 k2 k3 => ?_⟩
                    exact ⟨(⟨1, [(e : Int)], cap2, sp2⟩, i + 1), ⟨⟨rfl, gr_first rfl k1 k2 k3⟩, by show i + 1 ≤ 3; omega, by show [(e : Int)].length = min (_ + (i + 1)) N; simp at hmD ⊢; omega, hM⟩, by show 3 - (i + 1) < 3 - i; omega, [0, 1, 2, 3, 4, 8, 6], rfl, ⟨vi (show IntKind.i64.wrap ((i : Int) + 1) = ((i + 1 : Nat) : Int) from by rw [wrap_id (by omega) (by omega)]; omega), trivial⟩, rfl, rfl, rfl, rfl⟩
                  · have h4' : ¬ ([] : List Int).length < N := by
                      have h4 : ¬ ((0 : Nat) : Int) < (N : Int) := by rw [← hNr]; exact of_decide_eq_false h4
                      rw [hlD]; omega
                    rw [three_out _ _ _ _ _ _ h4'] at hM
                    refine bsplit_of (fun h5 => ?_) (fun h5 => ?_)
                    · have h5' : 0 < e := by have h5 : ((e : Int) > 0) := of_decide_eq_true h5; omega
                      rw [decide_eq_true h5'] at hM
                      have hM : CR.thr 15 (cC.at_ : Int) c5 = M := hM
                      refine (throw_k hC5 15 cC.at_ hpC).callS [2] 7 rfl rfl rfl rfl ?_
                      rintro o L1 gT ⟨rfl, rfl, hgT⟩ _
                      subst gT
                      subst hM
                      refine recx_of Tryd.func59 rfl x59_ok ?_
                      refine defx_of Tryd.func58 rfl x58_ok ?_
                      refine (is_c 15 _ _).call rfl rfl rfl ?_
                      refine ⟨[], ?_, rfl, (le_trans hbase hC5.1)⟩
                      rw [Int.zero_add]
                      rfl
                    · have h5' : ¬ 0 < e := by have h5 : ¬ ((e : Int) > 0) := of_decide_eq_false h5; omega
                      rw [decide_eq_false h5'] at hM
                      exact ⟨(⟨0, [], capD, spD⟩, i + 1), ⟨⟨hlD, hoD⟩, by show i + 1 ≤ 3; omega, by show ([] : List Int).length = min (_ + (i + 1)) N; omega, hM⟩, by show 3 - (i + 1) < 3 - i; omega, [0, 1, 2, 3, 4, 5, 6], rfl, ⟨vi (show IntKind.i64.wrap ((i : Int) + 1) = ((i + 1 : Nat) : Int) from by rw [wrap_id (by omega) (by omega)]; omega), trivial⟩, rfl, rfl, rfl, rfl⟩
                ·
                  refine bsplit_of (fun h => ?_) (fun h => ?_)
                  rotate_left
                  · have h3 : i = 3 := by
                      have h : ¬ ((i : Int) < 3) := of_decide_eq_false h
                      omega
                    subst h3
                    have hM : ((cuEvs N f2 lD).bind K2) c5 = M := hM
                    exact ⟨(⟨nD + 1, lD, capD, spD⟩, f2, c5, g5), ⟨⟨hlD, hoD⟩, hC5, hs5, by show s.size < 2 * F + c5.at_; omega, by show N ≤ (lD : List Int).length + 3 * f2; omega, hM⟩, by show f2 < f2 + 1; omega, [0, 1, 2, 3, 4, 5], rfl, trivial, rfl, rfl, rfl, rfl⟩
                  have hi3 : i < 3 := by
                    have h : ((i : Int) < 3) := of_decide_eq_true h
                    omega
                  obtain ⟨e, hd, hv, hwe⟩ := thW_at hx5 hi3
                  rw [hd] at hM
                  refine ⟨⟨by show (0 : Int) ≤ ((i : Nat) : Int); omega, by show ((i : Nat) : Int) < ((3 : Nat) : Int); omega⟩, ?_⟩
                  refine load1_cV (c := thW x5) (x := .int .i64 (e : Int)) rfl (show (thW x5)[0 + ((i : Int)).toNat * 1]? = some (.int .i64 (e : Int)) from by rw [offN]; exact hv) ?_
                  refine bsplit_of (fun h4 => ?_) (fun h4 => ?_)
                  · have h4' : (lD : List Int).length < N := by
                      have h4 : ((nD + 1 : Nat) : Int) < (N : Int) := by rw [← hNr]; exact of_decide_eq_true h4
                      rw [hlD]; omega
                    rw [three_in _ _ _ _ _ _ h4'] at hM
                    have g1 := gr_bounds hoD
                    refine ⟨by show 0 + 1 * 1 ≤ 1; decide, fun u hu => by simp at hu; subst hu; rfl, ?_⟩
                    refine ⟨evX lD, spD, rfl, g1.1, ⟨g1.2.1, g1.2.2.1, g1.2.2.2⟩, by omega, fun cap2 sp2 k1 k2 k3 => ?_⟩
                    refine ⟨(⟨nD + 1 + 1, lD ++ [(e : Int)], cap2, sp2⟩, i + 1), ⟨⟨by simp [hlD], by rw [evX_snoc]; exact gr_next hoD rfl k1 k2 k3⟩, by show i + 1 ≤ 3; omega, by show (lD ++ [(e : Int)]).length = min (_ + (i + 1)) N; rw [List.length_append, hmD]; simp; omega, hM⟩, by show 3 - (i + 1) < 3 - i; omega, [0, 1, 2, 3, 4, 8, 6], rfl, ⟨vi (show IntKind.i64.wrap ((i : Int) + 1) = ((i + 1 : Nat) : Int) from by rw [wrap_id (by omega) (by omega)]; omega), trivial⟩, ?_, rfl, rfl, rfl⟩
                    exact seven (show evX lD ++ ([.int .i64 e] ++ sp2) = evX (lD ++ [(e : Int)]) ++ sp2 by rw [evX_snoc, List.append_assoc])
                  · have h4' : ¬ (lD : List Int).length < N := by
                      have h4 : ¬ ((nD + 1 : Nat) : Int) < (N : Int) := by rw [← hNr]; exact of_decide_eq_false h4
                      rw [hlD]; omega
                    rw [three_out _ _ _ _ _ _ h4'] at hM
                    refine bsplit_of (fun h5 => ?_) (fun h5 => ?_)
                    · have h5' : 0 < e := by have h5 : ((e : Int) > 0) := of_decide_eq_true h5; omega
                      rw [decide_eq_true h5'] at hM
                      have hM : CR.thr 15 (cC.at_ : Int) c5 = M := hM
                      refine (throw_k hC5 15 cC.at_ hpC).callS [2] 7 rfl rfl rfl rfl ?_
                      rintro o L1 gT ⟨rfl, rfl, hgT⟩ _
                      subst gT
                      subst hM
                      refine recx_of Tryd.func59 rfl x59_ok ?_
                      refine defx_of Tryd.func58 rfl x58_ok ?_
                      refine (is_c 15 _ _).call rfl rfl rfl ?_
                      refine ⟨[], ?_, rfl, (le_trans hbase hC5.1)⟩
                      rw [Int.zero_add]
                      rfl
                    · have h5' : ¬ 0 < e := by have h5 : ¬ ((e : Int) > 0) := of_decide_eq_false h5; omega
                      rw [decide_eq_false h5'] at hM
                      exact ⟨(⟨nD + 1, lD, capD, spD⟩, i + 1), ⟨⟨hlD, hoD⟩, by show i + 1 ≤ 3; omega, by show (lD : List Int).length = min (_ + (i + 1)) N; omega, hM⟩, by show 3 - (i + 1) < 3 - i; omega, [0, 1, 2, 3, 4, 5, 6], rfl, ⟨vi (show IntKind.i64.wrap ((i : Int) + 1) = ((i + 1 : Nat) : Int) from by rw [wrap_id (by omega) (by omega)]; omega), trivial⟩, rfl, rfl, rfl, rfl⟩
              all_goals
                obtain ⟨rfl, rfl, hle, he⟩ := hq
                subst hM
                refine recx_of Tryd.func59 rfl x59_ok ?_
                refine defx_of Tryd.func58 rfl x58_ok ?_
                refine (is_c e _ _).call rfl rfl rfl ?_
                refine bsplit_of (fun _ => ?_) (fun k => absurd k (by simp [he]))
                exact ⟨[], rfl, rfl, le_trans hbase hle⟩
            ·
              refine bsplit_of (fun h => ?_) (fun h => ?_)
              rotate_left
              · have hge : ¬ (lV : List Int).length < N := by
                  have h : ¬ (((nV + 1 : Nat) : Int) < (N : Int)) := by rw [← hNr]; exact of_decide_eq_false h
                  rw [hlC]; omega
                rw [evs_end _ _ _ _ hge, ← hK2] at hM
                change TurnW _ _ _ _ _ _
                rcases lV with _ | ⟨eV, tV⟩
                · cases hlC
                obtain rfl : nV = tV.length := by simpa using hlC.symm
                refine turn_freeze 5 3 (evX (eV :: tV) ++ spV) (.inl rfl) fun b g' hle hat => ?_
                have hEv : EvsOk g' (⟨la, (x4 : Int), ⟨some ⟨b, 0, none⟩, eV :: tV, capV⟩⟩ : AttrV).events := (slice_at hoC hat)
                have hCR : CuAt gB 0 g' cC := ⟨le_trans hCC.1 hle, hCC.2⟩
                refine (mvRightR_c ⟨la, (x4 : Int), ⟨some ⟨b, 0, none⟩, eV :: tV, capV⟩⟩ _ hEv ⟨by show (0 : Int) ≤ x4; omega, by show (x4 : Int) ≤ 65535; omega⟩).call rfl rfl rfl ?_
                have hM : ((cuThrow (!attB (⟨la, (x4 : Int), ⟨some ⟨b, 0, none⟩, eV :: tV, capV⟩⟩ : AttrV).p) 2 (cB.at_ : Int)).bind fun _ => (cuStep (cL.at_ : Int) f (([] : List AttrV).map AttrV.p) (some (⟨la, (x4 : Int), ⟨some ⟨b, 0, none⟩, eV :: tV, capV⟩⟩ : AttrV).p)).bind (cuMsgs F)) cC = M := hM
                refine bsplit_of (fun h => ?_) (fun h => ?_)
                · have h : (!attB (⟨la, (x4 : Int), ⟨some ⟨b, 0, none⟩, eV :: tV, capV⟩⟩ : AttrV).p) = true := h
                  rw [h] at hM
                  have hM : CR.thr 2 (cB.at_ : Int) cC = M := hM
                  refine (throw_k hCR 2 cB.at_ hpB).callS [2] 6 rfl rfl rfl rfl ?_
                  rintro o L1 gT ⟨rfl, rfl, hgT⟩ _
                  subst gT
                  subst hM
                  refine recx_of Tryd.func59 rfl x59_ok ?_
                  refine defx_of Tryd.func58 rfl x58_ok ?_
                  refine (is_c 2 _ _).call rfl rfl rfl ?_
                  refine ⟨[], ?_, rfl, (le_trans hbase hCR.1)⟩
                  rw [Int.zero_add]
                  rfl
                · have h : (!attB (⟨la, (x4 : Int), ⟨some ⟨b, 0, none⟩, eV :: tV, capV⟩⟩ : AttrV).p) = false := h
                  rw [h] at hM
                  have hM : ((cuStep (cL.at_ : Int) f (([] : List AttrV).map AttrV.p) (some (⟨la, (x4 : Int), ⟨some ⟨b, 0, none⟩, eV :: tV, capV⟩⟩ : AttrV).p)).bind (cuMsgs F)) cC = M := hM
                  rw [cuStep, CM.bind_assoc] at hM
                  refine ⟨by show 0 + 1 * 3 ≤ 3; decide, fun u hu => by simp at hu; rcases hu with rfl | rfl | rfl <;> rfl, ?_⟩
                  refine ⟨by decide, fun cap2 sp2 k1 k2 k3 => ?_⟩
                  have hM : ((cuAttrs (cL.at_ : Int) f ([] ++ [(⟨la, (x4 : Int), ⟨some ⟨b, 0, none⟩, eV :: tV, capV⟩⟩ : AttrV).p])).bind (cuMsgs F)) cC = M := hM
                  exact ⟨(⟨1, [⟨la, (x4 : Int), ⟨some ⟨b, 0, none⟩, eV :: tV, capV⟩⟩], cap2, sp2⟩, f, cC, g'), ⟨⟨rfl, gr_first rfl k1 k2 k3⟩, allEv.mono (allEv.snoc (l := []) (fun _ h => by simp at h) hEv) (le_refl _), ⟨le_trans hbase hCR.1, hCR.2⟩, hsC, (by decide : 1 ≤ 40), by show 45 ≤ f + 1; omega, by show s.size < 2 * F + cC.at_; omega, hM⟩, by show f < f + 1; omega, [0, 1, 2, 7], rfl, trivial, rfl, rfl, rfl, rfl⟩
              have hlt : (lV : List Int).length < N := by
                have h : (((nV + 1 : Nat) : Int) < (N : Int)) := by rw [← hNr]; exact of_decide_eq_true h
                rw [hlC]; omega
              obtain ⟨f2, rfl⟩ : ∃ j, f2 = j + 1 := ⟨f2 - 1, by omega⟩
              rw [evs_flat _ _ _ _ hlt, CM.bind_ok (show cuAt cC = .ok (cC.off + cC.at_) cC from rfl), ← hbC] at hM
              refine (cnum_k hCC 1 (by decide)).callS [2] 6 rfl rfl rfl rfl ?_
              intro o L1 g5 hq _
              rcases hx : cuNum 1 cC with ⟨x5, c5⟩ | ⟨e, pl, cx⟩ <;> rw [hx] at hq <;> first | rw [CM.bind_ok hx] at hM | rw [CM.bind_thr hx] at hM
              obtain ⟨rfl, rfl, hC5⟩ := hq
              have hx5 : x5 < 256 := cuNum_lt hx
              have hf5 := cuNum_fwd hx
              have hs5 : c5.s = s := by rw [hf5]; exact hsC
              have ha5 : c5.at_ = cC.at_ + 1 := by rw [hf5]; rfl
              refine bsplit_of (fun h => ?_) (fun h => ?_)
              · have h : 215 < x5 := by have h : ((x5 : Int) > 215) := of_decide_eq_true h; omega
                rw [decide_eq_true h] at hM
                have hM : CR.thr 2 (cC.at_ : Int) c5 = M := hM
                refine (throw_k hC5 2 cC.at_ hpC).callS [2] 6 rfl rfl rfl rfl ?_
                rintro o L1 gT ⟨rfl, rfl, hgT⟩ _
                subst gT
                subst hM
                refine recx_of Tryd.func59 rfl x59_ok ?_
                refine defx_of Tryd.func58 rfl x58_ok ?_
                refine (is_c 2 _ _).call rfl rfl rfl ?_
                refine ⟨[], ?_, rfl, (le_trans hbase hC5.1)⟩
                rw [Int.zero_add]
                rfl
              have h : ¬ 215 < x5 := by have h : ¬ ((x5 : Int) > 215) := of_decide_eq_false h; omega
              rw [decide_eq_false h] at hM
              refine ⟨by decide, by decide, by decide, by decide, ?_⟩
              change LoopW _ _ _ _ _ _ _ _ _
              apply loop_rule [5] (α := EvSt × Nat) (fun y => [(101, .v (.int .i64 y.2))]) (fun y => [atlC (0) cap, fltC, cuC c5, grC 156 (0) (atX []) sp, atC la x4 5 y.1, grC 3 y.1.n (evX y.1.l) y.1.sp, thD x5]) (fun _ => g5)
                (fun y => y.1.ok ∧ y.2 ≤ 3 ∧ y.1.l.length = min ((nV + 1) + y.2) N ∧ ((cuThree N (cC.at_ : Int) ((three x5).drop y.2) y.1.l).bind fun acc => (cuEvs N f2 acc).bind K2) c5 = M) (fun y => 3 - y.2) (⟨nV + 1, lV, capV, spV⟩, 0)
              · intro x; obtain ⟨⟨n, l, cap, sp⟩, i⟩ := x; cases n <;> kernel_rfl
              · exact ⟨⟨hlC, hoC⟩, Nat.zero_le _, by show (lV : List Int).length = min ((nV + 1 : Nat) + 0) N; omega, hM⟩
              · exact ⟨rfl, trivial⟩
              · rfl
              · rfl
              · clear hM
                intro y hy
                obtain ⟨⟨nD, lD, capD, spD⟩, i⟩ := y
                obtain ⟨⟨hlD, hoD⟩, hi, hmD, hM⟩ := hy
                dsimp only at hlD hoD hi hmD hM
                rcases nD with _ | nD
                · obtain rfl : lD = [] := List.eq_nil_of_length_eq_zero hlD
                  refine bsplit_of (fun h => ?_) (fun h => ?_)
                  rotate_left
                  · have h3 : i = 3 := by
                      have h : ¬ ((i : Int) < 3) := of_decide_eq_false h
                      omega
                    subst h3
                    have hM : ((cuEvs N f2 []).bind K2) c5 = M := hM
                    exact ⟨(⟨0, [], capD, spD⟩, f2, c5, g5), ⟨⟨hlD, hoD⟩, hC5, hs5, by show s.size < 2 * F + c5.at_; omega, by show N ≤ ([] : List Int).length + 3 * f2; omega, hM⟩, by show f2 < f2 + 1; omega, [0, 1, 2, 3, 4, 5], rfl, trivial, rfl, rfl, rfl, rfl⟩
                  have hi3 : i < 3 := by
                    have h : ((i : Int) < 3) := of_decide_eq_true h
                    omega
                  obtain ⟨e, hd, hv, hwe⟩ := thW_at hx5 hi3
                  rw [hd] at hM
                  refine ⟨⟨by show (0 : Int) ≤ ((i : Nat) : Int); omega, by show ((i : Nat) : Int) < ((3 : Nat) : Int); omega⟩, ?_⟩
                  refine load1_cV (c := thW x5) (x := .int .i64 (e : Int)) rfl (show (thW x5)[0 + ((i : Int)).toNat * 1]? = some (.int .i64 (e : Int)) from by rw [offN]; exact hv) ?_
                  refine bsplit_of (fun h4 => ?_) (fun h4 => ?_)
                  · have h4' : ([] : List Int).length < N := by
                      have h4 : ((0 : Nat) : Int) < (N : Int) := by rw [← hNr]; exact of_decide_eq_true h4
                      rw [hlD]; omega
                    rw [three_in _ _ _ _ _ _ h4'] at hM
                    refine ⟨by show 0 + 1 * 1 ≤ 1; decide, fun u hu => by simp at hu; subst hu; rfl, ?_⟩
                    refine ⟨by decide, fun cap2 sp2 k1 k2 k3 => ?_⟩
                    exact ⟨(⟨1, [(e : Int)], cap2, sp2⟩, i + 1), ⟨⟨rfl, gr_first rfl k1 k2 k3⟩, by show i + 1 ≤ 3; omega, by show [(e : Int)].length = min (_ + (i + 1)) N; simp at hmD ⊢; omega, hM⟩, by show 3 - (i + 1) < 3 - i; omega, [0, 1, 2, 3, 4, 8, 6], rfl, ⟨vi (show IntKind.i64.wrap ((i : Int) + 1) = ((i + 1 : Nat) : Int) from by rw [wrap_id (by omega) (by omega)]; omega), trivial⟩, rfl, rfl, rfl, rfl⟩
                  · have h4' : ¬ ([] : List Int).length < N := by
                      have h4 : ¬ ((0 : Nat) : Int) < (N : Int) := by rw [← hNr]; exact of_decide_eq_false h4
                      rw [hlD]; omega
                    rw [three_out _ _ _ _ _ _ h4'] at hM
                    refine bsplit_of (fun h5 => ?_) (fun h5 => ?_)
                    · have h5' : 0 < e := by have h5 : ((e : Int) > 0) := of_decide_eq_true h5; omega
                      rw [decide_eq_true h5'] at hM
                      have hM : CR.thr 15 (cC.at_ : Int) c5 = M := hM
                      refine (throw_k hC5 15 cC.at_ hpC).callS [2] 7 rfl rfl rfl rfl ?_
                      rintro o L1 gT ⟨rfl, rfl, hgT⟩ _
                      subst gT
                      subst hM
                      refine recx_of Tryd.func59 rfl x59_ok ?_
                      refine defx_of Tryd.func58 rfl x58_ok ?_
                      refine (is_c 15 _ _).call rfl rfl rfl ?_
                      refine ⟨[], ?_, rfl, (le_trans hbase hC5.1)⟩
                      rw [Int.zero_add]
                      rfl
                    · have h5' : ¬ 0 < e := by have h5 : ¬ ((e : Int) > 0) := of_decide_eq_false h5; omega
                      rw [decide_eq_false h5'] at hM
                      exact ⟨(⟨0, [], capD, spD⟩, i + 1), ⟨⟨hlD, hoD⟩, by show i + 1 ≤ 3; omega, by show ([] : List Int).length = min (_ + (i + 1)) N; omega, hM⟩, by show 3 - (i + 1) < 3 - i; omega, [0, 1, 2, 3, 4, 5, 6], rfl, ⟨vi (show IntKind.i64.wrap ((i : Int) + 1) = ((i + 1 : Nat) : Int) from by rw [wrap_id (by omega) (by omega)]; omega), trivial⟩, rfl, rfl, rfl, rfl⟩
                ·
                  refine bsplit_of (fun h => ?_) (fun h => ?_)
                  rotate_left
                  · have h3 : i = 3 := by
                      have h : ¬ ((i : Int) < 3) := of_decide_eq_false h
                      omega
                    subst h3
                    have hM : ((cuEvs N f2 lD).bind K2) c5 = M := hM
                    exact ⟨(⟨nD + 1, lD, capD, spD⟩, f2, c5, g5), ⟨⟨hlD, hoD⟩, hC5, hs5, by show s.size < 2 * F + c5.at_; omega, by show N ≤ (lD : List Int).length + 3 * f2; omega, hM⟩, by show f2 < f2 + 1; omega, [0, 1, 2, 3, 4, 5], rfl, trivial, rfl, rfl, rfl, rfl⟩
                  have hi3 : i < 3 := by
                    have h : ((i : Int) < 3) := of_decide_eq_true h
                    omega
                  obtain ⟨e, hd, hv, hwe⟩ := thW_at hx5 hi3
                  rw [hd] at hM
                  refine ⟨⟨by show (0 : Int) ≤ ((i : Nat) : Int); omega, by show ((i : Nat) : Int) < ((3 : Nat) : Int); omega⟩, ?_⟩
                  refine load1_cV (c := thW x5) (x := .int .i64 (e : Int)) rfl (show (thW x5)[0 + ((i : Int)).toNat * 1]? = some (.int .i64 (e : Int)) from by rw [offN]; exact hv) ?_
                  refine bsplit_of (fun h4 => ?_) (fun h4 => ?_)
                  · have h4' : (lD : List Int).length < N := by
                      have h4 : ((nD + 1 : Nat) : Int) < (N : Int) := by rw [← hNr]; exact of_decide_eq_true h4
                      rw [hlD]; omega
                    rw [three_in _ _ _ _ _ _ h4'] at hM
                    have g1 := gr_bounds hoD
                    refine ⟨by show 0 + 1 * 1 ≤ 1; decide, fun u hu => by simp at hu; subst hu; rfl, ?_⟩
                    refine ⟨evX lD, spD, rfl, g1.1, ⟨g1.2.1, g1.2.2.1, g1.2.2.2⟩, by omega, fun cap2 sp2 k1 k2 k3 => ?_⟩
                    refine ⟨(⟨nD + 1 + 1, lD ++ [(e : Int)], cap2, sp2⟩, i + 1), ⟨⟨by simp [hlD], by rw [evX_snoc]; exact gr_next hoD rfl k1 k2 k3⟩, by show i + 1 ≤ 3; omega, by show (lD ++ [(e : Int)]).length = min (_ + (i + 1)) N; rw [List.length_append, hmD]; simp; omega, hM⟩, by show 3 - (i + 1) < 3 - i; omega, [0, 1, 2, 3, 4, 8, 6], rfl, ⟨vi (show IntKind.i64.wrap ((i : Int) + 1) = ((i + 1 : Nat) : Int) from by rw [wrap_id (by omega) (by omega)]; omega), trivial⟩, ?_, rfl, rfl, rfl⟩
                    exact seven (show evX lD ++ ([.int .i64 e] ++ sp2) = evX (lD ++ [(e : Int)]) ++ sp2 by rw [evX_snoc, List.append_assoc])
                  · have h4' : ¬ (lD : List Int).length < N := by
                      have h4 : ¬ ((nD + 1 : Nat) : Int) < (N : Int) := by rw [← hNr]; exact of_decide_eq_false h4
                      rw [hlD]; omega
                    rw [three_out _ _ _ _ _ _ h4'] at hM
                    refine bsplit_of (fun h5 => ?_) (fun h5 => ?_)
                    · have h5' : 0 < e := by have h5 : ((e : Int) > 0) := of_decide_eq_true h5; omega
                      rw [decide_eq_true h5'] at hM
                      have hM : CR.thr 15 (cC.at_ : Int) c5 = M := hM
                      refine (throw_k hC5 15 cC.at_ hpC).callS [2] 7 rfl rfl rfl rfl ?_
                      rintro o L1 gT ⟨rfl, rfl, hgT⟩ _
                      subst gT
                      subst hM
                      refine recx_of Tryd.func59 rfl x59_ok ?_
                      refine defx_of Tryd.func58 rfl x58_ok ?_
                      refine (is_c 15 _ _).call rfl rfl rfl ?_
                      refine ⟨[], ?_, rfl, (le_trans hbase hC5.1)⟩
                      rw [Int.zero_add]
                      rfl
                    · have h5' : ¬ 0 < e := by have h5 : ¬ ((e : Int) > 0) := of_decide_eq_false h5; omega
                      rw [decide_eq_false h5'] at hM
                      exact ⟨(⟨nD + 1, lD, capD, spD⟩, i + 1), ⟨⟨hlD, hoD⟩, by show i + 1 ≤ 3; omega, by show (lD : List Int).length = min (_ + (i + 1)) N; omega, hM⟩, by show 3 - (i + 1) < 3 - i; omega, [0, 1, 2, 3, 4, 5, 6], rfl, ⟨vi (show IntKind.i64.wrap ((i : Int) + 1) = ((i + 1 : Nat) : Int) from by rw [wrap_id (by omega) (by omega)]; omega), trivial⟩, rfl, rfl, rfl, rfl⟩
              all_goals
                obtain ⟨rfl, rfl, hle, he⟩ := hq
                subst hM
                refine recx_of Tryd.func59 rfl x59_ok ?_
                refine defx_of Tryd.func58 rfl x58_ok ?_
                refine (is_c e _ _).call rfl rfl rfl ?_
                refine bsplit_of (fun _ => ?_) (fun k => absurd k (by simp [he]))
                exact ⟨[], rfl, rfl, le_trans hbase hle⟩
          all_goals
            obtain ⟨rfl, rfl, hle, he⟩ := hq
            subst hM
            refine recx_of Tryd.func59 rfl x59_ok ?_
            refine defx_of Tryd.func58 rfl x58_ok ?_
            refine (is_c e _ _).call rfl rfl rfl ?_
            refine bsplit_of (fun _ => ?_) (fun k => absurd k (by simp [he]))
            exact ⟨[], rfl, rfl, le_trans hbase hle⟩
        ·
          have hbB : (cB.at_ : Int) = cB.off + cB.at_ := by rw [hCB.2.2]; omega
          have hpB : 0 ≤ (cB.at_ : Int) ∧ (cB.at_ : Int) ≤ 1000000000000 := hCB.at_lt
          obtain ⟨f, rfl⟩ : ∃ j, f = j + 1 := ⟨f - 1, by omega⟩
          rw [cuAttrs_succ, CM.bind_assoc, attr_flat, CM.bind_ok (show cuAt cB = .ok (cB.off + cB.at_) cB from rfl), ← hbB] at hM
          refine (cnum_k hCB 2 (by decide)).callS [2] 4 rfl rfl rfl rfl ?_
          intro o L1 g3 hq _
          rcases hx : cuNum 2 cB with ⟨x3, c3⟩ | ⟨e, pl, cx⟩ <;> rw [hx] at hq <;> first | rw [CM.bind_ok hx] at hM | rw [CM.bind_thr hx] at hM
          obtain ⟨rfl, rfl, hC3⟩ := hq
          have hx3 : x3 < 65536 := cuNum_lt hx
          have hf3 := cuNum_fwd hx
          have hs3 : c3.s = s := by rw [hf3]; exact hsB
          have ha3 : c3.at_ = cB.at_ + 2 := by rw [hf3]; rfl
          refine bsplit_of (fun (h : ((x3 : Int) == 0) = true) => ?_) (fun (h : ((x3 : Int) == 0) = false) => ?_)
          · have h0 : x3 = 0 := by have := eq_of_beq h; omega
            rw [if_pos h0] at hM
            have hM : cuMsgs F ((l : List AttrV).map AttrV.p) c3 = M := hM
            exact ⟨(⟨n + 1, l, cap, sp⟩, F, c3, g3), ⟨⟨hl, ho⟩, allEv.mono hal hC3.1, ⟨le_trans hbase hC3.1, hC3.2⟩, hs3, hn40, by show s.size < 2 * F + c3.at_; omega, hM⟩, by show F < F + 1; omega, [0, 1, 2, 3], rfl, trivial, rfl, rfl, rfl, rfl⟩
          have h0 : x3 ≠ 0 := by have := ne_of_beq_false h; omega
          rw [if_neg h0] at hM
          have hrem : ((x3 : Int).tmod 8192) = ((x3 % 8192 : Nat) : Int) := by rw [Int.tmod_eq_emod_of_nonneg (by omega)]; omega
          refine bsplit_of (fun (h1 : decide ((x3 : Int) ≥ 16384) = true) => ?_) (fun (h1 : decide ((x3 : Int) ≥ 16384) = false) => ?_)
          · have h1 := of_decide_eq_true h1
            have hb : attBad x3 = true := decide_eq_true (.inl (by omega))
            rw [hb] at hM
            have hM : CR.thr 2 (cB.at_ : Int) c3 = M := hM
            refine (throw_k hC3 2 cB.at_ hpB).callS [2] 4 rfl rfl rfl rfl ?_
            rintro o L1 gT ⟨rfl, rfl, hgT⟩ _
            subst gT
            subst hM
            refine recx_of Tryd.func59 rfl x59_ok ?_
            refine defx_of Tryd.func58 rfl x58_ok ?_
            refine (is_c 2 _ _).call rfl rfl rfl ?_
            refine ⟨[], ?_, rfl, (le_trans hbase hC3.1)⟩
            rw [Int.zero_add]
            rfl
          have h1 := of_decide_eq_false h1
          refine ⟨by decide, ?_⟩
          refine bsplit_of (fun h2 => ?_) (fun h2 => ?_)
          · have h2 : ((x3 % 8192 : Nat) : Int) > 400 := by rw [← hrem]; exact of_decide_eq_true h2
            have hb : attBad x3 = true := decide_eq_true (.inr (by omega))
            rw [hb] at hM
            have hM : CR.thr 2 (cB.at_ : Int) c3 = M := hM
            refine (throw_k hC3 2 cB.at_ hpB).callS [2] 4 rfl rfl rfl rfl ?_
            rintro o L1 gT ⟨rfl, rfl, hgT⟩ _
            subst gT
            subst hM
            refine recx_of Tryd.func59 rfl x59_ok ?_
            refine defx_of Tryd.func58 rfl x58_ok ?_
            refine (is_c 2 _ _).call rfl rfl rfl ?_
            refine ⟨[], ?_, rfl, (le_trans hbase hC3.1)⟩
            rw [Int.zero_add]
            rfl
          have h2 : ¬ ((x3 % 8192 : Nat) : Int) > 400 := by rw [← hrem]; exact of_decide_eq_false h2
          have hb : attBad x3 = false := decide_eq_false (by omega)
          rw [hb, CM.bind_ok (show cuThrow false 2 (cB.at_ : Int) c3 = .ok () c3 from rfl)] at hM
          obtain ⟨la, hla⟩ : ∃ la : Bool, decide ((x3 : Int) ≥ 8192) = la := ⟨_, rfl⟩
          have hla' : decide (8192 ≤ x3) = la := by
            rw [← hla, decide_eq_decide]; omega
          rw [hla'] at hM
          refine (cnum_k hC3 2 (by decide)).callS [2] 4 rfl rfl rfl rfl ?_
          intro o L1 g4 hq _
          rcases hx : cuNum 2 c3 with ⟨x4, c4⟩ | ⟨e, pl, cx⟩ <;> rw [hx] at hq <;> first | rw [CM.bind_ok hx] at hM | rw [CM.bind_thr hx] at hM
          obtain ⟨rfl, rfl, hC4⟩ := hq
          have hx4 : x4 < 65536 := cuNum_lt hx
          have hf4 := cuNum_fwd hx
          have hs4 : c4.s = s := by rw [hf4]; exact hs3
          have ha4 : c4.at_ = c3.at_ + 2 := by rw [hf4]; rfl
          refine ⟨by decide, ?_⟩
          obtain ⟨N, hN⟩ : ∃ N, x3 % 8192 = N := ⟨_, rfl⟩
          have hNr := hrem
          rw [hN] at hM hNr h2
          obtain ⟨K2, hK2⟩ : ∃ K2 : List Int → CM (List AttP), (fun evs => (cuThrow (!attB ⟨la, x4, evs⟩) 2 (cB.at_ : Int)).bind fun _ => (cuStep (cL.at_ : Int) f ((l : List AttrV).map AttrV.p) (some ⟨la, x4, evs⟩)).bind (cuMsgs F)) = K2 := ⟨_, rfl⟩
          have hM : (cuEvs N 134 []).bind K2 c4 = M := by rw [← hK2]; exact hM
          change LoopW _ _ _ _ _ _ _ _ _
          refine loop_gone ?_
          apply loop_rule [5] (α := EvSt × Nat × CurV × G) (fun _ => []) (fun y => [atlC (n + 1) cap, fltC, cuC y.2.2.1, grC 156 (n + 1) (atX l) sp, atC la x4 5 y.1, grC 3 y.1.n (evX y.1.l) y.1.sp]) (fun y => y.2.2.2)
            (fun y => y.1.ok ∧ CuAt gB 0 y.2.2.2 y.2.2.1 ∧ y.2.2.1.s = s ∧ s.size < 2 * F + y.2.2.1.at_ ∧ N ≤ y.1.l.length + 3 * y.2.1 ∧ ((cuEvs N y.2.1 y.1.l).bind K2) y.2.2.1 = M) (fun y => y.2.1) (⟨0, [], 0, []⟩, 134, c4, g4)
          · intro x; obtain ⟨⟨n, l, cap, sp⟩, f, c, g⟩ := x; cases n <;> kernel_rfl
          · exact ⟨⟨rfl, grOk.zero 1⟩, hC4, hs4, by show s.size < 2 * F + c4.at_; omega, by show N ≤ 0 + 3 * 134; omega, hM⟩
          · trivial
          · rw [← hla]; rfl
          · rfl
          · clear hM
            intro y hy
            obtain ⟨⟨nV, lV, capV, spV⟩, f2, cC, gC⟩ := y
            obtain ⟨⟨hlC, hoC⟩, hCC, hsC, haC, hf2, hM⟩ := hy
            dsimp only at hlC hoC hCC hsC haC hf2 hM
            have hbC : (cC.at_ : Int) = cC.off + cC.at_ := by rw [hCC.2.2]; omega
            have hpC : 0 ≤ (cC.at_ : Int) ∧ (cC.at_ : Int) ≤ 1000000000000 := hCC.at_lt
            rcases nV with _ | nV
            · obtain rfl : lV = [] := List.eq_nil_of_length_eq_zero hlC
              refine bsplit_of (fun h => ?_) (fun h => ?_)
              rotate_left
              · have hge : ¬ ([] : List Int).length < N := by
                  have h : ¬ (((0 : Nat) : Int) < (N : Int)) := by rw [← hNr]; exact of_decide_eq_false h
                  rw [hlC]; omega
                rw [evs_end _ _ _ _ hge, ← hK2] at hM
                change TurnW _ _ _ _ _ _
                refine turn_same ?_
                have hEv : EvsOk gC (⟨la, (x4 : Int), ⟨none, [], 0⟩⟩ : AttrV).events := (sliceV_nil _ _ _ _)
                have hCR : CuAt gB 0 gC cC := ⟨le_trans hCC.1 (le_refl gC), hCC.2⟩
                refine (mvRightR_c ⟨la, (x4 : Int), ⟨none, [], 0⟩⟩ _ hEv ⟨by show (0 : Int) ≤ x4; omega, by show (x4 : Int) ≤ 65535; omega⟩).call rfl rfl rfl ?_
                have hM : ((cuThrow (!attB (⟨la, (x4 : Int), ⟨none, [], 0⟩⟩ : AttrV).p) 2 (cB.at_ : Int)).bind fun _ => (cuStep (cL.at_ : Int) f ((l : List AttrV).map AttrV.p) (some (⟨la, (x4 : Int), ⟨none, [], 0⟩⟩ : AttrV).p)).bind (cuMsgs F)) cC = M := hM
                refine bsplit_of (fun h => ?_) (fun h => ?_)
                · have h : (!attB (⟨la, (x4 : Int), ⟨none, [], 0⟩⟩ : AttrV).p) = true := h
                  rw [h] at hM
                  have hM : CR.thr 2 (cB.at_ : Int) cC = M := hM
                  refine (throw_k hCR 2 cB.at_ hpB).callS [2] 6 rfl rfl rfl rfl ?_
                  rintro o L1 gT ⟨rfl, rfl, hgT⟩ _
                  subst gT
                  subst hM
                  refine recx_of Tryd.func59 rfl x59_ok ?_
                  refine defx_of Tryd.func58 rfl x58_ok ?_
                  refine (is_c 2 _ _).call rfl rfl rfl ?_
                  refine ⟨[], ?_, rfl, (le_trans hbase hCR.1)⟩
                  rw [Int.zero_add]
                  rfl
                · have h : (!attB (⟨la, (x4 : Int), ⟨none, [], 0⟩⟩ : AttrV).p) = false := h
                  rw [h] at hM
                  have hM : ((cuStep (cL.at_ : Int) f ((l : List AttrV).map AttrV.p) (some (⟨la, (x4 : Int), ⟨none, [], 0⟩⟩ : AttrV).p)).bind (cuMsgs F)) cC = M := hM
                  rw [cuStep, CM.bind_assoc] at hM
                  have g1 := gr_bounds ho
                  refine ⟨by show 0 + 1 * 3 ≤ 3; decide, fun u hu => by simp at hu; rcases hu with rfl | rfl | rfl <;> rfl, ?_⟩
                  refine ⟨atX l, sp, rfl, g1.1, ⟨g1.2.1, g1.2.2.1, g1.2.2.2⟩, by omega, fun cap2 sp2 k1 k2 k3 => ?_⟩
                  have hM : ((cuThrow (decide (40 < n + 1 + 1)) 4 (cL.at_ : Int)).bind fun _ => (cuAttrs (cL.at_ : Int) f ((l ++ [(⟨la, (x4 : Int), ⟨none, [], 0⟩⟩ : AttrV)]).map AttrV.p)).bind (cuMsgs F)) cC = M := by
                    rw [List.map_append, ← hM, List.length_map, hl]; rfl
                  refine bsplit_of (fun h6 => ?_) (fun h6 => ?_)
                  · have h6 : 40 < n + 1 + 1 := by have h6 := of_decide_eq_true h6; omega
                    rw [decide_eq_true h6] at hM
                    have hM : CR.thr 4 (cL.at_ : Int) cC = M := hM
                    refine (throw_k hCR 4 cL.at_ hpL).callS [2] 8 rfl rfl rfl rfl ?_
                    rintro o L1 gT ⟨rfl, rfl, hgT⟩ _
                    subst gT
                    subst hM
                    refine recx_of Tryd.func59 rfl x59_ok ?_
                    refine defx_of Tryd.func58 rfl x58_ok ?_
                    refine (is_c 4 _ _).call rfl rfl rfl ?_
                    refine ⟨[], ?_, rfl, (le_trans hbase hCR.1)⟩
                    rw [Int.zero_add]
                    rfl
                  · have h6 : ¬ 40 < n + 1 + 1 := by have h6 := of_decide_eq_false h6; omega
                    rw [decide_eq_false h6] at hM
                    have hM : ((cuAttrs (cL.at_ : Int) f ((l ++ [(⟨la, (x4 : Int), ⟨none, [], 0⟩⟩ : AttrV)]).map AttrV.p)).bind (cuMsgs F)) cC = M := hM
                    refine ⟨(⟨n + 1 + 1, l ++ [(⟨la, (x4 : Int), ⟨none, [], 0⟩⟩ : AttrV)], cap2, sp2⟩, f, cC, gC), ⟨⟨by simp [hl], by show grOk 3 (n + 1 + 1) cap2 (atX (l ++ [(⟨la, (x4 : Int), ⟨none, [], 0⟩⟩ : AttrV)])) sp2; rw [atX_snoc]; exact gr_next ho rfl k1 k2 k3⟩, allEv.snoc (allEv.mono hal hCR.1) hEv, ⟨le_trans hbase hCR.1, hCR.2⟩, hsC, by show n + 1 + 1 ≤ 40; omega, by show 45 ≤ f + (n + 1 + 1); omega, by show s.size < 2 * F + cC.at_; omega, hM⟩, by show f < f + 1; omega, [0, 1, 2, 7], rfl, trivial, ?_, rfl, rfl, rfl⟩
                    exact four (show atX l ++ ((⟨la, (x4 : Int), ⟨none, [], 0⟩⟩ : AttrV).cells ++ sp2) = atX (l ++ [(⟨la, (x4 : Int), ⟨none, [], 0⟩⟩ : AttrV)]) ++ sp2 by rw [atX_snoc, List.append_assoc])
              have hlt : ([] : List Int).length < N := by
                have h : (((0 : Nat) : Int) < (N : Int)) := by rw [← hNr]; exact of_decide_eq_true h
                rw [hlC]; omega
              obtain ⟨f2, rfl⟩ : ∃ j, f2 = j + 1 := ⟨f2 - 1, by omega⟩
              rw [evs_flat _ _ _ _ hlt, CM.bind_ok (show cuAt cC = .ok (cC.off + cC.at_) cC from rfl), ← hbC] at hM
              refine (cnum_k hCC 1 (by decide)).callS [2] 6 rfl rfl rfl rfl ?_
              intro o L1 g5 hq _
              rcases hx : cuNum 1 cC with ⟨x5, c5⟩ | ⟨e, pl, cx⟩ <;> rw [hx] at hq <;> first | rw [CM.bind_ok hx] at hM | rw [CM.bind_thr hx] at hM
              obtain ⟨rfl, rfl, hC5⟩ := hq
              have hx5 : x5 < 256 := cuNum_lt hx
              have hf5 := cuNum_fwd hx
              have hs5 : c5.s = s := by rw [hf5]; exact hsC
              have ha5 : c5.at_ = cC.at_ + 1 := by rw [hf5]; rfl
              refine bsplit_of (fun h => ?_) (fun h => ?_)
              · have h : 215 < x5 := by have h : ((x5 : Int) > 215) := of_decide_eq_true h; omega
                rw [decide_eq_true h] at hM
                have hM : CR.thr 2 (cC.at_ : Int) c5 = M := hM
                refine (throw_k hC5 2 cC.at_ hpC).callS [2] 6 rfl rfl rfl rfl ?_
                rintro o L1 gT ⟨rfl, rfl, hgT⟩ _
                subst gT
                subst hM
                refine recx_of Tryd.func59 rfl x59_ok ?_
                refine defx_of Tryd.func58 rfl x58_ok ?_
                refine (is_c 2 _ _).call rfl rfl rfl ?_
                refine ⟨[], ?_, rfl, (le_trans hbase hC5.1)⟩
                rw [Int.zero_add]
                rfl
              have h : ¬ 215 < x5 := by have h : ¬ ((x5 : Int) > 215) := of_decide_eq_false h; omega
              rw [decide_eq_false h] at hM
              refine ⟨by decide, by decide, by decide, by decide, ?_⟩
              change LoopW _ _ _ _ _ _ _ _ _
              apply loop_rule [5] (α := EvSt × Nat) (fun y => [(101, .v (.int .i64 y.2))]) (fun y => [atlC (n + 1) cap, fltC, cuC c5, grC 156 (n + 1) (atX l) sp, atC la x4 5 y.1, grC 3 y.1.n (evX y.1.l) y.1.sp, thD x5]) (fun _ => g5)
                (fun y => y.1.ok ∧ y.2 ≤ 3 ∧ y.1.l.length = min ((0) + y.2) N ∧ ((cuThree N (cC.at_ : Int) ((three x5).drop y.2) y.1.l).bind fun acc => (cuEvs N f2 acc).bind K2) c5 = M) (fun y => 3 - y.2) (⟨0, [], capV, spV⟩, 0)
              · intro x; obtain ⟨⟨n, l, cap, sp⟩, i⟩ := x; cases n <;> kernel_rfl
              · exact ⟨⟨hlC, hoC⟩, Nat.zero_le _, by show ([] : List Int).length = min ((0 : Nat) + 0) N; omega, hM⟩
              · exact ⟨rfl, trivial⟩
              · rfl
              · rfl
              · clear hM
                intro y hy
                obtain ⟨⟨nD, lD, capD, spD⟩, i⟩ := y
                obtain ⟨⟨hlD, hoD⟩, hi, hmD, hM⟩ := hy
                dsimp only at hlD hoD hi hmD hM
                rcases nD with _ | nD
                · obtain rfl : lD = [] := List.eq_nil_of_length_eq_zero hlD
                  refine bsplit_of (fun h => ?_) (fun h => ?_)
                  rotate_left
                  · have h3 : i = 3 := by
                      have h : ¬ ((i : Int) < 3) := of_decide_eq_false h
                      omega
                    subst h3
                    have hM : ((cuEvs N f2 []).bind K2) c5 = M := hM
                    exact ⟨(⟨0, [], capD, spD⟩, f2, c5, g5), ⟨⟨hlD, hoD⟩, hC5, hs5, by show s.size < 2 * F + c5.at_; omega, by show N ≤ ([] : List Int).length + 3 * f2; omega, hM⟩, by show f2 < f2 + 1; omega, [0, 1, 2, 3, 4, 5], rfl, trivial, rfl, rfl, rfl, rfl⟩
                  have hi3 : i < 3 := by
                    have h : ((i : Int) < 3) := of_decide_eq_true h
                    omega
                  obtain ⟨e, hd, hv, hwe⟩ := thW_at hx5 hi3
                  rw [hd] at hM
                  refine ⟨⟨by show (0 : Int) ≤ ((i : Nat) : Int); omega, by show ((i : Nat) : Int) < ((3 : Nat) : Int); omega⟩, ?_⟩
                  refine load1_cV (c := thW x5) (x := .int .i64 (e : Int)) rfl (show (thW x5)[0 + ((i : Int)).toNat * 1]? = some (.int .i64 (e : Int)) from by rw [offN]; exact hv) ?_
                  refine bsplit_of (fun h4 => ?_) (fun h4 => ?_)
                  · have h4' : ([] : List Int).length < N := by
                      have h4 : ((0 : Nat) : Int) < (N : Int) := by rw [← hNr]; exact of_decide_eq_true h4
                      rw [hlD]; omega
                    rw [three_in _ _ _ _ _ _ h4'] at hM
                    refine ⟨by show 0 + 1 * 1 ≤ 1; decide, fun u hu => by simp at hu; subst hu; rfl, ?_⟩
                    refine ⟨by decide, fun cap2 sp2 k1 k2 k3 => ?_⟩
                    exact ⟨(⟨1, [(e : Int)], cap2, sp2⟩, i + 1), ⟨⟨rfl, gr_first rfl k1 k2 k3⟩, by show i + 1 ≤ 3; omega, by show [(e : Int)].length = min (_ + (i + 1)) N; simp at hmD ⊢; omega, hM⟩, by show 3 - (i + 1) < 3 - i; omega, [0, 1, 2, 3, 4, 8, 6], rfl, ⟨vi (show IntKind.i64.wrap ((i : Int) + 1) = ((i + 1 : Nat) : Int) from by rw [wrap_id (by omega) (by omega)]; omega), trivial⟩, rfl, rfl, rfl, rfl⟩
                  · have h4' : ¬ ([] : List Int).length < N := by
                      have h4 : ¬ ((0 : Nat) : Int) < (N : Int) := by rw [← hNr]; exact of_decide_eq_false h4
                      rw [hlD]; omega
                    rw [three_out _ _ _ _ _ _ h4'] at hM
                    refine bsplit_of (fun h5 => ?_) (fun h5 => ?_)
                    · have h5' : 0 < e := by have h5 : ((e : Int) > 0) := of_decide_eq_true h5; omega
                      rw [decide_eq_true h5'] at hM
                      have hM : CR.thr 15 (cC.at_ : Int) c5 = M := hM
                      refine (throw_k hC5 15 cC.at_ hpC).callS [2] 7 rfl rfl rfl rfl ?_
                      rintro o L1 gT ⟨rfl, rfl, hgT⟩ _
                      subst gT
                      subst hM
                      refine recx_of Tryd.func59 rfl x59_ok ?_
                      refine defx_of Tryd.func58 rfl x58_ok ?_
                      refine (is_c 15 _ _).call rfl rfl rfl ?_
                      refine ⟨[], ?_, rfl, (le_trans hbase hC5.1)⟩
                      rw [Int.zero_add]
                      rfl
                    · have h5' : ¬ 0 < e := by have h5 : ¬ ((e : Int) > 0) := of_decide_eq_false h5; omega
                      rw [decide_eq_false h5'] at hM
                      exact ⟨(⟨0, [], capD, spD⟩, i + 1), ⟨⟨hlD, hoD⟩, by show i + 1 ≤ 3; omega, by show ([] : List Int).length = min (_ + (i + 1)) N; omega, hM⟩, by show 3 - (i + 1) < 3 - i; omega, [0, 1, 2, 3, 4, 5, 6], rfl, ⟨vi (show IntKind.i64.wrap ((i : Int) + 1) = ((i + 1 : Nat) : Int) from by rw [wrap_id (by omega) (by omega)]; omega), trivial⟩, rfl, rfl, rfl, rfl⟩
                ·
                  refine bsplit_of (fun h => ?_) (fun h => ?_)
                  rotate_left
                  · have h3 : i = 3 := by
                      have h : ¬ ((i : Int) < 3) := of_decide_eq_false h
                      omega
                    subst h3
                    have hM : ((cuEvs N f2 lD).bind K2) c5 = M := hM
                    exact ⟨(⟨nD + 1, lD, capD, spD⟩, f2, c5, g5), ⟨⟨hlD, hoD⟩, hC5, hs5, by show s.size < 2 * F + c5.at_; omega, by show N ≤ (lD : List Int).length + 3 * f2; omega, hM⟩, by show f2 < f2 + 1; omega, [0, 1, 2, 3, 4, 5], rfl, trivial, rfl, rfl, rfl, rfl⟩
                  have hi3 : i < 3 := by
                    have h : ((i : Int) < 3) := of_decide_eq_true h
                    omega
                  obtain ⟨e, hd, hv, hwe⟩ := thW_at hx5 hi3
                  rw [hd] at hM
                  refine ⟨⟨by show (0 : Int) ≤ ((i : Nat) : Int); omega, by show ((i : Nat) : Int) < ((3 : Nat) : Int); omega⟩, ?_⟩
                  refine load1_cV (c := thW x5) (x := .int .i64 (e : Int)) rfl (show (thW x5)[0 + ((i : Int)).toNat * 1]? = some (.int .i64 (e : Int)) from by rw [offN]; exact hv) ?_
                  refine bsplit_of (fun h4 => ?_) (fun h4 => ?_)
                  · have h4' : (lD : List Int).length < N := by
                      have h4 : ((nD + 1 : Nat) : Int) < (N : Int) := by rw [← hNr]; exact of_decide_eq_true h4
                      rw [hlD]; omega
                    rw [three_in _ _ _ _ _ _ h4'] at hM
                    have g1 := gr_bounds hoD
                    refine ⟨by show 0 + 1 * 1 ≤ 1; decide, fun u hu => by simp at hu; subst hu; rfl, ?_⟩
                    refine ⟨evX lD, spD, rfl, g1.1, ⟨g1.2.1, g1.2.2.1, g1.2.2.2⟩, by omega, fun cap2 sp2 k1 k2 k3 => ?_⟩
                    refine ⟨(⟨nD + 1 + 1, lD ++ [(e : Int)], cap2, sp2⟩, i + 1), ⟨⟨by simp [hlD], by rw [evX_snoc]; exact gr_next hoD rfl k1 k2 k3⟩, by show i + 1 ≤ 3; omega, by show (lD ++ [(e : Int)]).length = min (_ + (i + 1)) N; rw [List.length_append, hmD]; simp; omega, hM⟩, by show 3 - (i + 1) < 3 - i; omega, [0, 1, 2, 3, 4, 8, 6], rfl, ⟨vi (show IntKind.i64.wrap ((i : Int) + 1) = ((i + 1 : Nat) : Int) from by rw [wrap_id (by omega) (by omega)]; omega), trivial⟩, ?_, rfl, rfl, rfl⟩
                    exact seven (show evX lD ++ ([.int .i64 e] ++ sp2) = evX (lD ++ [(e : Int)]) ++ sp2 by rw [evX_snoc, List.append_assoc])
                  · have h4' : ¬ (lD : List Int).length < N := by
                      have h4 : ¬ ((nD + 1 : Nat) : Int) < (N : Int) := by rw [← hNr]; exact of_decide_eq_false h4
                      rw [hlD]; omega
                    rw [three_out _ _ _ _ _ _ h4'] at hM
                    refine bsplit_of (fun h5 => ?_) (fun h5 => ?_)
                    · have h5' : 0 < e := by have h5 : ((e : Int) > 0) := of_decide_eq_true h5; omega
                      rw [decide_eq_true h5'] at hM
                      have hM : CR.thr 15 (cC.at_ : Int) c5 = M := hM
                      refine (throw_k hC5 15 cC.at_ hpC).callS [2] 7 rfl rfl rfl rfl ?_
                      rintro o L1 gT ⟨rfl, rfl, hgT⟩ _
                      subst gT
                      subst hM
                      refine recx_of Tryd.func59 rfl x59_ok ?_
                      refine defx_of Tryd.func58 rfl x58_ok ?_
                      refine (is_c 15 _ _).call rfl rfl rfl ?_
                      refine ⟨[], ?_, rfl, (le_trans hbase hC5.1)⟩
                      rw [Int.zero_add]
                      rfl
                    · have h5' : ¬ 0 < e := by have h5 : ¬ ((e : Int) > 0) := of_decide_eq_false h5; omega
                      rw [decide_eq_false h5'] at hM
                      exact ⟨(⟨nD + 1, lD, capD, spD⟩, i + 1), ⟨⟨hlD, hoD⟩, by show i + 1 ≤ 3; omega, by show (lD : List Int).length = min (_ + (i + 1)) N; omega, hM⟩, by show 3 - (i + 1) < 3 - i; omega, [0, 1, 2, 3, 4, 5, 6], rfl, ⟨vi (show IntKind.i64.wrap ((i : Int) + 1) = ((i + 1 : Nat) : Int) from by rw [wrap_id (by omega) (by omega)]; omega), trivial⟩, rfl, rfl, rfl, rfl⟩
              all_goals
                obtain ⟨rfl, rfl, hle, he⟩ := hq
                subst hM
                refine recx_of Tryd.func59 rfl x59_ok ?_
                refine defx_of Tryd.func58 rfl x58_ok ?_
                refine (is_c e _ _).call rfl rfl rfl ?_
                refine bsplit_of (fun _ => ?_) (fun k => absurd k (by simp [he]))
                exact ⟨[], rfl, rfl, le_trans hbase hle⟩
            ·
              refine bsplit_of (fun h => ?_) (fun h => ?_)
              rotate_left
              · have hge : ¬ (lV : List Int).length < N := by
                  have h : ¬ (((nV + 1 : Nat) : Int) < (N : Int)) := by rw [← hNr]; exact of_decide_eq_false h
                  rw [hlC]; omega
                rw [evs_end _ _ _ _ hge, ← hK2] at hM
                change TurnW _ _ _ _ _ _
                rcases lV with _ | ⟨eV, tV⟩
                · cases hlC
                obtain rfl : nV = tV.length := by simpa using hlC.symm
                refine turn_freeze 5 3 (evX (eV :: tV) ++ spV) (.inl rfl) fun b g' hle hat => ?_
                have hEv : EvsOk g' (⟨la, (x4 : Int), ⟨some ⟨b, 0, none⟩, eV :: tV, capV⟩⟩ : AttrV).events := (slice_at hoC hat)
                have hCR : CuAt gB 0 g' cC := ⟨le_trans hCC.1 hle, hCC.2⟩
                refine (mvRightR_c ⟨la, (x4 : Int), ⟨some ⟨b, 0, none⟩, eV :: tV, capV⟩⟩ _ hEv ⟨by show (0 : Int) ≤ x4; omega, by show (x4 : Int) ≤ 65535; omega⟩).call rfl rfl rfl ?_
                have hM : ((cuThrow (!attB (⟨la, (x4 : Int), ⟨some ⟨b, 0, none⟩, eV :: tV, capV⟩⟩ : AttrV).p) 2 (cB.at_ : Int)).bind fun _ => (cuStep (cL.at_ : Int) f ((l : List AttrV).map AttrV.p) (some (⟨la, (x4 : Int), ⟨some ⟨b, 0, none⟩, eV :: tV, capV⟩⟩ : AttrV).p)).bind (cuMsgs F)) cC = M := hM
                refine bsplit_of (fun h => ?_) (fun h => ?_)
                · have h : (!attB (⟨la, (x4 : Int), ⟨some ⟨b, 0, none⟩, eV :: tV, capV⟩⟩ : AttrV).p) = true := h
                  rw [h] at hM
                  have hM : CR.thr 2 (cB.at_ : Int) cC = M := hM
                  refine (throw_k hCR 2 cB.at_ hpB).callS [2] 6 rfl rfl rfl rfl ?_
                  rintro o L1 gT ⟨rfl, rfl, hgT⟩ _
                  subst gT
                  subst hM
                  refine recx_of Tryd.func59 rfl x59_ok ?_
                  refine defx_of Tryd.func58 rfl x58_ok ?_
                  refine (is_c 2 _ _).call rfl rfl rfl ?_
                  refine ⟨[], ?_, rfl, (le_trans hbase hCR.1)⟩
                  rw [Int.zero_add]
                  rfl
                · have h : (!attB (⟨la, (x4 : Int), ⟨some ⟨b, 0, none⟩, eV :: tV, capV⟩⟩ : AttrV).p) = false := h
                  rw [h] at hM
                  have hM : ((cuStep (cL.at_ : Int) f ((l : List AttrV).map AttrV.p) (some (⟨la, (x4 : Int), ⟨some ⟨b, 0, none⟩, eV :: tV, capV⟩⟩ : AttrV).p)).bind (cuMsgs F)) cC = M := hM
                  rw [cuStep, CM.bind_assoc] at hM
                  have g1 := gr_bounds ho
                  refine ⟨by show 0 + 1 * 3 ≤ 3; decide, fun u hu => by simp at hu; rcases hu with rfl | rfl | rfl <;> rfl, ?_⟩
                  refine ⟨atX l, sp, rfl, g1.1, ⟨g1.2.1, g1.2.2.1, g1.2.2.2⟩, by omega, fun cap2 sp2 k1 k2 k3 => ?_⟩
                  have hM : ((cuThrow (decide (40 < n + 1 + 1)) 4 (cL.at_ : Int)).bind fun _ => (cuAttrs (cL.at_ : Int) f ((l ++ [(⟨la, (x4 : Int), ⟨some ⟨b, 0, none⟩, eV :: tV, capV⟩⟩ : AttrV)]).map AttrV.p)).bind (cuMsgs F)) cC = M := by
                    rw [List.map_append, ← hM, List.length_map, hl]; rfl
                  refine bsplit_of (fun h6 => ?_) (fun h6 => ?_)
                  · have h6 : 40 < n + 1 + 1 := by have h6 := of_decide_eq_true h6; omega
                    rw [decide_eq_true h6] at hM
                    have hM : CR.thr 4 (cL.at_ : Int) cC = M := hM
                    refine (throw_k hCR 4 cL.at_ hpL).callS [2] 8 rfl rfl rfl rfl ?_
                    rintro o L1 gT ⟨rfl, rfl, hgT⟩ _
                    subst gT
                    subst hM
                    refine recx_of Tryd.func59 rfl x59_ok ?_
                    refine defx_of Tryd.func58 rfl x58_ok ?_
                    refine (is_c 4 _ _).call rfl rfl rfl ?_
                    refine ⟨[], ?_, rfl, (le_trans hbase hCR.1)⟩
                    rw [Int.zero_add]
                    rfl
                  · have h6 : ¬ 40 < n + 1 + 1 := by have h6 := of_decide_eq_false h6; omega
                    rw [decide_eq_false h6] at hM
                    have hM : ((cuAttrs (cL.at_ : Int) f ((l ++ [(⟨la, (x4 : Int), ⟨some ⟨b, 0, none⟩, eV :: tV, capV⟩⟩ : AttrV)]).map AttrV.p)).bind (cuMsgs F)) cC = M := hM
                    refine ⟨(⟨n + 1 + 1, l ++ [(⟨la, (x4 : Int), ⟨some ⟨b, 0, none⟩, eV :: tV, capV⟩⟩ : AttrV)], cap2, sp2⟩, f, cC, g'), ⟨⟨by simp [hl], by show grOk 3 (n + 1 + 1) cap2 (atX (l ++ [(⟨la, (x4 : Int), ⟨some ⟨b, 0, none⟩, eV :: tV, capV⟩⟩ : AttrV)])) sp2; rw [atX_snoc]; exact gr_next ho rfl k1 k2 k3⟩, allEv.snoc (allEv.mono hal hCR.1) hEv, ⟨le_trans hbase hCR.1, hCR.2⟩, hsC, by show n + 1 + 1 ≤ 40; omega, by show 45 ≤ f + (n + 1 + 1); omega, by show s.size < 2 * F + cC.at_; omega, hM⟩, by show f < f + 1; omega, [0, 1, 2, 7], rfl, trivial, ?_, rfl, rfl, rfl⟩
                    exact four (show atX l ++ ((⟨la, (x4 : Int), ⟨some ⟨b, 0, none⟩, eV :: tV, capV⟩⟩ : AttrV).cells ++ sp2) = atX (l ++ [(⟨la, (x4 : Int), ⟨some ⟨b, 0, none⟩, eV :: tV, capV⟩⟩ : AttrV)]) ++ sp2 by rw [atX_snoc, List.append_assoc])
              have hlt : (lV : List Int).length < N := by
                have h : (((nV + 1 : Nat) : Int) < (N : Int)) := by rw [← hNr]; exact of_decide_eq_true h
                rw [hlC]; omega
              obtain ⟨f2, rfl⟩ : ∃ j, f2 = j + 1 := ⟨f2 - 1, by omega⟩
              rw [evs_flat _ _ _ _ hlt, CM.bind_ok (show cuAt cC = .ok (cC.off + cC.at_) cC from rfl), ← hbC] at hM
              refine (cnum_k hCC 1 (by decide)).callS [2] 6 rfl rfl rfl rfl ?_
              intro o L1 g5 hq _
              rcases hx : cuNum 1 cC with ⟨x5, c5⟩ | ⟨e, pl, cx⟩ <;> rw [hx] at hq <;> first | rw [CM.bind_ok hx] at hM | rw [CM.bind_thr hx] at hM
              obtain ⟨rfl, rfl, hC5⟩ := hq
              have hx5 : x5 < 256 := cuNum_lt hx
              have hf5 := cuNum_fwd hx
              have hs5 : c5.s = s := by rw [hf5]; exact hsC
              have ha5 : c5.at_ = cC.at_ + 1 := by rw [hf5]; rfl
              refine bsplit_of (fun h => ?_) (fun h => ?_)
              · have h : 215 < x5 := by have h : ((x5 : Int) > 215) := of_decide_eq_true h; omega
                rw [decide_eq_true h] at hM
                have hM : CR.thr 2 (cC.at_ : Int) c5 = M := hM
                refine (throw_k hC5 2 cC.at_ hpC).callS [2] 6 rfl rfl rfl rfl ?_
                rintro o L1 gT ⟨rfl, rfl, hgT⟩ _
                subst gT
                subst hM
                refine recx_of Tryd.func59 rfl x59_ok ?_
                refine defx_of Tryd.func58 rfl x58_ok ?_
                refine (is_c 2 _ _).call rfl rfl rfl ?_
                refine ⟨[], ?_, rfl, (le_trans hbase hC5.1)⟩
                rw [Int.zero_add]
                rfl
              have h : ¬ 215 < x5 := by have h : ¬ ((x5 : Int) > 215) := of_decide_eq_false h; omega
              rw [decide_eq_false h] at hM
              refine ⟨by decide, by decide, by decide, by decide, ?_⟩
              change LoopW _ _ _ _ _ _ _ _ _
              apply loop_rule [5] (α := EvSt × Nat) (fun y => [(101, .v (.int .i64 y.2))]) (fun y => [atlC (n + 1) cap, fltC, cuC c5, grC 156 (n + 1) (atX l) sp, atC la x4 5 y.1, grC 3 y.1.n (evX y.1.l) y.1.sp, thD x5]) (fun _ => g5)
                (fun y => y.1.ok ∧ y.2 ≤ 3 ∧ y.1.l.length = min ((nV + 1) + y.2) N ∧ ((cuThree N (cC.at_ : Int) ((three x5).drop y.2) y.1.l).bind fun acc => (cuEvs N f2 acc).bind K2) c5 = M) (fun y => 3 - y.2) (⟨nV + 1, lV, capV, spV⟩, 0)
              · intro x; obtain ⟨⟨n, l, cap, sp⟩, i⟩ := x; cases n <;> kernel_rfl
              · exact ⟨⟨hlC, hoC⟩, Nat.zero_le _, by show (lV : List Int).length = min ((nV + 1 : Nat) + 0) N; omega, hM⟩
              · exact ⟨rfl, trivial⟩
              · rfl
              · rfl
              · clear hM
                intro y hy
                obtain ⟨⟨nD, lD, capD, spD⟩, i⟩ := y
                obtain ⟨⟨hlD, hoD⟩, hi, hmD, hM⟩ := hy
                dsimp only at hlD hoD hi hmD hM
                rcases nD with _ | nD
                · obtain rfl : lD = [] := List.eq_nil_of_length_eq_zero hlD
                  refine bsplit_of (fun h => ?_) (fun h => ?_)
                  rotate_left
                  · have h3 : i = 3 := by
                      have h : ¬ ((i : Int) < 3) := of_decide_eq_false h
                      omega
                    subst h3
                    have hM : ((cuEvs N f2 []).bind K2) c5 = M := hM
                    exact ⟨(⟨0, [], capD, spD⟩, f2, c5, g5), ⟨⟨hlD, hoD⟩, hC5, hs5, by show s.size < 2 * F + c5.at_; omega, by show N ≤ ([] : List Int).length + 3 * f2; omega, hM⟩, by show f2 < f2 + 1; omega, [0, 1, 2, 3, 4, 5], rfl, trivial, rfl, rfl, rfl, rfl⟩
                  have hi3 : i < 3 := by
                    have h : ((i : Int) < 3) := of_decide_eq_true h
                    omega
                  obtain ⟨e, hd, hv, hwe⟩ := thW_at hx5 hi3
                  rw [hd] at hM
                  refine ⟨⟨by show (0 : Int) ≤ ((i : Nat) : Int); omega, by show ((i : Nat) : Int) < ((3 : Nat) : Int); omega⟩, ?_⟩
                  refine load1_cV (c := thW x5) (x := .int .i64 (e : Int)) rfl (show (thW x5)[0 + ((i : Int)).toNat * 1]? = some (.int .i64 (e : Int)) from by rw [offN]; exact hv) ?_
                  refine bsplit_of (fun h4 => ?_) (fun h4 => ?_)
                  · have h4' : ([] : List Int).length < N := by
                      have h4 : ((0 : Nat) : Int) < (N : Int) := by rw [← hNr]; exact of_decide_eq_true h4
                      rw [hlD]; omega
                    rw [three_in _ _ _ _ _ _ h4'] at hM
                    refine ⟨by show 0 + 1 * 1 ≤ 1; decide, fun u hu => by simp at hu; subst hu; rfl, ?_⟩
                    refine ⟨by decide, fun cap2 sp2 k1 k2 k3 => ?_⟩
                    exact ⟨(⟨1, [(e : Int)], cap2, sp2⟩, i + 1), ⟨⟨rfl, gr_first rfl k1 k2 k3⟩, by show i + 1 ≤ 3; omega, by show [(e : Int)].length = min (_ + (i + 1)) N; simp at hmD ⊢; omega, hM⟩, by show 3 - (i + 1) < 3 - i; omega, [0, 1, 2, 3, 4, 8, 6], rfl, ⟨vi (show IntKind.i64.wrap ((i : Int) + 1) = ((i + 1 : Nat) : Int) from by rw [wrap_id (by omega) (by omega)]; omega), trivial⟩, rfl, rfl, rfl, rfl⟩
                  · have h4' : ¬ ([] : List Int).length < N := by
                      have h4 : ¬ ((0 : Nat) : Int) < (N : Int) := by rw [← hNr]; exact of_decide_eq_false h4
                      rw [hlD]; omega
                    rw [three_out _ _ _ _ _ _ h4'] at hM
                    refine bsplit_of (fun h5 => ?_) (fun h5 => ?_)
                    · have h5' : 0 < e := by have h5 : ((e : Int) > 0) := of_decide_eq_true h5; omega
                      rw [decide_eq_true h5'] at hM
                      have hM : CR.thr 15 (cC.at_ : Int) c5 = M := hM
                      refine (throw_k hC5 15 cC.at_ hpC).callS [2] 7 rfl rfl rfl rfl ?_
                      rintro o L1 gT ⟨rfl, rfl, hgT⟩ _
                      subst gT
                      subst hM
                      refine recx_of Tryd.func59 rfl x59_ok ?_
                      refine defx_of Tryd.func58 rfl x58_ok ?_
                      refine (is_c 15 _ _).call rfl rfl rfl ?_
                      refine ⟨[], ?_, rfl, (le_trans hbase hC5.1)⟩
                      rw [Int.zero_add]
                      rfl
                    · have h5' : ¬ 0 < e := by have h5 : ¬ ((e : Int) > 0) := of_decide_eq_false h5; omega
                      rw [decide_eq_false h5'] at hM
                      exact ⟨(⟨0, [], capD, spD⟩, i + 1), ⟨⟨hlD, hoD⟩, by show i + 1 ≤ 3; omega, by show ([] : List Int).length = min (_ + (i + 1)) N; omega, hM⟩, by show 3 - (i + 1) < 3 - i; omega, [0, 1, 2, 3, 4, 5, 6], rfl, ⟨vi (show IntKind.i64.wrap ((i : Int) + 1) = ((i + 1 : Nat) : Int) from by rw [wrap_id (by omega) (by omega)]; omega), trivial⟩, rfl, rfl, rfl, rfl⟩
                ·
                  refine bsplit_of (fun h => ?_) (fun h => ?_)
                  rotate_left
                  · have h3 : i = 3 := by
                      have h : ¬ ((i : Int) < 3) := of_decide_eq_false h
                      omega
                    subst h3
                    have hM : ((cuEvs N f2 lD).bind K2) c5 = M := hM
                    exact ⟨(⟨nD + 1, lD, capD, spD⟩, f2, c5, g5), ⟨⟨hlD, hoD⟩, hC5, hs5, by show s.size < 2 * F + c5.at_; omega, by show N ≤ (lD : List Int).length + 3 * f2; omega, hM⟩, by show f2 < f2 + 1; omega, [0, 1, 2, 3, 4, 5], rfl, trivial, rfl, rfl, rfl, rfl⟩
                  have hi3 : i < 3 := by
                    have h : ((i : Int) < 3) := of_decide_eq_true h
                    omega
                  obtain ⟨e, hd, hv, hwe⟩ := thW_at hx5 hi3
                  rw [hd] at hM
                  refine ⟨⟨by show (0 : Int) ≤ ((i : Nat) : Int); omega, by show ((i : Nat) : Int) < ((3 : Nat) : Int); omega⟩, ?_⟩
                  refine load1_cV (c := thW x5) (x := .int .i64 (e : Int)) rfl (show (thW x5)[0 + ((i : Int)).toNat * 1]? = some (.int .i64 (e : Int)) from by rw [offN]; exact hv) ?_
                  refine bsplit_of (fun h4 => ?_) (fun h4 => ?_)
                  · have h4' : (lD : List Int).length < N := by
                      have h4 : ((nD + 1 : Nat) : Int) < (N : Int) := by rw [← hNr]; exact of_decide_eq_true h4
                      rw [hlD]; omega
                    rw [three_in _ _ _ _ _ _ h4'] at hM
                    have g1 := gr_bounds hoD
                    refine ⟨by show 0 + 1 * 1 ≤ 1; decide, fun u hu => by simp at hu; subst hu; rfl, ?_⟩
                    refine ⟨evX lD, spD, rfl, g1.1, ⟨g1.2.1, g1.2.2.1, g1.2.2.2⟩, by omega, fun cap2 sp2 k1 k2 k3 => ?_⟩
                    refine ⟨(⟨nD + 1 + 1, lD ++ [(e : Int)], cap2, sp2⟩, i + 1), ⟨⟨by simp [hlD], by rw [evX_snoc]; exact gr_next hoD rfl k1 k2 k3⟩, by show i + 1 ≤ 3; omega, by show (lD ++ [(e : Int)]).length = min (_ + (i + 1)) N; rw [List.length_append, hmD]; simp; omega, hM⟩, by show 3 - (i + 1) < 3 - i; omega, [0, 1, 2, 3, 4, 8, 6], rfl, ⟨vi (show IntKind.i64.wrap ((i : Int) + 1) = ((i + 1 : Nat) : Int) from by rw [wrap_id (by omega) (by omega)]; omega), trivial⟩, ?_, rfl, rfl, rfl⟩
                    exact seven (show evX lD ++ ([.int .i64 e] ++ sp2) = evX (lD ++ [(e : Int)]) ++ sp2 by rw [evX_snoc, List.append_assoc])
                  · have h4' : ¬ (lD : List Int).length < N := by
                      have h4 : ¬ ((nD + 1 : Nat) : Int) < (N : Int) := by rw [← hNr]; exact of_decide_eq_false h4
                      rw [hlD]; omega
                    rw [three_out _ _ _ _ _ _ h4'] at hM
                    refine bsplit_of (fun h5 => ?_) (fun h5 => ?_)
                    · have h5' : 0 < e := by have h5 : ((e : Int) > 0) := of_decide_eq_true h5; omega
                      rw [decide_eq_true h5'] at hM
                      have hM : CR.thr 15 (cC.at_ : Int) c5 = M := hM
                      refine (throw_k hC5 15 cC.at_ hpC).callS [2] 7 rfl rfl rfl rfl ?_
                      rintro o L1 gT ⟨rfl, rfl, hgT⟩ _
                      subst gT
                      subst hM
                      refine recx_of Tryd.func59 rfl x59_ok ?_
                      refine defx_of Tryd.func58 rfl x58_ok ?_
                      refine (is_c 15 _ _).call rfl rfl rfl ?_
                      refine ⟨[], ?_, rfl, (le_trans hbase hC5.1)⟩
                      rw [Int.zero_add]
                      rfl
                    · have h5' : ¬ 0 < e := by have h5 : ¬ ((e : Int) > 0) := of_decide_eq_false h5; omega
                      rw [decide_eq_false h5'] at hM
                      exact ⟨(⟨nD + 1, lD, capD, spD⟩, i + 1), ⟨⟨hlD, hoD⟩, by show i + 1 ≤ 3; omega, by show (lD : List Int).length = min (_ + (i + 1)) N; omega, hM⟩, by show 3 - (i + 1) < 3 - i; omega, [0, 1, 2, 3, 4, 5, 6], rfl, ⟨vi (show IntKind.i64.wrap ((i : Int) + 1) = ((i + 1 : Nat) : Int) from by rw [wrap_id (by omega) (by omega)]; omega), trivial⟩, rfl, rfl, rfl, rfl⟩
              all_goals
                obtain ⟨rfl, rfl, hle, he⟩ := hq
                subst hM
                refine recx_of Tryd.func59 rfl x59_ok ?_
                refine defx_of Tryd.func58 rfl x58_ok ?_
                refine (is_c e _ _).call rfl rfl rfl ?_
                refine bsplit_of (fun _ => ?_) (fun k => absurd k (by simp [he]))
                exact ⟨[], rfl, rfl, le_trans hbase hle⟩
          all_goals
            obtain ⟨rfl, rfl, hle, he⟩ := hq
            subst hM
            refine recx_of Tryd.func59 rfl x59_ok ?_
            refine defx_of Tryd.func58 rfl x58_ok ?_
            refine (is_c e _ _).call rfl rfl rfl ?_
            refine bsplit_of (fun _ => ?_) (fun k => absurd k (by simp [he]))
            exact ⟨[], rfl, rfl, le_trans hbase hle⟩
      all_goals
        obtain ⟨rfl, rfl, hle, he⟩ := hq
        subst hM
        refine recx_of Tryd.func59 rfl x59_ok ?_
        refine defx_of Tryd.func58 rfl x58_ok ?_
        refine (is_c e _ _).call rfl rfl rfl ?_
        refine bsplit_of (fun _ => ?_) (fun k => absurd k (by simp [he]))
        exact ⟨[], rfl, rfl, le_trans hbase hle⟩
  all_goals
    obtain ⟨rfl, rfl, hle, he⟩ := hq
    subst hM
    refine recx_of Tryd.func59 rfl x59_ok ?_
    refine defx_of Tryd.func58 rfl x58_ok ?_
    refine (is_c e _ _).call rfl rfl rfl ?_
    refine bsplit_of (fun _ => ?_) (fun k => absurd k (by simp [he]))
    exact ⟨[], rfl, rfl, le_trans hbase hle⟩
end Go.Proofs.YtfianfpmnglfnaaDoor
