/- mvrp.attr: the one attribute that comes next. Conditions: the reader's place and text are of a size that memory holds. -/
import Derived.Test.YtfianfpmnglfnaaDoorMvA
import Derived.Test.YtfianfpmnglfnaaDoorBaseD
namespace Go.Proofs.YtfianfpmnglfnaaDoor
open Go.Sx
set_option maxRecDepth 100000
set_option maxHeartbeats 8000000
attribute [local irreducible] Meets

theorem bind_ok {α β : Type} {q : RM α} {d : α} {f : α → RM β} {r : RdV} (he : r.err = none) : (rdIfOk q d).bind f r = q.bind f r := by simp only [RM.bind, rdIfOk_none he]
theorem bind_no {α β : Type} {q : RM α} {d : α} {f : α → RM β} {r : RdV} {p : Int × Int} (he : r.err = some p) : (rdIfOk q d).bind f r = f d r := by simp only [RM.bind, rdIfOk_some he]
theorem evs_done {n f : Nat} {l : List Int} (h : ¬ l.length < n) : rdEvs n f l = RM.pure l := by
  cases f with
  | zero => rfl
  | succ f => rw [rdEvs, if_neg h]
theorem shr13 {n : Nat} (h : n < 65536) : (n : Int).fdiv (2 ^ (min (Int.toNat 13) IntKind.i64.bits)) = ((n / 8192 : Nat) : Int) := by
  show (n : Int).fdiv (2 ^ (min 13 IntKind.i64.bits)) = _
  rw [shr64 (by decide)]; omega
theorem and8191 {n : Nat} (h : n < 65536) : IntKind.i64.wrap ((BitVec.ofInt IntKind.i64.bits (n : Int) &&& BitVec.ofInt IntKind.i64.bits 8191).toNat : Int) = ((n % 8192 : Nat) : Int) := by
  have := and64 (a := n) (b := 8191) (by omega) (by decide)
  rw [show n &&& 8191 = n % 8192 from Nat.and_two_pow_sub_one_eq_mod n 13] at this
  exact this
/-- Events that grow. -/
structure EvSt where
  n : Nat
  l : List Int
  cap : Nat
  sp : List Value
def evX (l : List Int) : List Value := l.flatMap (intC .i64)
def EvSt.ok (y : EvSt) : Prop := y.l.length = y.n ∧ grOk 1 y.n y.cap (evX y.l) y.sp
theorem evX_snoc (l : List Int) (e : Int) : evX (l ++ [e]) = evX l ++ [.int .i64 e] := by simp [evX, intC]
def zAtC : Chunk := .cells 156 [.v (.bool false), .v (.int .i64 0), .v (.slice none 0 0)]
def atC (la : Bool) (first : Int) (k : Nat) (y : EvSt) : Chunk := .cells 156 [.v (.bool la), .v (.int .i64 first), grS k y.n y.cap]
theorem load1_cV {c : List Value} {c' : List SV} {off : Nat} {x : Value} {K : SV → Prop} (hc : c' = c.map SV.v) (h : c[off]? = some x) (k : K (.v x)) : ifle (off + 1) c'.length (val1 false (slice1 c' off 1) K) := by
  subst hc
  have h1 := load1_at h k
  have hle : Nat.ble (off + 1) (c.map SV.v).length = true := Nat.ble_eq_true_of_le (by rw [List.length_map]; exact h1.1)
  unfold ifle slice1
  rw [hle, ← List.map_drop, ← List.map_take]
  exact h1.2

theorem slice_at {α : Type} {sz : Nat} {f : α → List Value} {g : G} {l : List α} {cap b : Nat} {sp : List Value} (h : grOk sz l.length cap (l.flatMap f) sp) (hb : g.at ⟨b, 0, none⟩ (l.flatMap f ++ sp)) : SliceV.ok sz f (fun _ => True) g ⟨some ⟨b, 0, none⟩, l, cap⟩ := by
  obtain ⟨h1, h2, h3, -⟩ := h
  refine ⟨⟨h1, fun _ => ⟨_, rfl, ?_⟩⟩, ?_, h2, ?_, fun _ _ => trivial⟩
  · obtain ⟨a1, c, ty', fz, a2, a3⟩ := hb
    refine ⟨a1, c, ty', fz, a2, fun i hi => ?_⟩
    have hi : i < (l.flatMap f).length := hi
    rw [a3 i (by rw [List.length_append]; omega), List.getElem?_append_left hi]
  · show _ ≤ maxLen; simp only [maxLen]; omega
  · show _ ≤ maxLen; simp only [maxLen]; omega
theorem offN (i : Nat) : 0 + ((i : Int)).toNat * 1 = i := by simp
/-- The three of a byte. -/
def thV (x : Nat) : List Value := [.int .i64 (IntKind.i64.wrap ((x : Int).tdiv 36)), .int .i64 ((IntKind.i64.wrap ((x : Int).tdiv 6)).tmod 6), .int .i64 ((x : Int).tmod 6)]
def thC (x : Nat) : Chunk := .cells 3 [.v (.int .i64 (IntKind.i64.wrap ((x : Int).tdiv 36))), .v (.int .i64 ((IntKind.i64.wrap ((x : Int).tdiv 6)).tmod 6)), .v (.int .i64 ((x : Int).tmod 6))]
theorem th_at {x i : Nat} (hx : x < 256) (hi : i < 3) : ∃ e : Nat, (three x).drop i = e :: (three x).drop (i + 1) ∧ (thV x)[i]? = some (.int .i64 (e : Int)) ∧ e < 256 := by
  have e1 : IntKind.i64.wrap ((x : Int).tdiv 36) = ((x / 36 : Nat) : Int) := by
    rw [show (x : Int).tdiv 36 = ((x / 36 : Nat) : Int) from by rw [Int.tdiv_eq_ediv_of_nonneg (by omega)]; omega, wrap_id (by omega) (by omega)]
  have e2 : (IntKind.i64.wrap ((x : Int).tdiv 6)).tmod 6 = ((x / 6 % 6 : Nat) : Int) := by
    rw [show (x : Int).tdiv 6 = ((x / 6 : Nat) : Int) from by rw [Int.tdiv_eq_ediv_of_nonneg (by omega)]; omega, wrap_id (by omega) (by omega), Int.tmod_eq_emod_of_nonneg (by omega)]; omega
  have e3 : (x : Int).tmod 6 = ((x % 6 : Nat) : Int) := by rw [Int.tmod_eq_emod_of_nonneg (by omega)]; omega
  unfold thV three
  rw [e1, e2, e3]
  rcases i with _ | _ | _ | i
  · exact ⟨x / 36, rfl, rfl, by omega⟩
  · exact ⟨x / 6 % 6, rfl, rfl, by omega⟩
  · exact ⟨x % 6, rfl, rfl, by omega⟩
  · omega
theorem mattr_c {g0 g : G} {r0 : RdV} {v : Value} (hR0 : RdAt g0 g v r0) : Meets Tryd.prog 71 [.ptr 0 0] [rdC r0 v] g (fun o L' g' => ∃ (a : AttrV) (b : Bool) (v' : Value), o = .ret (.tup [.agg (a.cells.map .v), .v (.bool b)]) ∧ L' = [rdC (rdAttr r0).2 v'] ∧ RdAt g0 g' v' (rdAttr r0).2 ∧ EvsOk g' a.events ∧ match (rdAttr r0).1 with
    | some p => b = true ∧ a.p = p
    | none => b = false) := by
  generalize hM : rdAttr r0 = M
  rw [rdAttr, RM.bind_eq (show rdAt r0 = (r0.place, r0) from rfl)] at hM
  refine meets_ofJ mixedW Tryd.func71 (by kernel_rfl) x71_ok (some []) ?_
  refine (at_k hR0).callS [0] 2 rfl rfl rfl rfl ?_
  rintro o L1 gA ⟨rfl, rfl, rfl⟩ _
  refine (num_k hR0 2 (by decide) (by decide)).callS [0] 2 rfl rfl rfl rfl ?_
  intro o L1 g1 hq _
  rcases hx1 : rdNum 2 r0 with ⟨x1, r1⟩
  rw [hx1] at hq
  dsimp only at hq
  first | rw [RM.bind_eq hx1] at hM | skip
  obtain ⟨rfl, v1, rfl, hR1⟩ := hq
  have hx16 : x1 < 65536 := by have := rdNum_lt 2 r0; rw [hx1] at this; exact this
  refine (err_k hR1).callS [0] 2 rfl rfl rfl rfl ?_
  rintro o L1 gE ⟨rfl, rfl, rfl⟩ _
  rcases he1 : r1.err with _ | p
  rotate_left
  · obtain ⟨ad, rfl, hat⟩ := hR1.some he1
    rw [rdIfOk_some he1] at hM
    subst hM
    exact ⟨⟨false, 0, ⟨none, [], 0⟩⟩, false, _, rfl, rfl, hR1, sliceV_nil _ _ _ _, rfl⟩
  obtain rfl := hR1.nil he1
  rw [rdIfOk_none he1] at hM
  refine bsplit_of (fun h => ?_) (fun h => ?_)
  · have h0 : x1 = 0 := by have := eq_of_beq h; omega
    rw [if_pos h0] at hM
    subst hM
    exact ⟨⟨false, 0, ⟨none, [], 0⟩⟩, false, _, rfl, rfl, hR1, sliceV_nil _ _ _ _, rfl⟩
  have h0 : x1 ≠ 0 := by have := ne_of_beq_false h; omega
  rw [if_neg h0] at hM
  refine ⟨by decide, ?_⟩
  refine bsplit_of (fun h1 => ?_) (fun h1 => ?_)
  · rw [shr13 hx16] at h1
    have hb : attBad x1 = true := decide_eq_true (.inl (by simp at h1; omega))
    rw [hb] at hM
    have hef : (r1.fail 2 r0.place).err = some (2, r0.place) := by rw [RdV.fail, he1]
    have hM : rdIfOk _ none (r1.fail 2 r0.place) = M := hM
    rw [rdIfOk_some hef] at hM
    subst hM
    refine (fail_k hR1 2 r0.place).callS [0] 2 rfl rfl rfl rfl ?_
    rintro o L1 gZ ⟨rfl, vZ, rfl, hRZ⟩ _
    exact ⟨⟨false, 0, ⟨none, [], 0⟩⟩, false, _, rfl, rfl, hRZ, sliceV_nil _ _ _ _, rfl⟩
  rw [shr13 hx16] at h1
  refine bsplit_of (fun h2 => ?_) (fun h2 => ?_)
  · rw [and8191 hx16] at h2
    have hb : attBad x1 = true := decide_eq_true (.inr (by simp at h2; omega))
    rw [hb] at hM
    have hef : (r1.fail 2 r0.place).err = some (2, r0.place) := by rw [RdV.fail, he1]
    have hM : rdIfOk _ none (r1.fail 2 r0.place) = M := hM
    rw [rdIfOk_some hef] at hM
    subst hM
    refine (fail_k hR1 2 r0.place).callS [0] 2 rfl rfl rfl rfl ?_
    rintro o L1 gZ ⟨rfl, vZ, rfl, hRZ⟩ _
    exact ⟨⟨false, 0, ⟨none, [], 0⟩⟩, false, _, rfl, rfl, hRZ, sliceV_nil _ _ _ _, rfl⟩
  rw [and8191 hx16] at h2
  have h1' : x1 < 16384 := by simp at h1; omega
  have h2' : x1 % 8192 ≤ 400 := by simp at h2; omega
  have hb : attBad x1 = false := decide_eq_false (by omega)
  rw [hb] at hM
  have hM : rdIfOk _ none r1 = M := hM
  rw [rdIfOk_none he1] at hM
  refine ⟨by decide, ?_⟩
  obtain ⟨la, hla⟩ : ∃ la : Bool, ((x1 : Int).fdiv (2 ^ (min (Int.toNat 13) IntKind.i64.bits)) == 1) = la := ⟨_, rfl⟩
  have hla' : decide (8192 ≤ x1) = la := by
    rw [← hla, shr13 hx16, Bool.eq_iff_iff]; simp; omega
  rw [hla'] at hM
  refine (num_k hR1 2 (by decide) (by decide)).callS [0] 3 rfl rfl rfl rfl ?_
  intro o L1 g2 hq _
  rcases hx2 : rdNum 2 r1 with ⟨x2, r2⟩
  rw [hx2] at hq
  dsimp only at hq
  first | rw [RM.bind_eq hx2] at hM | skip
  obtain ⟨rfl, v2, rfl, hR2⟩ := hq
  have hx2 : x2 < 65536 := by have := rdNum_lt 2 r1; rw [hx2] at this; exact this
  obtain ⟨N, hN⟩ : ∃ N, x1 % 8192 = N := ⟨_, rfl⟩
  have hNr := and8191 hx16
  rw [hN] at hM hNr h2'
  obtain ⟨fin, hfin⟩ : ∃ fin : List Int → RM (Option AttP), (fun evs => rdIfOk ((rdFail (!attB ⟨la, x2, evs⟩) 2 r0.place).bind fun _ => rdIfOk (RM.pure (some ⟨la, x2, evs⟩)) none) none) = fin := ⟨_, rfl⟩
  have hM : (rdEvs N 134 []).bind fin r2 = M := by rw [← hfin]; exact hM
  change JoinW _ _ _ _ _ _ _ _ _
  refine join_rule [] (α := EvSt × RdV × Value × G) (fun _ => []) (fun y => [rdC y.2.1 y.2.2.1, zAtC, atC la x2 3 y.1, grC 3 y.1.n (evX y.1.l) y.1.sp]) (fun y => y.2.2.2) (fun y => y.1.ok ∧ RdAt g0 y.2.2.2 y.2.2.1 y.2.1 ∧ fin y.1.l y.2.1 = M) (fun y => by obtain ⟨⟨n, l, cap, sp⟩, r, v, g⟩ := y; cases n <;> kernel_rfl) ?_ ?_
  · change LoopW _ _ _ _ _ _ _ _ _
    refine loop_gone ?_
    apply loop_rule [3] (α := EvSt × Nat × Nat × RdV × Value × G) (fun y => [(7, .v (.int .i64 y.2.2.1))]) (fun y => [rdC y.2.2.2.1 y.2.2.2.2.1, zAtC, atC la x2 3 y.1, grC 3 y.1.n (evX y.1.l) y.1.sp]) (fun y => y.2.2.2.2.2)
      (fun y => y.1.ok ∧ y.1.l.length = min y.2.2.1 N ∧ N ≤ y.2.2.1 + 3 * y.2.1 ∧ RdAt g0 y.2.2.2.2.2 y.2.2.2.2.1 y.2.2.2.1 ∧ (rdEvs N y.2.1 y.1.l).bind fin y.2.2.2.1 = M) (fun y => y.2.1) (⟨0, [], 0, []⟩, 134, 0, r2, v2, g2)
    · intro x; obtain ⟨⟨n, l, cap, sp⟩, f, k, r, v, g⟩ := x; cases n <;> kernel_rfl
    · exact ⟨⟨rfl, grOk.zero 1⟩, by simp, by show N ≤ 0 + 3 * 134; omega, hR2, hM⟩
    · exact ⟨rfl, trivial⟩
    · rw [← hla]; rfl
    · rfl
    clear hM
    intro y hy
    obtain ⟨⟨n, l, cap, sp⟩, f, k, rL, vL, gl⟩ := y
    obtain ⟨⟨hl, ho⟩, hmin, hf, hR, hM⟩ := hy
    dsimp only at hl ho hmin hf hR hM
    rcases n with _ | n
    · obtain rfl : l = [] := List.eq_nil_of_length_eq_zero hl
      refine bsplit_of (fun h => ?_) (fun h => ?_)
      rotate_left
      · have hge : ¬ ([] : List Int).length < N := by
          have h : ¬ ((k : Int) < (N : Int)) := by rw [← hNr]; exact of_decide_eq_false h
          omega
        rw [evs_done hge] at hM
        exact ⟨(⟨0, [], cap, sp⟩, rL, vL, gl), ⟨⟨hl, ho⟩, hR, hM⟩, [0, 1, 2, 3], rfl, trivial, rfl, rfl, rfl, rfl⟩
      have hlt : k < N := by
        have h : ((k : Int) < (N : Int)) := by rw [← hNr]; exact of_decide_eq_true h
        omega
      obtain ⟨f, rfl⟩ : ∃ j, f = j + 1 := ⟨f - 1, by omega⟩
      rw [rdEvs, if_pos (by omega)] at hM
      refine (err_k hR).callS [0] 4 rfl rfl rfl rfl ?_
      rintro o L1 gF ⟨rfl, rfl, rfl⟩ _
      rcases heL : rL.err with _ | p
      rotate_left
      · obtain ⟨ad, rfl, hat⟩ := hR.some heL
        rw [bind_no heL] at hM
        exact ⟨(⟨0, [], cap, sp⟩, rL, _, gF), ⟨⟨hl, ho⟩, hR, hM⟩, [0, 1, 2, 3], rfl, trivial, rfl, rfl, rfl, rfl⟩
      obtain rfl := hR.nil heL
      rw [bind_ok heL] at hM
      have hM : ((rdNum 1).bind fun x => (rdFail (decide (215 < x)) 2 rL.place).bind fun _ => (rdThree N rL.place (three x) []).bind fun acc => (rdEvs N f acc).bind fin) rL = M := hM
      refine (at_k hR).callS [0] 4 rfl rfl rfl rfl ?_
      rintro o L1 gG ⟨rfl, rfl, rfl⟩ _
      refine (num_k hR 1 (by decide) (by decide)).callS [0] 4 rfl rfl rfl rfl ?_
      intro o L1 g3 hq _
      rcases hx3 : rdNum 1 rL with ⟨x3, r3⟩
      rw [hx3] at hq
      dsimp only at hq
      first | rw [RM.bind_eq hx3] at hM | skip
      obtain ⟨rfl, v3, rfl, hR3⟩ := hq
      have hx3 : x3 < 256 := by have := rdNum_lt 1 rL; rw [hx3] at this; exact this
      obtain ⟨r4, hr4⟩ : ∃ r, (rdFail (decide (215 < x3)) 2 rL.place r3).2 = r := ⟨_, rfl⟩
      have hM : ((rdThree N rL.place (three x3) []).bind fun acc => (rdEvs N f acc).bind fin) r4 = M := by rw [← hr4]; exact hM
      change JoinW _ _ _ _ _ _ _ _ _
      refine join_rule [] (α := Value × G) (fun _ => []) (fun y => [rdC r4 y.1, zAtC, atC la x2 3 ⟨0, [], cap, sp⟩, grC 3 (0) (evX []) sp]) (fun y => y.2) (fun y => RdAt g0 y.2 y.1 r4) (fun y => by kernel_rfl) ?_ ?_
      · refine bsplit_of (fun k5 => ?_) (fun k5 => ?_)
        · have hb : decide (215 < x3) = true := decide_eq_true (by have := of_decide_eq_true k5; omega)
          rw [hb] at hr4
          refine (fail_k hR3 2 rL.place).callS [0] 4 rfl rfl rfl rfl ?_
          rintro o L1 g4 ⟨rfl, v4, rfl, hR4⟩ _
          subst hr4
          exact ⟨(v4, g4), hR4, [0, 1, 2, 3], rfl, trivial, rfl, rfl, rfl, rfl⟩
        · have hb : decide (215 < x3) = false := decide_eq_false (by have := of_decide_eq_false k5; omega)
          rw [hb] at hr4
          subst hr4
          exact ⟨(v3, g3), hR3, [0, 1, 2, 3], rfl, trivial, rfl, rfl, rfl, rfl⟩
      intro y hR4
      obtain ⟨v4, g4⟩ := y
      refine ⟨by decide, by decide, by decide, by decide, ?_⟩
      change LoopW _ _ _ _ _ _ _ _ _
      apply loop_rule [3] (α := EvSt × Nat × RdV × Value × G) (fun y => [(75, .v (.int .i64 y.2.1))]) (fun y => [rdC y.2.2.1 y.2.2.2.1, zAtC, atC la x2 3 y.1, grC 3 y.1.n (evX y.1.l) y.1.sp, thC x3]) (fun y => y.2.2.2.2)
        (fun y => y.1.ok ∧ y.2.1 ≤ 3 ∧ y.1.l.length = min (k + y.2.1) N ∧ RdAt g0 y.2.2.2.2 y.2.2.2.1 y.2.2.1 ∧ ((rdThree N rL.place ((three x3).drop y.2.1) y.1.l).bind fun acc => (rdEvs N f acc).bind fin) y.2.2.1 = M) (fun y => 3 - y.2.1) (⟨0, [], cap, sp⟩, 0, r4, v4, g4)
      · intro x; obtain ⟨⟨n, l, cap, sp⟩, i, r, v, g⟩ := x; cases n <;> kernel_rfl
      · exact ⟨⟨hl, ho⟩, Nat.zero_le _, hmin, hR4, hM⟩
      · exact ⟨rfl, trivial⟩
      · rfl
      · rfl
      clear hM
      intro y hy
      obtain ⟨⟨n', l', cap', sp'⟩, i, rI, vI, gi⟩ := y
      obtain ⟨⟨hl', ho'⟩, hi, hmin', hRI, hM⟩ := hy
      dsimp only at hl' ho' hi hmin' hRI hM
      rcases n' with _ | n'
      · obtain rfl : l' = [] := List.eq_nil_of_length_eq_zero hl'
        refine bsplit_of (fun h => ?_) (fun h => ?_)
        rotate_left
        · have h3 : i = 3 := by
            have h : ¬ ((i : Int) < 3) := of_decide_eq_false h
            omega
          subst h3
          have hM : (rdEvs N f []).bind fin rI = M := hM
          exact ⟨(⟨0, [], cap', sp'⟩, f, k + 3, rI, vI, gi), ⟨⟨hl', ho'⟩, hmin', by show N ≤ k + 3 + 3 * f; omega, hRI, hM⟩, by show f < f + 1; omega, [0, 1, 2, 3], rfl, ⟨vi (show IntKind.i64.wrap ((k : Int) + 3) = ((k + 3 : Nat) : Int) from by rw [wrap_id (by omega) (by omega)]; omega), trivial⟩, rfl, rfl, rfl, rfl⟩
        have hi3 : i < 3 := by
          have h : ((i : Int) < 3) := of_decide_eq_true h
          omega
        obtain ⟨e, hd, hv, hwe⟩ := th_at hx3 hi3
        rw [hd] at hM
        refine ⟨⟨by show (0 : Int) ≤ ((i : Nat) : Int); omega, by show ((i : Nat) : Int) < ((3 : Nat) : Int); omega⟩, ?_⟩
        refine load1_cV (c := thV x3) (x := .int .i64 (e : Int)) rfl (show (thV x3)[0 + ((i : Int)).toNat * 1]? = some (.int .i64 (e : Int)) from by rw [offN]; exact hv) ?_
        refine bsplit_of (fun h4 => ?_) (fun h4 => ?_)
        · have h4' : k + i < N := by
            have h4 : IntKind.i64.wrap ((k : Int) + (i : Int)) < (N : Int) := by rw [← hNr]; exact of_decide_eq_true h4
            rw [show IntKind.i64.wrap ((k : Int) + (i : Int)) = k + i from wrap_id (by omega) (by omega)] at h4; omega
          rw [rdThree, if_pos (by omega)] at hM
          refine ⟨by show 0 + 1 * 1 ≤ 1; decide, fun u hu => by simp at hu; subst hu; rfl, ?_⟩
          refine ⟨by decide, fun cap2 sp2 k1 k2 k3 => ?_⟩
          exact ⟨(⟨1, [(e : Int)], cap2, sp2⟩, i + 1, rI, vI, gi), ⟨⟨rfl, gr_first rfl k1 k2 k3⟩, by show i + 1 ≤ 3; omega, by show [(e : Int)].length = min (k + (i + 1)) N; simp at hmin' ⊢; omega, hRI, hM⟩, by show 3 - (i + 1) < 3 - i; omega, [0, 1, 2, 6, 4], rfl, ⟨vi (show IntKind.i64.wrap ((i : Int) + 1) = ((i + 1 : Nat) : Int) from by rw [wrap_id (by omega) (by omega)]; omega), trivial⟩, rfl, rfl, rfl, rfl⟩
        · have h4' : ¬ k + i < N := by
            have h4 : ¬ IntKind.i64.wrap ((k : Int) + (i : Int)) < (N : Int) := by rw [← hNr]; exact of_decide_eq_false h4
            rw [show IntKind.i64.wrap ((k : Int) + (i : Int)) = k + i from wrap_id (by omega) (by omega)] at h4; omega
          rw [rdThree, if_neg (by omega)] at hM
          refine bsplit_of (fun h5 => ?_) (fun h5 => ?_)
          · have h5' : 0 < e := by simp at h5; omega
            rw [decide_eq_true h5'] at hM
            refine (fail_k hRI 15 rL.place).callS [0] 5 rfl rfl rfl rfl ?_
            rintro o L1 gJ ⟨rfl, vJ, rfl, hRJ⟩ _
            exact ⟨(⟨0, [], cap', sp'⟩, i + 1, rI.fail 15 rL.place, vJ, gJ), ⟨⟨hl', ho'⟩, by show i + 1 ≤ 3; omega, by show ([] : List Int).length = min (k + (i + 1)) N; omega, hRJ, hM⟩, by show 3 - (i + 1) < 3 - i; omega, [0, 1, 2, 3, 4], rfl, ⟨vi (show IntKind.i64.wrap ((i : Int) + 1) = ((i + 1 : Nat) : Int) from by rw [wrap_id (by omega) (by omega)]; omega), trivial⟩, rfl, rfl, rfl, rfl⟩
          · have h5' : ¬ 0 < e := by simp at h5; omega
            rw [decide_eq_false h5'] at hM
            exact ⟨(⟨0, [], cap', sp'⟩, i + 1, rI, vI, gi), ⟨⟨hl', ho'⟩, by show i + 1 ≤ 3; omega, by show ([] : List Int).length = min (k + (i + 1)) N; omega, hRI, hM⟩, by show 3 - (i + 1) < 3 - i; omega, [0, 1, 2, 3, 4], rfl, ⟨vi (show IntKind.i64.wrap ((i : Int) + 1) = ((i + 1 : Nat) : Int) from by rw [wrap_id (by omega) (by omega)]; omega), trivial⟩, rfl, rfl, rfl, rfl⟩
      ·
        refine bsplit_of (fun h => ?_) (fun h => ?_)
        rotate_left
        · have h3 : i = 3 := by
            have h : ¬ ((i : Int) < 3) := of_decide_eq_false h
            omega
          subst h3
          have hM : (rdEvs N f l').bind fin rI = M := hM
          exact ⟨(⟨n' + 1, l', cap', sp'⟩, f, k + 3, rI, vI, gi), ⟨⟨hl', ho'⟩, hmin', by show N ≤ k + 3 + 3 * f; omega, hRI, hM⟩, by show f < f + 1; omega, [0, 1, 2, 3], rfl, ⟨vi (show IntKind.i64.wrap ((k : Int) + 3) = ((k + 3 : Nat) : Int) from by rw [wrap_id (by omega) (by omega)]; omega), trivial⟩, rfl, rfl, rfl, rfl⟩
        have hi3 : i < 3 := by
          have h : ((i : Int) < 3) := of_decide_eq_true h
          omega
        obtain ⟨e, hd, hv, hwe⟩ := th_at hx3 hi3
        rw [hd] at hM
        refine ⟨⟨by show (0 : Int) ≤ ((i : Nat) : Int); omega, by show ((i : Nat) : Int) < ((3 : Nat) : Int); omega⟩, ?_⟩
        refine load1_cV (c := thV x3) (x := .int .i64 (e : Int)) rfl (show (thV x3)[0 + ((i : Int)).toNat * 1]? = some (.int .i64 (e : Int)) from by rw [offN]; exact hv) ?_
        refine bsplit_of (fun h4 => ?_) (fun h4 => ?_)
        · have h4' : k + i < N := by
            have h4 : IntKind.i64.wrap ((k : Int) + (i : Int)) < (N : Int) := by rw [← hNr]; exact of_decide_eq_true h4
            rw [show IntKind.i64.wrap ((k : Int) + (i : Int)) = k + i from wrap_id (by omega) (by omega)] at h4; omega
          rw [rdThree, if_pos (by omega)] at hM
          have g1 := gr_bounds ho'
          refine ⟨by show 0 + 1 * 1 ≤ 1; decide, fun u hu => by simp at hu; subst hu; rfl, ?_⟩
          refine ⟨evX l', sp', rfl, g1.1, ⟨g1.2.1, g1.2.2.1, g1.2.2.2⟩, by omega, fun cap2 sp2 k1 k2 k3 => ?_⟩
          refine ⟨(⟨n' + 1 + 1, l' ++ [(e : Int)], cap2, sp2⟩, i + 1, rI, vI, gi), ⟨⟨by simp [hl'], by rw [evX_snoc]; exact gr_next ho' rfl k1 k2 k3⟩, by show i + 1 ≤ 3; omega, by show (l' ++ [(e : Int)]).length = min (k + (i + 1)) N; rw [List.length_append, hmin']; simp; omega, hRI, hM⟩, by show 3 - (i + 1) < 3 - i; omega, [0, 1, 2, 6, 4], rfl, ⟨vi (show IntKind.i64.wrap ((i : Int) + 1) = ((i + 1 : Nat) : Int) from by rw [wrap_id (by omega) (by omega)]; omega), trivial⟩, ?_, rfl, rfl, rfl⟩
          exact congrArg (fun a => [rdC rI vI, zAtC, .cells 156 [.v (.bool la), .v (.int .i64 x2), .slc 6 0 (n' + 1 + 1) cap2], .vals 3 a, thC x3]) (show evX l' ++ ([.int .i64 e] ++ sp2) = evX (l' ++ [(e : Int)]) ++ sp2 by rw [evX_snoc, List.append_assoc])
        · have h4' : ¬ k + i < N := by
            have h4 : ¬ IntKind.i64.wrap ((k : Int) + (i : Int)) < (N : Int) := by rw [← hNr]; exact of_decide_eq_false h4
            rw [show IntKind.i64.wrap ((k : Int) + (i : Int)) = k + i from wrap_id (by omega) (by omega)] at h4; omega
          rw [rdThree, if_neg (by omega)] at hM
          refine bsplit_of (fun h5 => ?_) (fun h5 => ?_)
          · have h5' : 0 < e := by simp at h5; omega
            rw [decide_eq_true h5'] at hM
            refine (fail_k hRI 15 rL.place).callS [0] 5 rfl rfl rfl rfl ?_
            rintro o L1 gJ ⟨rfl, vJ, rfl, hRJ⟩ _
            exact ⟨(⟨n' + 1, l', cap', sp'⟩, i + 1, rI.fail 15 rL.place, vJ, gJ), ⟨⟨hl', ho'⟩, by show i + 1 ≤ 3; omega, by show (l' : List Int).length = min (k + (i + 1)) N; omega, hRJ, hM⟩, by show 3 - (i + 1) < 3 - i; omega, [0, 1, 2, 3, 4], rfl, ⟨vi (show IntKind.i64.wrap ((i : Int) + 1) = ((i + 1 : Nat) : Int) from by rw [wrap_id (by omega) (by omega)]; omega), trivial⟩, rfl, rfl, rfl, rfl⟩
          · have h5' : ¬ 0 < e := by simp at h5; omega
            rw [decide_eq_false h5'] at hM
            exact ⟨(⟨n' + 1, l', cap', sp'⟩, i + 1, rI, vI, gi), ⟨⟨hl', ho'⟩, by show i + 1 ≤ 3; omega, by show (l' : List Int).length = min (k + (i + 1)) N; omega, hRI, hM⟩, by show 3 - (i + 1) < 3 - i; omega, [0, 1, 2, 3, 4], rfl, ⟨vi (show IntKind.i64.wrap ((i : Int) + 1) = ((i + 1 : Nat) : Int) from by rw [wrap_id (by omega) (by omega)]; omega), trivial⟩, rfl, rfl, rfl, rfl⟩
    ·
      refine bsplit_of (fun h => ?_) (fun h => ?_)
      rotate_left
      · have hge : ¬ (l : List Int).length < N := by
          have h : ¬ ((k : Int) < (N : Int)) := by rw [← hNr]; exact of_decide_eq_false h
          omega
        rw [evs_done hge] at hM
        exact ⟨(⟨n + 1, l, cap, sp⟩, rL, vL, gl), ⟨⟨hl, ho⟩, hR, hM⟩, [0, 1, 2, 3], rfl, trivial, rfl, rfl, rfl, rfl⟩
      have hlt : k < N := by
        have h : ((k : Int) < (N : Int)) := by rw [← hNr]; exact of_decide_eq_true h
        omega
      obtain ⟨f, rfl⟩ : ∃ j, f = j + 1 := ⟨f - 1, by omega⟩
      rw [rdEvs, if_pos (by omega)] at hM
      refine (err_k hR).callS [0] 4 rfl rfl rfl rfl ?_
      rintro o L1 gF ⟨rfl, rfl, rfl⟩ _
      rcases heL : rL.err with _ | p
      rotate_left
      · obtain ⟨ad, rfl, hat⟩ := hR.some heL
        rw [bind_no heL] at hM
        exact ⟨(⟨n + 1, l, cap, sp⟩, rL, _, gF), ⟨⟨hl, ho⟩, hR, hM⟩, [0, 1, 2, 3], rfl, trivial, rfl, rfl, rfl, rfl⟩
      obtain rfl := hR.nil heL
      rw [bind_ok heL] at hM
      have hM : ((rdNum 1).bind fun x => (rdFail (decide (215 < x)) 2 rL.place).bind fun _ => (rdThree N rL.place (three x) l).bind fun acc => (rdEvs N f acc).bind fin) rL = M := hM
      refine (at_k hR).callS [0] 4 rfl rfl rfl rfl ?_
      rintro o L1 gG ⟨rfl, rfl, rfl⟩ _
      refine (num_k hR 1 (by decide) (by decide)).callS [0] 4 rfl rfl rfl rfl ?_
      intro o L1 g3 hq _
      rcases hx3 : rdNum 1 rL with ⟨x3, r3⟩
      rw [hx3] at hq
      dsimp only at hq
      first | rw [RM.bind_eq hx3] at hM | skip
      obtain ⟨rfl, v3, rfl, hR3⟩ := hq
      have hx3 : x3 < 256 := by have := rdNum_lt 1 rL; rw [hx3] at this; exact this
      obtain ⟨r4, hr4⟩ : ∃ r, (rdFail (decide (215 < x3)) 2 rL.place r3).2 = r := ⟨_, rfl⟩
      have hM : ((rdThree N rL.place (three x3) l).bind fun acc => (rdEvs N f acc).bind fin) r4 = M := by rw [← hr4]; exact hM
      change JoinW _ _ _ _ _ _ _ _ _
      refine join_rule [] (α := Value × G) (fun _ => []) (fun y => [rdC r4 y.1, zAtC, atC la x2 3 ⟨n + 1, l, cap, sp⟩, grC 3 (n + 1) (evX l) sp]) (fun y => y.2) (fun y => RdAt g0 y.2 y.1 r4) (fun y => by kernel_rfl) ?_ ?_
      · refine bsplit_of (fun k5 => ?_) (fun k5 => ?_)
        · have hb : decide (215 < x3) = true := decide_eq_true (by have := of_decide_eq_true k5; omega)
          rw [hb] at hr4
          refine (fail_k hR3 2 rL.place).callS [0] 4 rfl rfl rfl rfl ?_
          rintro o L1 g4 ⟨rfl, v4, rfl, hR4⟩ _
          subst hr4
          exact ⟨(v4, g4), hR4, [0, 1, 2, 3], rfl, trivial, rfl, rfl, rfl, rfl⟩
        · have hb : decide (215 < x3) = false := decide_eq_false (by have := of_decide_eq_false k5; omega)
          rw [hb] at hr4
          subst hr4
          exact ⟨(v3, g3), hR3, [0, 1, 2, 3], rfl, trivial, rfl, rfl, rfl, rfl⟩
      intro y hR4
      obtain ⟨v4, g4⟩ := y
      refine ⟨by decide, by decide, by decide, by decide, ?_⟩
      change LoopW _ _ _ _ _ _ _ _ _
      apply loop_rule [3] (α := EvSt × Nat × RdV × Value × G) (fun y => [(75, .v (.int .i64 y.2.1))]) (fun y => [rdC y.2.2.1 y.2.2.2.1, zAtC, atC la x2 3 y.1, grC 3 y.1.n (evX y.1.l) y.1.sp, thC x3]) (fun y => y.2.2.2.2)
        (fun y => y.1.ok ∧ y.2.1 ≤ 3 ∧ y.1.l.length = min (k + y.2.1) N ∧ RdAt g0 y.2.2.2.2 y.2.2.2.1 y.2.2.1 ∧ ((rdThree N rL.place ((three x3).drop y.2.1) y.1.l).bind fun acc => (rdEvs N f acc).bind fin) y.2.2.1 = M) (fun y => 3 - y.2.1) (⟨n + 1, l, cap, sp⟩, 0, r4, v4, g4)
      · intro x; obtain ⟨⟨n, l, cap, sp⟩, i, r, v, g⟩ := x; cases n <;> kernel_rfl
      · exact ⟨⟨hl, ho⟩, Nat.zero_le _, hmin, hR4, hM⟩
      · exact ⟨rfl, trivial⟩
      · rfl
      · rfl
      clear hM
      intro y hy
      obtain ⟨⟨n', l', cap', sp'⟩, i, rI, vI, gi⟩ := y
      obtain ⟨⟨hl', ho'⟩, hi, hmin', hRI, hM⟩ := hy
      dsimp only at hl' ho' hi hmin' hRI hM
      rcases n' with _ | n'
      · obtain rfl : l' = [] := List.eq_nil_of_length_eq_zero hl'
        refine bsplit_of (fun h => ?_) (fun h => ?_)
        rotate_left
        · have h3 : i = 3 := by
            have h : ¬ ((i : Int) < 3) := of_decide_eq_false h
            omega
          subst h3
          have hM : (rdEvs N f []).bind fin rI = M := hM
          exact ⟨(⟨0, [], cap', sp'⟩, f, k + 3, rI, vI, gi), ⟨⟨hl', ho'⟩, hmin', by show N ≤ k + 3 + 3 * f; omega, hRI, hM⟩, by show f < f + 1; omega, [0, 1, 2, 3], rfl, ⟨vi (show IntKind.i64.wrap ((k : Int) + 3) = ((k + 3 : Nat) : Int) from by rw [wrap_id (by omega) (by omega)]; omega), trivial⟩, rfl, rfl, rfl, rfl⟩
        have hi3 : i < 3 := by
          have h : ((i : Int) < 3) := of_decide_eq_true h
          omega
        obtain ⟨e, hd, hv, hwe⟩ := th_at hx3 hi3
        rw [hd] at hM
        refine ⟨⟨by show (0 : Int) ≤ ((i : Nat) : Int); omega, by show ((i : Nat) : Int) < ((3 : Nat) : Int); omega⟩, ?_⟩
        refine load1_cV (c := thV x3) (x := .int .i64 (e : Int)) rfl (show (thV x3)[0 + ((i : Int)).toNat * 1]? = some (.int .i64 (e : Int)) from by rw [offN]; exact hv) ?_
        refine bsplit_of (fun h4 => ?_) (fun h4 => ?_)
        · have h4' : k + i < N := by
            have h4 : IntKind.i64.wrap ((k : Int) + (i : Int)) < (N : Int) := by rw [← hNr]; exact of_decide_eq_true h4
            rw [show IntKind.i64.wrap ((k : Int) + (i : Int)) = k + i from wrap_id (by omega) (by omega)] at h4; omega
          rw [rdThree, if_pos (by omega)] at hM
          refine ⟨by show 0 + 1 * 1 ≤ 1; decide, fun u hu => by simp at hu; subst hu; rfl, ?_⟩
          refine ⟨by decide, fun cap2 sp2 k1 k2 k3 => ?_⟩
          exact ⟨(⟨1, [(e : Int)], cap2, sp2⟩, i + 1, rI, vI, gi), ⟨⟨rfl, gr_first rfl k1 k2 k3⟩, by show i + 1 ≤ 3; omega, by show [(e : Int)].length = min (k + (i + 1)) N; simp at hmin' ⊢; omega, hRI, hM⟩, by show 3 - (i + 1) < 3 - i; omega, [0, 1, 2, 6, 4], rfl, ⟨vi (show IntKind.i64.wrap ((i : Int) + 1) = ((i + 1 : Nat) : Int) from by rw [wrap_id (by omega) (by omega)]; omega), trivial⟩, rfl, rfl, rfl, rfl⟩
        · have h4' : ¬ k + i < N := by
            have h4 : ¬ IntKind.i64.wrap ((k : Int) + (i : Int)) < (N : Int) := by rw [← hNr]; exact of_decide_eq_false h4
            rw [show IntKind.i64.wrap ((k : Int) + (i : Int)) = k + i from wrap_id (by omega) (by omega)] at h4; omega
          rw [rdThree, if_neg (by omega)] at hM
          refine bsplit_of (fun h5 => ?_) (fun h5 => ?_)
          · have h5' : 0 < e := by simp at h5; omega
            rw [decide_eq_true h5'] at hM
            refine (fail_k hRI 15 rL.place).callS [0] 5 rfl rfl rfl rfl ?_
            rintro o L1 gJ ⟨rfl, vJ, rfl, hRJ⟩ _
            exact ⟨(⟨0, [], cap', sp'⟩, i + 1, rI.fail 15 rL.place, vJ, gJ), ⟨⟨hl', ho'⟩, by show i + 1 ≤ 3; omega, by show ([] : List Int).length = min (k + (i + 1)) N; omega, hRJ, hM⟩, by show 3 - (i + 1) < 3 - i; omega, [0, 1, 2, 3, 4], rfl, ⟨vi (show IntKind.i64.wrap ((i : Int) + 1) = ((i + 1 : Nat) : Int) from by rw [wrap_id (by omega) (by omega)]; omega), trivial⟩, rfl, rfl, rfl, rfl⟩
          · have h5' : ¬ 0 < e := by simp at h5; omega
            rw [decide_eq_false h5'] at hM
            exact ⟨(⟨0, [], cap', sp'⟩, i + 1, rI, vI, gi), ⟨⟨hl', ho'⟩, by show i + 1 ≤ 3; omega, by show ([] : List Int).length = min (k + (i + 1)) N; omega, hRI, hM⟩, by show 3 - (i + 1) < 3 - i; omega, [0, 1, 2, 3, 4], rfl, ⟨vi (show IntKind.i64.wrap ((i : Int) + 1) = ((i + 1 : Nat) : Int) from by rw [wrap_id (by omega) (by omega)]; omega), trivial⟩, rfl, rfl, rfl, rfl⟩
      ·
        refine bsplit_of (fun h => ?_) (fun h => ?_)
        rotate_left
        · have h3 : i = 3 := by
            have h : ¬ ((i : Int) < 3) := of_decide_eq_false h
            omega
          subst h3
          have hM : (rdEvs N f l').bind fin rI = M := hM
          exact ⟨(⟨n' + 1, l', cap', sp'⟩, f, k + 3, rI, vI, gi), ⟨⟨hl', ho'⟩, hmin', by show N ≤ k + 3 + 3 * f; omega, hRI, hM⟩, by show f < f + 1; omega, [0, 1, 2, 3], rfl, ⟨vi (show IntKind.i64.wrap ((k : Int) + 3) = ((k + 3 : Nat) : Int) from by rw [wrap_id (by omega) (by omega)]; omega), trivial⟩, rfl, rfl, rfl, rfl⟩
        have hi3 : i < 3 := by
          have h : ((i : Int) < 3) := of_decide_eq_true h
          omega
        obtain ⟨e, hd, hv, hwe⟩ := th_at hx3 hi3
        rw [hd] at hM
        refine ⟨⟨by show (0 : Int) ≤ ((i : Nat) : Int); omega, by show ((i : Nat) : Int) < ((3 : Nat) : Int); omega⟩, ?_⟩
        refine load1_cV (c := thV x3) (x := .int .i64 (e : Int)) rfl (show (thV x3)[0 + ((i : Int)).toNat * 1]? = some (.int .i64 (e : Int)) from by rw [offN]; exact hv) ?_
        refine bsplit_of (fun h4 => ?_) (fun h4 => ?_)
        · have h4' : k + i < N := by
            have h4 : IntKind.i64.wrap ((k : Int) + (i : Int)) < (N : Int) := by rw [← hNr]; exact of_decide_eq_true h4
            rw [show IntKind.i64.wrap ((k : Int) + (i : Int)) = k + i from wrap_id (by omega) (by omega)] at h4; omega
          rw [rdThree, if_pos (by omega)] at hM
          have g1 := gr_bounds ho'
          refine ⟨by show 0 + 1 * 1 ≤ 1; decide, fun u hu => by simp at hu; subst hu; rfl, ?_⟩
          refine ⟨evX l', sp', rfl, g1.1, ⟨g1.2.1, g1.2.2.1, g1.2.2.2⟩, by omega, fun cap2 sp2 k1 k2 k3 => ?_⟩
          refine ⟨(⟨n' + 1 + 1, l' ++ [(e : Int)], cap2, sp2⟩, i + 1, rI, vI, gi), ⟨⟨by simp [hl'], by rw [evX_snoc]; exact gr_next ho' rfl k1 k2 k3⟩, by show i + 1 ≤ 3; omega, by show (l' ++ [(e : Int)]).length = min (k + (i + 1)) N; rw [List.length_append, hmin']; simp; omega, hRI, hM⟩, by show 3 - (i + 1) < 3 - i; omega, [0, 1, 2, 6, 4], rfl, ⟨vi (show IntKind.i64.wrap ((i : Int) + 1) = ((i + 1 : Nat) : Int) from by rw [wrap_id (by omega) (by omega)]; omega), trivial⟩, ?_, rfl, rfl, rfl⟩
          exact congrArg (fun a => [rdC rI vI, zAtC, .cells 156 [.v (.bool la), .v (.int .i64 x2), .slc 6 0 (n' + 1 + 1) cap2], .vals 3 a, thC x3]) (show evX l' ++ ([.int .i64 e] ++ sp2) = evX (l' ++ [(e : Int)]) ++ sp2 by rw [evX_snoc, List.append_assoc])
        · have h4' : ¬ k + i < N := by
            have h4 : ¬ IntKind.i64.wrap ((k : Int) + (i : Int)) < (N : Int) := by rw [← hNr]; exact of_decide_eq_false h4
            rw [show IntKind.i64.wrap ((k : Int) + (i : Int)) = k + i from wrap_id (by omega) (by omega)] at h4; omega
          rw [rdThree, if_neg (by omega)] at hM
          refine bsplit_of (fun h5 => ?_) (fun h5 => ?_)
          · have h5' : 0 < e := by simp at h5; omega
            rw [decide_eq_true h5'] at hM
            refine (fail_k hRI 15 rL.place).callS [0] 5 rfl rfl rfl rfl ?_
            rintro o L1 gJ ⟨rfl, vJ, rfl, hRJ⟩ _
            exact ⟨(⟨n' + 1, l', cap', sp'⟩, i + 1, rI.fail 15 rL.place, vJ, gJ), ⟨⟨hl', ho'⟩, by show i + 1 ≤ 3; omega, by show (l' : List Int).length = min (k + (i + 1)) N; omega, hRJ, hM⟩, by show 3 - (i + 1) < 3 - i; omega, [0, 1, 2, 3, 4], rfl, ⟨vi (show IntKind.i64.wrap ((i : Int) + 1) = ((i + 1 : Nat) : Int) from by rw [wrap_id (by omega) (by omega)]; omega), trivial⟩, rfl, rfl, rfl, rfl⟩
          · have h5' : ¬ 0 < e := by simp at h5; omega
            rw [decide_eq_false h5'] at hM
            exact ⟨(⟨n' + 1, l', cap', sp'⟩, i + 1, rI, vI, gi), ⟨⟨hl', ho'⟩, by show i + 1 ≤ 3; omega, by show (l' : List Int).length = min (k + (i + 1)) N; omega, hRI, hM⟩, by show 3 - (i + 1) < 3 - i; omega, [0, 1, 2, 3, 4], rfl, ⟨vi (show IntKind.i64.wrap ((i : Int) + 1) = ((i + 1 : Nat) : Int) from by rw [wrap_id (by omega) (by omega)]; omega), trivial⟩, rfl, rfl, rfl, rfl⟩
  · intro y hy
    obtain ⟨⟨n, l, cap, sp⟩, r3, v3, g3⟩ := y
    obtain ⟨⟨hl, ho⟩, hR3, hM⟩ := hy
    dsimp only at hl ho hR3 hM
    rw [← hfin] at hM
    have hM : rdIfOk ((rdFail (!attB ⟨la, x2, l⟩) 2 r0.place).bind fun _ => rdIfOk (RM.pure (some ⟨la, x2, l⟩)) none) none r3 = M := hM
    rcases l with _ | ⟨e, t⟩
    · obtain rfl : n = 0 := hl.symm
      change TurnW _ _ _ _ _ _
      refine turn_same ?_
      have hR4 : RdAt g0 g3 v3 r3 := hR3.mono (le_refl g3)
      have hE : EvsOk g3 (⟨la, (x2 : Int), ⟨none, [], 0⟩⟩ : AttrV).events := (sliceV_nil _ _ _ _)
      have hap : (⟨la, (x2 : Int), ⟨none, [], 0⟩⟩ : AttrV).p = ⟨la, x2, []⟩ := rfl
      refine (err_k hR4).callS [0] 4 rfl rfl rfl rfl ?_
      rintro o L1 gH ⟨rfl, rfl, hgH⟩ _
      subst gH
      rcases he3 : r3.err with _ | p
      · obtain rfl := hR4.nil he3
        rw [rdIfOk_none he3] at hM
        refine (mvRight_c ⟨la, (x2 : Int), ⟨none, [], 0⟩⟩ _ hE ⟨by show (0 : Int) ≤ x2; omega, by show (x2 : Int) ≤ 65535; omega⟩).call rfl rfl rfl ?_
        refine bsplit_of (fun h => ?_) (fun h => ?_)
        · have hab : attB ⟨la, x2, []⟩ = false := by
            have h : (!attB ⟨la, x2, []⟩) = true := h
            simpa using h
          rw [hab] at hM
          have hef : (r3.fail 2 r0.place).err = some (2, r0.place) := by rw [RdV.fail, he3]
          have hM : rdIfOk _ none (r3.fail 2 r0.place) = M := hM
          rw [rdIfOk_some hef] at hM
          subst hM
          refine (fail_k (g0 := g3) ⟨le_refl _, hR4.2.1, hR4.2.2⟩ 2 r0.place).callS [0] 4 rfl rfl rfl rfl ?_
          rintro o L1 g5 ⟨rfl, v5, rfl, hR5⟩ _
          obtain ⟨ad, rfl, -⟩ := hR5.some hef
          refine (err_k hR5).callS [0] 4 rfl rfl rfl rfl ?_
          rintro o L1 gH ⟨rfl, rfl, hgH⟩ _
          subst gH
          exact ⟨⟨la, (x2 : Int), ⟨none, [], 0⟩⟩, false, _, rfl, rfl, hR5.weak hR4.1, SliceV.ok.mono hE hR5.1 fun _ h => h, rfl⟩
        · have hab : attB ⟨la, x2, []⟩ = true := by
            have h : (!attB ⟨la, x2, []⟩) = false := h
            simpa using h
          rw [hab] at hM
          have hM : rdIfOk _ none r3 = M := hM
          rw [rdIfOk_none he3] at hM
          subst hM
          refine (err_k hR4).callS [0] 4 rfl rfl rfl rfl ?_
          rintro o L1 gH ⟨rfl, rfl, hgH⟩ _
          subst gH
          exact ⟨⟨la, (x2 : Int), ⟨none, [], 0⟩⟩, true, _, rfl, rfl, hR4, hE, rfl, hap⟩
      · obtain ⟨ad, rfl, -⟩ := hR4.some he3
        rw [rdIfOk_some he3] at hM
        subst hM
        refine (err_k hR4).callS [0] 4 rfl rfl rfl rfl ?_
        rintro o L1 gH ⟨rfl, rfl, hgH⟩ _
        subst gH
        exact ⟨⟨la, (x2 : Int), ⟨none, [], 0⟩⟩, false, _, rfl, rfl, hR4, hE, rfl⟩
    · obtain rfl : n = t.length + 1 := hl.symm
      change TurnW _ _ _ _ _ _
      refine turn_freeze 3 3 (evX (e :: t) ++ sp) (.inl rfl) fun b g' hle hat => ?_
      have hEv : EvsOk g' ⟨some ⟨b, 0, none⟩, e :: t, cap⟩ := slice_at ho hat
      have hR4 : RdAt g0 g' v3 r3 := hR3.mono hle
      have hE : EvsOk g' (⟨la, (x2 : Int), ⟨some ⟨b, 0, none⟩, e :: t, cap⟩⟩ : AttrV).events := hEv
      have hap : (⟨la, (x2 : Int), ⟨some ⟨b, 0, none⟩, e :: t, cap⟩⟩ : AttrV).p = ⟨la, x2, (e :: t)⟩ := rfl
      refine (err_k hR4).callS [0] 4 rfl rfl rfl rfl ?_
      rintro o L1 gH ⟨rfl, rfl, hgH⟩ _
      subst gH
      rcases he3 : r3.err with _ | p
      · obtain rfl := hR4.nil he3
        rw [rdIfOk_none he3] at hM
        refine (mvRight_c ⟨la, (x2 : Int), ⟨some ⟨b, 0, none⟩, e :: t, cap⟩⟩ _ hE ⟨by show (0 : Int) ≤ x2; omega, by show (x2 : Int) ≤ 65535; omega⟩).call rfl rfl rfl ?_
        refine bsplit_of (fun h => ?_) (fun h => ?_)
        · have hab : attB ⟨la, x2, (e :: t)⟩ = false := by
            have h : (!attB ⟨la, x2, (e :: t)⟩) = true := h
            simpa using h
          rw [hab] at hM
          have hef : (r3.fail 2 r0.place).err = some (2, r0.place) := by rw [RdV.fail, he3]
          have hM : rdIfOk _ none (r3.fail 2 r0.place) = M := hM
          rw [rdIfOk_some hef] at hM
          subst hM
          refine (fail_k (g0 := g') ⟨le_refl _, hR4.2.1, hR4.2.2⟩ 2 r0.place).callS [0] 4 rfl rfl rfl rfl ?_
          rintro o L1 g5 ⟨rfl, v5, rfl, hR5⟩ _
          obtain ⟨ad, rfl, -⟩ := hR5.some hef
          refine (err_k hR5).callS [0] 4 rfl rfl rfl rfl ?_
          rintro o L1 gH ⟨rfl, rfl, hgH⟩ _
          subst gH
          exact ⟨⟨la, (x2 : Int), ⟨some ⟨b, 0, none⟩, e :: t, cap⟩⟩, false, _, rfl, rfl, hR5.weak hR4.1, SliceV.ok.mono hE hR5.1 fun _ h => h, rfl⟩
        · have hab : attB ⟨la, x2, (e :: t)⟩ = true := by
            have h : (!attB ⟨la, x2, (e :: t)⟩) = false := h
            simpa using h
          rw [hab] at hM
          have hM : rdIfOk _ none r3 = M := hM
          rw [rdIfOk_none he3] at hM
          subst hM
          refine (err_k hR4).callS [0] 4 rfl rfl rfl rfl ?_
          rintro o L1 gH ⟨rfl, rfl, hgH⟩ _
          subst gH
          exact ⟨⟨la, (x2 : Int), ⟨some ⟨b, 0, none⟩, e :: t, cap⟩⟩, true, _, rfl, rfl, hR4, hE, rfl, hap⟩
      · obtain ⟨ad, rfl, -⟩ := hR4.some he3
        rw [rdIfOk_some he3] at hM
        subst hM
        refine (err_k hR4).callS [0] 4 rfl rfl rfl rfl ?_
        rintro o L1 gH ⟨rfl, rfl, hgH⟩ _
        subst gH
        exact ⟨⟨la, (x2 : Int), ⟨some ⟨b, 0, none⟩, e :: t, cap⟩⟩, false, _, rfl, rfl, hR4, hE, rfl⟩
end Go.Proofs.YtfianfpmnglfnaaDoor
