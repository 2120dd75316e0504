/- bpdu.Read, the law BpduReads: what each returns. Conditions: of the law: the variable errors.errorType is as laid. -/
import Derived.Test.YtidbblgahmjakaaDoorBpduRD
namespace Go.Proofs.YtidbblgahmjakaaDoor
open Go.Sx
set_option maxRecDepth 100000
set_option maxHeartbeats 8000000
attribute [local irreducible] Meets

theorem bytes_emp {n : Nat} {r r' : RdV} {x : ByteArray} {p : Int × Int} (h : rdBytes n r = (x, r')) (he : r'.err = some p) : x = ⟨#[]⟩ := by
  have h : r.bytes (n : Int) = (x, r') := h
  rcases he0 : r.err with _ | q
  · by_cases k : (r.s.size : Int) - r.at_ < (n : Int)
    · rw [RdV.bytes_short he0 (by omega) k] at h
      cases h; rfl
    · rw [RdV.bytes_good he0 (by omega) k] at h
      cases h
      have he : r.err = some p := he
      rw [he0] at he; cases he
  · rw [RdV.bytes_dead he0] at h
    cases h; rfl
def hdB (h : ByteArray) (k : Nat) : Int := if h = h1B ∧ 1 < k then 1 else if h = h2B ∧ 2 < k then 2 else if h = h3B ∧ 3 < k then 3 else 0
theorem h12 : h1B ≠ h2B := by decide
theorem h13 : h1B ≠ h3B := by decide
theorem h23 : h2B ≠ h3B := by decide
theorem emp1 : (ByteArray.mk #[]) ≠ h1B ∧ (ByteArray.mk #[]) ≠ h2B ∧ (ByteArray.mk #[]) ≠ h3B := by decide
theorem headS1 : headS 1 = h1B := rfl
theorem headS2 : headS 2 = h2B := rfl
theorem headS3 : headS 3 = h3B := rfl

theorem bpduRead_c (s : ByteArray) (g : G) (hs : s.size ≤ 1000000000000) : Meets Tryd.prog 45 [.v (.string s)] [] g (fun o L' g' => match (rdBpdu (rd0 s)).2.err with
    | none => o = .ret (.tup [.agg ((rdBpdu (rd0 s)).1.cells.map .v), .v .nilIface]) ∧ L' = [] ∧ G.le g g'
    | some p => ∃ v, o = .ret (.tup [.agg (BpduV.zero.cells.map .v), .v v]) ∧ L' = [] ∧ errAt g' v (some p) ∧ G.le g g') := by
  have hR0 := rd0_at hs g
  generalize hM : rdBpdu (rd0 s) = M
  obtain ⟨r0, hr0⟩ : ∃ r0, rd0 s = r0 := ⟨_, rfl⟩
  rw [hr0] at hM hR0
  rw [rdBpdu] at hM
  refine meets_of mixedW Tryd.func45 (by kernel_rfl) x45_ok (some []) ?_
  refine (new_c s 0 g).call0 rfl rfl 1 rfl ?_
  rintro o L1 g0 ⟨rfl, rfl, rfl⟩
  change vC _ _ _ _ [_, rdC (rd0 s) _] _ _
  rw [hr0]
  refine (bytes_k hR0 4 (by decide)).callS [1] 2 rfl rfl rfl rfl ?_
  intro o L1 g1 hq _
  rcases hx1 : rdBytes 4 r0 with ⟨x1, r1⟩
  rw [hx1] at hq
  dsimp only at hq
  first | rw [RM.bind_eq hx1] at hM | skip
  obtain ⟨rfl, v1, rfl, hR1⟩ := hq
  change LoopW _ _ _ _ _ _ _
  apply loop_rule [] (α := Nat × Int) (fun y => [(7, .v (.int .i64 y.1))]) (fun y => [.cells 86 (BpduV.zero.cells.map .v), rdC r1 v1, .cells 86 ((BpduV.mk y.2 FlagsV.zero BridgeV.zero 0 BridgeV.zero PortV.zero 0 0 0 0).cells.map .v)]) (fun _ => g1) (fun y => (1 ≤ y.1 ∧ y.1 ≤ 4) ∧ y.2 = hdB x1 y.1) (fun y => 4 - y.1) (1, 0)
  · intro x; kernel_rfl
  · exact ⟨⟨Nat.le_refl 1, by decide⟩, by simp [hdB]⟩
  · exact ⟨rfl, trivial⟩
  · rfl
  · rfl
  intro y hy
  obtain ⟨k, x⟩ := y
  obtain ⟨⟨ka, kb⟩, hx⟩ := hy
  dsimp only at ka kb hx
  rcases (by omega : k = 1 ∨ k = 2 ∨ k = 3 ∨ k = 4) with rfl | rfl | rfl | rfl
  · subst hx
    refine (err_k hR1).callS [1] 3 rfl rfl rfl rfl ?_
    rintro o L1 gE ⟨rfl, rfl, rfl⟩ _
    rcases he : r1.err with _ | p
    · obtain rfl := hR1.nil he
      refine (head_c 1 _ (by simp)).call rfl rfl rfl ?_
      refine bsplit_of (fun h => ?_) (fun h => ?_)
      · have h : x1 = h1B := of_decide_eq_true (strT h)
        exact ⟨(1 + 1, 1), ⟨⟨by show 1 ≤ 1 + 1; omega, by show 1 + 1 ≤ 4; omega⟩, by rw [h]; decide⟩, by show 4 - (1 + 1) < 4 - 1; omega, [0, 1, 2], rfl, ⟨rfl, trivial⟩, rfl, rfl, rfl, rfl⟩
      · have h : ¬ x1 = h1B := of_decide_eq_false (strT h)
        exact ⟨(1 + 1, hdB x1 1), ⟨⟨by show 1 ≤ 1 + 1; omega, by show 1 + 1 ≤ 4; omega⟩, by simp [hdB, h]⟩, by show 4 - (1 + 1) < 4 - 1; omega, [0, 1, 2], rfl, ⟨rfl, trivial⟩, rfl, rfl, rfl, rfl⟩
    · obtain ⟨ad, rfl, hat⟩ := hR1.some he
      obtain rfl := bytes_emp hx1 he
      exact ⟨(1 + 1, hdB ⟨#[]⟩ 1), ⟨⟨by show 1 ≤ 1 + 1; omega, by show 1 + 1 ≤ 4; omega⟩, by simp [hdB, emp1]⟩, by show 4 - (1 + 1) < 4 - 1; omega, [0, 1, 2], rfl, ⟨rfl, trivial⟩, rfl, rfl, rfl, rfl⟩
  · subst hx
    refine (err_k hR1).callS [1] 3 rfl rfl rfl rfl ?_
    rintro o L1 gE ⟨rfl, rfl, rfl⟩ _
    rcases he : r1.err with _ | p
    · obtain rfl := hR1.nil he
      refine (head_c 2 _ (by simp)).call rfl rfl rfl ?_
      refine bsplit_of (fun h => ?_) (fun h => ?_)
      · have h : x1 = h2B := of_decide_eq_true (strT h)
        exact ⟨(2 + 1, 2), ⟨⟨by show 1 ≤ 2 + 1; omega, by show 2 + 1 ≤ 4; omega⟩, by rw [h]; decide⟩, by show 4 - (2 + 1) < 4 - 2; omega, [0, 1, 2], rfl, ⟨rfl, trivial⟩, rfl, rfl, rfl, rfl⟩
      · have h : ¬ x1 = h2B := of_decide_eq_false (strT h)
        exact ⟨(2 + 1, hdB x1 2), ⟨⟨by show 1 ≤ 2 + 1; omega, by show 2 + 1 ≤ 4; omega⟩, by simp [hdB, h]⟩, by show 4 - (2 + 1) < 4 - 2; omega, [0, 1, 2], rfl, ⟨rfl, trivial⟩, rfl, rfl, rfl, rfl⟩
    · obtain ⟨ad, rfl, hat⟩ := hR1.some he
      obtain rfl := bytes_emp hx1 he
      exact ⟨(2 + 1, hdB ⟨#[]⟩ 2), ⟨⟨by show 1 ≤ 2 + 1; omega, by show 2 + 1 ≤ 4; omega⟩, by simp [hdB, emp1]⟩, by show 4 - (2 + 1) < 4 - 2; omega, [0, 1, 2], rfl, ⟨rfl, trivial⟩, rfl, rfl, rfl, rfl⟩
  · subst hx
    refine (err_k hR1).callS [1] 3 rfl rfl rfl rfl ?_
    rintro o L1 gE ⟨rfl, rfl, rfl⟩ _
    rcases he : r1.err with _ | p
    · obtain rfl := hR1.nil he
      refine (head_c 3 _ (by simp)).call rfl rfl rfl ?_
      refine bsplit_of (fun h => ?_) (fun h => ?_)
      · have h : x1 = h3B := of_decide_eq_true (strT h)
        exact ⟨(3 + 1, 3), ⟨⟨by show 1 ≤ 3 + 1; omega, by show 3 + 1 ≤ 4; omega⟩, by rw [h]; decide⟩, by show 4 - (3 + 1) < 4 - 3; omega, [0, 1, 2], rfl, ⟨rfl, trivial⟩, rfl, rfl, rfl, rfl⟩
      · have h : ¬ x1 = h3B := of_decide_eq_false (strT h)
        exact ⟨(3 + 1, hdB x1 3), ⟨⟨by show 1 ≤ 3 + 1; omega, by show 3 + 1 ≤ 4; omega⟩, by simp [hdB, h]⟩, by show 4 - (3 + 1) < 4 - 3; omega, [0, 1, 2], rfl, ⟨rfl, trivial⟩, rfl, rfl, rfl, rfl⟩
    · obtain ⟨ad, rfl, hat⟩ := hR1.some he
      obtain rfl := bytes_emp hx1 he
      exact ⟨(3 + 1, hdB ⟨#[]⟩ 3), ⟨⟨by show 1 ≤ 3 + 1; omega, by show 3 + 1 ≤ 4; omega⟩, by simp [hdB, emp1]⟩, by show 4 - (3 + 1) < 4 - 3; omega, [0, 1, 2], rfl, ⟨rfl, trivial⟩, rfl, rfl, rfl, rfl⟩
  · clear ka kb
    by_cases e1 : x1 = h1B
    · obtain rfl : x = 1 := by rw [hx, e1]; decide
      rw [if_pos e1] at hM
      refine (body_k hR1 1).callS [1] 3 rfl rfl rfl rfl ?_
      intro o L1 g2 hq _
      rcases hx2 : rdBody 1 r1 with ⟨x2, r2⟩
      rw [hx2] at hq
      dsimp only at hq
      first | rw [RM.bind_eq hx2] at hM | skip
      obtain ⟨rfl, v2, rfl, hR2⟩ := hq
      rcases he : r2.err with _ | p
      · obtain rfl := hR2.nil he
        refine (err_k hR2).callS [1] 3 rfl rfl rfl rfl ?_
        rintro o L1 gE ⟨rfl, rfl, rfl⟩ _
        subst hM
        show match (r2).err with
          | none => _
          | some p => _
        rw [he]
        exact ⟨rfl, rfl, hR2.1⟩
      · obtain ⟨ad, rfl, hat⟩ := hR2.some he
        refine (err_k hR2).callS [1] 3 rfl rfl rfl rfl ?_
        rintro o L1 gE ⟨rfl, rfl, rfl⟩ _
        refine (err_k hR2).callS [1] 3 rfl rfl rfl rfl ?_
        rintro o L1 gE ⟨rfl, rfl, rfl⟩ _
        subst hM
        show match (r2).err with
          | none => _
          | some p => _
        rw [he]
        exact ⟨_, rfl, rfl, ⟨ad, rfl, hat⟩, hR2.1⟩
    rw [if_neg e1] at hM
    by_cases e2 : x1 = h2B
    · obtain rfl : x = 2 := by rw [hx, e2]; decide
      rw [if_pos e2] at hM
      have hM : (noticeV, r1) = M := hM
      rcases he : r1.err with _ | p
      · obtain rfl := hR1.nil he
        refine (err_k hR1).callS [1] 3 rfl rfl rfl rfl ?_
        rintro o L1 gE ⟨rfl, rfl, rfl⟩ _
        subst hM
        show match (r1).err with
          | none => _
          | some p => _
        rw [he]
        exact ⟨rfl, rfl, hR1.1⟩
      · obtain ⟨ad, rfl, hat⟩ := hR1.some he
        refine (err_k hR1).callS [1] 3 rfl rfl rfl rfl ?_
        rintro o L1 gE ⟨rfl, rfl, rfl⟩ _
        refine (err_k hR1).callS [1] 3 rfl rfl rfl rfl ?_
        rintro o L1 gE ⟨rfl, rfl, rfl⟩ _
        subst hM
        show match (r1).err with
          | none => _
          | some p => _
        rw [he]
        exact ⟨_, rfl, rfl, ⟨ad, rfl, hat⟩, hR1.1⟩
    rw [if_neg e2] at hM
    by_cases e3 : x1 = h3B
    · obtain rfl : x = 3 := by rw [hx, e3]; decide
      rw [if_pos e3] at hM
      refine (body_k hR1 3).callS [1] 3 rfl rfl rfl rfl ?_
      intro o L1 g2 hq _
      rcases hx2 : rdBody 3 r1 with ⟨x2, r2⟩
      rw [hx2] at hq
      dsimp only at hq
      first | rw [RM.bind_eq hx2] at hM | skip
      obtain ⟨rfl, v2, rfl, hR2⟩ := hq
      rw [RM.bind_eq (one_byte r2)] at hM
      refine (at_k hR2).callS [1] 3 rfl rfl rfl rfl ?_
      rintro o L1 gA ⟨rfl, rfl, rfl⟩ _
      refine (num_k hR2 1 (by decide) (by decide)).callS [1] 3 rfl rfl rfl rfl ?_
      intro o L1 g3 hq _
      rcases hx3 : rdNum 1 r2 with ⟨x3, r3⟩
      rw [hx3] at hq hM
      dsimp only at hq hM
      obtain ⟨rfl, v3, rfl, hR3⟩ := hq
      rcases hb : decide ((x3 : Int) ≠ 0) with _ | _
      · rw [hb] at hM
        have hM : (x2, r3) = M := hM
        refine bsplit_of (fun k => absurd k (by simp at hb ⊢; omega)) (fun _ => ?_)
        rcases he : r3.err with _ | p
        · obtain rfl := hR3.nil he
          refine (err_k hR3).callS [1] 3 rfl rfl rfl rfl ?_
          rintro o L1 gE ⟨rfl, rfl, rfl⟩ _
          subst hM
          show match (r3).err with
            | none => _
            | some p => _
          rw [he]
          exact ⟨rfl, rfl, hR3.1⟩
        · obtain ⟨ad, rfl, hat⟩ := hR3.some he
          refine (err_k hR3).callS [1] 3 rfl rfl rfl rfl ?_
          rintro o L1 gE ⟨rfl, rfl, rfl⟩ _
          refine (err_k hR3).callS [1] 3 rfl rfl rfl rfl ?_
          rintro o L1 gE ⟨rfl, rfl, rfl⟩ _
          subst hM
          show match (r3).err with
            | none => _
            | some p => _
          rw [he]
          exact ⟨_, rfl, rfl, ⟨ad, rfl, hat⟩, hR3.1⟩
      · rw [hb] at hM
        have hM : (x2, r3.fail 3 r2.place) = M := hM
        refine bsplit_of (fun _ => ?_) (fun k => absurd k (by simp at hb ⊢; omega))
        refine (fail_k hR3 3 r2.place).callS [1] 3 rfl rfl rfl rfl ?_
        rintro o L1 g4 ⟨rfl, v4, rfl, hR4⟩ _
        obtain ⟨r4, hr4⟩ : ∃ r4, r3.fail 3 r2.place = r4 := ⟨_, rfl⟩
        rw [hr4] at hR4 hM ⊢
        rcases he : r4.err with _ | p
        · obtain rfl := hR4.nil he
          refine (err_k hR4).callS [1] 3 rfl rfl rfl rfl ?_
          rintro o L1 gE ⟨rfl, rfl, rfl⟩ _
          subst hM
          show match (r4).err with
            | none => _
            | some p => _
          rw [he]
          exact ⟨rfl, rfl, hR4.1⟩
        · obtain ⟨ad, rfl, hat⟩ := hR4.some he
          refine (err_k hR4).callS [1] 3 rfl rfl rfl rfl ?_
          rintro o L1 gE ⟨rfl, rfl, rfl⟩ _
          refine (err_k hR4).callS [1] 3 rfl rfl rfl rfl ?_
          rintro o L1 gE ⟨rfl, rfl, rfl⟩ _
          subst hM
          show match (r4).err with
            | none => _
            | some p => _
          rw [he]
          exact ⟨_, rfl, rfl, ⟨ad, rfl, hat⟩, hR4.1⟩
    · obtain rfl : x = 0 := by rw [hx]; simp [hdB, e1, e2, e3]
      rw [if_neg e3] at hM
      have hM : (BpduV.zero, r1.fail 3 0) = M := hM
      refine (fail_k hR1 3 0).callS [1] 3 rfl rfl rfl rfl ?_
      rintro o L1 g4 ⟨rfl, v4, rfl, hR4⟩ _
      obtain ⟨r4, hr4⟩ : ∃ r4, r1.fail 3 0 = r4 := ⟨_, rfl⟩
      rw [hr4] at hR4 hM ⊢
      rcases he : r4.err with _ | p
      · obtain rfl := hR4.nil he
        refine (err_k hR4).callS [1] 3 rfl rfl rfl rfl ?_
        rintro o L1 gE ⟨rfl, rfl, rfl⟩ _
        subst hM
        show match (r4).err with
          | none => _
          | some p => _
        rw [he]
        exact ⟨rfl, rfl, hR4.1⟩
      · obtain ⟨ad, rfl, hat⟩ := hR4.some he
        refine (err_k hR4).callS [1] 3 rfl rfl rfl rfl ?_
        rintro o L1 gE ⟨rfl, rfl, rfl⟩ _
        refine (err_k hR4).callS [1] 3 rfl rfl rfl rfl ?_
        rintro o L1 gE ⟨rfl, rfl, rfl⟩ _
        subst hM
        show match (r4).err with
          | none => _
          | some p => _
        rw [he]
        exact ⟨_, rfl, rfl, ⟨ad, rfl, hat⟩, hR4.1⟩

attribute [local irreducible] rdBpdu cuBpdu
/-- The law BpduReads. -/
theorem bpduReads_c (s : ByteArray) (g : G) (_ : sok s) (hE : ErrVar g) : Meets Tryd.prog 8 [.v (.string s)] [] g (fun o _ _ => o = .ret (.v (.bool true))) := by
  refine meets_of mixedW Tryd.func8 (by kernel_rfl) x8_ok none ?_
  refine bsplit_of (fun _ => ⟨[], rfl⟩) (fun hlen => ?_)
  have hs : s.size ≤ 1000000000000 := by simp at hlen; omega
  obtain ⟨h1, h2⟩ := bpdu_sim.run s
  refine (refBpduRead_c s g hs).call0 rfl rfl 0 rfl ?_
  rintro o L1 g1 ⟨rfl, rfl, hle1⟩
  rcases hm : cuBpdu (cur0 s) with ⟨x, c⟩ | ⟨e, pl, c⟩
  · obtain ⟨ha, he⟩ := h1 x c hm
    refine (bpduRead_c s g1 hs).call0 rfl rfl 2 rfl ?_
    intro o L1 g2 hq
    rw [show (rdBpdu (rd0 s)).2.err = none from he, show (rdBpdu (rd0 s)).1 = x from ha] at hq
    obtain ⟨rfl, rfl, hle2⟩ := hq
    refine (placed_c .nilIface 0 (-1) 0 (-1) _ (G.at.mono (le_trans hle1 hle2) hE) .nil).call rfl rfl rfl ?_
    exact ⟨[], rb (by simp)⟩
  · have he := h2 e pl c hm
    refine (bpduRead_c s g1 hs).call0 rfl rfl 2 rfl ?_
    intro o L1 g2 hq
    rw [show (rdBpdu (rd0 s)).2.err = some (e, pl) from he] at hq
    obtain ⟨v, rfl, rfl, ⟨ad, rfl, hat⟩, hle2⟩ := hq
    refine (placed_c _ e pl e pl _ (G.at.mono (le_trans hle1 hle2) hE) (.at_ ad _ _ hat)).call rfl rfl rfl ?_
    refine bsplit_of (fun _ => ?_) (fun k => absurd k (by simp))
    exact ⟨[], rfl⟩
end Go.Proofs.YtidbblgahmjakaaDoor
