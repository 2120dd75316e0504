/- The law WireReads: what it returns. Conditions: that the table of powers of ten and errors.errorType are as laid. -/
import Derived.Test.YthajjbcnemdacaaDoorWrC
namespace Go.Proofs.YthajjbcnemdacaaDoor
open Go.Sx
set_option maxRecDepth 100000
set_option maxHeartbeats 8000000
attribute [local irreducible] Meets
attribute [local irreducible] numS boolS num64

/-- What an error is, in numbers. -/
theorem errAt_fa {g : G} {v : Value} {r : RdV} (h : errAt g v r.err) : ErrP g v (fa r).1 (fa r).2 := by
  cases he : r.err with
  | none => rw [he] at h; rw [fa_none he]; cases h; exact .nil
  | some p => rw [he] at h; rw [fa_some he]; obtain ⟨ad, rfl, h2⟩ := h; exact .at_ ad _ _ h2
theorem tellA_c {g : G} {v : Value} {r : RdV} (hE : ErrVar g) (h : errAt g v r.err) : Tells Tryd.prog 34 [.v v] g (.v (.int .i64 (fa r).1)) := by
  cases he : r.err with
  | none => rw [he] at h; rw [fa_none he]; cases h; exact tellNil_c g
  | some p => rw [he] at h; rw [fa_some he]; obtain ⟨ad, rfl, h2⟩ := h; exact tell_c _ _ g hE (.at_ ad _ _ h2)
/-- A part, read to its end. -/
theorem sub_all (t : ByteArray) (off : Int) : (RdV.mk t 0 off none).bytes t.size = (t, ⟨t, t.size, off, none⟩) := by
  rw [RdV.bytes_good rfl (by omega) (by show ¬ (t.size : Int) - ((0 : Nat) : Int) < t.size; omega)]
  simp
theorem sub_dead {r : RdV} {p : Int × Int} {n : Int} (h : (r.bytes n).2.err = some p) : (r.bytes n).1 = ⟨#[]⟩ := by
  unfold RdV.bytes at h ⊢
  split
  · rfl
  · rename_i he
    rw [he] at h
    dsimp only at h
    split
    · rfl
    · rename_i k1
      rw [if_neg k1] at h
      split
      · rfl
      · rename_i k2
        rw [if_neg k2] at h
        cases h

theorem subAt_c (t : ByteArray) (p : Int) (e : Option (Int × Int)) (v : Value) (g : G) (h : (RdV.mk t 0 p e).ok) : Meets Tryd.prog 31 [.ptr 0 0] [rdC ⟨t, 0, p, e⟩ v] g (fun o L' g' => o = .ret (.v (.int .i64 p)) ∧ L' = [rdC ⟨t, 0, p, e⟩ v] ∧ g' = g) := by
  have := at_c ⟨t, 0, p, e⟩ v g h
  rw [show RdV.place ⟨t, 0, p, e⟩ = p from Int.add_zero p] at this
  exact this
theorem subLeft_c (t : ByteArray) (p : Int) (e : Option (Int × Int)) (v : Value) (g : G) (h : (RdV.mk t 0 p e).ok) : Meets Tryd.prog 32 [.ptr 0 0] [rdC ⟨t, 0, p, e⟩ v] g (fun o L' g' => o = .ret (.v (.int .i64 t.size)) ∧ L' = [rdC ⟨t, 0, p, e⟩ v] ∧ g' = g) := by
  have := left_c ⟨t, 0, p, e⟩ v g h
  rw [show (((RdV.mk t 0 p e).s.size : Int) - ((RdV.mk t 0 p e).at_ : Nat)) = t.size from Int.sub_zero _] at this
  exact this

theorem wireReads_c (s : ByteArray) (off : Int) (l : SliceV ReadV) (g : G) (_ : sok s) (_ : iok .i64 off) (hl : l.ok 2 ReadV.cells (ReadV.ok g) g) (hT : TabVar g) (hE : ErrVar g) : Meets Tryd.prog 6 [.v (.string s), .v (.int .i64 off), .v (.slice l.a l.l.length l.c)] [] g (fun o _ _ => o = .ret (.v (.bool true))) := by
  have hlen := hl.len
  refine meets_ofJ mixedW Tryd.func6 (by kernel_rfl) x6_ok (some []) ?_
  refine bsplit_of (fun _ => rfl) (fun (q1 : decide ((s.size : Int) > 100) = false) => ?_)
  refine bsplit_of (fun _ => rfl) (fun (q2 : decide ((l.l.length : Int) > 30) = false) => ?_)
  refine bsplit_of (fun _ => rfl) (fun (q3 : decide (off < 0) = false) => ?_)
  refine bsplit_of (fun _ => rfl) (fun (q4 : decide (off > 1099511627776) = false) => ?_)
  have hs : s.size ≤ 100 := by have := of_decide_eq_false q1; omega
  have hN : l.l.length ≤ 30 := by have := of_decide_eq_false q2; omega
  have h0 : 0 ≤ off := by have := of_decide_eq_false q3; omega
  have h1 : off ≤ 1099511627776 := by have := of_decide_eq_false q4; omega
  refine (new_c s off g).call0 rfl rfl 0 rfl ?_
  rintro o L1 g0 ⟨rfl, rfl, rfl⟩
  refine (reads_c s off l _ hl hT hs h0 h1 (by omega)).call0 rfl rfl 1 rfl ?_
  rintro o L1 g1 (⟨m, hm, rfl, rfl, hmok, hle1⟩ | ⟨⟨⟩⟩)
  obtain ⟨r0, hr0⟩ : ∃ r0, RdV.mk s 0 off none = r0 := ⟨_, rfl⟩
  have hI0 : RdI s off r0 := by subst hr0; exact ⟨⟨rfl, rfl, Nat.zero_le _, nofun⟩, hs, h0, h1⟩
  rw [hr0] at hm
  obtain ⟨F, hF⟩ : ∃ F, fa (wrEnd l.l ⟨s, 0, off, none⟩) = F := ⟨_, rfl⟩
  change LoopW _ _ _ _ _ _ _
  apply loop_rule [] (α := Nat × Value × G) (fun y => [(47, .v (.int .i64 y.1))]) (fun y => [rdC (wrEnd (l.l.take y.1) r0) y.2.1, .cells 45 [.v (.int .i64 (fa (wrEnd l.l ⟨s, 0, off, none⟩)).1), .v (.int .i64 (fa (wrEnd l.l ⟨s, 0, off, none⟩)).2)]]) (fun y => y.2.2) (fun y => y.1 ≤ l.l.length ∧ errAt y.2.2 y.2.1 (wrEnd (l.l.take y.1) r0).err ∧ G.le g1 y.2.2) (fun y => l.l.length - y.1) (0, .nilIface, g1)
  · intro x; kernel_rfl
  · exact ⟨Nat.zero_le _, by subst hr0; exact rfl, le_refl _⟩
  · exact ⟨rfl, trivial⟩
  · subst hr0; rfl
  · rfl
  intro y hy
  obtain ⟨k, v, g2⟩ := y
  obtain ⟨hk, hv, hle2⟩ := hy
  dsimp only at hk hv hle2
  obtain ⟨r, hr⟩ : ∃ r, wrEnd (l.l.take k) r0 = r := ⟨_, rfl⟩
  have hI : RdI s off r := ⟨by rw [← hr]; exact end_ok _ hI0.1, hI0.2⟩
  rw [hr] at hv
  have hle := le_trans hle1 hle2
  have hT := hT.mono hle
  have hE : ErrVar g2 := G.at.mono hle hE
  have hl := hl.mono hle (Q' := ReadV.ok g2) (fun x h => h)
  have hmok := hmok.mono hle2 (fun _ h => h)
  refine bsplit_of (fun (hlt : decide (((k : Nat) : Int) < (l.l.length : Int)) = true) => ?_) (fun (hlt : decide (((k : Nat) : Int) < (l.l.length : Int)) = false) => ?_)
  rotate_left
  · have ek : l.l.take k = l.l := List.take_of_length_le (by have := of_decide_eq_false hlt; omega)
    have er : wrEnd l.l (RdV.mk s 0 off none) = r := by rw [← hr, ek, hr0]
    change vC _ _ _ _ [rdC (wrEnd (l.l.take k) r0) v, _] _ _
    rw [hr, er]
    refine (err_c r v g2).callS [0] 2 rfl rfl rfl rfl ?_
    rintro o L1 g3 ⟨rfl, rfl, rfl⟩ _
    refine (placed_c v _ _ (fa r).1 (fa r).2 _ hE (errAt_fa hv)).call rfl rfl rfl ?_
    exact rb (by simp)
  have hlt' : k < l.l.length := by have := of_decide_eq_true hlt; omega
  obtain ⟨ad, x, ha, hx, hat, hxok⟩ := hl.elem (fun _ => rfl) hlt'
  have hw := wrOut_at hx r0
  rw [hr, ← hm] at hw
  have hmk : k < m.l.length := (List.getElem?_eq_some_iff.1 hw).1
  obtain ⟨bd, z, hb, hz, hbt, -⟩ := hmok.elem (fun _ => rfl) hmk
  obtain rfl : z = wrText (wrStep r x) := by rw [hw] at hz; cases hz; rfl
  refine ⟨⟨by omega, by omega⟩, ad, ha, ?_⟩
  refine ⟨x.cells, rfl, hat, ?_⟩
  change vC _ _ _ _ [rdC (wrEnd (l.l.take k) r0) v, .cells 45 [.v (.int .i64 (fa (wrEnd l.l ⟨s, 0, off, none⟩)).1), .v (.int .i64 (fa (wrEnd l.l ⟨s, 0, off, none⟩)).2)], .cells 49 (x.cells.map .v)] _ _
  rw [hr]
  obtain ⟨⟨T, R⟩, hTR⟩ : ∃ y, wrStep r x = y := ⟨_, rfl⟩
  have hR : RdI s off R := ⟨by have := step_ok hI.1 x; rw [hTR] at this; exact this, hI.2⟩
  have hTs : T.size ≤ 300 := by have := step_size hI.1 hI.2.1 hI.2.2.1 hI.2.2.2 x; rw [hTR] at this; exact this
  rw [hTR] at hbt
  change JoinW _ _ _ _ _ _ _
  refine join_rule [] (α := Value × G) (fun _ => [(12, .v (.string T))]) (fun y => [rdC R y.1, .cells 45 [.v (.int .i64 (fa (wrEnd l.l ⟨s, 0, off, none⟩)).1), .v (.int .i64 (fa (wrEnd l.l ⟨s, 0, off, none⟩)).2)], .cells 49 (x.cells.map .v)]) (fun y => y.2) (fun y => errAt y.2 y.1 R.err ∧ G.le g2 y.2) (fun y => by kernel_rfl) ?_ ?_
  · refine bsplit_of (fun h0 => ?_) (fun h0 => ?_)
    · have e : r.bytes x.n = (T, R) := by rw [← hTR, wrStep, if_pos (by simpa using h0)]
      have hB := bytes_g r v x.n g2 hI.rd hv
      rw [e] at hB
      dsimp only at hB
      refine hB.callS [0] 3 rfl rfl rfl rfl ?_
      rintro o L1 g3 ⟨rfl, ⟨v3, rfl, hv3⟩, hle3⟩ _
      exact ⟨(v3, g3), ⟨hv3, hle3⟩, [0, 1, 2], rfl, ⟨rfl, trivial⟩, rfl, rfl, rfl, rfl⟩
    have h0 : ¬ x.what = 0 := by simpa using h0
    refine bsplit_of (fun h1 => ?_) (fun h1 => ?_)
    · obtain ⟨⟨t, R'⟩, hq⟩ : ∃ y, tkR r true x.n = y := ⟨_, rfl⟩
      have e : (numS (num64 t.data.toList), R') = (T, R) := by rw [← hTR, wrStep, if_neg h0, if_pos (by simpa using h1), hq]
      cases e
      have hB := num_g r v x.n g2 hI.rd (by rw [hI.1.1]; omega) hv
      rw [hq] at hB
      dsimp only at hB
      refine hB.callS [0] 3 rfl rfl rfl rfl ?_
      rintro o L1 g3 ⟨rfl, ⟨v3, rfl, hv3⟩, hle3⟩ _
      refine (itoa_c _ (num64_rng _).1 (num64_rng _).2 g3 (hT.mono hle3)).call rfl rfl rfl ?_
      exact ⟨(v3, g3), ⟨hv3, hle3⟩, [0, 1, 2], rfl, ⟨rfl, trivial⟩, rfl, rfl, rfl, rfl⟩
    have h1 : ¬ x.what = 1 := by simpa using h1
    refine bsplit_of (fun h2 => ?_) (fun h2 => ?_)
    · have e : (boolS r.zeros.err.isNone, r.zeros) = (T, R) := by rw [← hTR, wrStep, if_neg h0, if_neg h1, if_pos (by simpa using h2)]
      cases e
      refine (zeros_c r v g2 hI.rd hv).callS [0] 3 rfl rfl rfl rfl ?_
      rintro o L1 g3 ⟨rfl, ⟨v3, rfl, hv3⟩, hle3⟩ _
      refine (boolS_c _ g3).call rfl rfl rfl ?_
      exact ⟨(v3, g3), ⟨hv3, hle3⟩, [0, 1, 2], rfl, ⟨rfl, trivial⟩, rfl, rfl, rfl, rfl⟩
    have h2 : ¬ x.what = 2 := by simpa using h2
    refine bsplit_of (fun h3 => ?_) (fun h3 => ?_)
    · obtain ⟨⟨t, R'⟩, hq⟩ : ∃ y, r.bytes x.n = y := ⟨_, rfl⟩
      have e : (numS r.place ++ spS ++ numS t.size ++ spS ++ t ++ spS ++ numS (fa R').1, R') = (T, R) := by rw [← hTR, wrStep, if_neg h0, if_neg h1, if_neg h2, if_pos (by simpa using h3), hq]
      cases e
      have hts : t.size ≤ 100 := by have := bytes_len hI.1 x.n; rw [hq] at this; exact Nat.le_trans this hI.2.1
      have hp := hI.1.place hI.2.1 hI.2.2.1 hI.2.2.2
      have hf := hR.1.fa
      haveI : Sz t 100 := ⟨hts⟩
      haveI : Sz (numS r.place) 21 := ⟨numS_size (by omega) (by omega)⟩
      haveI : Sz (numS (t.size : Int)) 21 := ⟨numS_size (by omega) (by omega)⟩
      haveI : Sz (numS (fa R).1) 21 := ⟨numS_size (by omega) (by omega)⟩
      have hdead := fun p h => sub_dead (r := r) (n := x.n) (p := p) h
      rw [hq] at hdead
      have hS := sub_c r v x.n g2 hI.rd hv
      rw [hq] at hS
      dsimp only at hS hdead
      refine hS.callS [0] 3 rfl rfl rfl rfl ?_
      rintro o L1 g3 ⟨rfl, ⟨v3, rfl, hv3⟩, hle3⟩ _
      have hok : (RdV.mk t 0 r.place R.err).ok := ⟨Nat.zero_le _, by show t.size ≤ 1000000000000; omega, hp.1, by show r.place ≤ 1000000000000000; omega⟩
      refine (subAt_c t r.place R.err v3 g3 hok).callS [3] 4 rfl rfl rfl rfl ?_
      rintro o L1 g4 ⟨rfl, rfl, rfl⟩ _
      refine (subLeft_c t r.place R.err v3 _ hok).callS [3] 4 rfl rfl rfl rfl ?_
      rintro o L1 g5 ⟨rfl, rfl, rfl⟩ _
      have hb2 := bytes_g ⟨t, 0, r.place, R.err⟩ v3 t.size g5 hok hv3
      have fin : ∀ {v4 : Value} {g6 : G}, errAt g6 v4 R.err → G.le g2 g6 → errAt g6 v4 R.err ∧ G.le g2 g6 := fun a b => ⟨a, b⟩
      have hcs : R.err = none ∨ ∃ p, R.err = some p := by cases R.err <;> simp
      rcases hcs with he | ⟨p, he⟩
      · obtain rfl : v3 = .nilIface := by rw [he] at hv3; exact hv3
        rw [he, sub_all] at hb2
        refine hb2.callS [3] 4 rfl rfl rfl rfl ?_
        rintro o L1 g6 ⟨rfl, ⟨v4, rfl, hv4⟩, hle4⟩ _
        obtain rfl : v4 = .nilIface := hv4
        have hok2 : (RdV.mk t t.size r.place none).ok := ⟨Nat.le_refl _, by show t.size ≤ 1000000000000; omega, hp.1, by show r.place ≤ 1000000000000000; omega⟩
        refine (err_c ⟨t, t.size, r.place, none⟩ .nilIface g6).callS [3] 4 rfl rfl rfl rfl ?_
        rintro o L1 g7 ⟨rfl, rfl, rfl⟩ _
        refine (left_c ⟨t, t.size, r.place, none⟩ .nilIface _ hok2).callS [3] 4 rfl rfl rfl rfl ?_
        rintro o L1 g8 ⟨rfl, rfl, rfl⟩ _
        refine bsplit_of (fun q => absurd q (by simp)) (fun _ => ?_)
        refine (at_c ⟨t, t.size, r.place, none⟩ .nilIface _ hok2).callS [3] 4 rfl rfl rfl rfl ?_
        rintro o L1 g9 ⟨rfl, rfl, rfl⟩ _
        refine bsplit_of (fun q => absurd q (by rw [wrap_id (by omega) (by omega)]; simp [RdV.place])) (fun _ => ?_)
        have hTs3 := hT.mono (le_trans hle3 hle4)
        refine (itoa_c r.place (by omega) (by omega) _ hTs3).call rfl rfl rfl ?_
        refine ⟨szOk rfl, ?_⟩
        refine (itoa_c (t.size : Int) (by omega) (by omega) _ hTs3).call rfl rfl rfl ?_
        refine ⟨szOk rfl, ?_⟩
        refine ⟨szOk rfl, ?_⟩
        refine ⟨szOk rfl, ?_⟩
        refine ⟨szOk rfl, ?_⟩
        refine (err_c (⟨t, t.size, r.place, none⟩) (.nilIface) _).callS [3] 4 rfl rfl rfl rfl ?_
        rintro o L1 g9 ⟨rfl, rfl, rfl⟩ _
        refine (tellA_c (r := R) (G.at.mono (le_trans hle3 hle4) hE) ((by rw [he]; exact rfl))).call rfl rfl rfl ?_
        refine (itoa_c (fa R).1 (by omega) (by omega) _ hTs3).call rfl rfl rfl ?_
        refine ⟨szOk rfl, ?_⟩
        exact ⟨(_, _), ⟨errAt.mono hle4 hv3, le_trans hle3 hle4⟩, [0, 1, 2], rfl, ⟨rfl, trivial⟩, rfl, rfl, rfl, rfl⟩
      · have ht : t = ⟨#[]⟩ := hdead p he
        have hbe : RdV.bytes ⟨t, 0, r.place, some p⟩ t.size = (t, ⟨t, 0, r.place, some p⟩) := by
          unfold RdV.bytes
          dsimp only
          exact congrArg (fun z => (z, RdV.mk t 0 r.place (some p))) ht.symm
        have hv3' := hv3
        rw [he] at hv3'
        obtain ⟨ad, rfl, -⟩ := hv3'
        rw [he, hbe] at hb2
        refine hb2.callS [3] 4 rfl rfl rfl rfl ?_
        rintro o L1 g6 ⟨rfl, ⟨v4, rfl, hv4⟩, hle4⟩ _
        have hv4'' := hv4
        obtain ⟨ad4, rfl, -⟩ := hv4''
        have hv5 : errAt g6 (.iface 91 (.pointer (some ad4))) R.err := by rw [he]; exact hv4
        refine (err_c ⟨t, 0, r.place, some p⟩ _ g6).callS [3] 4 rfl rfl rfl rfl ?_
        rintro o L1 g7 ⟨rfl, rfl, rfl⟩ _
        have hTs3 := hT.mono (le_trans hle3 hle4)
        refine (itoa_c r.place (by omega) (by omega) _ hTs3).call rfl rfl rfl ?_
        refine ⟨szOk rfl, ?_⟩
        refine (itoa_c (t.size : Int) (by omega) (by omega) _ hTs3).call rfl rfl rfl ?_
        refine ⟨szOk rfl, ?_⟩
        refine ⟨szOk rfl, ?_⟩
        refine ⟨szOk rfl, ?_⟩
        refine ⟨szOk rfl, ?_⟩
        refine (err_c (⟨t, 0, r.place, some p⟩) ((.iface 91 (.pointer (some ad4)))) _).callS [3] 4 rfl rfl rfl rfl ?_
        rintro o L1 g9 ⟨rfl, rfl, rfl⟩ _
        refine (tellA_c (r := R) (G.at.mono (le_trans hle3 hle4) hE) (hv5)).call rfl rfl rfl ?_
        refine (itoa_c (fa R).1 (by omega) (by omega) _ hTs3).call rfl rfl rfl ?_
        refine ⟨szOk rfl, ?_⟩
        exact ⟨(_, _), ⟨errAt.mono hle4 hv3, le_trans hle3 hle4⟩, [0, 1, 2], rfl, ⟨rfl, trivial⟩, rfl, rfl, rfl, rfl⟩
    have h3 : ¬ x.what = 3 := by simpa using h3
    refine bsplit_of (fun h4 => ?_) (fun h4 => ?_)
    · have e : (emp, r.fail 6 x.n) = (T, R) := by rw [← hTR, wrStep, if_neg h0, if_neg h1, if_neg h2, if_neg h3, if_pos (by simpa using h4)]
      cases e
      refine (fail_c r v 6 x.n g2 hv).callS [0] 3 rfl rfl rfl rfl ?_
      rintro o L1 g3 ⟨rfl, ⟨v3, rfl, hv3⟩, hle3⟩ _
      exact ⟨(v3, g3), ⟨hv3, hle3⟩, [0, 1, 2], rfl, ⟨rfl, trivial⟩, rfl, rfl, rfl, rfl⟩
    have e : (emp, r) = (T, R) := by rw [← hTR, wrStep, if_neg h0, if_neg h1, if_neg h2, if_neg h3, if_neg (by simpa using h4)]
    cases e
    exact ⟨(v, g2), ⟨hv, le_refl g2⟩, [0, 1, 2], rfl, ⟨rfl, trivial⟩, rfl, rfl, rfl, rfl⟩
  intro y hy
  obtain ⟨v3, g3⟩ := y
  obtain ⟨hv3, hle3⟩ := hy
  have hT3 := hT.mono hle3
  have hp := hR.1.place hR.2.1 hR.2.2.1 hR.2.2.2
  have hat1 := hR.1.2.2.1
  have hRs : R.s.size ≤ 100 := by rw [hR.1.1]; exact hR.2.1
  haveI : Sz T 300 := ⟨hTs⟩
  haveI : Sz (numS ((R.s.size : Int) - R.at_)) 21 := ⟨numS_size (by omega) (by omega)⟩
  haveI : Sz (numS R.place) 21 := ⟨numS_size (by omega) (by omega)⟩
  refine ⟨szOk rfl, ?_⟩
  refine ⟨⟨by omega, by omega⟩, bd, hb, ?_⟩
  refine ⟨strC (wrText (T, R)), rfl, hbt.mono hle3, ?_⟩
  refine (left_c R v3 g3 hR.rd).callS [0] 3 rfl rfl rfl rfl ?_
  rintro o L1 g4 ⟨rfl, rfl, rfl⟩ _
  refine (itoa_c ((R.s.size : Int) - R.at_) (by omega) (by omega) _ hT3).call rfl rfl rfl ?_
  refine ⟨szOk rfl, ?_⟩
  refine ⟨szOk rfl, ?_⟩
  refine (at_c R v3 _ hR.rd).callS [0] 3 rfl rfl rfl rfl ?_
  rintro o L1 g5 ⟨rfl, rfl, rfl⟩ _
  refine (itoa_c R.place (by omega) (by omega) _ hT3).call rfl rfl rfl ?_
  refine ⟨szOk rfl, ?_⟩
  have hend : wrEnd (l.l.take (k + 1)) r0 = R := by rw [wrEnd_take hx, hr, hTR]
  refine bsplit_of (fun q => absurd q (by simp [wrText, spS])) (fun _ => ?_)
  refine ⟨(k + 1, v3, _), ⟨hlt', by rw [hend]; exact hv3, le_trans hle2 hle3⟩, by show l.l.length - (k + 1) < l.l.length - k; omega, [0, 1], rfl, ⟨vi (wrap_id (by omega) (by omega)), trivial⟩, ?_, rfl, rfl, rfl⟩
  exact congrArg (fun r => [rdC r v3, .cells 45 [.v (.int .i64 (fa (wrEnd l.l ⟨s, 0, off, none⟩)).1), .v (.int .i64 (fa (wrEnd l.l ⟨s, 0, off, none⟩)).2)]]) hend.symm
end Go.Proofs.YthajjbcnemdacaaDoor
