/- The law MstpReads. Conditions: the variable errors.errorType is as laid. -/
import Derived.Test.YtmeoalpmicndbaaDoorMsrD
import Derived.Test.YtmeoalpmicndbaaDoorVsD
namespace Go.Proofs.YtmeoalpmicndbaaDoor
open Go.Sx
set_option maxRecDepth 100000
set_option maxHeartbeats 8000000
attribute [local irreducible] Meets cuMst rdMst

def MstP.val (x : MstP) (i : SliceV InstV) : MstV := ⟨x.base, x.name, x.rev, x.digest, x.cost, x.bridge, x.hops, i⟩
def MstP.fld (x : MstP) (i : SliceV InstV) : SV := x.out (.v (.slice i.a i.l.length i.c))
theorem refMstRead_c (s : ByteArray) (g : G) (hs : s.size ≤ 1000000000) : Meets Tryd.prog 36 [.v (.string s)] [] g (fun o L' g' => match cuMst (cur0 s) with
    | .ok x _ => ∃ i : SliceV InstV, i.l = x.insts ∧ o = .ret (.tup [x.fld i, .agg [.v (.int .i64 0), .v (.int .i64 (-1))]]) ∧ L' = [] ∧ i.ok 19 InstV.cells (fun _ => True) g' ∧ G.le g g'
    | .thr e pl _ => o = .ret (.tup [.agg (MstV.zero.cells.map .v), .agg [.v (.int .i64 e), .v (.int .i64 pl)]]) ∧ L' = [] ∧ G.le g g') := by
  have h := refMstRead_b s g hs
  cases hm : cuMst (cur0 s) with
  | thr e pl c => rw [hm] at h; exact h
  | ok x c =>
    rw [hm] at h
    refine (Meets.freezeSl 19 InstV.cells 165 (fun i => .tup [x.out i, .agg [.v (.int .i64 0), .v (.int .i64 (-1))]]) (fun _ => True) (fun l => l = x.insts) (fun _ _ _ => False) (fun _ _ _ => rfl) (fun _ _ _ _ => trivial) (h.mono ?_)).mono ?_
    · rintro o L' g' ⟨cap, sp, rfl, rfl, hle, hok⟩
      exact .inl ⟨x.insts, cap, sp, rfl, rfl, hok, rfl, hle⟩
    · rintro o L' g' (⟨i, hi, rfl, rfl, hok, hle⟩ | h)
      · exact ⟨i, hi, rfl, rfl, hok, hle⟩
      · exact h.elim
theorem mstRead_c (s : ByteArray) (g : G) (hs : s.size ≤ 1000000000) : Meets Tryd.prog 37 [.v (.string s)] [] g (fun o L' g' =>
    (∃ i : SliceV InstV, (rdMst (rd0 s)).2.err = none ∧ i.l = (rdMst (rd0 s)).1.insts ∧ o = .ret (.tup [(rdMst (rd0 s)).1.fld i, .v .nilIface]) ∧ L' = [] ∧ i.ok 19 InstV.cells (fun _ => True) g' ∧ G.le g g') ∨
    (∃ p v, (rdMst (rd0 s)).2.err = some p ∧ o = .ret (.tup [.agg (MstV.zero.cells.map .v), .v v]) ∧ L' = [] ∧ errAt g' v (some p) ∧ G.le g g')) := by
  have h := mstRead_b s g hs
  generalize rdMst (rd0 s) = M at h ⊢
  refine (Meets.freezeSl 19 InstV.cells 165 (fun i => .tup [M.1.out i, .v .nilIface]) (fun _ => True) (fun l => M.2.err = none ∧ l = M.1.insts) (fun o L' g' => ∃ p v, M.2.err = some p ∧ o = .ret (.tup [.agg (MstV.zero.cells.map .v), .v v]) ∧ L' = [] ∧ errAt g' v (some p) ∧ G.le g g') (fun _ _ _ => rfl) (fun _ _ _ _ => trivial) (h.mono ?_)).mono ?_
  · rintro o L' g' (⟨cap, sp, he, rfl, rfl, hle, hok⟩ | h)
    · exact .inl ⟨M.1.insts, cap, sp, rfl, rfl, hok, ⟨he, rfl⟩, hle⟩
    · exact .inr h
  · rintro o L' g' (⟨i, ⟨he, hi⟩, rfl, rfl, hok, hle⟩ | h)
    · exact .inl ⟨i, he, hi, rfl, rfl, hok, hle⟩
    · exact .inr h

def mstVer (m : MstV) : VerdictV := { VerdictV.zero with mst := m }
theorem mstVer_ok {g : G} {m : MstV} (h : m.insts.ok 19 InstV.cells (fun _ => True) g) : VerSl g (mstVer m) := { VerSl.zero g with insts := h }
theorem mstVer_eq {x : MstP} {i j : SliceV InstV} (h : i.l = j.l) : verdictEq (mstVer (x.val i)) (mstVer (x.val j)) = true := by
  have e1 : eqL InstV.eq i.l j.l = true := by rw [h]; exact eqL_refl InstV.eq_refl _
  simp [verdictEq, mstVer, MstP.val, VerdictV.zero, frameEq, FrameV.zero, LldpV.zero, eqS_refl, e1, ArpV.eq_refl, PauseV.eq_refl, BpduV.eq_refl, LacpV.eq_refl, MarkerV.eq_refl, AddrV.eq_refl, BridgeV.eq_refl, NameV.eq_refl, eqL_refl TagV.eq_refl, eqL, NameV.zero]

theorem verZero : verdictEq VerdictV.zero VerdictV.zero = true := by
  simp [verdictEq, VerdictV.zero, MstV.zero, frameEq, FrameV.zero, LldpV.zero, eqS_refl, ArpV.eq_refl, PauseV.eq_refl, BpduV.eq_refl, LacpV.eq_refl, MarkerV.eq_refl, AddrV.eq_refl, BridgeV.eq_refl, NameV.eq_refl, eqL_refl TagV.eq_refl, eqL, NameV.zero]
/-- The law MstpReads. -/
theorem mstpReads_c (s : ByteArray) (g : G) (_ : sok s) (hE : ErrVar g) : Meets Tryd.prog 9 [.v (.string s)] [] g (fun o _ _ => o = .ret (.v (.bool true))) := by
  refine meets_of mixedW Tryd.func9 (by kernel_rfl) x9_ok none ?_
  refine bsplit_of (fun _ => ⟨[], rfl⟩) (fun hlen => ?_)
  have hs : s.size ≤ 1000000000 := by have := of_decide_eq_false hlen; omega
  obtain ⟨h1, h2⟩ := mst_sim.run s
  refine (refMstRead_c s g hs).call0 rfl rfl 0 rfl ?_
  intro o L1 g1 hq
  rcases hm : cuMst (cur0 s) with ⟨x, c⟩ | ⟨e, pl, c⟩ <;> rw [hm] at hq
  · obtain ⟨i, hi, rfl, rfl, oki, le1⟩ := hq
    obtain ⟨ha, he⟩ := h1 x c hm
    have ha : (rdMst (rd0 s)).1 = x := ha
    have he : (rdMst (rd0 s)).2.err = none := he
    refine (mstRead_c s g1 hs).call0 rfl rfl 2 rfl ?_
    intro o L1 g2 hq
    rw [he, ha] at hq
    rcases hq with ⟨j, -, hj, rfl, rfl, okj, le2⟩ | ⟨p, v, hp, -⟩
    · refine (placed_c .nilIface 0 (-1) 0 (-1) _ (G.at.mono (le_trans le1 le2) hE) .nil).call rfl rfl rfl ?_
      refine (sameVerdict_c (mstVer (x.val i)) (mstVer (x.val j)) _ (mstVer_ok (SliceV.ok.mono oki le2 fun _ h => h)) (mstVer_ok okj)).call rfl rfl rfl ?_
      exact ⟨[], rb (mstVer_eq (hi.trans hj.symm)).symm⟩
    · cases hp
  · obtain ⟨rfl, rfl, le1⟩ := hq
    have he : (rdMst (rd0 s)).2.err = some (e, pl) := h2 e pl c hm
    refine (mstRead_c s g1 hs).call0 rfl rfl 2 rfl ?_
    intro o L1 g2 hq
    rw [he] at hq
    rcases hq with ⟨j, hp, -⟩ | ⟨p, v, hp, rfl, rfl, ⟨ad, rfl, hat⟩, le2⟩
    · cases hp
    · cases hp
      refine (placed_c _ e pl e pl _ (G.at.mono (le_trans le1 le2) hE) (.at_ ad _ _ hat)).call rfl rfl rfl ?_
      refine bsplit_of (fun _ => ?_) (fun k => absurd k (by simp))
      refine (sameVerdict_c VerdictV.zero VerdictV.zero _ (VerSl.zero _) (VerSl.zero _)).call rfl rfl rfl ?_
      exact ⟨[], rb verZero.symm⟩
end Go.Proofs.YtmeoalpmicndbaaDoor
