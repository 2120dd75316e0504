/- The law MvrpReads. Conditions: the variable errors.errorType is as laid. -/
import Derived.Test.YtfianfpmnglfnaaDoorMvD
import Derived.Test.YtfianfpmnglfnaaDoorVsD
namespace Go.Proofs.YtfianfpmnglfnaaDoor
open Go.Sx
set_option maxRecDepth 100000
set_option maxHeartbeats 8000000
attribute [local irreducible] Meets

theorem attrs_ok {g : G} {sl : SliceV AttrV} (h : sl.ok 3 AttrV.cells (fun _ => True) g) (k : allEv g sl.l) : AttrsOk g sl := ⟨h.1, h.2.1, h.2.2.1, h.2.2.2.1, fun x hx => k x hx⟩
theorem refMvrpRead_c (s : ByteArray) (g : G) (hs : s.size ≤ 1000000000) : Meets Tryd.prog 17 [.v (.string s)] [] g (fun o L' g' =>
    (∃ i : SliceV AttrV, (∃ cu, cuMvrp (s.size + 1) (cur0 s) = .ok (i.l.map AttrV.p) cu) ∧ o = .ret (.tup [.v (.slice i.a i.l.length i.c), .agg [.v (.int .i64 0), .v (.int .i64 (-1))]]) ∧ L' = [] ∧ AttrsOk g' i ∧ G.le g g') ∨
    (∃ e pl cu, cuMvrp (s.size + 1) (cur0 s) = .thr e pl cu ∧ o = .ret (.tup [.v (.slice none 0 0), .agg [.v (.int .i64 e), .v (.int .i64 pl)]]) ∧ L' = [] ∧ G.le g g')) := by
  refine Meets.freezeV (post := fun o L' g' => (∃ (l : List AttrV) (cap : Nat) (sp : List Value) (cu : CurV), cuMvrp (s.size + 1) (cur0 s) = .ok (l.map AttrV.p) cu ∧ o = .ret (.tup [grS 0 l.length cap, .agg [.v (.int .i64 0), .v (.int .i64 (-1))]]) ∧ L' = grL 156 l.length (atX l) sp ∧ grOk 3 l.length cap (atX l) sp ∧ allEv g' l ∧ G.le g g') ∨
    (∃ e pl cu, cuMvrp (s.size + 1) (cur0 s) = .thr e pl cu ∧ o = .ret (.tup [.v (.slice none 0 0), .agg [.v (.int .i64 e), .v (.int .i64 pl)]]) ∧ L' = [] ∧ G.le g g')) ((refMvrpRead_b s g hs).mono fun o L' g' h => ?_) ?_
  · rcases hm : cuMvrp (s.size + 1) (cur0 s) with ⟨x, cu⟩ | ⟨e, pl, cu⟩
    · rw [hm] at h
      obtain ⟨l, cap, sp, h1, h2, h3, h4, rfl, h6⟩ := h
      exact .inl ⟨l, cap, sp, cu, rfl, h1, h2, h3, h4, h6⟩
    · rw [hm] at h
      exact .inr ⟨e, pl, cu, rfl, h.1, h.2.1, h.2.2⟩
  · intro o L' g' hk
    rcases hk with ⟨l, cap, sp, cu, hm, rfl, rfl, ho, hal, hle⟩ | hE
    · rcases l with _ | ⟨a, l⟩
      · exact .inl (.inl ⟨⟨none, [], 0⟩, ⟨cu, hm⟩, rfl, rfl, attrs_ok (sliceV_nil _ _ _ _) hal, hle⟩)
      · exact .inr ⟨[], 156, atX (a :: l) ++ sp, rfl, Nat.zero_le _, fun b g'' hl hb => .inl ⟨⟨some ⟨b, 0, none⟩, a :: l, cap⟩, ⟨cu, hm⟩, rfl, rfl, attrs_ok (sliceV_frz ho hb fun _ _ => trivial) (allEv.mono hal hl), le_trans hle hl⟩⟩
    · exact .inl (.inr hE)
theorem mvrpRead_c (s : ByteArray) (g : G) (hs : s.size ≤ 1000000000) : Meets Tryd.prog 18 [.v (.string s)] [] g (fun o L' g' =>
    (∃ i : SliceV AttrV, (∃ r : RdV, r.err = none ∧ rdMvrp (s.size + 1) (rd0 s) = (i.l.map AttrV.p, r)) ∧ o = .ret (.tup [.v (.slice i.a i.l.length i.c), .v .nilIface]) ∧ L' = [] ∧ AttrsOk g' i ∧ G.le g g') ∨
    (∃ p v, (rdMvrp (s.size + 1) (rd0 s)).2.err = some p ∧ o = .ret (.tup [.v (.slice none 0 0), .v v]) ∧ L' = [] ∧ errAt g' v (some p) ∧ G.le g g')) := by
  refine Meets.freezeV (mvrpRead_b s g hs) ?_
  intro o L' g' hk
  rcases hk with ⟨l, cap, sp, rfl, rfl, ho, hal, hr, hle⟩ | hE
  · rcases l with _ | ⟨a, l⟩
    · exact .inl (.inl ⟨⟨none, [], 0⟩, hr, rfl, rfl, attrs_ok (sliceV_nil _ _ _ _) hal, hle⟩)
    · exact .inr ⟨[], 156, atX (a :: l) ++ sp, rfl, Nat.zero_le _, fun b g'' hl hb => .inl ⟨⟨some ⟨b, 0, none⟩, a :: l, cap⟩, hr, rfl, rfl, attrs_ok (sliceV_frz ho hb fun _ _ => trivial) (allEv.mono hal hl), le_trans hle hl⟩⟩
  · exact .inl (.inr hE)
def mvVer (i : SliceV AttrV) : VerdictV := { VerdictV.zero with mvrp := i }
theorem mvVer_ok {g : G} {i : SliceV AttrV} (h : AttrsOk g i) : VerSl g (mvVer i) := { VerSl.zero g with mvrp := h }
theorem attrEq_p {a b : AttrV} (h : a.p = b.p) : attrEq a b = true := by
  obtain ⟨la, f, e⟩ := a
  obtain ⟨la', f', e'⟩ := b
  have h : (⟨la, f, e.l⟩ : AttP) = ⟨la', f', e'.l⟩ := h
  have h1 : la = la' := congrArg AttP.la h
  have h2 : f = f' := congrArg AttP.first h
  have h3 : e.l = e'.l := congrArg AttP.evs h
  subst h1 h2
  simp only [attrEq, h3, beq_self_eq_true, Bool.true_and]
  exact eqL_refl (fun x => by simp [eqI]) _
theorem attrsEq {l m : List AttrV} (h : l.map AttrV.p = m.map AttrV.p) : eqL attrEq l m = true := by
  refine eqL_good (by have := congrArg List.length h; simpa using this) fun k x y hx hy => attrEq_p ?_
  have e1 : (l.map AttrV.p)[k]? = some x.p := by rw [List.getElem?_map, hx]; rfl
  have e2 : (m.map AttrV.p)[k]? = some y.p := by rw [List.getElem?_map, hy]; rfl
  rw [h, e2] at e1
  exact (Option.some.inj e1).symm
theorem mvVer_eq {i j : SliceV AttrV} (h : i.l.map AttrV.p = j.l.map AttrV.p) : verdictEq (mvVer i) (mvVer j) = true := by
  have e1 : eqL attrEq i.l j.l = true := attrsEq h
  simp [verdictEq, mvVer, VerdictV.zero, MstV.zero, frameEq, FrameV.zero, LldpV.zero, eqS_refl, e1, ArpV.eq_refl, PauseV.eq_refl, BpduV.eq_refl, LacpV.eq_refl, MarkerV.eq_refl, AddrV.eq_refl, BridgeV.eq_refl, NameV.eq_refl, eqL_refl TagV.eq_refl, eqL, NameV.zero]
theorem verZero : verdictEq VerdictV.zero VerdictV.zero = true := by
  simp [verdictEq, VerdictV.zero, MstV.zero, frameEq, FrameV.zero, LldpV.zero, eqS_refl, ArpV.eq_refl, PauseV.eq_refl, BpduV.eq_refl, LacpV.eq_refl, MarkerV.eq_refl, AddrV.eq_refl, BridgeV.eq_refl, NameV.eq_refl, eqL_refl TagV.eq_refl, eqL, NameV.zero]
/-- The law MvrpReads. -/
theorem mvrpReads_c (s : ByteArray) (g : G) (_ : sok s) (hE : ErrVar g) : Meets Tryd.prog 5 [.v (.string s)] [] g (fun o _ _ => o = .ret (.v (.bool true))) := by
  refine meets_of mixedW Tryd.func5 (by kernel_rfl) x5_ok none ?_
  refine bsplit_of (fun _ => ⟨[], rfl⟩) (fun hlen => ?_)
  have hs : s.size ≤ 1000000000 := by have := of_decide_eq_false hlen; omega
  obtain ⟨h1, h2⟩ := (mvrp_sim (s.size + 1)).run s
  refine (refMvrpRead_c s g hs).call0 rfl rfl 0 rfl ?_
  intro o L1 g1 hq
  rcases hq with ⟨i, ⟨cu, hm⟩, rfl, rfl, oki, le1⟩ | ⟨e, pl, cu, hm, rfl, rfl, le1⟩
  · obtain ⟨ha, he⟩ := h1 _ cu hm
    have ha : (rdMvrp (s.size + 1) (rd0 s)).1 = i.l.map AttrV.p := ha
    have he : (rdMvrp (s.size + 1) (rd0 s)).2.err = none := he
    refine (mvrpRead_c s g1 hs).call0 rfl rfl 1 rfl ?_
    intro o L1 g2 hq
    rcases hq with ⟨j, ⟨r, hr, hj⟩, rfl, rfl, okj, le2⟩ | ⟨p, v, hp, -⟩
    · have hij : i.l.map AttrV.p = j.l.map AttrV.p := by rw [← ha, hj]
      refine (placed_c .nilIface 0 (-1) 0 (-1) _ (G.at.mono (le_trans le1 le2) hE) .nil).call rfl rfl rfl ?_
      have oki2 : AttrsOk g2 i := SliceV.ok.mono oki le2 fun _ h => SliceV.ok.mono h le2 fun _ h => h
      refine (sameVerdict_c (mvVer i) (mvVer j) _ (mvVer_ok oki2) (mvVer_ok okj)).call rfl rfl rfl ?_
      exact ⟨[], rb (mvVer_eq hij).symm⟩
    · rw [he] at hp; cases hp
  · have he : (rdMvrp (s.size + 1) (rd0 s)).2.err = some (e, pl) := h2 e pl cu hm
    refine (mvrpRead_c s g1 hs).call0 rfl rfl 1 rfl ?_
    intro o L1 g2 hq
    rcases hq with ⟨j, ⟨r, hr, hj⟩, -⟩ | ⟨p, v, hp, rfl, rfl, ⟨ad, rfl, hat⟩, le2⟩
    · rw [hj, hr] at he; cases he
    · rw [he] at hp; cases hp
      refine (placed_c _ e pl e pl _ (G.at.mono (le_trans le1 le2) hE) (.at_ ad _ _ hat)).call rfl rfl rfl ?_
      refine bsplit_of (fun _ => ?_) (fun k => absurd k (by simp))
      refine (sameVerdict_c VerdictV.zero VerdictV.zero _ (VerSl.zero _) (VerSl.zero _)).call rfl rfl rfl ?_
      exact ⟨[], rb verZero.symm⟩
end Go.Proofs.YtfianfpmnglfnaaDoor
