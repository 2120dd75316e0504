/- The law LldpWrites, where no text and no list is longer than 2^20. Conditions: the variable errors.errorType is as laid. -/
import Derived.Test.YtfianfpmnglfnaaDoorLldpD
import Derived.Test.YtfianfpmnglfnaaDoorErrB
namespace Go.Proofs.YtfianfpmnglfnaaDoor
open Go.Sx
set_option maxRecDepth 100000
set_option maxHeartbeats 8000000
attribute [local irreducible] Meets
attribute [local instance] Classical.propDecidable

theorem tlvs_c (l : LldpV) (g : G) (hl : l.ok g) (hs : LldpSmall l) : Meets Tryd.prog 28 [.agg (l.cells.map .v)] [] g (fun o L' g' => (∃ s : SliceV TlvV, s.l = tlvsOf l ∧ o = .ret (.tup [.v (.slice s.a s.l.length s.c), .v (.bool (decide (lldpP l)))]) ∧ L' = [] ∧ TlvsOk g' s ∧ G.le g g') ∨ False) := by
  refine Meets.freezeSl 2 TlvV.cells 108 (fun i => .tup [i, .v (.bool (decide (lldpP l)))]) (fun _ => True) (fun m => m = tlvsOf l) (fun _ _ _ => False) (fun _ _ _ => rfl) (fun _ _ _ _ => trivial) ((tlvs_b l g hl hs).mono ?_)
  rintro o L' g' ⟨y, hy, hok, rfl, rfl, rfl⟩
  refine .inl ⟨y.l, y.cap, y.sp, ?_, ?_, by rw [hok.1]; exact hok.2, hy, le_refl _⟩
  · rw [hok.1, okEnd_eq]; rfl
  · rw [hok.1]; rfl
noncomputable def lW (l : LldpV) : ByteArray := if lldpP l then tlvsS (tlvsOf l) ++ nul2 else emp
noncomputable def lE (l : LldpV) : Int := if lldpP l then 0 else 1
theorem tlvsOf_len {l : LldpV} (hs : LldpSmall l) : (tlvsOf l).length ≤ 1000000000 := by
  obtain ⟨-, -, z3, z4, z5, z6, z7, z8⟩ := hs
  simp only [tlvsOf, headT, strT2, List.length_append, List.length_map, List.length_cons, List.length_nil]
  omega
theorem lldpWriteR_c (l : LldpV) (g : G) (hl : l.ok g) (hs : LldpSmall l) : Meets Tryd.prog 8 [.agg (l.cells.map .v)] [] g (fun o L' g' => o = .ret (.tup [.v (.string (lW l)), .v (.int .i64 (lE l))]) ∧ L' = [] ∧ G.le g g') := by
  refine meets_of mixedS Tryd.func8 (by kernel_rfl) x8_ok (some []) ?_
  refine (tlvs_c l g hl hs).call0 rfl rfl 1 rfl ?_
  rintro o L1 g1 (⟨s, hsl, rfl, rfl, hok, hle⟩ | h)
  · refine bsplit_of (fun q => ?_) (fun q => ?_)
    · have h : ¬ lldpP l := by simpa using q
      rw [lW, lE, if_neg h, if_neg h]
      exact ⟨rfl, rfl, hle⟩
    · have h : lldpP l := by simpa using q
      have hW := tlvWriteR_c s g1 hok (by rw [hsl]; exact tlvsOf_len hs)
      rw [hsl, tlvBad_none (fun i t ht => tlvs_good h t (List.mem_of_getElem? ht)), ← hsl] at hW
      refine hW.call rfl rfl rfl ?_
      rw [lW, lE, if_pos h, if_pos h, hsl]
      exact ⟨rfl, rfl, hle⟩
  · exact h.elim
theorem lldpRightR_c (l : LldpV) (g : G) (hl : l.ok g) (hs : LldpSmall l) : Meets Tryd.prog 12 [.agg (l.cells.map .v)] [] g (fun o L' g' => o = .ret (.v (.bool (decide (lldpP l)))) ∧ L' = [] ∧ G.le g g') := by
  refine meets_of mixedS Tryd.func12 (by kernel_rfl) x12_ok (some []) ?_
  refine (tlvs_c l g hl hs).call0 rfl rfl 1 rfl ?_
  rintro o L1 g1 (⟨s, hsl, rfl, rfl, hok, hle⟩ | h)
  · exact ⟨rfl, rfl, hle⟩
  · exact h.elim
theorem lldpWrite_c (l : LldpV) (g : G) (hl : l.ok g) (hs : LldpSmall l) : Meets Tryd.prog 9 [.agg (l.cells.map .v)] [] g (fun o L' g' => o = .ret (.tup [.v (.string (lW l)), .v (nilOr (lE l))]) ∧ L' = [] ∧ G.le g g') := by
  by_cases h : lldpP l
  · rw [lW, lE, if_pos h, if_pos h]; exact lldpWrite_good l g hl h hs
  · rw [lW, lE, if_neg h, if_neg h]; exact lldpWrite_bad l g hl h
theorem big_c (v : LldpV) (g : G) (hv : v.ok g) : Meets Tryd.prog 7 [.agg (v.cells.map .v)] [] g (fun o L' g' => ∃ b : Bool, o = .ret (.v (.bool b)) ∧ L' = [] ∧ g' = g) := by
  refine meets_of mixedS Tryd.func7 (by kernel_rfl) x7_ok (some []) ?_
  have hs := hv.2.2.2.2.2.2.2.2
  have hlen := hs.len
  change LoopW _ _ _ _ _ _ _ _ _
  apply loop_rule [] (α := Nat × Int) (fun x => [(32, .v (.int .i64 x.1)), (3, .v (.int .i64 x.2))]) (fun _ => [lldB v]) (fun _ => g) (fun x => x.1 ≤ v.orgs.l.length) (fun x => v.orgs.l.length - x.1) (0, _)
  · intro x; kernel_rfl
  · exact Nat.zero_le _
  · exact ⟨rfl, rfl, trivial⟩
  · rfl
  · rfl
  rintro ⟨k, n⟩ hk
  simp only at hk
  refine bsplit_of (fun hlt => ?_) (fun hlt => ?_)
  · have hlt' : k < v.orgs.l.length := by simpa using hlt
    obtain ⟨ad, x, ha, hx, hatx, hxok⟩ := hs.elem (fun _ => rfl) hlt'
    refine ⟨⟨by simp, by simpa using hlt'⟩, ad, ha, ?_⟩
    refine ⟨x.cells, rfl, hatx, ?_⟩
    refine ⟨by decide, ?_⟩
    refine ⟨(k + 1, _), by simp; omega, by simp; omega, [0], rfl, ⟨vi (wrap_id (by omega) (by omega)), rfl, trivial⟩, rfl, rfl, rfl, rfl⟩
  · exact ⟨_, rfl, rfl, rfl⟩
theorem LldpV.ok_mono {l : LldpV} {g g' : G} (h : l.ok g) (hl : G.le g g') : l.ok g' :=
  ⟨h.1, h.2.1, h.2.2.1, SliceV.ok.mono h.2.2.2.1 hl fun _ h => h, SliceV.ok.mono h.2.2.2.2.1 hl fun _ h => h, SliceV.ok.mono h.2.2.2.2.2.1 hl fun _ h => h, SliceV.ok.mono h.2.2.2.2.2.2.1 hl fun _ h => h, SliceV.ok.mono h.2.2.2.2.2.2.2.1 hl fun _ h => h, SliceV.ok.mono h.2.2.2.2.2.2.2.2 hl fun _ h => h⟩

/-- The law LldpWrites. -/
theorem lldpWrites_c (l : LldpV) (g : G) (hl : l.ok g) (hs : LldpSmall l) (hE : ErrVar g) : Meets Tryd.prog 3 [.agg (l.cells.map .v)] [] g (fun o _ _ => o = .ret (.v (.bool true))) := by
  refine meets_of mixedS Tryd.func3 (by kernel_rfl) x3_ok (some []) ?_
  refine (big_c l g hl).call0 rfl rfl 1 rfl ?_
  rintro o L1 g0 ⟨b, rfl, rfl, rfl⟩
  cases b with
  | true => exact rfl
  | false =>
    refine (lldpWriteR_c l _ hl hs).call0 rfl rfl 1 rfl ?_
    rintro o L1 g1 ⟨rfl, rfl, hle1⟩
    have hl1 := LldpV.ok_mono hl hle1
    refine (lldpWrite_c l g1 hl1 hs).call0 rfl rfl 1 rfl ?_
    rintro o L1 g2 ⟨rfl, rfl, hle2⟩
    have hl2 := LldpV.ok_mono hl1 hle2
    refine (bare_c _ _ _ (lE l) g2 (G.at.mono (le_trans hle1 hle2) hE) (errP_nilOr (lE l))).call rfl rfl rfl ?_
    refine bsplit_of (fun _ => ?_) (fun h => absurd h (by simp))
    refine bsplit_of (fun _ => ?_) (fun (h : ((lW l).toList == (lW l).toList) = false) => absurd h (by simp))
    refine (lldpRight_c l g2 hl2).call rfl rfl rfl ?_
    refine (lldpRightR_c l g2 hl2 hs).call0 rfl rfl 1 rfl ?_
    rintro o L1 g3 ⟨rfl, rfl, hle3⟩
    exact rb (by simp)
end Go.Proofs.YtfianfpmnglfnaaDoor
