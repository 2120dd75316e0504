/- The card of the law PrioTexts: it returns true for all arguments, and leaves them as they were. Conditions: the variables that the row lists are as the program's text lays it. -/
import Derived.Test.YtmbbhodikiikeaaGreatDoorPrB
import Derived.Test.YtmbbhodikiikeaaGreatDoorLaid
import Derived.Test.YtmbbhodikiikeaaGreatDoorRowX
import Derived.LaidSub
import Derived.LaidMore
import Derived.Lay
import Derived.LaidOnce
import Derived.MakeChecks
import Derived.Test.YtmbbhodikiikeaaGreatDoorMacLaid
import Derived.Stop.LaidErr
import Derived.Test.YtmbbhodikiikeaaGreatDoorTie
import Derived.Test.YtmbbhodikiikeaaGreatDoorCards
import Derived.Test.YtmbbhodikiikeaaGreatDoorFacts
import Derived.SevenTiedAt
namespace Go.Proofs.YtmbbhodikiikeaaGreatDoor
open Go.Sx Go.ChangeShapes Go.WideShapes Go.ChangeAt Go.RowKit
set_option maxRecDepth 100000

abbrev prioTextsL : List (String × DataW Unit) := [("math/bits.deBruijn32tab", Rows.laid_math_bits_deBruijn32tab), ("math/bits.deBruijn64tab", Rows.laid_math_bits_deBruijn64tab), ("internal/strconv.uint64pow10", Rows.laid_internal_strconv_uint64pow10), ("unicode/utf8.acceptRanges", Rows.laid_unicode_utf8_acceptRanges), ("errors.errorType", Rows.laid_errors_errorType), ("strconv.ErrRange", Rows.laid_strconv_ErrRange), ("strconv.ErrSyntax", Rows.laid_strconv_ErrSyntax), ("unicode/utf8.first", Rows.laid_unicode_utf8_first)]
abbrev prioTextsD : List (String × DataW Unit) := [("math/bits.deBruijn32tab", Rows.laid_math_bits_deBruijn32tab), ("math/bits.deBruijn64tab", Rows.laid_math_bits_deBruijn64tab), ("internal/strconv.uint64pow10", Rows.laid_internal_strconv_uint64pow10), ("unicode/utf8.acceptRanges", Rows.laid_unicode_utf8_acceptRanges), ("strconv.ErrRange", Rows.laid_strconv_ErrRange), ("strconv.ErrSyntax", Rows.laid_strconv_ErrSyntax), ("unicode/utf8.first", Rows.laid_unicode_utf8_first)]
theorem prioTexts_err {W : World} (h : laidMetH Tryz.prog prioTextsL W) : ErrVar (gOf W) := by
  have h := h.filter fun x => x.1 == "errors.errorType"
  have h : laidMetH Tryz.prog [("errors.errorType", Rows.laid_errors_errorType)] W := Eq.mp (by kernel_rfl) h
  exact errVar_of_laid h
theorem prioTexts_bit {W : World} (h : laidMetH Tryz.prog prioTextsL W) : BitVar (gOf W) := by
  have h := h.filter fun x => (bitLaid (H := Unit)).any fun y => x.1 == y.1
  have h : laidMetH Tryz.prog (bitLaid (H := Unit)) W := Eq.mp (by kernel_rfl) h
  exact bitVar_of_laid h
theorem prioTexts_tab {W : World} (h : laidMetH Tryz.prog prioTextsL W) : TabVar (gOf W) := by
  have h := h.filter fun x => x.1 == "internal/strconv.uint64pow10"
  have h : laidMetH Tryz.prog [("internal/strconv.uint64pow10", Lib.tabData .u64 Lib.pow10Tab)] W := Eq.mp (by kernel_rfl) h
  rw [MakeChecks.laidMetH_plain _ _ _ (by kernel_rfl)] at h
  have hgn : Tryz.prog.globalNamed "internal/strconv.uint64pow10" = some 4 := by kernel_rfl
  have ht : Lib.TabIs Tryz.prog W "internal/strconv.uint64pow10" .u64 Lib.pow10Tab := Lib.tabIs_of_head hgn (by kernel_rfl) Tryz.underlying115 Tryz.underlying87 (by kernel_rfl) (by kernel_rfl) h
  intro w him
  unfold Lib.TabIs World.var? at ht ⊢
  rw [hgn] at ht ⊢
  simp only [Option.bind_some] at ht ⊢
  cases hW : W.heap[4]? with
  | none => rw [hW] at ht; cases ht
  | some o => rw [him 4 o hW]; rw [hW] at ht; exact ht
theorem prioTexts_esr : ∀ u, Tryz.prog.typeName? 3 u = some "*errors.errorString" → u = 129 := typeName_ptr_named (nm := "errors.errorString") (by kernel_rfl) (by kernel_rfl) (by decide)
theorem prioTexts_syn {W : World} (h : laidMetH Tryz.prog prioTextsL W) : SynVar (gOf W) := by
  have h0 := h.filter fun x => x.1 == "strconv.ErrSyntax"
  have h0 : laidMetH Tryz.prog [("strconv.ErrSyntax", Rows.laid_strconv_ErrSyntax)] W := Eq.mp (by kernel_rfl) h0
  rw [MakeChecks.laidMetH_plain _ _ _ (by kernel_rfl)] at h0
  obtain ⟨a0, s0, hv0, -, -, -⟩ := laid_sentinel (g := 1) h0 (by kernel_rfl) (by kernel_rfl) Tryz.underlying30 prioTexts_esr Tryz.underlying129 Tryz.underlying131 rfl rfl Tryz.underlying9 (by kernel_rfl) (by kernel_rfl)
  have g0 : (gOf W).at ⟨1, 0, none⟩ [.iface 129 (.pointer (some a0))] := gOf_at (fun i hi => by
    have : i = 0 := by simpa using hi
    subst this
    exact World.var?_cell (by kernel_rfl) hv0 0) (by simp)
  have h1 := h.filter fun x => x.1 == "strconv.ErrRange"
  have h1 : laidMetH Tryz.prog [("strconv.ErrRange", Rows.laid_strconv_ErrRange)] W := Eq.mp (by kernel_rfl) h1
  rw [MakeChecks.laidMetH_plain _ _ _ (by kernel_rfl)] at h1
  obtain ⟨a1, s1, hv1, -, -, -⟩ := laid_sentinel (g := 2) h1 (by kernel_rfl) (by kernel_rfl) Tryz.underlying30 prioTexts_esr Tryz.underlying129 Tryz.underlying131 rfl rfl Tryz.underlying9 (by kernel_rfl) (by kernel_rfl)
  have g1 : (gOf W).at ⟨2, 0, none⟩ [.iface 129 (.pointer (some a1))] := gOf_at (fun i hi => by
    have : i = 0 := by simpa using hi
    subst this
    exact World.var?_cell (by kernel_rfl) hv1 0) (by simp)
  exact ⟨⟨_, _, g0⟩, _, _, g1⟩
theorem prioTexts_max {W : World} (h : W.ShapedOpen Tryz.prog) : MaxVar (gOf W) := by
  obtain ⟨m, hm⟩ := cell_of_shapedOpen_int (g := 0) (t := 3) (k := .i64) h (of_decide_eq_true (by kernel_rfl)) (zero := #[.int .i64 0]) (by kernel_rfl) rfl (by kernel_rfl) (by kernel_rfl) (by kernel_rfl)
  refine ⟨m, gOf_at (fun i hi => ?_) (by simp)⟩
  have : i = 0 := by simpa using hi
  subst this
  exact hm
noncomputable def prioTextsW0 (os : Os) : World := laidW (World.holding Tryz.prog os ⟨#[], #[], []⟩) (rt 30)
noncomputable def prioTextsW (os : Os) : World := (prioTextsW0 os).layVars Tryz.prog prioTextsD
theorem prioTextsW_os (os : Os) : (prioTextsW os).os = os := World.layVars_os _ _ _
theorem prioTextsW_data (os : Os) : laidMet Tryz.prog prioTextsD (prioTextsW os) := by
  have e1 : (prioTextsD.filter fun x => (prioTextsD.map (·.1)).contains x.1) = prioTextsD := List.filter_eq_self.2 fun x hx => List.contains_iff_mem.2 (List.mem_map.2 ⟨x, hx, rfl⟩)
  have e2 : (prioTextsD.filter fun x => !(prioTextsD.map (·.1)).contains x.1) = [] := List.filter_eq_nil_iff.2 fun x hx => by rw [List.contains_iff_mem.2 (List.mem_map.2 ⟨x, hx, rfl⟩)]; simp
  exact laidMet_layVars (w0 := prioTextsW0 os) (prioTextsD.map (·.1)) [] (by rw [e1]; rfl) (by rw [e1]; kernel_rfl) (by rw [e1]; kernel_rfl) (by rw [e2]; exact LaidIn.none)
theorem prioTextsW_met (os : Os) (args : Array Value) : laidMetH Tryz.prog prioTextsL ((prioTextsW os).forCall (fun _ _ => 0) ⟨#[], args, []⟩).memory := by
  refine laidMetH_of_parts ?_ (by kernel_rfl)
  have h : laidMet Tryz.prog prioTextsD ((prioTextsW os).forCall (fun _ _ => 0) ⟨#[], args, []⟩).memory := (prioTextsW_data os).of_heap (by simp [World.memory, World.forCall, Input.heap])
  exact Eq.mp (by kernel_rfl) h

theorem prioTexts_lifted (os : Os) (started : os.Started) (H : Type) (enc : TypeId × Value → H) :
    ReturnsInHanded {} Tryz.checked os 3 .any (fun w args => (Rows.prioTextsSpec.pre enc Tryz.prog Tryz.f3 [] false w args ∧ laidMetH Tryz.prog prioTextsL w) ∧ sizedMet enc Tryz.prog Tryz.f3 (OpenSpec.ofChange Rows.prioTextsSpec) false w args)
      (Rows.prioTextsSpec.post enc Tryz.prog Tryz.f3 false true false false) := by
  refine returns_and_shaped (C := Tryz.checked) (X := fun w _ => laidMetH Tryz.prog prioTextsL w) (fun _ _ _ hh h => h.of_heap hh) own0 started (by kernel_rfl) Tryz.func3
    (ChangeSpec.witness_at (enc := enc) (C := Tryz.checked) (os := os) (X := fun w _ => laidMetH Tryz.prog prioTextsL w) false (prioTextsW os) #[.agg #[.int .i64 0, .int .i64 0, .int .u8 0, .int .u8 0, .int .u8 0, .int .u8 0, .int .u8 0, .int .u8 0], .string ⟨#[]⟩] 8 (prioTextsW_os _) (by kernel_rfl) (by kernel_rfl) (by kernel_rfl) (by kernel_rfl) (by kernel_rfl) (prioTextsW_met os _)) ?_
  intro W base args ds gs before hval0 hW _ _ hL hS _
  have hval : ∀ (j : Nat) t v, Tryz.f3.params[j]? = some t → args[j]? = some v → Value.okWide Tryz.prog W .any base t v := hval0
  have hW' := hW
  obtain ⟨p, q, hA0, hV, rfl, hfz, hnd⟩ := hW
  have hA : DataW.TrodAll enc Tryz.prog W 0 (fun _ => true) true Tryz.f3.params.toList args.toList ds p := hA0
  rw [Tryz.params3] at hA hval
  obtain ⟨v0, v1, d0, d1, p0, p1, rfl, rfl, rfl, h0, h1⟩ := trodAll_two hA
  obtain ⟨rfl, rfl⟩ := trodVars_none hV
  obtain ⟨cs, hcs, hagg, hone⟩ := open_arg 8 (show shOf Tryz.prog 8 25 = some bridgeSh from by kernel_rfl) (hval 0 25 v0 rfl rfl) h0
  obtain ⟨x0, rfl, k0⟩ := bridge_of cs hcs
  obtain rfl := hagg (by kernel_rfl)
  obtain ⟨cs, hcs, hagg, hone⟩ := open_arg 8 (show shOf Tryz.prog 8 9 = some .str from by kernel_rfl) (hval 1 9 v1 rfl rfl) h1
  obtain ⟨x1, rfl, k1⟩ := hcs
  cases hone (by kernel_rfl)
  refine law_calls (P := Tryz.prog) [.agg (x0.cells.map .v), .v (.string x1)] (by kernel_rfl) rfl hW' rfl rfl ?_
  exact prioTexts_c x0 x1 (gOf W) k0 k1 (prioTexts_tab hL) (prioTexts_bit hL) (prioTexts_syn hL) (prioTexts_max hS) (prioTexts_err hL)

theorem prioTexts_inPlace : Tryz.prog.inPlace 3 = Rows.prioTextsRow.inPlace := by kernel_rfl
theorem prioTexts_unfollowed : Tryz.prog.unfollowed 3 = Rows.prioTextsRow.unfollowed := by kernel_rfl
theorem prioTexts_recurses : Tryz.prog.recurses 3 = Rows.prioTextsRow.recurses := by kernel_rfl
theorem prioTexts_named : Tryz.prog.varsNamed 3 = Rows.prioTextsRow.named := by kernel_rfl
theorem prioTexts_facts : joinedFacts Tryz.prog 3 Tryz.f3 Rows.prioTextsSpec Rows.prioTextsRow = true := by
  unfold joinedFacts
  rw [fact_laid, fact_rowed, fact_heard, fact_enter, fact_lifted, fact_make, fact_plain, prioTexts_inPlace, prioTexts_unfollowed, prioTexts_recurses, prioTexts_named]
  kernel_rfl

theorem prioTexts_row : Rows.PrioTextsSaid :=
  OpenClaim.holds_of_wide 3 Tryz.f3 rfl rfl rfl rfl rfl rfl rfl ⟨rfl, rfl, rfl, rfl, rfl⟩ rfl rfl rfl rfl rfl (by kernel_rfl) Tryz.func3 prioTexts_facts
    (of_decide_eq_true (by kernel_rfl)) (by unfold Func.isWrapper; first | (rw [if_pos (by decide +kernel)]; kernel_rfl) | (rw [if_neg (by decide +kernel)]; exact ⟨rfl, rfl⟩))
    (fun os started H enc _ => prioTexts_lifted os started H enc)

theorem prioTexts_holds : Rows.PrioTextsCardSaid :=
  Claim7.holds_tied_plain_at .later [] [.data, .data, .data, .data, .handle, .sentinel, .sentinel, .pinned] true (true, "f5e8feb7b5486ebfade8024e5d4b067f70c33a8d893bb6d00ffabd71c0da162e") true
    prioTexts_row (fun _ h => by cases h) (by kernel_rfl) (fun _ h => by cases h) prioTexts_row_tie rfl ⟨rfl, rfl⟩ (by kernel_rfl) rfl
    (fun f fn hf hfn => by
      obtain rfl : f = 3 := Option.some.inj ((show Tryz.prog.funcNamed "switchyard/switchyardlaw.PrioTexts" = some 3 by kernel_rfl).symm.trans hf) |>.symm
      obtain rfl : fn = Tryz.f3 := (Option.some.inj (Tryz.func3.symm.trans hfn)).symm
      exact ⟨by kernel_rfl, fun j t ht => by
        have key : t ∈ Tryz.f3.params.toList := by
          have := List.mem_of_getElem? (show Tryz.f3.params.toList[j]? = some t by simpa using ht)
          exact this
        rw [show Tryz.f3.params = #[25, 9] from Tryz.params3] at key
        simp only [List.mem_cons, List.not_mem_nil, or_false] at key
        rcases key with rfl | rfl
        · exact (show Tryz.prog.wantsStandIn 25 = false by kernel_rfl)
        · exact (show Tryz.prog.wantsStandIn 9 = false by kernel_rfl)⟩)
    (by kernel_rfl)

end Go.Proofs.YtmbbhodikiikeaaGreatDoor
