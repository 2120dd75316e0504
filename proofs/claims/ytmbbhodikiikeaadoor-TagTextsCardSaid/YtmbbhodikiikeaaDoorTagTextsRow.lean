/- The card of the law TagTexts: it returns true for all arguments, and leaves them as they were. Conditions: the variables that the row lists are as the program's text lays it. -/
import Derived.Test.YtmbbhodikiikeaaDoorTgC
import Derived.Test.YtmbbhodikiikeaaDoorLaid
import Derived.Test.YtmbbhodikiikeaaDoorRowX
import Derived.LaidSub
import Derived.LaidMore
import Derived.Lay
import Derived.LaidOnce
import Derived.MakeChecks
import Derived.Stop.LaidErr
import Derived.Test.YtmbbhodikiikeaaDoorTie
import Derived.Test.YtmbbhodikiikeaaDoorCards
import Derived.Test.YtmbbhodikiikeaaDoorFacts
import Derived.SevenTiedAt
namespace Go.Proofs.YtmbbhodikiikeaaDoor
open Go.Sx Go.ChangeShapes Go.WideShapes Go.ChangeAt Go.RowKit
set_option maxRecDepth 100000

abbrev tagTextsL : List (String × DataW Unit) := [("math/bits.deBruijn32tab", Rows.laid_math_bits_deBruijn32tab), ("math/bits.deBruijn64tab", Rows.laid_math_bits_deBruijn64tab), ("internal/strconv.uint64pow10", Rows.laid_internal_strconv_uint64pow10), ("errors.errorType", Rows.laid_errors_errorType), ("strconv.ErrRange", Rows.laid_strconv_ErrRange), ("strconv.ErrSyntax", Rows.laid_strconv_ErrSyntax)]
abbrev tagTextsD : List (String × DataW Unit) := [("math/bits.deBruijn32tab", Rows.laid_math_bits_deBruijn32tab), ("math/bits.deBruijn64tab", Rows.laid_math_bits_deBruijn64tab), ("internal/strconv.uint64pow10", Rows.laid_internal_strconv_uint64pow10), ("strconv.ErrRange", Rows.laid_strconv_ErrRange), ("strconv.ErrSyntax", Rows.laid_strconv_ErrSyntax)]
theorem tagTexts_err {W : World} (h : laidMetH Tryd.prog tagTextsL W) : ErrVar (gOf W) := by
  have h := h.filter fun x => x.1 == "errors.errorType"
  have h : laidMetH Tryd.prog [("errors.errorType", Rows.laid_errors_errorType)] W := Eq.mp (by kernel_rfl) h
  exact errVar_of_laid h
theorem tagTexts_tab {W : World} (h : laidMetH Tryd.prog tagTextsL W) : TabVar (gOf W) := by
  have h := h.filter fun x => x.1 == "internal/strconv.uint64pow10"
  have h : laidMetH Tryd.prog [("internal/strconv.uint64pow10", Lib.tabData .u64 Lib.pow10Tab)] W := Eq.mp (by kernel_rfl) h
  rw [MakeChecks.laidMetH_plain _ _ _ (by kernel_rfl)] at h
  have hgn : Tryd.prog.globalNamed "internal/strconv.uint64pow10" = some 4 := by kernel_rfl
  have ht : Lib.TabIs Tryd.prog W "internal/strconv.uint64pow10" .u64 Lib.pow10Tab := Lib.tabIs_of_head hgn (by kernel_rfl) Tryd.underlying122 Tryd.underlying97 (by kernel_rfl) (by kernel_rfl) h
  intro w him
  unfold Lib.TabIs World.var? at ht ⊢
  rw [hgn] at ht ⊢
  simp only [Option.bind_some] at ht ⊢
  cases hW : W.heap[4]? with
  | none => rw [hW] at ht; cases ht
  | some o => rw [him 4 o hW]; rw [hW] at ht; exact ht
theorem tagTexts_esr : ∀ u, Tryd.prog.typeName? 3 u = some "*errors.errorString" → u = 143 := typeName_ptr_named (nm := "errors.errorString") (by kernel_rfl) (by kernel_rfl) (by decide)
theorem tagTexts_syn {W : World} (h : laidMetH Tryd.prog tagTextsL W) : SynVar (gOf W) := by
  have h0 := h.filter fun x => x.1 == "strconv.ErrSyntax"
  have h0 : laidMetH Tryd.prog [("strconv.ErrSyntax", Rows.laid_strconv_ErrSyntax)] W := Eq.mp (by kernel_rfl) h0
  rw [MakeChecks.laidMetH_plain _ _ _ (by kernel_rfl)] at h0
  obtain ⟨a0, s0, hv0, -, -, -⟩ := laid_sentinel (g := 2) h0 (by kernel_rfl) (by kernel_rfl) Tryd.underlying28 tagTexts_esr Tryd.underlying143 Tryd.underlying145 rfl rfl Tryd.underlying9 (by kernel_rfl) (by kernel_rfl)
  have g0 : (gOf W).at ⟨2, 0, none⟩ [.iface 143 (.pointer (some a0))] := gOf_at (fun i hi => by
    have : i = 0 := by simpa using hi
    subst this
    exact World.var?_cell (by kernel_rfl) hv0 0) (by simp)
  have h1 := h.filter fun x => x.1 == "strconv.ErrRange"
  have h1 : laidMetH Tryd.prog [("strconv.ErrRange", Rows.laid_strconv_ErrRange)] W := Eq.mp (by kernel_rfl) h1
  rw [MakeChecks.laidMetH_plain _ _ _ (by kernel_rfl)] at h1
  obtain ⟨a1, s1, hv1, -, -, -⟩ := laid_sentinel (g := 3) h1 (by kernel_rfl) (by kernel_rfl) Tryd.underlying28 tagTexts_esr Tryd.underlying143 Tryd.underlying145 rfl rfl Tryd.underlying9 (by kernel_rfl) (by kernel_rfl)
  have g1 : (gOf W).at ⟨3, 0, none⟩ [.iface 143 (.pointer (some a1))] := gOf_at (fun i hi => by
    have : i = 0 := by simpa using hi
    subst this
    exact World.var?_cell (by kernel_rfl) hv1 0) (by simp)
  exact ⟨⟨_, _, g0⟩, _, _, g1⟩
theorem tagTexts_max {W : World} (h : W.ShapedOpen Tryd.prog) : MaxVar (gOf W) := by
  obtain ⟨m, hm⟩ := cell_of_shapedOpen_int (g := 0) (t := 3) (k := .i64) h (of_decide_eq_true (by kernel_rfl)) (zero := #[.int .i64 0]) (by kernel_rfl) rfl (by kernel_rfl) (by kernel_rfl) (by kernel_rfl)
  refine ⟨m, gOf_at (fun i hi => ?_) (by simp)⟩
  have : i = 0 := by simpa using hi
  subst this
  exact hm
noncomputable def tagTextsW0 (os : Os) : World := laidW (World.holding Tryd.prog os ⟨#[], #[], []⟩) (rt 28)
noncomputable def tagTextsW (os : Os) : World := (tagTextsW0 os).layVars Tryd.prog tagTextsD
theorem tagTextsW_os (os : Os) : (tagTextsW os).os = os := World.layVars_os _ _ _
theorem tagTextsW_data (os : Os) : laidMet Tryd.prog tagTextsD (tagTextsW os) := by
  have e1 : (tagTextsD.filter fun x => (tagTextsD.map (·.1)).contains x.1) = tagTextsD := List.filter_eq_self.2 fun x hx => List.contains_iff_mem.2 (List.mem_map.2 ⟨x, hx, rfl⟩)
  have e2 : (tagTextsD.filter fun x => !(tagTextsD.map (·.1)).contains x.1) = [] := List.filter_eq_nil_iff.2 fun x hx => by rw [List.contains_iff_mem.2 (List.mem_map.2 ⟨x, hx, rfl⟩)]; simp
  exact laidMet_layVars (w0 := tagTextsW0 os) (tagTextsD.map (·.1)) [] (by rw [e1]; rfl) (by rw [e1]; kernel_rfl) (by rw [e1]; kernel_rfl) (by rw [e2]; exact LaidIn.none)
theorem tagTextsW_met (os : Os) (args : Array Value) : laidMetH Tryd.prog tagTextsL ((tagTextsW os).forCall (fun _ _ => 0) ⟨#[], args, []⟩).memory := by
  refine laidMetH_of_parts ?_ (by kernel_rfl)
  have h : laidMet Tryd.prog tagTextsD ((tagTextsW os).forCall (fun _ _ => 0) ⟨#[], args, []⟩).memory := (tagTextsW_data os).of_heap (by simp [World.memory, World.forCall, Input.heap])
  exact Eq.mp (by kernel_rfl) h

theorem tagTexts_lifted (os : Os) (started : os.Started) (H : Type) (enc : TypeId × Value → H) :
    ReturnsInHanded {} Tryd.checked os 4 .any (fun w args => (Rows.tagTextsSpec.pre enc Tryd.prog Tryd.f4 [] false w args ∧ laidMetH Tryd.prog tagTextsL w) ∧ sizedMet enc Tryd.prog Tryd.f4 (OpenSpec.ofChange Rows.tagTextsSpec) false w args)
      (Rows.tagTextsSpec.post enc Tryd.prog Tryd.f4 false true false false) := by
  refine returns_and_shaped (C := Tryd.checked) (X := fun w _ => laidMetH Tryd.prog tagTextsL w) (fun _ _ _ hh h => h.of_heap hh) own0 started (by kernel_rfl) Tryd.func4
    (ChangeSpec.witness_at (enc := enc) (C := Tryd.checked) (os := os) (X := fun w _ => laidMetH Tryd.prog tagTextsL w) false (tagTextsW os) #[.agg #[.bool false, .int .i64 0, .bool false, .int .i64 0], .string ⟨#[]⟩] 8 (tagTextsW_os _) (by kernel_rfl) (by kernel_rfl) (by kernel_rfl) (by kernel_rfl) (by kernel_rfl) (tagTextsW_met os _)) ?_
  intro W base args ds gs before hval0 hW _ _ hL hS _
  have hval : ∀ (j : Nat) t v, Tryd.f4.params[j]? = some t → args[j]? = some v → Value.okWide Tryd.prog W .any base t v := hval0
  have hW' := hW
  obtain ⟨p, q, hA0, hV, rfl, hfz, hnd⟩ := hW
  have hA : DataW.TrodAll enc Tryd.prog W 0 (fun _ => true) true Tryd.f4.params.toList args.toList ds p := hA0
  rw [Tryd.params4] at hA hval
  obtain ⟨v0, v1, d0, d1, p0, p1, rfl, rfl, rfl, h0, h1⟩ := trodAll_two hA
  obtain ⟨rfl, rfl⟩ := trodVars_none hV
  obtain ⟨cs, hcs, hagg, hone⟩ := open_arg 8 (show shOf Tryd.prog 8 35 = some tagSh from by kernel_rfl) (hval 0 35 v0 rfl rfl) h0
  obtain ⟨x0, rfl, k0⟩ := tag_of cs hcs
  obtain rfl := hagg (by kernel_rfl)
  obtain ⟨cs, hcs, hagg, hone⟩ := open_arg 8 (show shOf Tryd.prog 8 9 = some .str from by kernel_rfl) (hval 1 9 v1 rfl rfl) h1
  obtain ⟨x1, rfl, k1⟩ := hcs
  cases hone (by kernel_rfl)
  refine law_calls (P := Tryd.prog) [.agg (x0.cells.map .v), .v (.string x1)] (by kernel_rfl) rfl hW' rfl rfl ?_
  exact tagTexts_c x0 x1 (gOf W) k0 k1 (tagTexts_tab hL) (tagTexts_syn hL) (tagTexts_max hS) (tagTexts_err hL)

theorem tagTexts_inPlace : Tryd.prog.inPlace 4 = Rows.tagTextsRow.inPlace := by kernel_rfl
theorem tagTexts_unfollowed : Tryd.prog.unfollowed 4 = Rows.tagTextsRow.unfollowed := by kernel_rfl
theorem tagTexts_recurses : Tryd.prog.recurses 4 = Rows.tagTextsRow.recurses := by kernel_rfl
theorem tagTexts_named : Tryd.prog.varsNamed 4 = Rows.tagTextsRow.named := by kernel_rfl
theorem tagTexts_facts : joinedFacts Tryd.prog 4 Tryd.f4 Rows.tagTextsSpec Rows.tagTextsRow = true := by
  unfold joinedFacts
  rw [fact_laid, fact_rowed, fact_heard, fact_enter, fact_lifted, fact_make, fact_plain, tagTexts_inPlace, tagTexts_unfollowed, tagTexts_recurses, tagTexts_named]
  kernel_rfl

theorem tagTexts_row : Rows.TagTextsSaid :=
  OpenClaim.holds_of_wide 4 Tryd.f4 rfl rfl rfl rfl rfl rfl rfl ⟨rfl, rfl, rfl, rfl, rfl⟩ rfl rfl rfl rfl rfl (by kernel_rfl) Tryd.func4 tagTexts_facts
    (of_decide_eq_true (by kernel_rfl)) (by unfold Func.isWrapper; first | (rw [if_pos (by decide +kernel)]; kernel_rfl) | (rw [if_neg (by decide +kernel)]; exact ⟨rfl, rfl⟩))
    (fun os started H enc _ => tagTexts_lifted os started H enc)

theorem tagTexts_holds : Rows.TagTextsCardSaid :=
  Claim7.holds_tied_plain_at .later [] [.data, .data, .data, .handle, .sentinel, .sentinel] true (true, "381774386a59b45db826a6c8deb2b39b6c81750be91cc4bc0b5616275469754a") true
    tagTexts_row (fun _ h => by cases h) (by kernel_rfl) (fun _ h => by cases h) tagTexts_row_tie rfl ⟨rfl, rfl⟩ (by kernel_rfl) rfl
    (fun f fn hf hfn => by
      obtain rfl : f = 4 := Option.some.inj ((show Tryd.prog.funcNamed "switchyard/switchyardlaw.TagTexts" = some 4 by kernel_rfl).symm.trans hf) |>.symm
      obtain rfl : fn = Tryd.f4 := (Option.some.inj (Tryd.func4.symm.trans hfn)).symm
      exact ⟨by kernel_rfl, fun j t ht => by
        have key : t ∈ Tryd.f4.params.toList := by
          have := List.mem_of_getElem? (show Tryd.f4.params.toList[j]? = some t by simpa using ht)
          exact this
        rw [show Tryd.f4.params = #[35, 9] from Tryd.params4] at key
        simp only [List.mem_cons, List.not_mem_nil, or_false] at key
        rcases key with rfl | rfl
        · exact (show Tryd.prog.wantsStandIn 35 = false by kernel_rfl)
        · exact (show Tryd.prog.wantsStandIn 9 = false by kernel_rfl)⟩)
    (by kernel_rfl)

end Go.Proofs.YtmbbhodikiikeaaDoor
