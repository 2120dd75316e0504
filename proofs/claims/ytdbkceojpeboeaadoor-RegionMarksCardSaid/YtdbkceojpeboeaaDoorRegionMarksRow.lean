/- The card of the law RegionMarks: it returns true for all arguments, and leaves them as they were. Conditions: the variables that the row lists are as the program's text lays it. -/
import Derived.Test.YtdbkceojpeboeaaDoorRgC
import Derived.Test.YtdbkceojpeboeaaDoorLaid
import Derived.Test.YtdbkceojpeboeaaDoorRowX
import Derived.LaidSub
import Derived.LaidMore
import Derived.Lay
import Derived.LaidOnce
import Derived.MakeChecks
import Derived.Test.YtdbkceojpeboeaaDoorTie
import Derived.Test.YtdbkceojpeboeaaDoorCards
import Derived.Test.YtdbkceojpeboeaaDoorFacts
import Derived.SevenTiedAt
namespace Go.Proofs.YtdbkceojpeboeaaDoor
open Go.Sx Go.ChangeShapes Go.WideShapes Go.ChangeAt Go.RowKit
set_option maxRecDepth 100000

abbrev regionMarksL : List (String × DataW Unit) := [("math/bits.deBruijn32tab", Rows.laid_math_bits_deBruijn32tab), ("math/bits.deBruijn64tab", Rows.laid_math_bits_deBruijn64tab), ("internal/strconv.uint64pow10", Rows.laid_internal_strconv_uint64pow10), ("errors.errorType", Rows.laid_errors_errorType), ("strconv.ErrRange", Rows.laid_strconv_ErrRange), ("strconv.ErrSyntax", Rows.laid_strconv_ErrSyntax)]
abbrev regionMarksD : List (String × DataW Unit) := [("math/bits.deBruijn32tab", Rows.laid_math_bits_deBruijn32tab), ("math/bits.deBruijn64tab", Rows.laid_math_bits_deBruijn64tab), ("internal/strconv.uint64pow10", Rows.laid_internal_strconv_uint64pow10), ("strconv.ErrRange", Rows.laid_strconv_ErrRange), ("strconv.ErrSyntax", Rows.laid_strconv_ErrSyntax)]
theorem regionMarks_err {W : World} (h : laidMetH Tryd.prog regionMarksL W) : ErrVar (gOf W) := by
  have h := h.filter fun x => x.1 == "errors.errorType"
  have h : laidMetH Tryd.prog [("errors.errorType", Rows.laid_errors_errorType)] W := Eq.mp (by kernel_rfl) h
  exact errVar_of_laid h
noncomputable def regionMarksW0 (os : Os) : World := laidW (World.holding Tryd.prog os ⟨#[], #[], []⟩) (rt 27)
noncomputable def regionMarksW (os : Os) : World := (regionMarksW0 os).layVars Tryd.prog regionMarksD
theorem regionMarksW_os (os : Os) : (regionMarksW os).os = os := World.layVars_os _ _ _
theorem regionMarksW_data (os : Os) : laidMet Tryd.prog regionMarksD (regionMarksW os) := by
  have e1 : (regionMarksD.filter fun x => (regionMarksD.map (·.1)).contains x.1) = regionMarksD := List.filter_eq_self.2 fun x hx => List.contains_iff_mem.2 (List.mem_map.2 ⟨x, hx, rfl⟩)
  have e2 : (regionMarksD.filter fun x => !(regionMarksD.map (·.1)).contains x.1) = [] := List.filter_eq_nil_iff.2 fun x hx => by rw [List.contains_iff_mem.2 (List.mem_map.2 ⟨x, hx, rfl⟩)]; simp
  exact laidMet_layVars (w0 := regionMarksW0 os) (regionMarksD.map (·.1)) [] (by rw [e1]; rfl) (by rw [e1]; kernel_rfl) (by rw [e1]; kernel_rfl) (by rw [e2]; exact LaidIn.none)
theorem regionMarksW_met (os : Os) (args : Array Value) : laidMetH Tryd.prog regionMarksL ((regionMarksW os).forCall (fun _ _ => 0) ⟨#[], args, []⟩).memory := by
  refine laidMetH_of_parts ?_ (by kernel_rfl)
  have h : laidMet Tryd.prog regionMarksD ((regionMarksW os).forCall (fun _ _ => 0) ⟨#[], args, []⟩).memory := (regionMarksW_data os).of_heap (by simp [World.memory, World.forCall, Input.heap])
  exact Eq.mp (by kernel_rfl) h

theorem regionMarks_lifted (os : Os) (started : os.Started) (H : Type) (enc : TypeId × Value → H) :
    ReturnsInHanded {} Tryd.checked os 4 .any (fun w args => (Rows.regionMarksSpec.pre enc Tryd.prog Tryd.f4 [] false w args ∧ laidMetH Tryd.prog regionMarksL w) ∧ sizedMet enc Tryd.prog Tryd.f4 (OpenSpec.ofChange Rows.regionMarksSpec) false w args)
      (Rows.regionMarksSpec.post enc Tryd.prog Tryd.f4 false true false false) := by
  refine returns_and_shaped (C := Tryd.checked) (X := fun w _ => laidMetH Tryd.prog regionMarksL w) (fun _ _ _ hh h => h.of_heap hh) own0 started (by kernel_rfl) Tryd.func4
    (ChangeSpec.witness_at (enc := enc) (C := Tryd.checked) (os := os) (X := fun w _ => laidMetH Tryd.prog regionMarksL w) false (regionMarksW os) #[.slice none 0 0] 8 (regionMarksW_os _) (by kernel_rfl) (by kernel_rfl) (by kernel_rfl) (by kernel_rfl) (by kernel_rfl) (regionMarksW_met os _)) ?_
  intro W base args ds gs before hval0 hW _ _ hL hS _
  have hval : ∀ (j : Nat) t v, Tryd.f4.params[j]? = some t → args[j]? = some v → Value.okWide Tryd.prog W .any base t v := hval0
  have hW' := hW
  obtain ⟨p, q, hA0, hV, rfl, hfz, hnd⟩ := hW
  have hA : DataW.TrodAll enc Tryd.prog W 0 (fun _ => true) true Tryd.f4.params.toList args.toList ds p := hA0
  rw [Tryd.params4] at hA hval
  obtain ⟨v0, d0, rfl, rfl, h0⟩ := trodAll_one hA
  obtain ⟨rfl, rfl⟩ := trodVars_none hV
  obtain ⟨cs, hcs, hagg, hone⟩ := open_arg 8 (show shOf Tryd.prog 8 25 = some (.slice 3 (.fld 1 (.int .i64) (.fld 1 (.int .i64) (.fld 1 (.int .i64) .fin)))) from by kernel_rfl) (hval 0 25 v0 rfl rfl) h0
  obtain ⟨x0, rfl, k0⟩ := sliceV_of SpanV.cells (fun _ => rfl) (by decide) (SpanV.ok (gOf W)) (fun c _ hc => span_of c hc) hcs
  cases hone (by kernel_rfl)
  refine law_calls (P := Tryd.prog) [.v (.slice x0.a x0.l.length x0.c)] (by kernel_rfl) rfl hW' rfl rfl ?_
  exact regionMarks_c x0 (gOf W) k0 (regionMarks_err hL)

theorem regionMarks_inPlace : Tryd.prog.inPlace 4 = Rows.regionMarksRow.inPlace := by kernel_rfl
theorem regionMarks_unfollowed : Tryd.prog.unfollowed 4 = Rows.regionMarksRow.unfollowed := by kernel_rfl
theorem regionMarks_recurses : Tryd.prog.recurses 4 = Rows.regionMarksRow.recurses := by kernel_rfl
theorem regionMarks_named : Tryd.prog.varsNamed 4 = Rows.regionMarksRow.named := by kernel_rfl
theorem regionMarks_facts : joinedFacts Tryd.prog 4 Tryd.f4 Rows.regionMarksSpec Rows.regionMarksRow = true := by
  unfold joinedFacts
  rw [fact_laid, fact_rowed, fact_heard, fact_enter, fact_lifted, fact_make, fact_plain, regionMarks_inPlace, regionMarks_unfollowed, regionMarks_recurses, regionMarks_named]
  kernel_rfl

theorem regionMarks_row : Rows.RegionMarksSaid :=
  OpenClaim.holds_of_wide 4 Tryd.f4 rfl rfl rfl rfl rfl rfl rfl ⟨rfl, rfl, rfl, rfl, rfl⟩ rfl rfl rfl rfl rfl (by kernel_rfl) Tryd.func4 regionMarks_facts
    (of_decide_eq_true (by kernel_rfl)) (by unfold Func.isWrapper; first | (rw [if_pos (by decide +kernel)]; kernel_rfl) | (rw [if_neg (by decide +kernel)]; exact ⟨rfl, rfl⟩))
    (fun os started H enc _ => regionMarks_lifted os started H enc)

theorem regionMarks_holds : Rows.RegionMarksCardSaid :=
  Claim7.holds_tied_plain_at .later [] [.data, .data, .data, .handle, .sentinel, .sentinel] true (true, "535465cd279bb935b3c29325653d7f560850a77878e878429048745133fd140b") true
    regionMarks_row (fun _ h => by cases h) (by kernel_rfl) (fun _ h => by cases h) regionMarks_row_tie rfl ⟨rfl, rfl⟩ (by kernel_rfl) rfl
    (fun f fn hf hfn => by
      obtain rfl : f = 4 := Option.some.inj ((show Tryd.prog.funcNamed "switchyard/switchyardlaw.RegionMarks" = some 4 by kernel_rfl).symm.trans hf) |>.symm
      obtain rfl : fn = Tryd.f4 := (Option.some.inj (Tryd.func4.symm.trans hfn)).symm
      exact ⟨by kernel_rfl, fun j t ht => by
        have key : t ∈ Tryd.f4.params.toList := by
          have := List.mem_of_getElem? (show Tryd.f4.params.toList[j]? = some t by simpa using ht)
          exact this
        rw [show Tryd.f4.params = #[25] from Tryd.params4] at key
        simp only [List.mem_cons, List.not_mem_nil, or_false] at key
        rcases key with rfl
        · exact (show Tryd.prog.wantsStandIn 25 = false by kernel_rfl)⟩)
    (by kernel_rfl)

end Go.Proofs.YtdbkceojpeboeaaDoor
