/- The card of the law MacTexts: it returns true for all arguments, and leaves them as they were. Conditions: the variables that the row lists are as the program's text lays it. -/
import Derived.Test.YtmbbhodikiikeaaDoorMtD
import Derived.Test.YtmbbhodikiikeaaDoorLaid
import Derived.Test.YtmbbhodikiikeaaDoorRowX
import Derived.LaidSub
import Derived.LaidMore
import Derived.Lay
import Derived.LaidOnce
import Derived.MakeChecks
import Derived.Test.YtmbbhodikiikeaaDoorMacLaid
import Derived.Test.YtmbbhodikiikeaaDoorTie
import Derived.Test.YtmbbhodikiikeaaDoorCards
import Derived.Test.YtmbbhodikiikeaaDoorFacts
import Derived.SevenTiedAt
namespace Go.Proofs.YtmbbhodikiikeaaDoor
open Go.Sx Go.ChangeShapes Go.WideShapes Go.ChangeAt Go.RowKit
set_option maxRecDepth 100000

abbrev macTextsL : List (String × DataW Unit) := [("math/bits.deBruijn32tab", Rows.laid_math_bits_deBruijn32tab), ("math/bits.deBruijn64tab", Rows.laid_math_bits_deBruijn64tab), ("internal/strconv.uint64pow10", Rows.laid_internal_strconv_uint64pow10), ("unicode/utf8.acceptRanges", Rows.laid_unicode_utf8_acceptRanges), ("errors.errorType", Rows.laid_errors_errorType), ("unicode/utf8.first", Rows.laid_unicode_utf8_first)]
abbrev macTextsD : List (String × DataW Unit) := [("math/bits.deBruijn32tab", Rows.laid_math_bits_deBruijn32tab), ("math/bits.deBruijn64tab", Rows.laid_math_bits_deBruijn64tab), ("internal/strconv.uint64pow10", Rows.laid_internal_strconv_uint64pow10), ("unicode/utf8.acceptRanges", Rows.laid_unicode_utf8_acceptRanges), ("unicode/utf8.first", Rows.laid_unicode_utf8_first)]
theorem macTexts_err {W : World} (h : laidMetH Tryd.prog macTextsL W) : ErrVar (gOf W) := by
  have h := h.filter fun x => x.1 == "errors.errorType"
  have h : laidMetH Tryd.prog [("errors.errorType", Rows.laid_errors_errorType)] W := Eq.mp (by kernel_rfl) h
  exact errVar_of_laid h
theorem macTexts_bit {W : World} (h : laidMetH Tryd.prog macTextsL W) : BitVar (gOf W) := by
  have h := h.filter fun x => (bitLaid (H := Unit)).any fun y => x.1 == y.1
  have h : laidMetH Tryd.prog (bitLaid (H := Unit)) W := Eq.mp (by kernel_rfl) h
  exact bitVar_of_laid h
theorem macTexts_max {W : World} (h : W.ShapedOpen Tryd.prog) : MaxVar (gOf W) := by
  obtain ⟨m, hm⟩ := cell_of_shapedOpen_int (g := 0) (t := 3) (k := .i64) h (of_decide_eq_true (by kernel_rfl)) (zero := #[.int .i64 0]) (by kernel_rfl) rfl (by kernel_rfl) (by kernel_rfl) (by kernel_rfl)
  refine ⟨m, gOf_at (fun i hi => ?_) (by simp)⟩
  have : i = 0 := by simpa using hi
  subst this
  exact hm
noncomputable def macTextsW0 (os : Os) : World := laidW (World.holding Tryd.prog os ⟨#[], #[], []⟩) (rt 28)
noncomputable def macTextsW (os : Os) : World := (macTextsW0 os).layVars Tryd.prog macTextsD
theorem macTextsW_os (os : Os) : (macTextsW os).os = os := World.layVars_os _ _ _
theorem macTextsW_data (os : Os) : laidMet Tryd.prog macTextsD (macTextsW os) := by
  have e1 : (macTextsD.filter fun x => (macTextsD.map (·.1)).contains x.1) = macTextsD := List.filter_eq_self.2 fun x hx => List.contains_iff_mem.2 (List.mem_map.2 ⟨x, hx, rfl⟩)
  have e2 : (macTextsD.filter fun x => !(macTextsD.map (·.1)).contains x.1) = [] := List.filter_eq_nil_iff.2 fun x hx => by rw [List.contains_iff_mem.2 (List.mem_map.2 ⟨x, hx, rfl⟩)]; simp
  exact laidMet_layVars (w0 := macTextsW0 os) (macTextsD.map (·.1)) [] (by rw [e1]; rfl) (by rw [e1]; kernel_rfl) (by rw [e1]; kernel_rfl) (by rw [e2]; exact LaidIn.none)
theorem macTextsW_met (os : Os) (args : Array Value) : laidMetH Tryd.prog macTextsL ((macTextsW os).forCall (fun _ _ => 0) ⟨#[], args, []⟩).memory := by
  refine laidMetH_of_parts ?_ (by kernel_rfl)
  have h : laidMet Tryd.prog macTextsD ((macTextsW os).forCall (fun _ _ => 0) ⟨#[], args, []⟩).memory := (macTextsW_data os).of_heap (by simp [World.memory, World.forCall, Input.heap])
  exact Eq.mp (by kernel_rfl) h

theorem macTexts_lifted (os : Os) (started : os.Started) (H : Type) (enc : TypeId × Value → H) :
    ReturnsInHanded {} Tryd.checked os 3 .any (fun w args => (Rows.macTextsSpec.pre enc Tryd.prog Tryd.f3 [] false w args ∧ laidMetH Tryd.prog macTextsL w) ∧ sizedMet enc Tryd.prog Tryd.f3 (OpenSpec.ofChange Rows.macTextsSpec) false w args)
      (Rows.macTextsSpec.post enc Tryd.prog Tryd.f3 false true false false) := by
  refine returns_and_shaped (C := Tryd.checked) (X := fun w _ => laidMetH Tryd.prog macTextsL w) (fun _ _ _ hh h => h.of_heap hh) own0 started (by kernel_rfl) Tryd.func3
    (ChangeSpec.witness_at (enc := enc) (C := Tryd.checked) (os := os) (X := fun w _ => laidMetH Tryd.prog macTextsL w) false (macTextsW os) #[.agg #[.int .u8 0, .int .u8 0, .int .u8 0, .int .u8 0, .int .u8 0, .int .u8 0], .string ⟨#[]⟩] 8 (macTextsW_os _) (by kernel_rfl) (by kernel_rfl) (by kernel_rfl) (by kernel_rfl) (by kernel_rfl) (macTextsW_met os _)) ?_
  intro W base args ds gs before hval0 hW _ _ hL hS _
  have hval : ∀ (j : Nat) t v, Tryd.f3.params[j]? = some t → args[j]? = some v → Value.okWide Tryd.prog W .any base t v := hval0
  have hW' := hW
  obtain ⟨p, q, hA0, hV, rfl, hfz, hnd⟩ := hW
  have hA : DataW.TrodAll enc Tryd.prog W 0 (fun _ => true) true Tryd.f3.params.toList args.toList ds p := hA0
  rw [Tryd.params3] at hA hval
  obtain ⟨v0, v1, d0, d1, p0, p1, rfl, rfl, rfl, h0, h1⟩ := trodAll_two hA
  obtain ⟨rfl, rfl⟩ := trodVars_none hV
  obtain ⟨cs, hcs, hagg, hone⟩ := open_arg 8 (show shOf Tryd.prog 8 23 = some addrSh from by kernel_rfl) (hval 0 23 v0 rfl rfl) h0
  obtain ⟨x0, rfl, k0⟩ := addr_of cs hcs
  obtain rfl := hagg (by kernel_rfl)
  obtain ⟨cs, hcs, hagg, hone⟩ := open_arg 8 (show shOf Tryd.prog 8 9 = some .str from by kernel_rfl) (hval 1 9 v1 rfl rfl) h1
  obtain ⟨x1, rfl, k1⟩ := hcs
  cases hone (by kernel_rfl)
  refine law_calls (P := Tryd.prog) [.agg (x0.cells.map .v), .v (.string x1)] (by kernel_rfl) rfl hW' rfl rfl ?_
  exact macTexts_c x0 x1 (gOf W) k0 k1 (macTexts_bit hL) (macTexts_max hS) (macTexts_err hL)

theorem macTexts_inPlace : Tryd.prog.inPlace 3 = Rows.macTextsRow.inPlace := by kernel_rfl
theorem macTexts_unfollowed : Tryd.prog.unfollowed 3 = Rows.macTextsRow.unfollowed := by kernel_rfl
theorem macTexts_recurses : Tryd.prog.recurses 3 = Rows.macTextsRow.recurses := by kernel_rfl
theorem macTexts_named : Tryd.prog.varsNamed 3 = Rows.macTextsRow.named := by kernel_rfl
theorem macTexts_facts : joinedFacts Tryd.prog 3 Tryd.f3 Rows.macTextsSpec Rows.macTextsRow = true := by
  unfold joinedFacts
  rw [fact_laid, fact_rowed, fact_heard, fact_enter, fact_lifted, fact_make, fact_plain, macTexts_inPlace, macTexts_unfollowed, macTexts_recurses, macTexts_named]
  kernel_rfl

theorem macTexts_row : Rows.MacTextsSaid :=
  OpenClaim.holds_of_wide 3 Tryd.f3 rfl rfl rfl rfl rfl rfl rfl ⟨rfl, rfl, rfl, rfl, rfl⟩ rfl rfl rfl rfl rfl (by kernel_rfl) Tryd.func3 macTexts_facts
    (of_decide_eq_true (by kernel_rfl)) (by unfold Func.isWrapper; first | (rw [if_pos (by decide +kernel)]; kernel_rfl) | (rw [if_neg (by decide +kernel)]; exact ⟨rfl, rfl⟩))
    (fun os started H enc _ => macTexts_lifted os started H enc)

theorem macTexts_holds : Rows.MacTextsCardSaid :=
  Claim7.holds_tied_plain_at .later [] [.data, .data, .data, .data, .handle, .pinned] true (true, "381774386a59b45db826a6c8deb2b39b6c81750be91cc4bc0b5616275469754a") true
    macTexts_row (fun _ h => by cases h) (by kernel_rfl) (fun _ h => by cases h) macTexts_row_tie rfl ⟨rfl, rfl⟩ (by kernel_rfl) rfl
    (fun f fn hf hfn => by
      obtain rfl : f = 3 := Option.some.inj ((show Tryd.prog.funcNamed "switchyard/switchyardlaw.MacTexts" = some 3 by kernel_rfl).symm.trans hf) |>.symm
      obtain rfl : fn = Tryd.f3 := (Option.some.inj (Tryd.func3.symm.trans hfn)).symm
      exact ⟨by kernel_rfl, fun j t ht => by
        have key : t ∈ Tryd.f3.params.toList := by
          have := List.mem_of_getElem? (show Tryd.f3.params.toList[j]? = some t by simpa using ht)
          exact this
        rw [show Tryd.f3.params = #[23, 9] from Tryd.params3] at key
        simp only [List.mem_cons, List.not_mem_nil, or_false] at key
        rcases key with rfl | rfl
        · exact (show Tryd.prog.wantsStandIn 23 = false by kernel_rfl)
        · exact (show Tryd.prog.wantsStandIn 9 = false by kernel_rfl)⟩)
    (by kernel_rfl)

end Go.Proofs.YtmbbhodikiikeaaDoor
