/- The card of the law CrcSums: it returns true for all arguments, and leaves them as they were. Conditions: the variable errors.errorType is as the program's text lays it. -/
import Derived.Test.YthajjbcnemdacaaDoorCrcE
import Derived.Test.YthajjbcnemdacaaDoorLaid
import Derived.Test.YthajjbcnemdacaaDoorTie
import Derived.Test.YthajjbcnemdacaaDoorCards
import Derived.Test.YthajjbcnemdacaaDoorFacts
import Derived.SevenTiedAt
namespace Go.Proofs.YthajjbcnemdacaaDoor
open Go.Sx Go.ChangeShapes Go.WideShapes Go.ChangeAt Go.RowKit
set_option maxRecDepth 100000

theorem crcSums_lifted (os : Os) (started : os.Started) (H : Type) (enc : TypeId × Value → H) :
    ReturnsInHanded {} Tryd.checked os 3 .any (fun w args => (Rows.crcSumsSpec.pre enc Tryd.prog Tryd.f3 [] false w args ∧ laidMetH Tryd.prog [("errors.errorType", Rows.laid_errors_errorType)] w) ∧ sizedMet enc Tryd.prog Tryd.f3 (OpenSpec.ofChange Rows.crcSumsSpec) false w args)
      (Rows.crcSumsSpec.post enc Tryd.prog Tryd.f3 false true false false) := by
  refine returnsInHanded_of_change_and (C := Tryd.checked) (X := fun w _ => laidMetH Tryd.prog [("errors.errorType", Rows.laid_errors_errorType)] w) (fun _ _ _ hh h => h.of_heap hh) own0 started (by kernel_rfl) Tryd.func3
    (ChangeSpec.witness_at (enc := enc) (C := Tryd.checked) (os := os) (X := fun w _ => laidMetH Tryd.prog [("errors.errorType", Rows.laid_errors_errorType)] w) false (laidW (World.holding Tryd.prog os ⟨#[], #[], []⟩) (rt 26)) #[.string ⟨#[]⟩] 8 rfl (by kernel_rfl) (by kernel_rfl) (by kernel_rfl) (by kernel_rfl) (by kernel_rfl) (laidW_met os _)) ?_
  intro W base args ds gs before hval0 hW _ _ hL _
  have hval : ∀ (j : Nat) t v, Tryd.f3.params[j]? = some t → args[j]? = some v → Value.okWide Tryd.prog W .any base t v := hval0
  have hW' := hW
  obtain ⟨p, q, hA0, hV, rfl, hfz, hnd⟩ := hW
  have hA : DataW.TrodAll enc Tryd.prog W 0 (fun _ => true) true Tryd.f3.params.toList args.toList ds p := hA0
  rw [Tryd.params3] at hA hval
  obtain ⟨v0, d0, rfl, rfl, h0⟩ := trodAll_one hA
  obtain ⟨rfl, rfl⟩ := trodVars_none hV
  obtain ⟨cs, hcs, hagg, hone⟩ := open_arg 8 (show shOf Tryd.prog 8 9 = some .str from by kernel_rfl) (hval 0 9 v0 rfl rfl) h0
  obtain ⟨x0, rfl, k0⟩ := hcs
  cases hone (by kernel_rfl)
  refine law_calls (P := Tryd.prog) [.v (.string x0)] (by kernel_rfl) rfl hW' rfl rfl ?_
  exact crcSums_c x0 (gOf W) k0 (errVar_of_laid hL)

theorem crcSums_inPlace : Tryd.prog.inPlace 3 = Rows.crcSumsRow.inPlace := by kernel_rfl
theorem crcSums_unfollowed : Tryd.prog.unfollowed 3 = Rows.crcSumsRow.unfollowed := by kernel_rfl
theorem crcSums_recurses : Tryd.prog.recurses 3 = Rows.crcSumsRow.recurses := by kernel_rfl
theorem crcSums_named : Tryd.prog.varsNamed 3 = Rows.crcSumsRow.named := by kernel_rfl
theorem crcSums_facts : joinedFacts Tryd.prog 3 Tryd.f3 Rows.crcSumsSpec Rows.crcSumsRow = true := by
  unfold joinedFacts
  rw [fact_laid, fact_rowed, fact_heard, fact_enter, fact_lifted, fact_make, fact_plain, crcSums_inPlace, crcSums_unfollowed, crcSums_recurses, crcSums_named]
  kernel_rfl

theorem crcSums_row : Rows.CrcSumsSaid :=
  OpenClaim.holds_of_wide 3 Tryd.f3 rfl rfl rfl rfl rfl rfl rfl ⟨rfl, rfl, rfl, rfl, rfl⟩ rfl rfl rfl rfl rfl (by kernel_rfl) Tryd.func3 crcSums_facts
    (of_decide_eq_true (by kernel_rfl)) (by unfold Func.isWrapper; first | (rw [if_pos (by decide +kernel)]; kernel_rfl) | (rw [if_neg (by decide +kernel)]; exact ⟨rfl, rfl⟩))
    (fun os started H enc _ => crcSums_lifted os started H enc)

theorem crcSums_holds : Rows.CrcSumsCardSaid :=
  Claim7.holds_tied_plain_at .later [] [.handle] true (true, "b12dac1cf7e42b3cb94e57eaa1aa5d32084a36a4e26eadad5299e48973e35477") true
    crcSums_row (fun _ h => by cases h) (by kernel_rfl) (fun _ h => by cases h) crcSums_row_tie rfl ⟨rfl, rfl⟩ (by kernel_rfl) rfl
    (fun f fn hf hfn => by
      obtain rfl : f = 3 := Option.some.inj ((show Tryd.prog.funcNamed "switchyard/switchyardlaw.CrcSums" = some 3 by kernel_rfl).symm.trans hf) |>.symm
      obtain rfl : fn = Tryd.f3 := (Option.some.inj (Tryd.func3.symm.trans hfn)).symm
      exact ⟨by kernel_rfl, fun j t ht => by
        have key : t ∈ Tryd.f3.params.toList := by
          have := List.mem_of_getElem? (show Tryd.f3.params.toList[j]? = some t by simpa using ht)
          exact this
        rw [show Tryd.f3.params = #[9] from Tryd.params3] at key
        simp only [List.mem_cons, List.not_mem_nil, or_false] at key
        rcases key with rfl
        · exact (show Tryd.prog.wantsStandIn 9 = false by kernel_rfl)⟩)
    (by kernel_rfl)

end Go.Proofs.YthajjbcnemdacaaDoor
