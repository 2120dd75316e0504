/- The card of the law MvrpReads: it returns true for all arguments, and leaves them as they were. Conditions: the variables that the row lists are as the program's text lays it. -/
import Derived.Test.YtfianfpmnglfnaaDoorMvE
import Derived.Test.YtfianfpmnglfnaaDoorLaid
import Derived.Test.YtfianfpmnglfnaaDoorRowX
import Derived.LaidSub
import Derived.LaidMore
import Derived.Lay
import Derived.LaidOnce
import Derived.MakeChecks
import Derived.Test.YtfianfpmnglfnaaDoorTie
import Derived.Test.YtfianfpmnglfnaaDoorCards
import Derived.Test.YtfianfpmnglfnaaDoorFacts
import Derived.SevenTiedAt
namespace Go.Proofs.YtfianfpmnglfnaaDoor
open Go.Sx Go.ChangeShapes Go.WideShapes Go.ChangeAt Go.RowKit
set_option maxRecDepth 100000

abbrev mvrpReadsL : List (String × DataW Unit) := [("errors.errorType", Rows.laid_errors_errorType)]
abbrev mvrpReadsD : List (String × DataW Unit) := []
theorem mvrpReads_err {W : World} (h : laidMetH Tryd.prog mvrpReadsL W) : ErrVar (gOf W) := by
  have h := h.filter fun x => x.1 == "errors.errorType"
  have h : laidMetH Tryd.prog [("errors.errorType", Rows.laid_errors_errorType)] W := Eq.mp (by kernel_rfl) h
  exact errVar_of_laid h
noncomputable def mvrpReadsW0 (os : Os) : World := laidW (World.holding Tryd.prog os ⟨#[], #[], []⟩) (rt 35)
noncomputable def mvrpReadsW (os : Os) : World := (mvrpReadsW0 os).layVars Tryd.prog mvrpReadsD
theorem mvrpReadsW_os (os : Os) : (mvrpReadsW os).os = os := World.layVars_os _ _ _
theorem mvrpReadsW_data (os : Os) : laidMet Tryd.prog mvrpReadsD (mvrpReadsW os) := by
  have e1 : (mvrpReadsD.filter fun x => (mvrpReadsD.map (·.1)).contains x.1) = mvrpReadsD := List.filter_eq_self.2 fun x hx => List.contains_iff_mem.2 (List.mem_map.2 ⟨x, hx, rfl⟩)
  have e2 : (mvrpReadsD.filter fun x => !(mvrpReadsD.map (·.1)).contains x.1) = [] := List.filter_eq_nil_iff.2 fun x hx => by rw [List.contains_iff_mem.2 (List.mem_map.2 ⟨x, hx, rfl⟩)]; simp
  exact laidMet_layVars (w0 := mvrpReadsW0 os) (mvrpReadsD.map (·.1)) [] (by rw [e1]; rfl) (by rw [e1]; kernel_rfl) (by rw [e1]; kernel_rfl) (by rw [e2]; exact LaidIn.none)
theorem mvrpReadsW_met (os : Os) (args : Array Value) : laidMetH Tryd.prog mvrpReadsL ((mvrpReadsW os).forCall (fun _ _ => 0) ⟨#[], args, []⟩).memory := by
  refine laidMetH_of_parts ?_ (by kernel_rfl)
  have h : laidMet Tryd.prog mvrpReadsD ((mvrpReadsW os).forCall (fun _ _ => 0) ⟨#[], args, []⟩).memory := (mvrpReadsW_data os).of_heap (by simp [World.memory, World.forCall, Input.heap])
  exact Eq.mp (by kernel_rfl) h

theorem mvrpReads_lifted (os : Os) (started : os.Started) (H : Type) (enc : TypeId × Value → H) :
    ReturnsInHanded {} Tryd.checked os 5 .any (fun w args => (Rows.mvrpReadsSpec.pre enc Tryd.prog Tryd.f5 [] false w args ∧ laidMetH Tryd.prog mvrpReadsL w) ∧ sizedMet enc Tryd.prog Tryd.f5 (OpenSpec.ofChange Rows.mvrpReadsSpec) false w args)
      (Rows.mvrpReadsSpec.post enc Tryd.prog Tryd.f5 false true false false) := by
  refine returns_and_shaped (C := Tryd.checked) (X := fun w _ => laidMetH Tryd.prog mvrpReadsL w) (fun _ _ _ hh h => h.of_heap hh) own0 started (by kernel_rfl) Tryd.func5
    (ChangeSpec.witness_at (enc := enc) (C := Tryd.checked) (os := os) (X := fun w _ => laidMetH Tryd.prog mvrpReadsL w) false (mvrpReadsW os) #[.string ⟨#[]⟩] 8 (mvrpReadsW_os _) (by kernel_rfl) (by kernel_rfl) (by kernel_rfl) (by kernel_rfl) (by kernel_rfl) (mvrpReadsW_met os _)) ?_
  intro W base args ds gs before hval0 hW _ _ hL hS _
  have hval : ∀ (j : Nat) t v, Tryd.f5.params[j]? = some t → args[j]? = some v → Value.okWide Tryd.prog W .any base t v := hval0
  have hW' := hW
  obtain ⟨p, q, hA0, hV, rfl, hfz, hnd⟩ := hW
  have hA : DataW.TrodAll enc Tryd.prog W 0 (fun _ => true) true Tryd.f5.params.toList args.toList ds p := hA0
  rw [Tryd.params5] at hA hval
  obtain ⟨v0, d0, rfl, rfl, h0⟩ := trodAll_one hA
  obtain ⟨rfl, rfl⟩ := trodVars_none hV
  obtain ⟨cs, hcs, hagg, hone⟩ := open_arg 8 (show shOf Tryd.prog 8 9 = some .str from by kernel_rfl) (hval 0 9 v0 rfl rfl) h0
  obtain ⟨x0, rfl, k0⟩ := hcs
  cases hone (by kernel_rfl)
  refine law_calls (P := Tryd.prog) [.v (.string x0)] (by kernel_rfl) rfl hW' rfl rfl ?_
  exact mvrpReads_c x0 (gOf W) k0 (mvrpReads_err hL)

theorem mvrpReads_inPlace : Tryd.prog.inPlace 5 = Rows.mvrpReadsRow.inPlace := by kernel_rfl
theorem mvrpReads_unfollowed : Tryd.prog.unfollowed 5 = Rows.mvrpReadsRow.unfollowed := by kernel_rfl
theorem mvrpReads_recurses : Tryd.prog.recurses 5 = Rows.mvrpReadsRow.recurses := by kernel_rfl
theorem mvrpReads_named : Tryd.prog.varsNamed 5 = Rows.mvrpReadsRow.named := by kernel_rfl
theorem mvrpReads_facts : joinedFacts Tryd.prog 5 Tryd.f5 Rows.mvrpReadsSpec Rows.mvrpReadsRow = true := by
  unfold joinedFacts
  rw [fact_laid, fact_rowed, fact_heard, fact_enter, fact_lifted, fact_make, fact_plain, mvrpReads_inPlace, mvrpReads_unfollowed, mvrpReads_recurses, mvrpReads_named]
  kernel_rfl

theorem mvrpReads_row : Rows.MvrpReadsSaid :=
  OpenClaim.holds_of_wide 5 Tryd.f5 rfl rfl rfl rfl rfl rfl rfl ⟨rfl, rfl, rfl, rfl, rfl⟩ rfl rfl rfl rfl rfl (by kernel_rfl) Tryd.func5 mvrpReads_facts
    (of_decide_eq_true (by kernel_rfl)) (by unfold Func.isWrapper; first | (rw [if_pos (by decide +kernel)]; kernel_rfl) | (rw [if_neg (by decide +kernel)]; exact ⟨rfl, rfl⟩))
    (fun os started H enc _ => mvrpReads_lifted os started H enc)

theorem mvrpReads_holds : Rows.MvrpReadsCardSaid :=
  Claim7.holds_tied_plain_at .later [] [.handle] true (true, "e6a3f1a67bdb414b9378b4ea3fa967ee157d40c446af0ed68627730387f8c963") true
    mvrpReads_row (fun _ h => by cases h) (by kernel_rfl) (fun _ h => by cases h) mvrpReads_row_tie rfl ⟨rfl, rfl⟩ (by kernel_rfl) rfl
    (fun f fn hf hfn => by
      obtain rfl : f = 5 := Option.some.inj ((show Tryd.prog.funcNamed "switchyard/switchyardlaw.MvrpReads" = some 5 by kernel_rfl).symm.trans hf) |>.symm
      obtain rfl : fn = Tryd.f5 := (Option.some.inj (Tryd.func5.symm.trans hfn)).symm
      exact ⟨by kernel_rfl, fun j t ht => by
        have key : t ∈ Tryd.f5.params.toList := by
          have := List.mem_of_getElem? (show Tryd.f5.params.toList[j]? = some t by simpa using ht)
          exact this
        rw [show Tryd.f5.params = #[9] from Tryd.params5] at key
        simp only [List.mem_cons, List.not_mem_nil, or_false] at key
        rcases key with rfl
        · exact (show Tryd.prog.wantsStandIn 9 = false by kernel_rfl)⟩)
    (by kernel_rfl)

end Go.Proofs.YtfianfpmnglfnaaDoor
