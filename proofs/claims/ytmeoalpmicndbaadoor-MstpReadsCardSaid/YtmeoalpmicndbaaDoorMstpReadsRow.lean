/- The card of the law MstpReads: it returns true for all arguments, and leaves them as they were. Conditions: the variables that the row lists are as the program's text lays it. -/
import Derived.Test.YtmeoalpmicndbaaDoorMsrE
import Derived.Test.YtmeoalpmicndbaaDoorLaid
import Derived.Test.YtmeoalpmicndbaaDoorRowX
import Derived.LaidSub
import Derived.LaidMore
import Derived.Lay
import Derived.LaidOnce
import Derived.MakeChecks
import Derived.Test.YtmeoalpmicndbaaDoorTie
import Derived.Test.YtmeoalpmicndbaaDoorCards
import Derived.Test.YtmeoalpmicndbaaDoorFacts
import Derived.SevenTiedAt
namespace Go.Proofs.YtmeoalpmicndbaaDoor
open Go.Sx Go.ChangeShapes Go.WideShapes Go.ChangeAt Go.RowKit
set_option maxRecDepth 100000

abbrev mstpReadsL : List (String × DataW Unit) := [("unicode/utf8.acceptRanges", Rows.laid_unicode_utf8_acceptRanges), ("errors.errorType", Rows.laid_errors_errorType), ("unicode/utf8.first", Rows.laid_unicode_utf8_first)]
abbrev mstpReadsD : List (String × DataW Unit) := [("unicode/utf8.acceptRanges", Rows.laid_unicode_utf8_acceptRanges), ("unicode/utf8.first", Rows.laid_unicode_utf8_first)]
theorem mstpReads_err {W : World} (h : laidMetH Tryd.prog mstpReadsL W) : ErrVar (gOf W) := by
  have h := h.filter fun x => x.1 == "errors.errorType"
  have h : laidMetH Tryd.prog [("errors.errorType", Rows.laid_errors_errorType)] W := Eq.mp (by kernel_rfl) h
  exact errVar_of_laid h
noncomputable def mstpReadsW0 (os : Os) : World := laidW (World.holding Tryd.prog os ⟨#[], #[], []⟩) (rt 35)
noncomputable def mstpReadsW (os : Os) : World := (mstpReadsW0 os).layVars Tryd.prog mstpReadsD
theorem mstpReadsW_os (os : Os) : (mstpReadsW os).os = os := World.layVars_os _ _ _
theorem mstpReadsW_data (os : Os) : laidMet Tryd.prog mstpReadsD (mstpReadsW os) := by
  have e1 : (mstpReadsD.filter fun x => (mstpReadsD.map (·.1)).contains x.1) = mstpReadsD := List.filter_eq_self.2 fun x hx => List.contains_iff_mem.2 (List.mem_map.2 ⟨x, hx, rfl⟩)
  have e2 : (mstpReadsD.filter fun x => !(mstpReadsD.map (·.1)).contains x.1) = [] := List.filter_eq_nil_iff.2 fun x hx => by rw [List.contains_iff_mem.2 (List.mem_map.2 ⟨x, hx, rfl⟩)]; simp
  exact laidMet_layVars (w0 := mstpReadsW0 os) (mstpReadsD.map (·.1)) [] (by rw [e1]; rfl) (by rw [e1]; kernel_rfl) (by rw [e1]; kernel_rfl) (by rw [e2]; exact LaidIn.none)
theorem mstpReadsW_met (os : Os) (args : Array Value) : laidMetH Tryd.prog mstpReadsL ((mstpReadsW os).forCall (fun _ _ => 0) ⟨#[], args, []⟩).memory := by
  refine laidMetH_of_parts ?_ (by kernel_rfl)
  have h : laidMet Tryd.prog mstpReadsD ((mstpReadsW os).forCall (fun _ _ => 0) ⟨#[], args, []⟩).memory := (mstpReadsW_data os).of_heap (by simp [World.memory, World.forCall, Input.heap])
  exact Eq.mp (by kernel_rfl) h

theorem mstpReads_lifted (os : Os) (started : os.Started) (H : Type) (enc : TypeId × Value → H) :
    ReturnsInHanded {} Tryd.checked os 9 .any (fun w args => (Rows.mstpReadsSpec.pre enc Tryd.prog Tryd.f9 [] false w args ∧ laidMetH Tryd.prog mstpReadsL w) ∧ sizedMet enc Tryd.prog Tryd.f9 (OpenSpec.ofChange Rows.mstpReadsSpec) false w args)
      (Rows.mstpReadsSpec.post enc Tryd.prog Tryd.f9 false true false false) := by
  refine returns_and_shaped (C := Tryd.checked) (X := fun w _ => laidMetH Tryd.prog mstpReadsL w) (fun _ _ _ hh h => h.of_heap hh) own0 started (by kernel_rfl) Tryd.func9
    (ChangeSpec.witness_at (enc := enc) (C := Tryd.checked) (os := os) (X := fun w _ => laidMetH Tryd.prog mstpReadsL w) false (mstpReadsW os) #[.string ⟨#[]⟩] 8 (mstpReadsW_os _) (by kernel_rfl) (by kernel_rfl) (by kernel_rfl) (by kernel_rfl) (by kernel_rfl) (mstpReadsW_met os _)) ?_
  intro W base args ds gs before hval0 hW _ _ hL hS _
  have hval : ∀ (j : Nat) t v, Tryd.f9.params[j]? = some t → args[j]? = some v → Value.okWide Tryd.prog W .any base t v := hval0
  have hW' := hW
  obtain ⟨p, q, hA0, hV, rfl, hfz, hnd⟩ := hW
  have hA : DataW.TrodAll enc Tryd.prog W 0 (fun _ => true) true Tryd.f9.params.toList args.toList ds p := hA0
  rw [Tryd.params9] at hA hval
  obtain ⟨v0, d0, rfl, rfl, h0⟩ := trodAll_one hA
  obtain ⟨rfl, rfl⟩ := trodVars_none hV
  obtain ⟨cs, hcs, hagg, hone⟩ := open_arg 8 (show shOf Tryd.prog 8 9 = some .str from by kernel_rfl) (hval 0 9 v0 rfl rfl) h0
  obtain ⟨x0, rfl, k0⟩ := hcs
  cases hone (by kernel_rfl)
  refine law_calls (P := Tryd.prog) [.v (.string x0)] (by kernel_rfl) rfl hW' rfl rfl ?_
  exact mstpReads_c x0 (gOf W) k0 (mstpReads_err hL)

theorem mstpReads_inPlace : Tryd.prog.inPlace 9 = Rows.mstpReadsRow.inPlace := by kernel_rfl
theorem mstpReads_unfollowed : Tryd.prog.unfollowed 9 = Rows.mstpReadsRow.unfollowed := by kernel_rfl
theorem mstpReads_recurses : Tryd.prog.recurses 9 = Rows.mstpReadsRow.recurses := by kernel_rfl
theorem mstpReads_named : Tryd.prog.varsNamed 9 = Rows.mstpReadsRow.named := by kernel_rfl
theorem mstpReads_facts : joinedFacts Tryd.prog 9 Tryd.f9 Rows.mstpReadsSpec Rows.mstpReadsRow = true := by
  unfold joinedFacts
  rw [fact_laid, fact_rowed, fact_heard, fact_enter, fact_lifted, fact_make, fact_plain, mstpReads_inPlace, mstpReads_unfollowed, mstpReads_recurses, mstpReads_named]
  kernel_rfl

theorem mstpReads_row : Rows.MstpReadsSaid :=
  OpenClaim.holds_of_wide 9 Tryd.f9 rfl rfl rfl rfl rfl rfl rfl ⟨rfl, rfl, rfl, rfl, rfl⟩ rfl rfl rfl rfl rfl (by kernel_rfl) Tryd.func9 mstpReads_facts
    (of_decide_eq_true (by kernel_rfl)) (by unfold Func.isWrapper; first | (rw [if_pos (by decide +kernel)]; kernel_rfl) | (rw [if_neg (by decide +kernel)]; exact ⟨rfl, rfl⟩))
    (fun os started H enc _ => mstpReads_lifted os started H enc)

theorem mstpReads_holds : Rows.MstpReadsCardSaid :=
  Claim7.holds_tied_plain_at .later [] [.data, .handle, .pinned] true (true, "6fe43efa8b7ddd0fb1b9b2db7afb2ecab2cf60456aa829dbabad7343cad665d5") true
    mstpReads_row (fun _ h => by cases h) (by kernel_rfl) (fun _ h => by cases h) mstpReads_row_tie rfl ⟨rfl, rfl⟩ (by kernel_rfl) rfl
    (fun f fn hf hfn => by
      obtain rfl : f = 9 := Option.some.inj ((show Tryd.prog.funcNamed "switchyard/switchyardlaw.MstpReads" = some 9 by kernel_rfl).symm.trans hf) |>.symm
      obtain rfl : fn = Tryd.f9 := (Option.some.inj (Tryd.func9.symm.trans hfn)).symm
      exact ⟨by kernel_rfl, fun j t ht => by
        have key : t ∈ Tryd.f9.params.toList := by
          have := List.mem_of_getElem? (show Tryd.f9.params.toList[j]? = some t by simpa using ht)
          exact this
        rw [show Tryd.f9.params = #[9] from Tryd.params9] at key
        simp only [List.mem_cons, List.not_mem_nil, or_false] at key
        rcases key with rfl
        · exact (show Tryd.prog.wantsStandIn 9 = false by kernel_rfl)⟩)
    (by kernel_rfl)

end Go.Proofs.YtmeoalpmicndbaaDoor
