/- The card of the law TreeSolves: it returns true for all arguments, and leaves them as they were. Conditions: the variables that the row lists are as the program's text lays it. -/
import Derived.Test.YtedfohdgigbhiaaDoorSvG
import Derived.Test.YtedfohdgigbhiaaDoorLaid
import Derived.Test.YtedfohdgigbhiaaDoorRowX
import Derived.LaidSub
import Derived.LaidMore
import Derived.Lay
import Derived.LaidOnce
import Derived.MakeChecks
import Derived.Test.YtedfohdgigbhiaaDoorTie
import Derived.Test.YtedfohdgigbhiaaDoorCards
import Derived.Test.YtedfohdgigbhiaaDoorFacts
import Derived.SevenTiedAt
namespace Go.Proofs.YtedfohdgigbhiaaDoor
open Go.Sx Go.ChangeShapes Go.WideShapes Go.ChangeAt Go.RowKit
set_option maxRecDepth 100000

abbrev treeSolvesL : List (String × DataW Unit) := [("errors.errorType", Rows.laid_errors_errorType)]
abbrev treeSolvesD : List (String × DataW Unit) := []
theorem treeSolves_err {W : World} (h : laidMetH Tryd.prog treeSolvesL W) : ErrVar (gOf W) := by
  have h := h.filter fun x => x.1 == "errors.errorType"
  have h : laidMetH Tryd.prog [("errors.errorType", Rows.laid_errors_errorType)] W := Eq.mp (by kernel_rfl) h
  exact errVar_of_laid h
noncomputable def treeSolvesW0 (os : Os) : World := laidW (World.holding Tryd.prog os ⟨#[], #[], []⟩) (rt 26)
noncomputable def treeSolvesW (os : Os) : World := (treeSolvesW0 os).layVars Tryd.prog treeSolvesD
theorem treeSolvesW_os (os : Os) : (treeSolvesW os).os = os := World.layVars_os _ _ _
theorem treeSolvesW_data (os : Os) : laidMet Tryd.prog treeSolvesD (treeSolvesW os) := by
  have e1 : (treeSolvesD.filter fun x => (treeSolvesD.map (·.1)).contains x.1) = treeSolvesD := List.filter_eq_self.2 fun x hx => List.contains_iff_mem.2 (List.mem_map.2 ⟨x, hx, rfl⟩)
  have e2 : (treeSolvesD.filter fun x => !(treeSolvesD.map (·.1)).contains x.1) = [] := List.filter_eq_nil_iff.2 fun x hx => by rw [List.contains_iff_mem.2 (List.mem_map.2 ⟨x, hx, rfl⟩)]; simp
  exact laidMet_layVars (w0 := treeSolvesW0 os) (treeSolvesD.map (·.1)) [] (by rw [e1]; rfl) (by rw [e1]; kernel_rfl) (by rw [e1]; kernel_rfl) (by rw [e2]; exact LaidIn.none)
theorem treeSolvesW_met (os : Os) (args : Array Value) : laidMetH Tryd.prog treeSolvesL ((treeSolvesW os).forCall (fun _ _ => 0) ⟨#[], args, []⟩).memory := by
  refine laidMetH_of_parts ?_ (by kernel_rfl)
  have h : laidMet Tryd.prog treeSolvesD ((treeSolvesW os).forCall (fun _ _ => 0) ⟨#[], args, []⟩).memory := (treeSolvesW_data os).of_heap (by simp [World.memory, World.forCall, Input.heap])
  exact Eq.mp (by kernel_rfl) h

theorem treeSolves_lifted (os : Os) (started : os.Started) (H : Type) (enc : TypeId × Value → H) :
    ReturnsInHanded {} Tryd.checked os 3 .any (fun w args => (Rows.treeSolvesSpec.pre enc Tryd.prog Tryd.f3 [] false w args ∧ laidMetH Tryd.prog treeSolvesL w) ∧ sizedMet enc Tryd.prog Tryd.f3 (OpenSpec.ofChange Rows.treeSolvesSpec) false w args)
      (Rows.treeSolvesSpec.post enc Tryd.prog Tryd.f3 false true false false) := by
  refine returns_and_shaped (C := Tryd.checked) (X := fun w _ => laidMetH Tryd.prog treeSolvesL w) (fun _ _ _ hh h => h.of_heap hh) own0 started (by kernel_rfl) Tryd.func3
    (ChangeSpec.witness_at (enc := enc) (C := Tryd.checked) (os := os) (X := fun w _ => laidMetH Tryd.prog treeSolvesL w) false (treeSolvesW os) #[.slice none 0 0] 8 (treeSolvesW_os _) (by kernel_rfl) (by kernel_rfl) (by kernel_rfl) (by kernel_rfl) (by kernel_rfl) (treeSolvesW_met os _)) ?_
  intro W base args ds gs before hval0 hW _ _ hL hS _
  have hval : ∀ (j : Nat) t v, Tryd.f3.params[j]? = some t → args[j]? = some v → Value.okWide Tryd.prog W .any base t v := hval0
  have hW' := hW
  obtain ⟨p, q, hA0, hV, rfl, hfz, hnd⟩ := hW
  have hA : DataW.TrodAll enc Tryd.prog W 0 (fun _ => true) true Tryd.f3.params.toList args.toList ds p := hA0
  rw [Tryd.params3] at hA hval
  obtain ⟨v0, d0, rfl, rfl, h0⟩ := trodAll_one hA
  obtain ⟨rfl, rfl⟩ := trodVars_none hV
  obtain ⟨cs, hcs, hagg, hone⟩ := open_arg 8 (show shOf Tryd.prog 8 22 = some (.slice 9 (.fld 8 (.fld 1 (.int .i64) (.fld 1 (.int .i64) (.fld 6 (Sh.rep (.int .u8) 1 6) .fin))) (.fld 1 (.slice 4 (.fld 2 (.fld 1 (.int .i64) (.fld 1 (.int .i64) .fin)) (.fld 1 (.int .i64) (.fld 1 (.int .i64) .fin)))) .fin))) from by kernel_rfl) (hval 0 22 v0 rfl rfl) h0
  obtain ⟨x0, rfl, k0⟩ := sliceV_of NodeV.cells (fun _ => rfl) (by decide) (NodeV.ok (gOf W)) (fun c _ hc => node_of c hc) hcs
  cases hone (by kernel_rfl)
  refine law_calls (P := Tryd.prog) [.v (.slice x0.a x0.l.length x0.c)] (by kernel_rfl) rfl hW' rfl rfl ?_
  exact treeSolves_c x0 (gOf W) k0 (treeSolves_err hL)

theorem treeSolves_inPlace : Tryd.prog.inPlace 3 = Rows.treeSolvesRow.inPlace := by kernel_rfl
theorem treeSolves_unfollowed : Tryd.prog.unfollowed 3 = Rows.treeSolvesRow.unfollowed := by kernel_rfl
theorem treeSolves_recurses : Tryd.prog.recurses 3 = Rows.treeSolvesRow.recurses := by kernel_rfl
theorem treeSolves_named : Tryd.prog.varsNamed 3 = Rows.treeSolvesRow.named := by kernel_rfl
theorem treeSolves_facts : joinedFacts Tryd.prog 3 Tryd.f3 Rows.treeSolvesSpec Rows.treeSolvesRow = true := by
  unfold joinedFacts
  rw [fact_laid, fact_rowed, fact_heard, fact_enter, fact_lifted, fact_make, fact_plain, treeSolves_inPlace, treeSolves_unfollowed, treeSolves_recurses, treeSolves_named]
  kernel_rfl

theorem treeSolves_row : Rows.TreeSolvesSaid :=
  OpenClaim.holds_of_wide 3 Tryd.f3 rfl rfl rfl rfl rfl rfl rfl ⟨rfl, rfl, rfl, rfl, rfl⟩ rfl rfl rfl rfl rfl (by kernel_rfl) Tryd.func3 treeSolves_facts
    (of_decide_eq_true (by kernel_rfl)) (by unfold Func.isWrapper; first | (rw [if_pos (by decide +kernel)]; kernel_rfl) | (rw [if_neg (by decide +kernel)]; exact ⟨rfl, rfl⟩))
    (fun os started H enc _ => treeSolves_lifted os started H enc)

theorem treeSolves_holds : Rows.TreeSolvesCardSaid :=
  Claim7.holds_tied_plain_at .later [] [.handle] true (true, "31e50bf90624d4bab67917e031a2c1c4b1208e73a0d98953b88aeed802c5f893") true
    treeSolves_row (fun _ h => by cases h) (by kernel_rfl) (fun _ h => by cases h) treeSolves_row_tie rfl ⟨rfl, rfl⟩ (by kernel_rfl) rfl
    (fun f fn hf hfn => by
      obtain rfl : f = 3 := Option.some.inj ((show Tryd.prog.funcNamed "switchyard/switchyardlaw.TreeSolves" = some 3 by kernel_rfl).symm.trans hf) |>.symm
      obtain rfl : fn = Tryd.f3 := (Option.some.inj (Tryd.func3.symm.trans hfn)).symm
      exact ⟨by kernel_rfl, fun j t ht => by
        have key : t ∈ Tryd.f3.params.toList := by
          have := List.mem_of_getElem? (show Tryd.f3.params.toList[j]? = some t by simpa using ht)
          exact this
        rw [show Tryd.f3.params = #[22] from Tryd.params3] at key
        simp only [List.mem_cons, List.not_mem_nil, or_false] at key
        rcases key with rfl
        · exact (show Tryd.prog.wantsStandIn 22 = false by kernel_rfl)⟩)
    (by kernel_rfl)

end Go.Proofs.YtedfohdgigbhiaaDoor
