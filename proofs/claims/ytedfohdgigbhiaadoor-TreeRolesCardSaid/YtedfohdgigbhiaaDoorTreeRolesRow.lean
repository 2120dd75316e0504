/- The card of the law TreeRoles: it returns true for all arguments, and leaves them as they were. Conditions: the variables that the row lists are as the program's text lays it. -/
import Derived.Test.YtedfohdgigbhiaaDoorRlD
import Derived.Test.YtedfohdgigbhiaaDoorLaid
import Derived.Test.YtedfohdgigbhiaaDoorRowX
import Derived.LaidSub
import Derived.LaidMore
import Derived.Lay
import Derived.LaidOnce
import Derived.MakeChecks
import Derived.Test.YtedfohdgigbhiaaDoorTie
import Derived.Test.YtedfohdgigbhiaaDoorCards
import Derived.Test.YtedfohdgigbhiaaDoorFacts
import Derived.SevenTiedAt
namespace Go.Proofs.YtedfohdgigbhiaaDoor
open Go.Sx Go.ChangeShapes Go.WideShapes Go.ChangeAt Go.RowKit
set_option maxRecDepth 100000

abbrev treeRolesL : List (String × DataW Unit) := [("errors.errorType", Rows.laid_errors_errorType)]
abbrev treeRolesD : List (String × DataW Unit) := []
theorem treeRoles_err {W : World} (h : laidMetH Tryd.prog treeRolesL W) : ErrVar (gOf W) := by
  have h := h.filter fun x => x.1 == "errors.errorType"
  have h : laidMetH Tryd.prog [("errors.errorType", Rows.laid_errors_errorType)] W := Eq.mp (by kernel_rfl) h
  exact errVar_of_laid h
noncomputable def treeRolesW0 (os : Os) : World := laidW (World.holding Tryd.prog os ⟨#[], #[], []⟩) (rt 26)
noncomputable def treeRolesW (os : Os) : World := (treeRolesW0 os).layVars Tryd.prog treeRolesD
theorem treeRolesW_os (os : Os) : (treeRolesW os).os = os := World.layVars_os _ _ _
theorem treeRolesW_data (os : Os) : laidMet Tryd.prog treeRolesD (treeRolesW os) := by
  have e1 : (treeRolesD.filter fun x => (treeRolesD.map (·.1)).contains x.1) = treeRolesD := List.filter_eq_self.2 fun x hx => List.contains_iff_mem.2 (List.mem_map.2 ⟨x, hx, rfl⟩)
  have e2 : (treeRolesD.filter fun x => !(treeRolesD.map (·.1)).contains x.1) = [] := List.filter_eq_nil_iff.2 fun x hx => by rw [List.contains_iff_mem.2 (List.mem_map.2 ⟨x, hx, rfl⟩)]; simp
  exact laidMet_layVars (w0 := treeRolesW0 os) (treeRolesD.map (·.1)) [] (by rw [e1]; rfl) (by rw [e1]; kernel_rfl) (by rw [e1]; kernel_rfl) (by rw [e2]; exact LaidIn.none)
theorem treeRolesW_met (os : Os) (args : Array Value) : laidMetH Tryd.prog treeRolesL ((treeRolesW os).forCall (fun _ _ => 0) ⟨#[], args, []⟩).memory := by
  refine laidMetH_of_parts ?_ (by kernel_rfl)
  have h : laidMet Tryd.prog treeRolesD ((treeRolesW os).forCall (fun _ _ => 0) ⟨#[], args, []⟩).memory := (treeRolesW_data os).of_heap (by simp [World.memory, World.forCall, Input.heap])
  exact Eq.mp (by kernel_rfl) h

theorem treeRoles_lifted (os : Os) (started : os.Started) (H : Type) (enc : TypeId × Value → H) :
    ReturnsInHanded {} Tryd.checked os 4 .any (fun w args => (Rows.treeRolesSpec.pre enc Tryd.prog Tryd.f4 [] false w args ∧ laidMetH Tryd.prog treeRolesL w) ∧ sizedMet enc Tryd.prog Tryd.f4 (OpenSpec.ofChange Rows.treeRolesSpec) false w args)
      (Rows.treeRolesSpec.post enc Tryd.prog Tryd.f4 false true false false) := by
  refine returns_and_shaped (C := Tryd.checked) (X := fun w _ => laidMetH Tryd.prog treeRolesL w) (fun _ _ _ hh h => h.of_heap hh) own0 started (by kernel_rfl) Tryd.func4
    (ChangeSpec.witness_at (enc := enc) (C := Tryd.checked) (os := os) (X := fun w _ => laidMetH Tryd.prog treeRolesL w) false (treeRolesW os) #[.slice none 0 0] 8 (treeRolesW_os _) (by kernel_rfl) (by kernel_rfl) (by kernel_rfl) (by kernel_rfl) (by kernel_rfl) (treeRolesW_met os _)) ?_
  intro W base args ds gs before hval0 hW _ _ hL hS _
  have hval : ∀ (j : Nat) t v, Tryd.f4.params[j]? = some t → args[j]? = some v → Value.okWide Tryd.prog W .any base t v := hval0
  have hW' := hW
  obtain ⟨p, q, hA0, hV, rfl, hfz, hnd⟩ := hW
  have hA : DataW.TrodAll enc Tryd.prog W 0 (fun _ => true) true Tryd.f4.params.toList args.toList ds p := hA0
  rw [Tryd.params4] at hA hval
  obtain ⟨v0, d0, rfl, rfl, h0⟩ := trodAll_one hA
  obtain ⟨rfl, rfl⟩ := trodVars_none hV
  obtain ⟨cs, hcs, hagg, hone⟩ := open_arg 8 (show shOf Tryd.prog 8 22 = some (.slice 9 (.fld 8 (.fld 1 (.int .i64) (.fld 1 (.int .i64) (.fld 6 (Sh.rep (.int .u8) 1 6) .fin))) (.fld 1 (.slice 4 (.fld 2 (.fld 1 (.int .i64) (.fld 1 (.int .i64) .fin)) (.fld 1 (.int .i64) (.fld 1 (.int .i64) .fin)))) .fin))) from by kernel_rfl) (hval 0 22 v0 rfl rfl) h0
  obtain ⟨x0, rfl, k0⟩ := sliceV_of NodeV.cells (fun _ => rfl) (by decide) (NodeV.ok (gOf W)) (fun c _ hc => node_of c hc) hcs
  cases hone (by kernel_rfl)
  refine law_calls (P := Tryd.prog) [.v (.slice x0.a x0.l.length x0.c)] (by kernel_rfl) rfl hW' rfl rfl ?_
  exact treeRoles_c x0 (gOf W) k0 (treeRoles_err hL)

theorem treeRoles_inPlace : Tryd.prog.inPlace 4 = Rows.treeRolesRow.inPlace := by kernel_rfl
theorem treeRoles_unfollowed : Tryd.prog.unfollowed 4 = Rows.treeRolesRow.unfollowed := by kernel_rfl
theorem treeRoles_recurses : Tryd.prog.recurses 4 = Rows.treeRolesRow.recurses := by kernel_rfl
theorem treeRoles_named : Tryd.prog.varsNamed 4 = Rows.treeRolesRow.named := by kernel_rfl
theorem treeRoles_facts : joinedFacts Tryd.prog 4 Tryd.f4 Rows.treeRolesSpec Rows.treeRolesRow = true := by
  unfold joinedFacts
  rw [fact_laid, fact_rowed, fact_heard, fact_enter, fact_lifted, fact_make, fact_plain, treeRoles_inPlace, treeRoles_unfollowed, treeRoles_recurses, treeRoles_named]
  kernel_rfl

theorem treeRoles_row : Rows.TreeRolesSaid :=
  OpenClaim.holds_of_wide 4 Tryd.f4 rfl rfl rfl rfl rfl rfl rfl ⟨rfl, rfl, rfl, rfl, rfl⟩ rfl rfl rfl rfl rfl (by kernel_rfl) Tryd.func4 treeRoles_facts
    (of_decide_eq_true (by kernel_rfl)) (by unfold Func.isWrapper; first | (rw [if_pos (by decide +kernel)]; kernel_rfl) | (rw [if_neg (by decide +kernel)]; exact ⟨rfl, rfl⟩))
    (fun os started H enc _ => treeRoles_lifted os started H enc)

theorem treeRoles_holds : Rows.TreeRolesCardSaid :=
  Claim7.holds_tied_plain_at .later [] [.handle] true (true, "31e50bf90624d4bab67917e031a2c1c4b1208e73a0d98953b88aeed802c5f893") true
    treeRoles_row (fun _ h => by cases h) (by kernel_rfl) (fun _ h => by cases h) treeRoles_row_tie rfl ⟨rfl, rfl⟩ (by kernel_rfl) rfl
    (fun f fn hf hfn => by
      obtain rfl : f = 4 := Option.some.inj ((show Tryd.prog.funcNamed "switchyard/switchyardlaw.TreeRoles" = some 4 by kernel_rfl).symm.trans hf) |>.symm
      obtain rfl : fn = Tryd.f4 := (Option.some.inj (Tryd.func4.symm.trans hfn)).symm
      exact ⟨by kernel_rfl, fun j t ht => by
        have key : t ∈ Tryd.f4.params.toList := by
          have := List.mem_of_getElem? (show Tryd.f4.params.toList[j]? = some t by simpa using ht)
          exact this
        rw [show Tryd.f4.params = #[22] from Tryd.params4] at key
        simp only [List.mem_cons, List.not_mem_nil, or_false] at key
        rcases key with rfl
        · exact (show Tryd.prog.wantsStandIn 22 = false by kernel_rfl)⟩)
    (by kernel_rfl)

end Go.Proofs.YtedfohdgigbhiaaDoor
