/- The card of the law BridgeRights: it returns true for all arguments, and leaves them as they were. Conditions: the variable errors.errorType is as the program's text lays it. -/
import Derived.Test.YtidbblgahmjakaaDoorBridgeD
import Derived.Test.YtidbblgahmjakaaDoorLaid
import Derived.Test.YtidbblgahmjakaaDoorTie
import Derived.Test.YtidbblgahmjakaaDoorCards
import Derived.SevenTiedAt
namespace Go.Proofs.YtidbblgahmjakaaDoor
open Go.Sx Go.ChangeShapes Go.WideShapes Go.ChangeAt Go.RowKit
set_option maxRecDepth 100000

theorem bridgeRights_lifted (os : Os) (started : os.Started) (H : Type) (enc : TypeId × Value → H) :
    ReturnsInHanded {} Tryd.checked os 5 .any (fun w args => (Rows.bridgeRightsSpec.pre enc Tryd.prog Tryd.f5 [] false w args ∧ laidMetH Tryd.prog [("errors.errorType", Rows.laid_errors_errorType)] w) ∧ sizedMet enc Tryd.prog Tryd.f5 (OpenSpec.ofChange Rows.bridgeRightsSpec) false w args)
      (Rows.bridgeRightsSpec.post enc Tryd.prog Tryd.f5 false true false false) := by
  refine returnsInHanded_of_change_and (C := Tryd.checked) (X := fun w _ => laidMetH Tryd.prog [("errors.errorType", Rows.laid_errors_errorType)] w) (fun _ _ _ hh h => h.of_heap hh) own0 started (by kernel_rfl) Tryd.func5
    (ChangeSpec.witness_at (enc := enc) (C := Tryd.checked) (os := os) (X := fun w _ => laidMetH Tryd.prog [("errors.errorType", Rows.laid_errors_errorType)] w) false (laidW (World.holding Tryd.prog os ⟨#[], #[], []⟩) (rt 33)) #[.slice none 0 0, .int .i64 0] 8 rfl (by kernel_rfl) (by kernel_rfl) (by kernel_rfl) (by kernel_rfl) (by kernel_rfl) (laidW_met os _)) ?_
  intro W base args ds gs before hval0 hW _ _ hL _
  have hval : ∀ (j : Nat) t v, Tryd.f5.params[j]? = some t → args[j]? = some v → Value.okWide Tryd.prog W .any base t v := hval0
  have hW' := hW
  obtain ⟨p, q, hA0, hV, rfl, hfz, hnd⟩ := hW
  have hA : DataW.TrodAll enc Tryd.prog W 0 (fun _ => true) true Tryd.f5.params.toList args.toList ds p := hA0
  rw [Tryd.params5] at hA hval
  obtain ⟨v0, v1, d0, d1, p0, p1, rfl, rfl, rfl, h0, h1⟩ := trodAll_two hA
  obtain ⟨rfl, rfl⟩ := trodVars_none hV
  obtain ⟨cs, hcs, hagg, hone⟩ := open_arg 8 (show shOf Tryd.prog 8 45 = some (.slice 4 (.fld 1 (.int .i64) (.fld 1 (.slice 1 (.int .i64)) (.fld 1 (.slice 1 (.int .i64)) (.fld 1 (.int .i64) .fin))))) from by kernel_rfl) (hval 0 45 v0 rfl rfl) h0
  obtain ⟨x0, rfl, k0⟩ := sliceV_of PortSetV.cells (fun _ => rfl) (by decide) (PortSetV.ok (gOf W)) (fun c _ hc => portSet_of c hc) hcs
  cases hone (by kernel_rfl)
  obtain ⟨cs, hcs, hagg, hone⟩ := open_arg 8 (show shOf Tryd.prog 8 3 = some (.int .i64) from by kernel_rfl) (hval 1 3 v1 rfl rfl) h1
  obtain ⟨x1, rfl, k1⟩ := hcs
  cases hone (by kernel_rfl)
  refine law_calls (P := Tryd.prog) [.v (.slice x0.a x0.l.length x0.c), .v (.int .i64 x1)] (by kernel_rfl) rfl hW' rfl rfl ?_
  exact bridgeRights_c x0 x1 (gOf W) k0 (iok_of k1) (errVar_of_laid hL)

theorem bridgeRights_row : Rows.BridgeRightsSaid :=
  OpenClaim.holds_of_wide 5 Tryd.f5 rfl rfl rfl rfl rfl rfl rfl ⟨rfl, rfl, rfl, rfl, rfl⟩ rfl rfl rfl rfl rfl (by kernel_rfl) Tryd.func5 (by kernel_rfl)
    (of_decide_eq_true (by kernel_rfl)) (by unfold Func.isWrapper; first | (rw [if_pos (by decide +kernel)]; kernel_rfl) | (rw [if_neg (by decide +kernel)]; exact ⟨rfl, rfl⟩))
    (fun os started H enc _ => bridgeRights_lifted os started H enc)

theorem bridgeRights_holds : Rows.BridgeRightsCardSaid :=
  Claim7.holds_tied_plain_at .later [] [.handle] true (true, "8ba5957a69739d35ba8682001bf96cf475d8984433d0a699513358b2364bc9d7") true
    bridgeRights_row (fun _ h => by cases h) (by kernel_rfl) (fun _ h => by cases h) bridgeRights_row_tie rfl ⟨rfl, rfl⟩ (by kernel_rfl) rfl
    (fun f fn hf hfn => by
      obtain rfl : f = 5 := Option.some.inj ((show Tryd.prog.funcNamed "switchyard/switchyardlaw.BridgeRights" = some 5 by kernel_rfl).symm.trans hf) |>.symm
      obtain rfl : fn = Tryd.f5 := (Option.some.inj (Tryd.func5.symm.trans hfn)).symm
      exact ⟨by kernel_rfl, fun j t ht => by
        have key : t ∈ Tryd.f5.params.toList := by
          have := List.mem_of_getElem? (show Tryd.f5.params.toList[j]? = some t by simpa using ht)
          exact this
        rw [show Tryd.f5.params = #[45, 3] from Tryd.params5] at key
        simp only [List.mem_cons, List.not_mem_nil, or_false] at key
        rcases key with rfl | rfl
        · exact (show Tryd.prog.wantsStandIn 45 = false by kernel_rfl)
        · exact (show Tryd.prog.wantsStandIn 3 = false by kernel_rfl)⟩)
    (by kernel_rfl)

end Go.Proofs.YtidbblgahmjakaaDoor
