/- The card of the law RegionRights: it returns true for all arguments, and leaves them as they were. Conditions: the variable errors.errorType is as the program's text lays it. -/
import Derived.Test.YtfagdcpfebghoaaDoorSpanM
import Derived.Test.YtfagdcpfebghoaaDoorLaid
import Derived.Test.YtfagdcpfebghoaaDoorTie
import Derived.Test.YtfagdcpfebghoaaDoorCards
import Derived.SevenTiedAt
namespace Go.Proofs.YtfagdcpfebghoaaDoor
open Go.Sx Go.ChangeShapes Go.WideShapes Go.ChangeAt Go.RowKit
set_option maxRecDepth 100000

theorem regionRights_lifted (os : Os) (started : os.Started) (H : Type) (enc : TypeId × Value → H) :
    ReturnsInHanded {} Tryd.checked os 7 .any (fun w args => (Rows.regionRightsSpec.pre enc Tryd.prog Tryd.f7 [] false w args ∧ laidMetH Tryd.prog [("errors.errorType", Rows.laid_errors_errorType)] w) ∧ sizedMet enc Tryd.prog Tryd.f7 (OpenSpec.ofChange Rows.regionRightsSpec) false w args)
      (Rows.regionRightsSpec.post enc Tryd.prog Tryd.f7 false true false false) := by
  refine returnsInHanded_of_change_and (C := Tryd.checked) (X := fun w _ => laidMetH Tryd.prog [("errors.errorType", Rows.laid_errors_errorType)] w) (fun _ _ _ hh h => h.of_heap hh) own0 started (by kernel_rfl) Tryd.func7
    (ChangeSpec.witness_at (enc := enc) (C := Tryd.checked) (os := os) (X := fun w _ => laidMetH Tryd.prog [("errors.errorType", Rows.laid_errors_errorType)] w) false (laidW (World.holding Tryd.prog os ⟨#[], #[], []⟩) (rt 28)) #[.slice none 0 0, .int .i64 0] 8 rfl (by kernel_rfl) (by kernel_rfl) (by kernel_rfl) (by kernel_rfl) (by kernel_rfl) (laidW_met os _)) ?_
  intro W base args ds gs before hval0 hW _ _ hL _
  have hval : ∀ (j : Nat) t v, Tryd.f7.params[j]? = some t → args[j]? = some v → Value.okWide Tryd.prog W .any base t v := hval0
  have hW' := hW
  obtain ⟨p, q, hA0, hV, rfl, hfz, hnd⟩ := hW
  have hA : DataW.TrodAll enc Tryd.prog W 0 (fun _ => true) true Tryd.f7.params.toList args.toList ds p := hA0
  rw [Tryd.params7] at hA hval
  obtain ⟨v0, v1, d0, d1, p0, p1, rfl, rfl, rfl, h0, h1⟩ := trodAll_two hA
  obtain ⟨rfl, rfl⟩ := trodVars_none hV
  obtain ⟨cs, hcs, hagg, hone⟩ := open_arg 8 (show shOf Tryd.prog 8 68 = some (.slice 3 (.fld 1 (.int .i64) (.fld 1 (.int .i64) (.fld 1 (.int .i64) .fin)))) from by kernel_rfl) (hval 0 68 v0 rfl rfl) h0
  obtain ⟨x0, rfl, k0⟩ := sliceV_of SpanV.cells (fun _ => rfl) (by decide) (SpanV.ok (gOf W)) (fun c _ hc => span_of c hc) hcs
  cases hone (by kernel_rfl)
  obtain ⟨cs, hcs, hagg, hone⟩ := open_arg 8 (show shOf Tryd.prog 8 3 = some (.int .i64) from by kernel_rfl) (hval 1 3 v1 rfl rfl) h1
  obtain ⟨x1, rfl, k1⟩ := hcs
  cases hone (by kernel_rfl)
  refine law_calls (P := Tryd.prog) [.v (.slice x0.a x0.l.length x0.c), .v (.int .i64 x1)] (by kernel_rfl) rfl hW' rfl rfl ?_
  exact regionRights_c x0 x1 (gOf W) k0 (iok_of k1) (errVar_of_laid hL)

theorem regionRights_row : Rows.RegionRightsSaid :=
  OpenClaim.holds_of_wide 7 Tryd.f7 rfl rfl rfl rfl rfl rfl rfl ⟨rfl, rfl, rfl, rfl, rfl⟩ rfl rfl rfl rfl rfl (by kernel_rfl) Tryd.func7 (by kernel_rfl)
    (of_decide_eq_true (by kernel_rfl)) (by unfold Func.isWrapper; first | (rw [if_pos (by decide +kernel)]; kernel_rfl) | (rw [if_neg (by decide +kernel)]; exact ⟨rfl, rfl⟩))
    (fun os started H enc _ => regionRights_lifted os started H enc)

theorem regionRights_holds : Rows.RegionRightsCardSaid :=
  Claim7.holds_tied_plain_at .later [] [.handle] true (true, "27911894e07ac81fcc87f1767b05151d74444461e1f040c21f865d731739a137") true
    regionRights_row (fun _ h => by cases h) (by kernel_rfl) (fun _ h => by cases h) regionRights_row_tie rfl ⟨rfl, rfl⟩ (by kernel_rfl) rfl
    (fun f fn hf hfn => by
      obtain rfl : f = 7 := Option.some.inj ((show Tryd.prog.funcNamed "switchyard/switchyardlaw.RegionRights" = some 7 by kernel_rfl).symm.trans hf) |>.symm
      obtain rfl : fn = Tryd.f7 := (Option.some.inj (Tryd.func7.symm.trans hfn)).symm
      exact ⟨by kernel_rfl, fun j t ht => by
        have key : t ∈ Tryd.f7.params.toList := by
          have := List.mem_of_getElem? (show Tryd.f7.params.toList[j]? = some t by simpa using ht)
          exact this
        rw [show Tryd.f7.params = #[68, 3] from Tryd.params7] at key
        simp only [List.mem_cons, List.not_mem_nil, or_false] at key
        rcases key with rfl | rfl
        · exact (show Tryd.prog.wantsStandIn 68 = false by kernel_rfl)
        · exact (show Tryd.prog.wantsStandIn 3 = false by kernel_rfl)⟩)
    (by kernel_rfl)

end Go.Proofs.YtfagdcpfebghoaaDoor
