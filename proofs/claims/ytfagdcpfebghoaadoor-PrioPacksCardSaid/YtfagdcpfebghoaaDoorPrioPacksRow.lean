/- The card of the law PrioPacks: it returns true for all arguments, and leaves them as they were. Conditions: the variable errors.errorType is as the program's text lays it. -/
import Derived.Test.YtfagdcpfebghoaaDoorPrioWC
import Derived.Test.YtfagdcpfebghoaaDoorLaid
import Derived.Test.YtfagdcpfebghoaaDoorTie
import Derived.Test.YtfagdcpfebghoaaDoorCards
import Derived.SevenTiedAt
namespace Go.Proofs.YtfagdcpfebghoaaDoor
open Go.Sx Go.ChangeShapes Go.WideShapes Go.ChangeAt Go.RowKit
set_option maxRecDepth 100000

theorem prioPacks_lifted (os : Os) (started : os.Started) (H : Type) (enc : TypeId × Value → H) :
    ReturnsInHanded {} Tryd.checked os 6 .any (fun w args => (Rows.prioPacksSpec.pre enc Tryd.prog Tryd.f6 [] false w args ∧ laidMetH Tryd.prog [("errors.errorType", Rows.laid_errors_errorType)] w) ∧ sizedMet enc Tryd.prog Tryd.f6 (OpenSpec.ofChange Rows.prioPacksSpec) false w args)
      (Rows.prioPacksSpec.post enc Tryd.prog Tryd.f6 false true false false) := by
  refine returnsInHanded_of_change_and (C := Tryd.checked) (X := fun w _ => laidMetH Tryd.prog [("errors.errorType", Rows.laid_errors_errorType)] w) (fun _ _ _ hh h => h.of_heap hh) own0 started (by kernel_rfl) Tryd.func6
    (ChangeSpec.witness_at (enc := enc) (C := Tryd.checked) (os := os) (X := fun w _ => laidMetH Tryd.prog [("errors.errorType", Rows.laid_errors_errorType)] w) false (laidW (World.holding Tryd.prog os ⟨#[], #[], []⟩) (rt 28)) #[.agg #[.int .i64 0, .int .i64 0, .int .u8 0, .int .u8 0, .int .u8 0, .int .u8 0, .int .u8 0, .int .u8 0], .agg #[.int .i64 0, .int .i64 0]] 8 rfl (by kernel_rfl) (by kernel_rfl) (by kernel_rfl) (by kernel_rfl) (by kernel_rfl) (laidW_met os _)) ?_
  intro W base args ds gs before hval0 hW _ _ hL _
  have hval : ∀ (j : Nat) t v, Tryd.f6.params[j]? = some t → args[j]? = some v → Value.okWide Tryd.prog W .any base t v := hval0
  have hW' := hW
  obtain ⟨p, q, hA0, hV, rfl, hfz, hnd⟩ := hW
  have hA : DataW.TrodAll enc Tryd.prog W 0 (fun _ => true) true Tryd.f6.params.toList args.toList ds p := hA0
  rw [Tryd.params6] at hA hval
  obtain ⟨v0, v1, d0, d1, p0, p1, rfl, rfl, rfl, h0, h1⟩ := trodAll_two hA
  obtain ⟨rfl, rfl⟩ := trodVars_none hV
  obtain ⟨cs, hcs, hagg, hone⟩ := open_arg 8 (show shOf Tryd.prog 8 58 = some bridgeSh from by kernel_rfl) (hval 0 58 v0 rfl rfl) h0
  obtain ⟨x0, rfl, k0⟩ := bridge_of cs hcs
  obtain rfl := hagg (by kernel_rfl)
  obtain ⟨cs, hcs, hagg, hone⟩ := open_arg 8 (show shOf Tryd.prog 8 60 = some portSh from by kernel_rfl) (hval 1 60 v1 rfl rfl) h1
  obtain ⟨x1, rfl, k1⟩ := port_of cs hcs
  obtain rfl := hagg (by kernel_rfl)
  refine law_calls (P := Tryd.prog) [.agg (x0.cells.map .v), .agg (x1.cells.map .v)] (by kernel_rfl) rfl hW' rfl rfl ?_
  exact prioPacks_c x0 x1 (gOf W) k0 k1 (errVar_of_laid hL)

theorem prioPacks_row : Rows.PrioPacksSaid :=
  OpenClaim.holds_of_wide 6 Tryd.f6 rfl rfl rfl rfl rfl rfl rfl ⟨rfl, rfl, rfl, rfl, rfl⟩ rfl rfl rfl rfl rfl (by kernel_rfl) Tryd.func6 (by kernel_rfl)
    (of_decide_eq_true (by kernel_rfl)) (by unfold Func.isWrapper; first | (rw [if_pos (by decide +kernel)]; kernel_rfl) | (rw [if_neg (by decide +kernel)]; exact ⟨rfl, rfl⟩))
    (fun os started H enc _ => prioPacks_lifted os started H enc)

theorem prioPacks_holds : Rows.PrioPacksCardSaid :=
  Claim7.holds_tied_plain_at .later [] [.handle] true (true, "27911894e07ac81fcc87f1767b05151d74444461e1f040c21f865d731739a137") true
    prioPacks_row (fun _ h => by cases h) (by kernel_rfl) (fun _ h => by cases h) prioPacks_row_tie rfl ⟨rfl, rfl⟩ (by kernel_rfl) rfl
    (fun f fn hf hfn => by
      obtain rfl : f = 6 := Option.some.inj ((show Tryd.prog.funcNamed "switchyard/switchyardlaw.PrioPacks" = some 6 by kernel_rfl).symm.trans hf) |>.symm
      obtain rfl : fn = Tryd.f6 := (Option.some.inj (Tryd.func6.symm.trans hfn)).symm
      exact ⟨by kernel_rfl, fun j t ht => by
        have key : t ∈ Tryd.f6.params.toList := by
          have := List.mem_of_getElem? (show Tryd.f6.params.toList[j]? = some t by simpa using ht)
          exact this
        rw [show Tryd.f6.params = #[58, 60] from Tryd.params6] at key
        simp only [List.mem_cons, List.not_mem_nil, or_false] at key
        rcases key with rfl | rfl
        · exact (show Tryd.prog.wantsStandIn 58 = false by kernel_rfl)
        · exact (show Tryd.prog.wantsStandIn 60 = false by kernel_rfl)⟩)
    (by kernel_rfl)

end Go.Proofs.YtfagdcpfebghoaaDoor
