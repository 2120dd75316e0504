/- The card of the law TreeChecks: it returns true for all arguments, and leaves them as they were. Conditions: the variable errors.errorType is as the program's text lays it. -/
import Derived.Test.YtdfpbmchkfmfdaaDoorTreeKD
import Derived.Test.YtdfpbmchkfmfdaaDoorLaid
import Derived.Test.YtdfpbmchkfmfdaaDoorTie
import Derived.Test.YtdfpbmchkfmfdaaDoorCards
import Derived.Test.YtdfpbmchkfmfdaaDoorFacts
import Derived.SevenTiedAt
namespace Go.Proofs.YtdfpbmchkfmfdaaDoor
open Go.Sx Go.ChangeShapes Go.WideShapes Go.ChangeAt Go.RowKit
set_option maxRecDepth 100000

theorem treeChecks_lifted (os : Os) (started : os.Started) (H : Type) (enc : TypeId × Value → H) :
    ReturnsInHanded {} Tryd.checked os 3 .any (fun w args => (Rows.treeChecksSpec.pre enc Tryd.prog Tryd.f3 [] false w args ∧ laidMetH Tryd.prog [("errors.errorType", Rows.laid_errors_errorType)] w) ∧ sizedMet enc Tryd.prog Tryd.f3 (OpenSpec.ofChange Rows.treeChecksSpec) false w args)
      (Rows.treeChecksSpec.post enc Tryd.prog Tryd.f3 false true false false) := by
  refine returnsInHanded_of_change_and (C := Tryd.checked) (X := fun w _ => laidMetH Tryd.prog [("errors.errorType", Rows.laid_errors_errorType)] w) (fun _ _ _ hh h => h.of_heap hh) own0 started (by kernel_rfl) Tryd.func3
    (ChangeSpec.witness_at (enc := enc) (C := Tryd.checked) (os := os) (X := fun w _ => laidMetH Tryd.prog [("errors.errorType", Rows.laid_errors_errorType)] w) false (laidW (World.holding Tryd.prog os ⟨#[], #[], []⟩) (rt 25)) #[.slice none 0 0] 8 rfl (by kernel_rfl) (by kernel_rfl) (by kernel_rfl) (by kernel_rfl) (by kernel_rfl) (laidW_met os _)) ?_
  intro W base args ds gs before hval0 hW _ _ hL _
  have hval : ∀ (j : Nat) t v, Tryd.f3.params[j]? = some t → args[j]? = some v → Value.okWide Tryd.prog W .any base t v := hval0
  have hW' := hW
  obtain ⟨p, q, hA0, hV, rfl, hfz, hnd⟩ := hW
  have hA : DataW.TrodAll enc Tryd.prog W 0 (fun _ => true) true Tryd.f3.params.toList args.toList ds p := hA0
  rw [Tryd.params3] at hA hval
  obtain ⟨v0, d0, rfl, rfl, h0⟩ := trodAll_one hA
  obtain ⟨rfl, rfl⟩ := trodVars_none hV
  obtain ⟨cs, hcs, hagg, hone⟩ := open_arg 8 (show shOf Tryd.prog 8 22 = some (.slice 9 (.fld 8 (.fld 1 (.int .i64) (.fld 1 (.int .i64) (.fld 6 (Sh.rep (.int .u8) 1 6) .fin))) (.fld 1 (.slice 4 (.fld 2 (.fld 1 (.int .i64) (.fld 1 (.int .i64) .fin)) (.fld 1 (.int .i64) (.fld 1 (.int .i64) .fin)))) .fin))) from by kernel_rfl) (hval 0 22 v0 rfl rfl) h0
  obtain ⟨x0, rfl, k0⟩ := sliceV_of NodeV.cells (fun _ => rfl) (by decide) (NodeV.ok (gOf W)) (fun c _ hc => node_of c hc) hcs
  cases hone (by kernel_rfl)
  refine law_calls (P := Tryd.prog) [.v (.slice x0.a x0.l.length x0.c)] (by kernel_rfl) rfl hW' rfl rfl ?_
  exact treeChecks_c x0 (gOf W) k0 (errVar_of_laid hL)

theorem treeChecks_inPlace : Tryd.prog.inPlace 3 = Rows.treeChecksRow.inPlace := by kernel_rfl
theorem treeChecks_unfollowed : Tryd.prog.unfollowed 3 = Rows.treeChecksRow.unfollowed := by kernel_rfl
theorem treeChecks_recurses : Tryd.prog.recurses 3 = Rows.treeChecksRow.recurses := by kernel_rfl
theorem treeChecks_named : Tryd.prog.varsNamed 3 = Rows.treeChecksRow.named := by kernel_rfl
theorem treeChecks_facts : joinedFacts Tryd.prog 3 Tryd.f3 Rows.treeChecksSpec Rows.treeChecksRow = true := by
  unfold joinedFacts
  rw [fact_laid, fact_rowed, fact_heard, fact_enter, fact_lifted, fact_make, fact_plain, treeChecks_inPlace, treeChecks_unfollowed, treeChecks_recurses, treeChecks_named]
  kernel_rfl

theorem treeChecks_row : Rows.TreeChecksSaid :=
  OpenClaim.holds_of_wide 3 Tryd.f3 rfl rfl rfl rfl rfl rfl rfl ⟨rfl, rfl, rfl, rfl, rfl⟩ rfl rfl rfl rfl rfl (by kernel_rfl) Tryd.func3 treeChecks_facts
    (of_decide_eq_true (by kernel_rfl)) (by unfold Func.isWrapper; first | (rw [if_pos (by decide +kernel)]; kernel_rfl) | (rw [if_neg (by decide +kernel)]; exact ⟨rfl, rfl⟩))
    (fun os started H enc _ => treeChecks_lifted os started H enc)

theorem treeChecks_holds : Rows.TreeChecksCardSaid :=
  Claim7.holds_tied_plain_at .later [] [.handle] true (true, "2b89c8bce08d568fcfa92c5c22064a7aa85b0018f492f940b495737189a5b286") true
    treeChecks_row (fun _ h => by cases h) (by kernel_rfl) (fun _ h => by cases h) treeChecks_row_tie rfl ⟨rfl, rfl⟩ (by kernel_rfl) rfl
    (fun f fn hf hfn => by
      obtain rfl : f = 3 := Option.some.inj ((show Tryd.prog.funcNamed "switchyard/switchyardlaw.TreeChecks" = some 3 by kernel_rfl).symm.trans hf) |>.symm
      obtain rfl : fn = Tryd.f3 := (Option.some.inj (Tryd.func3.symm.trans hfn)).symm
      exact ⟨by kernel_rfl, fun j t ht => by
        have key : t ∈ Tryd.f3.params.toList := by
          have := List.mem_of_getElem? (show Tryd.f3.params.toList[j]? = some t by simpa using ht)
          exact this
        rw [show Tryd.f3.params = #[22] from Tryd.params3] at key
        simp only [List.mem_cons, List.not_mem_nil, or_false] at key
        rcases key with rfl
        · exact (show Tryd.prog.wantsStandIn 22 = false by kernel_rfl)⟩)
    (by kernel_rfl)

end Go.Proofs.YtdfpbmchkfmfdaaDoor
