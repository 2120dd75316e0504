/- The card of the law MstpWrites: it returns true for all arguments, and leaves them as they were. Conditions: the variable errors.errorType is as the program's text lays it. -/
import Derived.Test.YtmeoalpmicndbaaDoorMstF
import Derived.Test.YtmeoalpmicndbaaDoorLaid
import Derived.Test.YtmeoalpmicndbaaDoorTie
import Derived.Test.YtmeoalpmicndbaaDoorCards
import Derived.Test.YtmeoalpmicndbaaDoorFacts
import Derived.SevenTiedAt
namespace Go.Proofs.YtmeoalpmicndbaaDoor
open Go.Sx Go.ChangeShapes Go.WideShapes Go.ChangeAt Go.RowKit
set_option maxRecDepth 100000

theorem mstpWrites_lifted (os : Os) (started : os.Started) (H : Type) (enc : TypeId × Value → H) :
    ReturnsInHanded {} Tryd.checked os 8 .any (fun w args => (Rows.mstpWritesSpec.pre enc Tryd.prog Tryd.f8 [] false w args ∧ laidMetH Tryd.prog [("errors.errorType", Rows.laid_errors_errorType)] w) ∧ sizedMet enc Tryd.prog Tryd.f8 (OpenSpec.ofChange Rows.mstpWritesSpec) false w args)
      (Rows.mstpWritesSpec.post enc Tryd.prog Tryd.f8 false true false false) := by
  refine returnsInHanded_of_change_and (C := Tryd.checked) (X := fun w _ => laidMetH Tryd.prog [("errors.errorType", Rows.laid_errors_errorType)] w) (fun _ _ _ hh h => h.of_heap hh) own0 started (by kernel_rfl) Tryd.func8
    (ChangeSpec.witness_at (enc := enc) (C := Tryd.checked) (os := os) (X := fun w _ => laidMetH Tryd.prog [("errors.errorType", Rows.laid_errors_errorType)] w) false (laidW (World.holding Tryd.prog os ⟨#[], #[], []⟩) (rt 35)) #[.agg #[.int .i64 0, .bool false, .bool false, .int .i64 0, .bool false, .bool false, .bool false, .bool false, .int .i64 0, .int .i64 0, .int .u8 0, .int .u8 0, .int .u8 0, .int .u8 0, .int .u8 0, .int .u8 0, .int .i64 0, .int .i64 0, .int .i64 0, .int .u8 0, .int .u8 0, .int .u8 0, .int .u8 0, .int .u8 0, .int .u8 0, .int .i64 0, .int .i64 0, .int .i64 0, .int .i64 0, .int .i64 0, .int .i64 0, .string ⟨#[]⟩, .int .i64 0, .string ⟨#[]⟩, .int .i64 0, .int .i64 0, .int .i64 0, .int .u8 0, .int .u8 0, .int .u8 0, .int .u8 0, .int .u8 0, .int .u8 0, .int .i64 0, .slice none 0 0]] 8 rfl (by kernel_rfl) (by kernel_rfl) (by kernel_rfl) (by kernel_rfl) (by kernel_rfl) (laidW_met os _)) ?_
  intro W base args ds gs before hval0 hW _ _ hL _
  have hval : ∀ (j : Nat) t v, Tryd.f8.params[j]? = some t → args[j]? = some v → Value.okWide Tryd.prog W .any base t v := hval0
  have hW' := hW
  obtain ⟨p, q, hA0, hV, rfl, hfz, hnd⟩ := hW
  have hA : DataW.TrodAll enc Tryd.prog W 0 (fun _ => true) true Tryd.f8.params.toList args.toList ds p := hA0
  rw [Tryd.params8] at hA hval
  obtain ⟨v0, d0, rfl, rfl, h0⟩ := trodAll_one hA
  obtain ⟨rfl, rfl⟩ := trodVars_none hV
  obtain ⟨cs, hcs, hagg, hone⟩ := open_arg 8 (show shOf Tryd.prog 8 68 = some mstSh from by kernel_rfl) (hval 0 68 v0 rfl rfl) h0
  obtain ⟨x0, rfl, k0⟩ := mst_of cs hcs
  obtain rfl := hagg (by kernel_rfl)
  refine law_calls (P := Tryd.prog) [.agg (x0.cells.map .v)] (by kernel_rfl) rfl hW' rfl rfl ?_
  exact mstpWrites_c x0 (gOf W) k0 (errVar_of_laid hL)

theorem mstpWrites_inPlace : Tryd.prog.inPlace 8 = Rows.mstpWritesRow.inPlace := by kernel_rfl
theorem mstpWrites_unfollowed : Tryd.prog.unfollowed 8 = Rows.mstpWritesRow.unfollowed := by kernel_rfl
theorem mstpWrites_recurses : Tryd.prog.recurses 8 = Rows.mstpWritesRow.recurses := by kernel_rfl
theorem mstpWrites_named : Tryd.prog.varsNamed 8 = Rows.mstpWritesRow.named := by kernel_rfl
theorem mstpWrites_facts : joinedFacts Tryd.prog 8 Tryd.f8 Rows.mstpWritesSpec Rows.mstpWritesRow = true := by
  unfold joinedFacts
  rw [fact_laid, fact_rowed, fact_heard, fact_enter, fact_lifted, fact_make, fact_plain, mstpWrites_inPlace, mstpWrites_unfollowed, mstpWrites_recurses, mstpWrites_named]
  kernel_rfl

theorem mstpWrites_row : Rows.MstpWritesSaid :=
  OpenClaim.holds_of_wide 8 Tryd.f8 rfl rfl rfl rfl rfl rfl rfl ⟨rfl, rfl, rfl, rfl, rfl⟩ rfl rfl rfl rfl rfl (by kernel_rfl) Tryd.func8 mstpWrites_facts
    (of_decide_eq_true (by kernel_rfl)) (by unfold Func.isWrapper; first | (rw [if_pos (by decide +kernel)]; kernel_rfl) | (rw [if_neg (by decide +kernel)]; exact ⟨rfl, rfl⟩))
    (fun os started H enc _ => mstpWrites_lifted os started H enc)

theorem mstpWrites_holds : Rows.MstpWritesCardSaid :=
  Claim7.holds_tied_plain_at .later [] [.handle] true (true, "6fe43efa8b7ddd0fb1b9b2db7afb2ecab2cf60456aa829dbabad7343cad665d5") true
    mstpWrites_row (fun _ h => by cases h) (by kernel_rfl) (fun _ h => by cases h) mstpWrites_row_tie rfl ⟨rfl, rfl⟩ (by kernel_rfl) rfl
    (fun f fn hf hfn => by
      obtain rfl : f = 8 := Option.some.inj ((show Tryd.prog.funcNamed "switchyard/switchyardlaw.MstpWrites" = some 8 by kernel_rfl).symm.trans hf) |>.symm
      obtain rfl : fn = Tryd.f8 := (Option.some.inj (Tryd.func8.symm.trans hfn)).symm
      exact ⟨by kernel_rfl, fun j t ht => by
        have key : t ∈ Tryd.f8.params.toList := by
          have := List.mem_of_getElem? (show Tryd.f8.params.toList[j]? = some t by simpa using ht)
          exact this
        rw [show Tryd.f8.params = #[68] from Tryd.params8] at key
        simp only [List.mem_cons, List.not_mem_nil, or_false] at key
        rcases key with rfl
        · exact (show Tryd.prog.wantsStandIn 68 = false by kernel_rfl)⟩)
    (by kernel_rfl)

end Go.Proofs.YtmeoalpmicndbaaDoor
