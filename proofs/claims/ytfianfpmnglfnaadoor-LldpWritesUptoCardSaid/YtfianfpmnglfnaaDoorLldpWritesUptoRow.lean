/- The card of the law LldpWrites: it returns true for all arguments of small bulk, and leaves them as they were. Conditions: the variable errors.errorType is as the program's text lays it. -/
import Derived.Test.YtfianfpmnglfnaaDoorLldpE
import Derived.Test.YtfianfpmnglfnaaDoorUpB
import Derived.Test.YtfianfpmnglfnaaDoorRowU
import Derived.JoinedCond
import Derived.Test.YtfianfpmnglfnaaDoorLaid
import Derived.Test.YtfianfpmnglfnaaDoorTie
import Derived.Test.YtfianfpmnglfnaaDoorCards
import Derived.Test.YtfianfpmnglfnaaDoorFacts
import Derived.SevenTiedAt
namespace Go.Proofs.YtfianfpmnglfnaaDoor
open Go.Sx Go.ChangeShapes Go.WideShapes Go.ChangeAt Go.RowKit
open Go.Proofs.YtfianfpmnglfnaaDoor.Rows (uptoSmall uptoBulkAll uptoBulk)
set_option maxRecDepth 100000

theorem lldpWritesUpto_lifted (os : Os) (started : os.Started) (H : Type) (enc : TypeId × Value → H) :
    ReturnsInHanded {} Tryd.checked os 3 .any (fun w args => ((Rows.OpenSpec.upto Rows.lldpWritesSpec).pre enc Tryd.prog Tryd.f3 [] false w args ∧ laidMetH Tryd.prog [("errors.errorType", Rows.laid_errors_errorType)] w) ∧ sizedMet enc Tryd.prog Tryd.f3 (Rows.OpenSpec.upto Rows.lldpWritesSpec) false w args)
      (Rows.lldpWritesSpec.post enc Tryd.prog Tryd.f3 false true false false) := by
  refine returns_upto (C := Tryd.checked) (X := fun w _ => laidMetH Tryd.prog [("errors.errorType", Rows.laid_errors_errorType)] w) (fun _ _ _ hh h => h.of_heap hh) own0 started (by kernel_rfl) Tryd.func3
    (ChangeSpec.witness_at (enc := enc) (C := Tryd.checked) (os := os) (X := fun w args => laidMetH Tryd.prog [("errors.errorType", Rows.laid_errors_errorType)] w ∧ upMet enc Tryd.prog Tryd.f3 Rows.lldpWritesSpec false w args = true) false (laidW (World.holding Tryd.prog os ⟨#[], #[], []⟩) (rt 35)) #[.agg #[.int .i64 0, .string ⟨#[]⟩, .int .i64 0, .string ⟨#[]⟩, .int .i64 0, .slice none 0 0, .slice none 0 0, .slice none 0 0, .slice none 0 0, .slice none 0 0, .slice none 0 0]] 8 rfl (by kernel_rfl) (by kernel_rfl) (by kernel_rfl) (by kernel_rfl) (by kernel_rfl) ⟨laidW_met os _, by kernel_rfl⟩) ?_
  intro W base args ds gs before hval0 hW hup hL _
  have hval : ∀ (j : Nat) t v, Tryd.f3.params[j]? = some t → args[j]? = some v → Value.okWide Tryd.prog W .any base t v := hval0
  have hW' := hW
  obtain ⟨p, q, hA0, hV, rfl, hfz, hnd⟩ := hW
  have hA : DataW.TrodAll enc Tryd.prog W 0 (fun _ => true) true Tryd.f3.params.toList args.toList ds p := hA0
  rw [Tryd.params3] at hA hval
  obtain ⟨v0, d0, rfl, rfl, h0⟩ := trodAll_one hA
  obtain ⟨rfl, rfl⟩ := trodVars_none hV
  obtain ⟨cs, hcs, hagg, hone⟩ := open_arg 8 (show shOf Tryd.prog 8 29 = some lldpSh from by kernel_rfl) (hval 0 29 v0 rfl rfl) h0
  obtain ⟨x0, rfl, k0⟩ := lldp_of cs hcs
  obtain rfl := hagg (by kernel_rfl)
  obtain ⟨m, hm⟩ := h0
  have hb : uptoBulk d0 ≤ 1048576 := Nat.le_trans (bulk_mem (List.mem_append.2 (.inl (List.mem_singleton.2 rfl)))) (of_decide_eq_true hup)
  have hN : HoldsN 1048576 W lldpSh x0.cells := shOf_N 8 _ _ (by kernel_rfl) m _ _ hm hb
  refine law_calls (P := Tryd.prog) [.agg (x0.cells.map .v)] (by kernel_rfl) rfl hW' rfl rfl ?_
  exact lldpWrites_c x0 (gOf W) k0 (lldp_small k0 hN) (errVar_of_laid hL)

theorem lldpWritesUpto_inPlace : Tryd.prog.inPlace 3 = Rows.lldpWritesUptoRow.inPlace := by kernel_rfl
theorem lldpWritesUpto_unfollowed : Tryd.prog.unfollowed 3 = Rows.lldpWritesUptoRow.unfollowed := by kernel_rfl
theorem lldpWritesUpto_recurses : Tryd.prog.recurses 3 = Rows.lldpWritesUptoRow.recurses := by kernel_rfl
theorem lldpWritesUpto_named : Tryd.prog.varsNamed 3 = Rows.lldpWritesUptoRow.named := by kernel_rfl
theorem lldpWritesUpto_facts : joinedFacts Tryd.prog 3 Tryd.f3 Rows.lldpWritesSpec Rows.lldpWritesUptoRow = true := by
  unfold joinedFacts
  rw [fact_laid, fact_rowed, fact_heard, fact_enter, fact_lifted, fact_make, fact_plain, lldpWritesUpto_inPlace, lldpWritesUpto_unfollowed, lldpWritesUpto_recurses, lldpWritesUpto_named]
  kernel_rfl

theorem lldpWritesUpto_row : Rows.LldpWritesUptoSaid :=
  OpenClaim.holds_of_cond 3 Tryd.f3 rfl rfl rfl rfl rfl rfl rfl ⟨rfl, rfl, rfl, rfl, rfl⟩ rfl rfl rfl rfl rfl (by kernel_rfl) Tryd.func3 lldpWritesUpto_facts
    (of_decide_eq_true (by kernel_rfl)) (by unfold Func.isWrapper; first | (rw [if_pos (by decide +kernel)]; kernel_rfl) | (rw [if_neg (by decide +kernel)]; exact ⟨rfl, rfl⟩))
    (fun os started H enc _ _ => lldpWritesUpto_lifted os started H enc)

theorem lldpWritesUpto_holds : Rows.LldpWritesUptoCardSaid :=
  Claim7.holds_tied_plain_at .later [] [.handle] true (true, "e6a3f1a67bdb414b9378b4ea3fa967ee157d40c446af0ed68627730387f8c963") true
    lldpWritesUpto_row (fun _ h => by cases h) (by kernel_rfl) (fun _ h => by cases h) lldpWritesUpto_row_tie rfl ⟨rfl, rfl⟩ (by kernel_rfl) rfl
    (fun f fn hf hfn => by
      obtain rfl : f = 3 := Option.some.inj ((show Tryd.prog.funcNamed "switchyard/switchyardlaw.LldpWrites" = some 3 by kernel_rfl).symm.trans hf) |>.symm
      obtain rfl : fn = Tryd.f3 := (Option.some.inj (Tryd.func3.symm.trans hfn)).symm
      exact ⟨by kernel_rfl, fun j t ht => by
        have key : t ∈ Tryd.f3.params.toList := by
          have := List.mem_of_getElem? (show Tryd.f3.params.toList[j]? = some t by simpa using ht)
          exact this
        rw [show Tryd.f3.params = #[29] from Tryd.params3] at key
        simp only [List.mem_cons, List.not_mem_nil, or_false] at key
        rcases key with rfl
        · exact (show Tryd.prog.wantsStandIn 29 = false by kernel_rfl)⟩)
    (by kernel_rfl)

end Go.Proofs.YtfianfpmnglfnaaDoor
