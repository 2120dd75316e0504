/- The card of the law WireReads: it returns true for all arguments, and leaves them as they were. Conditions: the variables that the row lists are as the program's text lays it. -/
import Derived.Test.YthajjbcnemdacaaDoorWrD
import Derived.Test.YthajjbcnemdacaaDoorLaid
import Derived.Test.YthajjbcnemdacaaDoorRowX
import Derived.LaidSub
import Derived.LaidMore
import Derived.Lay
import Derived.LaidOnce
import Derived.MakeChecks
import Derived.Test.YthajjbcnemdacaaDoorTie
import Derived.Test.YthajjbcnemdacaaDoorCards
import Derived.Test.YthajjbcnemdacaaDoorFacts
import Derived.SevenTiedAt
namespace Go.Proofs.YthajjbcnemdacaaDoor
open Go.Sx Go.ChangeShapes Go.WideShapes Go.ChangeAt Go.RowKit
set_option maxRecDepth 100000

abbrev wireReadsL : List (String × DataW Unit) := [("math/bits.deBruijn32tab", Rows.laid_math_bits_deBruijn32tab), ("math/bits.deBruijn64tab", Rows.laid_math_bits_deBruijn64tab), ("internal/strconv.uint64pow10", Rows.laid_internal_strconv_uint64pow10), ("errors.errorType", Rows.laid_errors_errorType)]
abbrev wireReadsD : List (String × DataW Unit) := [("math/bits.deBruijn32tab", Rows.laid_math_bits_deBruijn32tab), ("math/bits.deBruijn64tab", Rows.laid_math_bits_deBruijn64tab), ("internal/strconv.uint64pow10", Rows.laid_internal_strconv_uint64pow10)]
theorem wireReads_err {W : World} (h : laidMetH Tryd.prog wireReadsL W) : ErrVar (gOf W) := by
  have h := h.filter fun x => x.1 == "errors.errorType"
  have h : laidMetH Tryd.prog [("errors.errorType", Rows.laid_errors_errorType)] W := Eq.mp (by kernel_rfl) h
  exact errVar_of_laid h
theorem wireReads_tab {W : World} (h : laidMetH Tryd.prog wireReadsL W) : TabVar (gOf W) := by
  have h := h.filter fun x => x.1 == "internal/strconv.uint64pow10"
  have h : laidMetH Tryd.prog [("internal/strconv.uint64pow10", Lib.tabData .u64 Lib.pow10Tab)] W := Eq.mp (by kernel_rfl) h
  rw [MakeChecks.laidMetH_plain _ _ _ (by kernel_rfl)] at h
  have hgn : Tryd.prog.globalNamed "internal/strconv.uint64pow10" = some 1 := by kernel_rfl
  have ht : Lib.TabIs Tryd.prog W "internal/strconv.uint64pow10" .u64 Lib.pow10Tab := Lib.tabIs_of_head hgn (by kernel_rfl) Tryd.underlying154 Tryd.underlying67 (by kernel_rfl) (by kernel_rfl) h
  intro w him
  unfold Lib.TabIs World.var? at ht ⊢
  rw [hgn] at ht ⊢
  simp only [Option.bind_some] at ht ⊢
  cases hW : W.heap[1]? with
  | none => rw [hW] at ht; cases ht
  | some o => rw [him 1 o hW]; rw [hW] at ht; exact ht
noncomputable def wireReadsW0 (os : Os) : World := laidW (World.holding Tryd.prog os ⟨#[], #[], []⟩) (rt 26)
noncomputable def wireReadsW (os : Os) : World := (wireReadsW0 os).layVars Tryd.prog wireReadsD
theorem wireReadsW_os (os : Os) : (wireReadsW os).os = os := World.layVars_os _ _ _
theorem wireReadsW_data (os : Os) : laidMet Tryd.prog wireReadsD (wireReadsW os) := by
  have e1 : (wireReadsD.filter fun x => (wireReadsD.map (·.1)).contains x.1) = wireReadsD := List.filter_eq_self.2 fun x hx => List.contains_iff_mem.2 (List.mem_map.2 ⟨x, hx, rfl⟩)
  have e2 : (wireReadsD.filter fun x => !(wireReadsD.map (·.1)).contains x.1) = [] := List.filter_eq_nil_iff.2 fun x hx => by rw [List.contains_iff_mem.2 (List.mem_map.2 ⟨x, hx, rfl⟩)]; simp
  exact laidMet_layVars (w0 := wireReadsW0 os) (wireReadsD.map (·.1)) [] (by rw [e1]; rfl) (by rw [e1]; kernel_rfl) (by rw [e1]; kernel_rfl) (by rw [e2]; exact LaidIn.none)
theorem wireReadsW_met (os : Os) (args : Array Value) : laidMetH Tryd.prog wireReadsL ((wireReadsW os).forCall (fun _ _ => 0) ⟨#[], args, []⟩).memory := by
  refine laidMetH_of_parts ?_ (by kernel_rfl)
  have h : laidMet Tryd.prog wireReadsD ((wireReadsW os).forCall (fun _ _ => 0) ⟨#[], args, []⟩).memory := (wireReadsW_data os).of_heap (by simp [World.memory, World.forCall, Input.heap])
  exact Eq.mp (by kernel_rfl) h

theorem wireReads_lifted (os : Os) (started : os.Started) (H : Type) (enc : TypeId × Value → H) :
    ReturnsInHanded {} Tryd.checked os 6 .any (fun w args => (Rows.wireReadsSpec.pre enc Tryd.prog Tryd.f6 [] false w args ∧ laidMetH Tryd.prog wireReadsL w) ∧ sizedMet enc Tryd.prog Tryd.f6 (OpenSpec.ofChange Rows.wireReadsSpec) false w args)
      (Rows.wireReadsSpec.post enc Tryd.prog Tryd.f6 false true false false) := by
  refine returns_and_shaped (C := Tryd.checked) (X := fun w _ => laidMetH Tryd.prog wireReadsL w) (fun _ _ _ hh h => h.of_heap hh) own0 started (by kernel_rfl) Tryd.func6
    (ChangeSpec.witness_at (enc := enc) (C := Tryd.checked) (os := os) (X := fun w _ => laidMetH Tryd.prog wireReadsL w) false (wireReadsW os) #[.string ⟨#[]⟩, .int .i64 0, .slice none 0 0] 8 (wireReadsW_os _) (by kernel_rfl) (by kernel_rfl) (by kernel_rfl) (by kernel_rfl) (by kernel_rfl) (wireReadsW_met os _)) ?_
  intro W base args ds gs before hval0 hW _ _ hL hS _
  have hval : ∀ (j : Nat) t v, Tryd.f6.params[j]? = some t → args[j]? = some v → Value.okWide Tryd.prog W .any base t v := hval0
  have hW' := hW
  obtain ⟨p, q, hA0, hV, rfl, hfz, hnd⟩ := hW
  have hA : DataW.TrodAll enc Tryd.prog W 0 (fun _ => true) true Tryd.f6.params.toList args.toList ds p := hA0
  rw [Tryd.params6] at hA hval
  obtain ⟨v0, v1, v2, d0, d1, d2, p0, p1, p2, rfl, rfl, rfl, h0, h1, h2⟩ := trodAll_three hA
  obtain ⟨rfl, rfl⟩ := trodVars_none hV
  obtain ⟨cs, hcs, hagg, hone⟩ := open_arg 8 (show shOf Tryd.prog 8 9 = some .str from by kernel_rfl) (hval 0 9 v0 rfl rfl) h0
  obtain ⟨x0, rfl, k0⟩ := hcs
  cases hone (by kernel_rfl)
  obtain ⟨cs, hcs, hagg, hone⟩ := open_arg 8 (show shOf Tryd.prog 8 3 = some (.int .i64) from by kernel_rfl) (hval 1 3 v1 rfl rfl) h1
  obtain ⟨x1, rfl, k1⟩ := hcs
  cases hone (by kernel_rfl)
  obtain ⟨cs, hcs, hagg, hone⟩ := open_arg 8 (show shOf Tryd.prog 8 40 = some (.slice 2 (.fld 1 (.int .i64) (.fld 1 (.int .i64) .fin))) from by kernel_rfl) (hval 2 40 v2 rfl rfl) h2
  obtain ⟨x2, rfl, k2⟩ := sliceV_of ReadV.cells (fun _ => rfl) (by decide) (ReadV.ok (gOf W)) (fun c _ hc => read_of c hc) hcs
  cases hone (by kernel_rfl)
  refine law_calls (P := Tryd.prog) [.v (.string x0), .v (.int .i64 x1), .v (.slice x2.a x2.l.length x2.c)] (by kernel_rfl) rfl hW' rfl rfl ?_
  exact wireReads_c x0 x1 x2 (gOf W) k0 (iok_of k1) k2 (wireReads_tab hL) (wireReads_err hL)

theorem wireReads_inPlace : Tryd.prog.inPlace 6 = Rows.wireReadsRow.inPlace := by kernel_rfl
theorem wireReads_unfollowed : Tryd.prog.unfollowed 6 = Rows.wireReadsRow.unfollowed := by kernel_rfl
theorem wireReads_recurses : Tryd.prog.recurses 6 = Rows.wireReadsRow.recurses := by kernel_rfl
theorem wireReads_named : Tryd.prog.varsNamed 6 = Rows.wireReadsRow.named := by kernel_rfl
theorem wireReads_facts : joinedFacts Tryd.prog 6 Tryd.f6 Rows.wireReadsSpec Rows.wireReadsRow = true := by
  unfold joinedFacts
  rw [fact_laid, fact_rowed, fact_heard, fact_enter, fact_lifted, fact_make, fact_plain, wireReads_inPlace, wireReads_unfollowed, wireReads_recurses, wireReads_named]
  kernel_rfl

theorem wireReads_row : Rows.WireReadsSaid :=
  OpenClaim.holds_of_wide 6 Tryd.f6 rfl rfl rfl rfl rfl rfl rfl ⟨rfl, rfl, rfl, rfl, rfl⟩ rfl rfl rfl rfl rfl (by kernel_rfl) Tryd.func6 wireReads_facts
    (of_decide_eq_true (by kernel_rfl)) (by unfold Func.isWrapper; first | (rw [if_pos (by decide +kernel)]; kernel_rfl) | (rw [if_neg (by decide +kernel)]; exact ⟨rfl, rfl⟩))
    (fun os started H enc _ => wireReads_lifted os started H enc)

theorem wireReads_holds : Rows.WireReadsCardSaid :=
  Claim7.holds_tied_plain_at .later [] [.data, .data, .data, .handle] true (true, "b12dac1cf7e42b3cb94e57eaa1aa5d32084a36a4e26eadad5299e48973e35477") true
    wireReads_row (fun _ h => by cases h) (by kernel_rfl) (fun _ h => by cases h) wireReads_row_tie rfl ⟨rfl, rfl⟩ (by kernel_rfl) rfl
    (fun f fn hf hfn => by
      obtain rfl : f = 6 := Option.some.inj ((show Tryd.prog.funcNamed "switchyard/switchyardlaw.WireReads" = some 6 by kernel_rfl).symm.trans hf) |>.symm
      obtain rfl : fn = Tryd.f6 := (Option.some.inj (Tryd.func6.symm.trans hfn)).symm
      exact ⟨by kernel_rfl, fun j t ht => by
        have key : t ∈ Tryd.f6.params.toList := by
          have := List.mem_of_getElem? (show Tryd.f6.params.toList[j]? = some t by simpa using ht)
          exact this
        rw [show Tryd.f6.params = #[9, 3, 40] from Tryd.params6] at key
        simp only [List.mem_cons, List.not_mem_nil, or_false] at key
        rcases key with rfl | rfl | rfl
        · exact (show Tryd.prog.wantsStandIn 9 = false by kernel_rfl)
        · exact (show Tryd.prog.wantsStandIn 3 = false by kernel_rfl)
        · exact (show Tryd.prog.wantsStandIn 40 = false by kernel_rfl)⟩)
    (by kernel_rfl)

end Go.Proofs.YthajjbcnemdacaaDoor
