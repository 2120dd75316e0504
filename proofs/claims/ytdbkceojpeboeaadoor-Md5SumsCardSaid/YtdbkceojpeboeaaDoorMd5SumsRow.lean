/- The card of the law Md5Sums: it returns true for all arguments, and leaves them as they were. Conditions: the variables that the row lists are as the program's text lays it. -/
import Derived.Test.YtdbkceojpeboeaaDoorMdG
import Derived.SizedLaws
import Derived.ChangeMaps5
import Derived.Test.YtdbkceojpeboeaaDoorRowX
import Derived.LaidSub
import Derived.LaidMore
import Derived.Lay
import Derived.LaidOnce
import Derived.MakeChecks
import Derived.Test.YtdbkceojpeboeaaDoorTie
import Derived.Test.YtdbkceojpeboeaaDoorCards
import Derived.Test.YtdbkceojpeboeaaDoorFacts
import Derived.SevenTiedAt
namespace Go.Proofs.YtdbkceojpeboeaaDoor
open Go.Sx Go.ChangeShapes Go.WideShapes Go.ChangeAt Go.RowKit
set_option maxRecDepth 100000

abbrev md5SumsL : List (String × DataW Unit) := [("math/bits.deBruijn32tab", Rows.laid_math_bits_deBruijn32tab), ("math/bits.deBruijn64tab", Rows.laid_math_bits_deBruijn64tab), ("internal/strconv.uint64pow10", Rows.laid_internal_strconv_uint64pow10), ("strconv.ErrRange", Rows.laid_strconv_ErrRange), ("strconv.ErrSyntax", Rows.laid_strconv_ErrSyntax)]
abbrev md5SumsD : List (String × DataW Unit) := [("math/bits.deBruijn32tab", Rows.laid_math_bits_deBruijn32tab), ("math/bits.deBruijn64tab", Rows.laid_math_bits_deBruijn64tab), ("internal/strconv.uint64pow10", Rows.laid_internal_strconv_uint64pow10), ("strconv.ErrRange", Rows.laid_strconv_ErrRange), ("strconv.ErrSyntax", Rows.laid_strconv_ErrSyntax)]
noncomputable def md5SumsW0 (os : Os) : World := World.holding Tryd.prog os ⟨#[], #[], []⟩
noncomputable def md5SumsW (os : Os) : World := (md5SumsW0 os).layVars Tryd.prog md5SumsD
theorem md5SumsW_os (os : Os) : (md5SumsW os).os = os := World.layVars_os _ _ _
theorem md5SumsW_data (os : Os) : laidMet Tryd.prog md5SumsD (md5SumsW os) := by
  have e1 : (md5SumsD.filter fun x => (md5SumsD.map (·.1)).contains x.1) = md5SumsD := List.filter_eq_self.2 fun x hx => List.contains_iff_mem.2 (List.mem_map.2 ⟨x, hx, rfl⟩)
  have e2 : (md5SumsD.filter fun x => !(md5SumsD.map (·.1)).contains x.1) = [] := List.filter_eq_nil_iff.2 fun x hx => by rw [List.contains_iff_mem.2 (List.mem_map.2 ⟨x, hx, rfl⟩)]; simp
  exact laidMet_layVars (w0 := md5SumsW0 os) (md5SumsD.map (·.1)) [] (by rw [e1]; rfl) (by rw [e1]; kernel_rfl) (by rw [e1]; kernel_rfl) (by rw [e2]; exact LaidIn.none)
theorem md5SumsW_met (os : Os) (args : Array Value) : laidMetH Tryd.prog md5SumsL ((md5SumsW os).forCall (fun _ _ => 0) ⟨#[], args, []⟩).memory := by
  refine laidMetH_of_parts ?_ (by kernel_rfl)
  have h : laidMet Tryd.prog md5SumsD ((md5SumsW os).forCall (fun _ _ => 0) ⟨#[], args, []⟩).memory := (md5SumsW_data os).of_heap (by simp [World.memory, World.forCall, Input.heap])
  exact Eq.mp (by kernel_rfl) h

theorem md5Sums_lifted (os : Os) (started : os.Started) (H : Type) (enc : TypeId × Value → H) :
    ReturnsInHanded {} Tryd.checked os 3 .any (fun w args => (Rows.md5SumsSpec.pre enc Tryd.prog Tryd.f3 [] false w args ∧ laidMetH Tryd.prog md5SumsL w) ∧ sizedMet enc Tryd.prog Tryd.f3 (OpenSpec.ofChange Rows.md5SumsSpec) false w args)
      (Rows.md5SumsSpec.post enc Tryd.prog Tryd.f3 false true false false) := by
  refine returns_and_shaped (C := Tryd.checked) (X := fun w _ => laidMetH Tryd.prog md5SumsL w) (fun _ _ _ hh h => h.of_heap hh) (show ownKnob Tryd.prog.godebug = none by kernel_rfl) started (by kernel_rfl) Tryd.func3
    (ChangeSpec.witness_at (enc := enc) (C := Tryd.checked) (os := os) (X := fun w _ => laidMetH Tryd.prog md5SumsL w) false (md5SumsW os) #[.string ⟨#[]⟩, .string ⟨#[]⟩] 8 (md5SumsW_os _) (by kernel_rfl) (by kernel_rfl) (by kernel_rfl) (by kernel_rfl) (by kernel_rfl) (md5SumsW_met os _)) ?_
  intro W base args ds gs before hval0 hW _ hZ hL hS _
  have hval : ∀ (j : Nat) t v, Tryd.f3.params[j]? = some t → args[j]? = some v → Value.okWide Tryd.prog W .any base t v := hval0
  have hW' := hW
  obtain ⟨p, q, hA0, hV, rfl, hfz, hnd⟩ := hW
  have hA : DataW.TrodAll enc Tryd.prog W 0 (fun _ => true) true Tryd.f3.params.toList args.toList ds p := hA0
  rw [Tryd.params3] at hA hval hZ
  obtain ⟨v0, v1, d0, d1, p0, p1, rfl, rfl, rfl, h0, h1⟩ := trodAll_two hA
  obtain ⟨rfl, rfl⟩ := trodVars_none hV
  obtain ⟨cs, hcs, hagg, hone⟩ := open_arg 8 (show shOf Tryd.prog 8 9 = some .str from by kernel_rfl) (hval 0 9 v0 rfl rfl) h0
  obtain ⟨x0, rfl, k0⟩ := hcs
  cases hone (by kernel_rfl)
  have z0 : x0.size ≤ 140737488351232 := by
    obtain ⟨y, ey, ed, -, -⟩ := Go.ChangeMaps.open_string Tryd.underlying9 (hval 0 9 _ rfl rfl) h0
    cases ey
    have q := sized_string hZ (j := 0) (t := 9) rfl (show _ = some _ from by rw [ed]; rfl)
    rw [Array.length_toList] at q
    exact q
  obtain ⟨cs, hcs, hagg, hone⟩ := open_arg 8 (show shOf Tryd.prog 8 9 = some .str from by kernel_rfl) (hval 1 9 v1 rfl rfl) h1
  obtain ⟨x1, rfl, k1⟩ := hcs
  cases hone (by kernel_rfl)
  have z1 : x1.size ≤ 140737488351232 := by
    obtain ⟨y, ey, ed, -, -⟩ := Go.ChangeMaps.open_string Tryd.underlying9 (hval 1 9 _ rfl rfl) h1
    cases ey
    have q := sized_string hZ (j := 1) (t := 9) rfl (show _ = some _ from by rw [ed]; rfl)
    rw [Array.length_toList] at q
    exact q
  refine law_calls (P := Tryd.prog) [.v (.string x0), .v (.string x1)] (by kernel_rfl) rfl hW' rfl rfl ?_
  exact md5Sums_c x0 x1 (gOf W) z0 z1 

theorem md5Sums_inPlace : Tryd.prog.inPlace 3 = Rows.md5SumsRow.inPlace := by kernel_rfl
theorem md5Sums_unfollowed : Tryd.prog.unfollowed 3 = Rows.md5SumsRow.unfollowed := by kernel_rfl
theorem md5Sums_recurses : Tryd.prog.recurses 3 = Rows.md5SumsRow.recurses := by kernel_rfl
theorem md5Sums_named : Tryd.prog.varsNamed 3 = Rows.md5SumsRow.named := by kernel_rfl
theorem md5Sums_facts : joinedFacts Tryd.prog 3 Tryd.f3 Rows.md5SumsSpec Rows.md5SumsRow = true := by
  unfold joinedFacts
  rw [fact_laid, fact_rowed, fact_heard, fact_enter, fact_lifted, fact_make, fact_plain, md5Sums_inPlace, md5Sums_unfollowed, md5Sums_recurses, md5Sums_named]
  kernel_rfl

theorem md5Sums_row : Rows.Md5SumsSaid :=
  OpenClaim.holds_of_wide 3 Tryd.f3 rfl rfl rfl rfl rfl rfl rfl ⟨rfl, rfl, rfl, rfl, rfl⟩ rfl rfl rfl rfl rfl (by kernel_rfl) Tryd.func3 md5Sums_facts
    (of_decide_eq_true (by kernel_rfl)) (by unfold Func.isWrapper; first | (rw [if_pos (by decide +kernel)]; kernel_rfl) | (rw [if_neg (by decide +kernel)]; exact ⟨rfl, rfl⟩))
    (fun os started H enc _ => md5Sums_lifted os started H enc)

theorem md5Sums_holds : Rows.Md5SumsCardSaid :=
  Claim7.holds_tied_plain_at .later [] [.data, .data, .data, .sentinel, .sentinel] true (true, "535465cd279bb935b3c29325653d7f560850a77878e878429048745133fd140b") true
    md5Sums_row (fun _ h => by cases h) (by kernel_rfl) (fun _ h => by cases h) md5Sums_row_tie rfl ⟨rfl, rfl⟩ (by kernel_rfl) rfl
    (fun f fn hf hfn => by
      obtain rfl : f = 3 := Option.some.inj ((show Tryd.prog.funcNamed "switchyard/switchyardlaw.Md5Sums" = some 3 by kernel_rfl).symm.trans hf) |>.symm
      obtain rfl : fn = Tryd.f3 := (Option.some.inj (Tryd.func3.symm.trans hfn)).symm
      exact ⟨by kernel_rfl, fun j t ht => by
        have key : t ∈ Tryd.f3.params.toList := by
          have := List.mem_of_getElem? (show Tryd.f3.params.toList[j]? = some t by simpa using ht)
          exact this
        rw [show Tryd.f3.params = #[9, 9] from Tryd.params3] at key
        simp only [List.mem_cons, List.not_mem_nil, or_false] at key
        rcases key with rfl | rfl
        · exact (show Tryd.prog.wantsStandIn 9 = false by kernel_rfl)
        · exact (show Tryd.prog.wantsStandIn 9 = false by kernel_rfl)⟩)
    (by kernel_rfl)

end Go.Proofs.YtdbkceojpeboeaaDoor
