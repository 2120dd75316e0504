/- The law TagStacks returns true for every slice of tags, and leaves its argument as it was. Conditions: none. -/
import Derived.Test.YtflnpoahceebbaaTagC
import Derived.Test.YtflnpoahceebbaaSx18
import Derived.Test.YtflnpoahceebbaaRows
namespace Go.Proofs.Ytflnpoahceebbaa
open Go.Sx Go.ChangeShapes Go.WideShapes Go.ChangeAt Go.RowKit
set_option maxRecDepth 100000

theorem own : ownKnob Try.prog.godebug = none := by kernel_rfl

theorem tagsSh : shOf Try.prog 8 22 = some (.slice 4 (.fld 1 .bool (.fld 1 (.int .i64) (.fld 1 .bool (.fld 1 (.int .i64) .fin))))) := by kernel_rfl

theorem tagV_of {W : World} : ∀ c : List Value, c.length = 4 → (Sh.fld 1 .bool (.fld 1 (.int .i64) (.fld 1 .bool (.fld 1 (.int .i64) .fin)))).holds W c → ∃ x : TagV, c = x.cells ∧ True := by
  rintro c - ⟨c1, c2, rfl, -, ⟨b, rfl⟩, c3, c4, rfl, -, ⟨n, rfl, -⟩, c5, c6, rfl, -, ⟨b', rfl⟩, c7, c8, rfl, -, ⟨n', rfl, -⟩, rfl⟩
  exact ⟨⟨b, n, b', n'⟩, rfl, trivial⟩

theorem tagStacks_lifted (os : Os) (started : os.Started) (H : Type) (enc : TypeId × Value → H) :
    ReturnsInHanded {} Try.checked os 3 .any (Rows.tagStacksSpec.pre6 enc Try.prog Try.f3 Rows.tagStacksRow.domain false) (Rows.tagStacksSpec.post enc Try.prog Try.f3 false true false false) := by
  refine returnsInHanded_of_change (C := Try.checked) own started (by kernel_rfl) Try.func3
    (ChangeSpec.witness6 (enc := enc) (C := Try.checked) false ⟨#[], #[.slice none 0 0], []⟩ 8 (by kernel_rfl) (by kernel_rfl) (by kernel_rfl) (by kernel_rfl)) ?_
  intro W base args ds gs before hval0 hW hcnd _
  have hval : ∀ (j : Nat) t v, Try.f3.params[j]? = some t → args[j]? = some v → Value.okWide Try.prog W .any base t v := hval0
  have hW' := hW
  obtain ⟨p, q, hA0, hV, rfl, hfz, hnd⟩ := hW
  have hA : DataW.TrodAll enc Try.prog W 0 (fun _ => true) true Try.f3.params.toList args.toList ds p := hA0
  rw [Try.params3] at hA hval
  obtain ⟨v0, d0, rfl, rfl, h0⟩ := trodAll_one hA
  obtain ⟨rfl, rfl⟩ := trodVars_none hV
  obtain ⟨cs, hcs, -, hone⟩ := open_arg 8 tagsSh (hval 0 22 v0 rfl rfl) h0
  obtain ⟨a, l, cap, rfl, hl, -, -, hat, -⟩ := slice_of TagV.cells (fun _ => rfl) (by decide) (fun _ => True) tagV_of hcs
  have hv := hone (by kernel_rfl)
  cases hv
  refine law_calls (P := Try.prog) [.v (.slice a l.length cap)] (by kernel_rfl) rfl hW' rfl rfl ?_
  exact (law_c a l cap (gOf W) hat (by unfold maxLen at hl; omega)).mono fun r L' g' h => h

theorem tagStacks_holds : Rows.TagStacksSaid :=
  OpenClaim.holds_of_wide 3 Try.f3 rfl rfl rfl rfl rfl rfl rfl ⟨rfl, rfl, rfl, rfl, rfl⟩ rfl rfl rfl rfl rfl (by kernel_rfl) Try.func3 (by kernel_rfl)
    (of_decide_eq_true (by kernel_rfl)) (by unfold Func.isWrapper; first | (rw [if_pos (by decide +kernel)]; kernel_rfl) | (rw [if_neg (by decide +kernel)]; exact ⟨rfl, rfl⟩))
    (fun os started H enc _ => tagStacks_lifted os started H enc)

end Go.Proofs.Ytflnpoahceebbaa
