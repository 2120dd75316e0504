/- The law PrioBest returns true for all arguments, and leaves them as they were. Conditions: none. -/
import Derived.Test.YtflnpoahceebbaaPrioE
import Derived.Test.YtflnpoahceebbaaRows
namespace Go.Proofs.Ytflnpoahceebbaa
open Go.Sx Go.ChangeShapes Go.WideShapes Go.ChangeAt Go.RowKit
set_option maxRecDepth 100000

theorem prioBest_own : ownKnob Try.prog.godebug = none := by kernel_rfl

theorem prioBest_lifted (os : Os) (started : os.Started) (H : Type) (enc : TypeId × Value → H) :
    ReturnsInHanded {} Try.checked os 11 .any (Rows.prioBestSpec.pre6 enc Try.prog Try.f11 Rows.prioBestRow.domain false) (Rows.prioBestSpec.post enc Try.prog Try.f11 false true false false) := by
  refine returnsInHanded_of_change (C := Try.checked) prioBest_own started (by kernel_rfl) Try.func11
    (ChangeSpec.witness6 (enc := enc) (C := Try.checked) false ⟨#[], #[.slice none 0 0], []⟩ 8 (by kernel_rfl) (by kernel_rfl) (by kernel_rfl) (by kernel_rfl)) ?_
  intro W base args ds gs before hval0 hW hcnd _
  have hval : ∀ (j : Nat) t v, Try.f11.params[j]? = some t → args[j]? = some v → Value.okWide Try.prog W .any base t v := hval0
  have hW' := hW
  obtain ⟨p, q, hA0, hV, rfl, hfz, hnd⟩ := hW
  have hA : DataW.TrodAll enc Try.prog W 0 (fun _ => true) true Try.f11.params.toList args.toList ds p := hA0
  rw [Try.params11] at hA hval
  obtain ⟨v0, d0, rfl, rfl, h0⟩ := trodAll_one hA
  obtain ⟨rfl, rfl⟩ := trodVars_none hV
  obtain ⟨cs, hcs, hagg, hone⟩ := open_arg 8 (show shOf Try.prog 8 89 = some (.slice 21 (.fld 8 (.fld 1 (.int .i64) (.fld 1 (.int .i64) (.fld 6 (Sh.rep (.int .u8) 1 6) .fin))) (.fld 1 (.int .i64) (.fld 8 (.fld 1 (.int .i64) (.fld 1 (.int .i64) (.fld 6 (Sh.rep (.int .u8) 1 6) .fin))) (.fld 2 (.fld 1 (.int .i64) (.fld 1 (.int .i64) .fin)) (.fld 2 (.fld 1 (.int .i64) (.fld 1 (.int .i64) .fin)) .fin)))))) from by kernel_rfl) (hval 0 89 v0 rfl rfl) h0
  obtain ⟨x0, rfl, k0⟩ := sliceV_of VectorV.cells (fun _ => rfl) (by decide) (VectorV.ok (gOf W)) (fun c _ hc => vector_of c hc) hcs
  cases hone (by kernel_rfl)
  refine law_calls (P := Try.prog) [.v (.slice x0.a x0.l.length x0.c)] (by kernel_rfl) rfl hW' rfl rfl ?_
  exact prioBest_c x0 (gOf W) k0

theorem prioBest_holds : Rows.PrioBestSaid :=
  OpenClaim.holds_of_wide 11 Try.f11 rfl rfl rfl rfl rfl rfl rfl ⟨rfl, rfl, rfl, rfl, rfl⟩ rfl rfl rfl rfl rfl (by kernel_rfl) Try.func11 (by kernel_rfl)
    (of_decide_eq_true (by kernel_rfl)) (by unfold Func.isWrapper; first | (rw [if_pos (by decide +kernel)]; kernel_rfl) | (rw [if_neg (by decide +kernel)]; exact ⟨rfl, rfl⟩))
    (fun os started H enc _ => prioBest_lifted os started H enc)

end Go.Proofs.Ytflnpoahceebbaa
