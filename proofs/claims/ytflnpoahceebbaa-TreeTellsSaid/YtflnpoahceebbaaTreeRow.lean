/- The law TreeTells returns true for all arguments, and leaves them as they were. Conditions: none. -/
import Derived.Test.YtflnpoahceebbaaTreeL
import Derived.Test.YtflnpoahceebbaaRows
namespace Go.Proofs.Ytflnpoahceebbaa
open Go.Sx Go.ChangeShapes Go.WideShapes Go.ChangeAt Go.RowKit
set_option maxRecDepth 100000

theorem treeTells_own : ownKnob Try.prog.godebug = none := by kernel_rfl

theorem treeTells_lifted (os : Os) (started : os.Started) (H : Type) (enc : TypeId × Value → H) :
    ReturnsInHanded {} Try.checked os 7 .any (Rows.treeTellsSpec.pre6 enc Try.prog Try.f7 Rows.treeTellsRow.domain false) (Rows.treeTellsSpec.post enc Try.prog Try.f7 false true false false) := by
  refine returnsInHanded_of_change (C := Try.checked) treeTells_own started (by kernel_rfl) Try.func7
    (ChangeSpec.witness6 (enc := enc) (C := Try.checked) false ⟨#[], #[.agg #[.int .i64 0, .int .i64 0, .int .u8 0, .int .u8 0, .int .u8 0, .int .u8 0, .int .u8 0, .int .u8 0, .slice none 0 0], .agg #[.int .i64 0, .int .i64 0, .int .u8 0, .int .u8 0, .int .u8 0, .int .u8 0, .int .u8 0, .int .u8 0, .int .i64 0, .int .i64 0, .int .i64 0, .int .u8 0, .int .u8 0, .int .u8 0, .int .u8 0, .int .u8 0, .int .u8 0, .int .i64 0, .int .i64 0, .int .i64 0, .int .i64 0], .int .i64 0, .bool false], []⟩ 8 (by kernel_rfl) (by kernel_rfl) (by kernel_rfl) (by kernel_rfl)) ?_
  intro W base args ds gs before hval0 hW hcnd _
  have hval : ∀ (j : Nat) t v, Try.f7.params[j]? = some t → args[j]? = some v → Value.okWide Try.prog W .any base t v := hval0
  have hW' := hW
  obtain ⟨p, q, hA0, hV, rfl, hfz, hnd⟩ := hW
  have hA : DataW.TrodAll enc Try.prog W 0 (fun _ => true) true Try.f7.params.toList args.toList ds p := hA0
  rw [Try.params7] at hA hval
  obtain ⟨v0, v1, v2, v3, d0, d1, d2, d3, p0, p1, p2, p3, rfl, rfl, rfl, h0, h1, h2, h3⟩ := trodAll_four hA
  obtain ⟨rfl, rfl⟩ := trodVars_none hV
  obtain ⟨cs, hcs, hagg, hone⟩ := open_arg 8 (show shOf Try.prog 8 45 = some nodeSh from by kernel_rfl) (hval 0 45 v0 rfl rfl) h0
  obtain ⟨x0, rfl, k0⟩ := node_of cs hcs
  obtain rfl := hagg (by kernel_rfl)
  obtain ⟨cs, hcs, hagg, hone⟩ := open_arg 8 (show shOf Try.prog 8 49 = some vectorSh from by kernel_rfl) (hval 1 49 v1 rfl rfl) h1
  obtain ⟨x1, rfl, k1⟩ := vector_of cs hcs
  obtain rfl := hagg (by kernel_rfl)
  obtain ⟨cs, hcs, hagg, hone⟩ := open_arg 8 (show shOf Try.prog 8 3 = some (.int .i64) from by kernel_rfl) (hval 2 3 v2 rfl rfl) h2
  obtain ⟨x2, rfl, k2⟩ := hcs
  cases hone (by kernel_rfl)
  obtain ⟨cs, hcs, hagg, hone⟩ := open_arg 8 (show shOf Try.prog 8 4 = some .bool from by kernel_rfl) (hval 3 4 v3 rfl rfl) h3
  obtain ⟨x3, rfl⟩ := hcs
  cases hone (by kernel_rfl)
  refine law_calls (P := Try.prog) [.agg (x0.cells.map .v), .agg (x1.cells.map .v), .v (.int .i64 x2), .v (.bool x3)] (by kernel_rfl) rfl hW' rfl rfl ?_
  exact treeTells_c x0 x1 x2 x3 (gOf W) k0 k1 (iok_of k2)

theorem treeTells_holds : Rows.TreeTellsSaid :=
  OpenClaim.holds_of_wide 7 Try.f7 rfl rfl rfl rfl rfl rfl rfl ⟨rfl, rfl, rfl, rfl, rfl⟩ rfl rfl rfl rfl rfl (by kernel_rfl) Try.func7 (by kernel_rfl)
    (of_decide_eq_true (by kernel_rfl)) (by unfold Func.isWrapper; first | (rw [if_pos (by decide +kernel)]; kernel_rfl) | (rw [if_neg (by decide +kernel)]; exact ⟨rfl, rfl⟩))
    (fun os started H enc _ => treeTells_lifted os started H enc)

end Go.Proofs.Ytflnpoahceebbaa
