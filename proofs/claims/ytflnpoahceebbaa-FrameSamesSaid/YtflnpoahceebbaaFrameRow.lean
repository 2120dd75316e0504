/- The law FrameSames returns true for all frames, and leaves its arguments as they were. Conditions: none. -/
import Derived.Test.YtflnpoahceebbaaFrameC
import Derived.Test.YtflnpoahceebbaaRows
namespace Go.Proofs.Ytflnpoahceebbaa
open Go.Sx Go.ChangeShapes Go.WideShapes Go.ChangeAt Go.RowKit
set_option maxRecDepth 100000

theorem own : ownKnob Try.prog.godebug = none := by kernel_rfl

def tagSh : Sh := .fld 1 .bool (.fld 1 (.int .i64) (.fld 1 .bool (.fld 1 (.int .i64) .fin)))
def macSh : Sh := (Sh.int .u8).rep 1 6
def frameSh : Sh := .fld 6 macSh (.fld 6 macSh (.fld 1 (.slice 4 tagSh) (.fld 1 (.int .i64) (.fld 1 (.int .i64) (.fld 1 (.int .i64) (.fld 1 (.int .i64) (.fld 1 (.int .i64) (.fld 1 (.int .i64) (.fld 1 (.int .i64) (.fld 1 .str .fin))))))))))
theorem frameSh_eq : shOf Try.prog 8 39 = some frameSh := by kernel_rfl

theorem tagV_of {W : World} : ∀ c : List Value, c.length = 4 → tagSh.holds W c → ∃ x : TagV, c = x.cells ∧ True := by
  rintro c - ⟨c1, c2, rfl, -, ⟨b, rfl⟩, c3, c4, rfl, -, ⟨n, rfl, -⟩, c5, c6, rfl, -, ⟨b', rfl⟩, c7, c8, rfl, -, ⟨n', rfl, -⟩, rfl⟩
  exact ⟨⟨b, n, b', n'⟩, rfl, trivial⟩
theorem mac_of {W : World} : ∀ c : List Value, macSh.holds W c → ∃ x : Mac, c = x.cells := by
  rintro c ⟨d0, e0, rfl, -, ⟨m0, rfl, -⟩, d1, e1, rfl, -, ⟨m1, rfl, -⟩, d2, e2, rfl, -, ⟨m2, rfl, -⟩, d3, e3, rfl, -, ⟨m3, rfl, -⟩, d4, e4, rfl, -, ⟨m4, rfl, -⟩, d5, e5, rfl, -, ⟨m5, rfl, -⟩, rfl⟩
  exact ⟨⟨m0, m1, m2, m3, m4, m5⟩, rfl⟩
theorem frame_of {W : World} : ∀ c : List Value, frameSh.holds W c → ∃ x : FrameV, c = x.cells ∧ x.ok (gOf W) := by
  rintro c ⟨cd, c1, rfl, -, hd, cs, c2, rfl, -, hs, ct, c3, rfl, -, ht, d0, e0, rfl, -, ⟨m0, rfl, -⟩, d1, e1, rfl, -, ⟨m1, rfl, -⟩, d2, e2, rfl, -, ⟨m2, rfl, -⟩, d3, e3, rfl, -, ⟨m3, rfl, -⟩, d4, e4, rfl, -, ⟨m4, rfl, -⟩, d5, e5, rfl, -, ⟨m5, rfl, -⟩, d6, e6, rfl, -, ⟨m6, rfl, -⟩, d7, e7, rfl, -, ⟨s, rfl, -⟩, rfl⟩
  obtain ⟨md, rfl⟩ := mac_of cd hd
  obtain ⟨ms, rfl⟩ := mac_of cs hs
  obtain ⟨a, l, cap, rfl, hl, -, -, hat, -⟩ := slice_of TagV.cells (fun _ => rfl) (by decide) (fun _ => True) tagV_of ht
  exact ⟨⟨md, ms, a, l, cap, m0, m1, m2, m3, m4, m5, m6, s⟩, rfl, hat, by unfold maxLen at hl; omega⟩

theorem frameSames_lifted (os : Os) (started : os.Started) (H : Type) (enc : TypeId × Value → H) :
    ReturnsInHanded {} Try.checked os 6 .any (Rows.frameSamesSpec.pre6 enc Try.prog Try.f6 Rows.frameSamesRow.domain false) (Rows.frameSamesSpec.post enc Try.prog Try.f6 false true false false) := by
  refine returnsInHanded_of_change (C := Try.checked) own started (by kernel_rfl) Try.func6
    (ChangeSpec.witness6 (enc := enc) (C := Try.checked) false ⟨#[], #[.agg #[.int .u8 0, .int .u8 0, .int .u8 0, .int .u8 0, .int .u8 0, .int .u8 0, .int .u8 0, .int .u8 0, .int .u8 0, .int .u8 0, .int .u8 0, .int .u8 0, .slice none 0 0, .int .i64 0, .int .i64 0, .int .i64 0, .int .i64 0, .int .i64 0, .int .i64 0, .int .i64 0, .string ⟨#[]⟩], .agg #[.int .u8 0, .int .u8 0, .int .u8 0, .int .u8 0, .int .u8 0, .int .u8 0, .int .u8 0, .int .u8 0, .int .u8 0, .int .u8 0, .int .u8 0, .int .u8 0, .slice none 0 0, .int .i64 0, .int .i64 0, .int .i64 0, .int .i64 0, .int .i64 0, .int .i64 0, .int .i64 0, .string ⟨#[]⟩]], []⟩ 8 (by kernel_rfl) (by kernel_rfl) (by kernel_rfl) (by kernel_rfl)) ?_
  intro W base args ds gs before hval0 hW hcnd _
  have hval : ∀ (j : Nat) t v, Try.f6.params[j]? = some t → args[j]? = some v → Value.okWide Try.prog W .any base t v := hval0
  have hW' := hW
  obtain ⟨p, q, hA0, hV, rfl, hfz, hnd⟩ := hW
  have hA : DataW.TrodAll enc Try.prog W 0 (fun _ => true) true Try.f6.params.toList args.toList ds p := hA0
  rw [Try.params6] at hA hval
  obtain ⟨v0, v1, d0, d1, p0, p1, rfl, rfl, rfl, h0, h1⟩ := trodAll_two hA
  obtain ⟨rfl, rfl⟩ := trodVars_none hV
  obtain ⟨cs, hcs, hagg, -⟩ := open_arg 8 frameSh_eq (hval 0 39 v0 rfl rfl) h0
  obtain ⟨x, rfl, hx⟩ := frame_of cs hcs
  obtain rfl := hagg (by kernel_rfl)
  obtain ⟨cs, hcs, hagg, -⟩ := open_arg 8 frameSh_eq (hval 1 39 v1 rfl rfl) h1
  obtain ⟨y, rfl, hy⟩ := frame_of cs hcs
  obtain rfl := hagg (by kernel_rfl)
  refine law_calls (P := Try.prog) [.agg (x.cells.map .v), .agg (y.cells.map .v)] (by kernel_rfl) rfl hW' rfl rfl ?_
  exact frameSames_c x y (gOf W) hx hy

theorem frameSames_holds : Rows.FrameSamesSaid :=
  OpenClaim.holds_of_wide 6 Try.f6 rfl rfl rfl rfl rfl rfl rfl ⟨rfl, rfl, rfl, rfl, rfl⟩ rfl rfl rfl rfl rfl (by kernel_rfl) Try.func6 (by kernel_rfl)
    (of_decide_eq_true (by kernel_rfl)) (by unfold Func.isWrapper; first | (rw [if_pos (by decide +kernel)]; kernel_rfl) | (rw [if_neg (by decide +kernel)]; exact ⟨rfl, rfl⟩))
    (fun os started H enc _ => frameSames_lifted os started H enc)

end Go.Proofs.Ytflnpoahceebbaa
