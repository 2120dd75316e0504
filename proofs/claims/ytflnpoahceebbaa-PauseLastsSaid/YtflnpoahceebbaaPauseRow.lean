/- The law PauseLasts returns true for every pause and class, and leaves its arguments as they were. Conditions: none. -/
import Derived.Test.YtflnpoahceebbaaPauseC
import Derived.Test.YtflnpoahceebbaaRows
namespace Go.Proofs.Ytflnpoahceebbaa
open Go.Sx Go.ChangeShapes Go.WideShapes Go.ChangeAt Go.RowKit
set_option maxRecDepth 100000

theorem own : ownKnob Try.prog.godebug = none := by kernel_rfl

theorem pauseSh : shOf Try.prog 8 26 = some (.fld 1 .bool (.fld 1 (.int .i64) (.fld 8 ((Sh.int .i64).rep 1 8) .fin))) := by kernel_rfl
theorem intSh : shOf Try.prog 8 3 = some (.int .i64) := by kernel_rfl

theorem i64_of {n : Int} (h : (Lit.int .i64 n).wf = true) : i64 n := by
  simp [Lit.wf, IntKind.signed, IntKind.bits, IntKind.min, IntKind.max] at h
  unfold i64
  omega

theorem pauseV_of {W : World} : ∀ c : List Value, (Sh.fld 1 .bool (.fld 1 (.int .i64) (.fld 8 ((Sh.int .i64).rep 1 8) .fin))).holds W c → ∃ x : PauseV, c = x.cells ∧ x.ok := by
  rintro c ⟨c1, c2, rfl, -, ⟨b, rfl⟩, c3, c4, rfl, -, ⟨n, rfl, hn⟩, c5, c6, rfl, -, ⟨d0, e0, rfl, -, ⟨m0, rfl, h0⟩, d1, e1, rfl, -, ⟨m1, rfl, h1⟩, d2, e2, rfl, -, ⟨m2, rfl, h2⟩, d3, e3, rfl, -, ⟨m3, rfl, h3⟩, d4, e4, rfl, -, ⟨m4, rfl, h4⟩, d5, e5, rfl, -, ⟨m5, rfl, h5⟩, d6, e6, rfl, -, ⟨m6, rfl, h6⟩, d7, e7, rfl, -, ⟨m7, rfl, h7⟩, rfl⟩, rfl⟩
  exact ⟨⟨b, n, m0, m1, m2, m3, m4, m5, m6, m7⟩, rfl, i64_of hn, i64_of h0, i64_of h1, i64_of h2, i64_of h3, i64_of h4, i64_of h5, i64_of h6, i64_of h7⟩

theorem pauseLasts_lifted (os : Os) (started : os.Started) (H : Type) (enc : TypeId × Value → H) :
    ReturnsInHanded {} Try.checked os 4 .any (Rows.pauseLastsSpec.pre6 enc Try.prog Try.f4 Rows.pauseLastsRow.domain false) (Rows.pauseLastsSpec.post enc Try.prog Try.f4 false true false false) := by
  refine returnsInHanded_of_change (C := Try.checked) own started (by kernel_rfl) Try.func4
    (ChangeSpec.witness6 (enc := enc) (C := Try.checked) false ⟨#[], #[.agg #[.bool false, .int .i64 0, .int .i64 0, .int .i64 0, .int .i64 0, .int .i64 0, .int .i64 0, .int .i64 0, .int .i64 0, .int .i64 0], .int .i64 0], []⟩ 8 (by kernel_rfl) (by kernel_rfl) (by kernel_rfl) (by kernel_rfl)) ?_
  intro W base args ds gs before hval0 hW hcnd _
  have hval : ∀ (j : Nat) t v, Try.f4.params[j]? = some t → args[j]? = some v → Value.okWide Try.prog W .any base t v := hval0
  have hW' := hW
  obtain ⟨p, q, hA0, hV, rfl, hfz, hnd⟩ := hW
  have hA : DataW.TrodAll enc Try.prog W 0 (fun _ => true) true Try.f4.params.toList args.toList ds p := hA0
  rw [Try.params4] at hA hval
  obtain ⟨v0, v1, d0, d1, p0, p1, rfl, rfl, rfl, h0, h1⟩ := trodAll_two hA
  obtain ⟨rfl, rfl⟩ := trodVars_none hV
  obtain ⟨cs, hcs, hagg, -⟩ := open_arg 8 pauseSh (hval 0 26 v0 rfl rfl) h0
  obtain ⟨x, rfl, hx⟩ := pauseV_of cs hcs
  obtain rfl := hagg (by kernel_rfl)
  obtain ⟨cs, ⟨c, rfl, -⟩, -, hone⟩ := open_arg 8 intSh (hval 1 3 v1 rfl rfl) h1
  cases hone (by kernel_rfl)
  refine law_calls (P := Try.prog) [.agg (x.cells.map .v), .v (.int .i64 c)] (by kernel_rfl) rfl hW' rfl rfl ?_
  exact pauseLasts_c x c (gOf W) hx

theorem pauseLasts_holds : Rows.PauseLastsSaid :=
  OpenClaim.holds_of_wide 4 Try.f4 rfl rfl rfl rfl rfl rfl rfl ⟨rfl, rfl, rfl, rfl, rfl⟩ rfl rfl rfl rfl rfl (by kernel_rfl) Try.func4 (by kernel_rfl)
    (of_decide_eq_true (by kernel_rfl)) (by unfold Func.isWrapper; first | (rw [if_pos (by decide +kernel)]; kernel_rfl) | (rw [if_neg (by decide +kernel)]; exact ⟨rfl, rfl⟩))
    (fun os started H enc _ => pauseLasts_lifted os started H enc)

end Go.Proofs.Ytflnpoahceebbaa
