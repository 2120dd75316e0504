/- The law VerdictSames: it returns true. Conditions: the slices lie where the verdicts say. -/
import Derived.Test.YtflnpoahceebbaaVerJ
import Derived.Test.YtflnpoahceebbaaVerK
namespace Go.Proofs.Ytflnpoahceebbaa
open Go.Sx
set_option maxRecDepth 100000
set_option maxHeartbeats 8000000
attribute [local irreducible] Meets

theorem eqL_refl {α : Type} {f : α → α → Bool} (h : ∀ x, f x x = true) (l : List α) : eqL f l l = true :=
  eqL_good rfl fun k x y hx hy => by rw [hx] at hy; cases hy; exact h x
theorem eqS_refl (x : ByteArray) : eqS x x = true := by simp [eqS]

theorem verdictEq_refl (x : VerdictV) : verdictEq x x = true := by
  have ha : ∀ a : AttrV, attrEq a a = true := fun a => by simp [attrEq, eqL_refl (f := eqI) (fun n => by simp [eqI])]
  have hs : ∀ a : ByteArray, eqS a a = true := eqS_refl
  simp [verdictEq, frameEq, eqS_refl, ArpV.eq_refl, PauseV.eq_refl, BpduV.eq_refl, LacpV.eq_refl, MarkerV.eq_refl, AddrV.eq_refl, BridgeV.eq_refl, NameV.eq_refl, eqL_refl TagV.eq_refl, eqL_refl InstV.eq_refl, eqL_refl hs, eqL_refl CapsV.eq_refl, eqL_refl ManageV.eq_refl, eqL_refl OrgV.eq_refl, eqL_refl ha]

theorem verdictSames_c (x y : VerdictV) (g : G) (hx : x.ok g) (hy : y.ok g) : Meets Try.prog 8 [.agg (x.cells.map .v), .agg (y.cells.map .v)] [] g (fun o _ _ => o = .ret (.v (.bool true))) := by
  refine meets_of mixed Try.func8 (by kernel_rfl) x8_ok (some []) ?_
  refine (heavy_c x g hx).call0 rfl rfl 2 rfl ?_
  rintro o L1 g' ⟨b, rfl, rfl, rfl⟩
  cases b with
  | true => exact rfl
  | false =>
    refine (heavy_c y g' hy).call0 rfl rfl 2 rfl ?_
    rintro o L1 g'' ⟨b, rfl, rfl, rfl⟩
    cases b with
    | true => exact rfl
    | false =>
      refine (verdict32_c x y g'' hx hy).call rfl rfl rfl ?_
      refine (verdict33_c x y g'' hx hy).call rfl rfl rfl ?_
      refine bsplit_of (fun h => ?_) (fun h => absurd h (by simp))
      refine (verdict32_c x x g'' hx hx).call rfl rfl rfl ?_
      exact rb (verdictEq_refl x).symm
end Go.Proofs.Ytflnpoahceebbaa
