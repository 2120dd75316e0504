/- What the condition on the tables of math/bits gives: one entry. Conditions: none. -/
import Derived.Test.YtmbbhodikiikeaaGreatDoorMacC
import Derived.Test.YtmbbhodikiikeaaGreatDoorRows
import Derived.ChangeSame
import Derived.ChangeVars
import Derived.JoinedOf
import Derived.RowKit
import Derived.RowKitTokens
import Derived.LaidLaws
import Derived.LaidSub
import Derived.LaidMore
import Derived.Lay
import Derived.LaidOnce
import Derived.MakeChecks
import Derived.OpenShut
import Derived.Stop.Joined
namespace Go.Proofs.YtmbbhodikiikeaaGreatDoor
open Go.Sx Go.ChangeShapes Go.WideShapes Go.RowKit
set_option maxRecDepth 100000

theorem own0d : ownKnob Tryz.prog.godebug = none := by kernel_rfl
abbrev bitLaid {H : Type} : List (String × DataW H) := [("math/bits.deBruijn32tab", Rows.laid_math_bits_deBruijn32tab), ("math/bits.deBruijn64tab", Rows.laid_math_bits_deBruijn64tab), ("internal/strconv.uint64pow10", Rows.laid_internal_strconv_uint64pow10)]
theorem bitVar_of_laid {W : World} (h : laidMetH Tryz.prog bitLaid W) : BitVar (gOf W) := by
  have h := h.filter fun x => x.1 == "math/bits.deBruijn64tab"
  have h : laidMetH Tryz.prog [("math/bits.deBruijn64tab", Rows.laid_math_bits_deBruijn64tab)] W := Eq.mp (by kernel_rfl) h
  rw [MakeChecks.laidMetH_plain _ _ _ (by kernel_rfl)] at h
  obtain ⟨ps, ⟨g, t, cs, fuel, p, q, hg, ht, hv, hd, _, _⟩, _, _⟩ := h
  have hgn : Tryz.prog.globalNamed "math/bits.deBruijn64tab" = some 6 := by kernel_rfl
  obtain rfl := Option.some.inj (hgn.symm.trans hg)
  obtain rfl := Option.some.inj ((show (Tryz.prog.globals[6]?).map (·.type) = some 146 by kernel_rfl).symm.trans ht)
  have c5 : Tryz.prog.cellsOf 5 = 1 := by kernel_rfl
  obtain ⟨xs, m, _, ex, hlen, hl, hel⟩ := DataW.trod_array Tryz.underlying146 hd
  have k := hel 15 (by omega)
  rw [c5] at k
  have e3 := DataW.agg.inj (Prod.mk.inj ex).1
  have e15 : (xs.map (·.1))[15]? = some (.lit (.int .u8 4)) := by rw [← e3]; rfl
  rw [List.getElem?_map, Option.map_eq_some_iff] at e15
  obtain ⟨x, hx, hx1⟩ := e15
  rw [hx] at k
  obtain ⟨z, a0, b0, _⟩ := DataW.trod_int Tryz.underlying5 k
  rw [b0] at hx1
  injection hx1 with hx1
  injection hx1 with _ hz
  subst hz
  have hc : cs[15]? = some (.int .u8 4) := by
    have h1 : ((cs.toList.drop (15 * 1)).take 1)[0]? = some (.int .u8 4) := by rw [a0]; rfl
    rw [List.getElem?_take_of_lt (by decide), List.getElem?_drop] at h1
    simpa using h1
  refine gOf_at (fun i hi => ?_) (by simp)
  have : i = 0 := by simpa using hi
  subst this
  exact (World.var?_cell hgn hv 15).trans hc
end Go.Proofs.YtmbbhodikiikeaaGreatDoor
