/- What the condition on three variables gives (errors.errorType and two tables of unicode/utf8): the first's one cell; a world in which it holds. Conditions: none. -/
import Derived.Test.YtpdngikdpepekaaDoorLaid
import Derived.LaidSub
import Derived.LaidMore
import Derived.Lay
import Derived.LaidOnce
import Derived.MakeChecks
namespace Go.Proofs.YtpdngikdpepekaaDoor
open Go.Sx Go.ChangeShapes Go.WideShapes Go.RowKit
set_option maxRecDepth 100000

abbrev mixLaid : List (String × DataW Unit) := [("unicode/utf8.acceptRanges", Rows.laid_unicode_utf8_acceptRanges), ("errors.errorType", Rows.laid_errors_errorType), ("unicode/utf8.first", Rows.laid_unicode_utf8_first)]
abbrev mixData : List (String × DataW Unit) := [("unicode/utf8.acceptRanges", Rows.laid_unicode_utf8_acceptRanges), ("unicode/utf8.first", Rows.laid_unicode_utf8_first)]
theorem errVar_of_mix {W : World} (h : laidMetH Tryd.prog mixLaid W) : ErrVar (gOf W) := by
  have h := h.filter fun x => x.1 == "errors.errorType"
  have h : laidMetH Tryd.prog [("errors.errorType", Rows.laid_errors_errorType)] W := Eq.mp (by kernel_rfl) h
  exact errVar_of_laid h
noncomputable def mixW0 (os : Os) : World := laidW (World.holding Tryd.prog os ⟨#[], #[], []⟩) (rt 32)
noncomputable def mixW (os : Os) : World := (mixW0 os).layVars Tryd.prog mixData
theorem mixW_os (os : Os) : (mixW os).os = os := World.layVars_os _ _ _
theorem mixW_data (os : Os) : laidMet Tryd.prog mixData (mixW os) := by
  have e1 : (mixData.filter fun x => (mixData.map (·.1)).contains x.1) = mixData := List.filter_eq_self.2 fun x hx => List.contains_iff_mem.2 (List.mem_map.2 ⟨x, hx, rfl⟩)
  have e2 : (mixData.filter fun x => !(mixData.map (·.1)).contains x.1) = [] := List.filter_eq_nil_iff.2 fun x hx => by rw [List.contains_iff_mem.2 (List.mem_map.2 ⟨x, hx, rfl⟩)]; simp
  exact laidMet_layVars (w0 := mixW0 os) (mixData.map (·.1)) [] (by rw [e1]; rfl) (by rw [e1]; kernel_rfl) (by rw [e1]; kernel_rfl) (by rw [e2]; exact LaidIn.none)
theorem mixW_met (os : Os) (args : Array Value) : laidMetH Tryd.prog mixLaid ((mixW os).forCall (fun _ _ => 0) ⟨#[], args, []⟩).memory := by
  refine laidMetH_of_parts ?_ (by kernel_rfl)
  have h : laidMet Tryd.prog mixData ((mixW os).forCall (fun _ _ => 0) ⟨#[], args, []⟩).memory := (mixW_data os).of_heap (by simp [World.memory, World.forCall, Input.heap])
  exact Eq.mp (by kernel_rfl) h
end Go.Proofs.YtpdngikdpepekaaDoor
