/- lacp.Answer; the law MarkerWrites. Conditions: of the law: the variable errors.errorType is as laid. -/
import Derived.Test.YtdfpbmchkfmfdaaDoorMarkD
namespace Go.Proofs.YtdfpbmchkfmfdaaDoor
open Go.Sx Go.Lib Go.RowKit
set_option maxRecDepth 100000
set_option maxHeartbeats 8000000
attribute [local irreducible] Meets
attribute [local instance] Classical.propDecidable
theorem answer_no (po : Int) (sy : AddrV) (tx : Int) (g : G) : Tells Tryd.prog 37 [.agg ((MarkerV.cells ⟨false, po, sy, tx⟩).map .v)] g (.tup [.agg ((MarkerV.cells ⟨true, po, sy, tx⟩).map .v), .v .nilIface]) := by
  refine meets_of mixedW Tryd.func37 (by kernel_rfl) x37_ok (some []) ?_
  exact ⟨rfl, rfl, rfl⟩
theorem answer_yes (po : Int) (sy : AddrV) (tx : Int) (g : G) : Tells Tryd.prog 37 [.agg ((MarkerV.cells ⟨true, po, sy, tx⟩).map .v)] g (.tup [.agg (MarkerV.zero.cells.map .v), .v (errW 6)]) := by
  refine meets_of mixedW Tryd.func37 (by kernel_rfl) x37_ok (some []) ?_
  exact ⟨rfl, rfl, rfl⟩

noncomputable def mS (m : MarkerV) : ByteArray := if markP m then markS m ++ zeroS 94 else emp
noncomputable def mE (m : MarkerV) : Int := if markP m then 0 else 1
theorem writeMark_c (m : MarkerV) (g : G) (hm : m.ok g) : Tells Tryd.prog 36 [.agg (m.cells.map .v)] g (.tup [.v (.string (mS m)), .v (nilOr (mE m))]) := by
  by_cases h : markP m
  · rw [mS, mE, if_pos h, if_pos h, nilOr, if_pos rfl]; exact writeMark_good m g hm h
  · rw [mS, mE, if_neg h, if_neg h, nilOr, if_neg (by decide)]; exact writeMark_bad m g hm h
theorem writeMarkR_c (m : MarkerV) (g : G) (hm : m.ok g) : Tells Tryd.prog 35 [.agg (m.cells.map .v)] g (.tup [.v (.string (mS m)), .v (.int .i64 (mE m))]) := by
  by_cases h : markP m
  · rw [mS, mE, if_pos h, if_pos h]; exact writeMarkR_good m g hm h
  · rw [mS, mE, if_neg h, if_neg h]; exact writeMarkR_bad m g hm h

/-- The law MarkerWrites. -/
theorem markerWrites_c (m : MarkerV) (g : G) (hm : m.ok g) (hE : ErrVar g) : Meets Tryd.prog 7 [.agg (m.cells.map .v)] [] g (fun o _ _ => o = .ret (.v (.bool true))) := by
  refine meets_of mixedW Tryd.func7 (by kernel_rfl) x7_ok (some []) ?_
  obtain ⟨r, po, sy, tx⟩ := m
  cases r
  · refine (writeMarkR_c ⟨false, po, sy, tx⟩ g hm).call rfl rfl rfl ?_
    refine (writeMark_c ⟨false, po, sy, tx⟩ g hm).call rfl rfl rfl ?_
    refine (answer_no po sy tx g).call rfl rfl rfl ?_
    refine (bare_c _ _ _ (mE ⟨false, po, sy, tx⟩) g hE (errP_nilOr _)).call rfl rfl rfl ?_
    refine bsplit_of (fun _ => ?_) (fun h => absurd h (by simp))
    refine bsplit_of (fun _ => ?_) (fun (h : ((mS ⟨false, po, sy, tx⟩).toList == (mS ⟨false, po, sy, tx⟩).toList) = false) => absurd h (by simp))
    refine (mark_c ⟨false, po, sy, tx⟩ g hm).call rfl rfl rfl ?_
    refine (markR_c ⟨false, po, sy, tx⟩ g hm).call rfl rfl rfl ?_
    refine bsplit_of (fun _ => ?_) (fun h => absurd h (by simp))
    refine (bare_c _ 0 (-1) 0 g hE .nil).call rfl rfl rfl ?_
    exact rb (by simp [MarkerV.zero, AddrV.zero])
  · refine (writeMarkR_c ⟨true, po, sy, tx⟩ g hm).call rfl rfl rfl ?_
    refine (writeMark_c ⟨true, po, sy, tx⟩ g hm).call rfl rfl rfl ?_
    refine (answer_yes po sy tx g).call rfl rfl rfl ?_
    refine (bare_c _ _ _ (mE ⟨true, po, sy, tx⟩) g hE (errP_nilOr _)).call rfl rfl rfl ?_
    refine bsplit_of (fun _ => ?_) (fun h => absurd h (by simp))
    refine bsplit_of (fun _ => ?_) (fun (h : ((mS ⟨true, po, sy, tx⟩).toList == (mS ⟨true, po, sy, tx⟩).toList) = false) => absurd h (by simp))
    refine (mark_c ⟨true, po, sy, tx⟩ g hm).call rfl rfl rfl ?_
    refine (markR_c ⟨true, po, sy, tx⟩ g hm).call rfl rfl rfl ?_
    refine bsplit_of (fun _ => ?_) (fun h => absurd h (by simp))
    refine (bare_c _ 6 (-1) 6 g hE (.bare 6)).call rfl rfl rfl ?_
    exact rb (by simp [MarkerV.zero, AddrV.zero])
end Go.Proofs.YtdfpbmchkfmfdaaDoor
