/- The law MacTexts. Conditions: one entry of a table of math/bits and the variable errors.errorType are as laid; internal/bytealg.MaxLen holds a number. -/
import Derived.Test.YtmbbhodikiikeaaDoorMtB
namespace Go.Proofs.YtmbbhodikiikeaaDoor
open Go.Sx Go.Lib Go.RowKit
set_option maxRecDepth 100000
set_option maxHeartbeats 8000000
attribute [local irreducible] Meets
attribute [local instance] Classical.propDecidable
attribute [local irreducible] addrT

theorem errP_nilM {g : G} (e : Int) : ErrP g (nilM e) e (-1) := by
  unfold nilM
  split
  · rename_i h; subst h; exact .nil
  · exact .bare _
theorem macTexts_c (a : AddrV) (s : ByteArray) (g : G) (ha : a.ok g) (_ : sok s) (hB : BitVar g) (hM : MaxVar g) (hE : ErrVar g) : Meets Tryd.prog 3 [.agg (a.cells.map .v), .v (.string s)] [] g (fun o _ _ => o = .ret (.v (.bool true))) := by
  refine meets_of mixedM Tryd.func3 (by kernel_rfl) x3_ok (some []) ?_
  refine bsplit_of (fun _ => rfl) (fun (h : decide ((s.size : Int) > 100) = false) => ?_)
  have hs : s.size ≤ 1000000 := by have := of_decide_eq_false h; omega
  refine (addrParse_c s hs g hB).call rfl rfl rfl ?_
  refine (macParse_c s hs g hM).call rfl rfl rfl ?_
  refine (macText_c a g ha).call rfl rfl rfl ?_
  refine (text_c a g ha hB).call rfl rfl rfl ?_
  refine bsplit_of (fun _ => ?_) (fun (h : ((addrT a).toList == (addrT a).toList) = false) => absurd h (by simp))
  refine (bare_c _ _ _ (parA s).2 g hE (errP_nilM _)).call rfl rfl rfl ?_
  refine bsplit_of (fun _ => ?_) (fun h => absurd h (by simp))
  exact rb (show true = (false ^^ (parA s).1.eq (parA s).1) by rw [AddrV.eq_refl]; rfl)
end Go.Proofs.YtmbbhodikiikeaaDoor
