/- lacp.Mark, WriteMark, Answer and their references; the law MarkerWrites. Conditions: of the law: the variable errors.errorType is as laid. -/
import Derived.Test.YtdfpbmchkfmfdaaDoorShortC
namespace Go.Proofs.YtdfpbmchkfmfdaaDoor
open Go.Sx Go.Lib Go.RowKit
set_option maxRecDepth 100000
set_option maxHeartbeats 8000000
attribute [local irreducible] Meets
attribute [local instance] Classical.propDecidable
attribute [local irreducible] zeroS

def markP (m : MarkerV) : Prop := shortP [m.port] ∧ 0 ≤ m.txn ∧ m.txn ≤ 4294967295
theorem mark_c (m : MarkerV) (g : G) (hm : m.ok g) : Tells Tryd.prog 38 [.agg (m.cells.map .v)] g (.v (.bool (decide (markP m)))) := by
  refine meets_of mixedW Tryd.func38 (by kernel_rfl) x38_ok (some []) ?_
  refine (lent (by kernel_rfl) short_s [m.port] 1 rfl (by decide) (fun x hx => by rw [List.mem_singleton.1 hx]; exact hm.1) g).callS [1] 2 rfl rfl rfl rfl ?_
  rintro o L1 g' ⟨rfl, rfl, rfl⟩ _
  refine bsplit_of (fun (h1 : decide (shortP [m.port]) = true) => ?_) (fun (h1 : decide (shortP [m.port]) = false) => ⟨rbd (iff_of_false (by simp) fun hq => of_decide_eq_false h1 hq.1), rfl, rfl⟩)
  have h1 := of_decide_eq_true h1
  refine bsplit_of (fun (h2 : decide (m.txn ≥ 0) = true) => ?_) (fun (h2 : decide (m.txn ≥ 0) = false) => ⟨rbd (iff_of_false (by simp) fun hq => of_decide_eq_false h2 hq.2.1), rfl, rfl⟩)
  have h2 := of_decide_eq_true h2
  exact ⟨rbd (by rw [decide_eq_true_eq]; exact ⟨fun h => ⟨h1, h2, by omega⟩, fun h => by have := h.2.2; omega⟩), rfl, rfl⟩
theorem markR_c (m : MarkerV) (g : G) (hm : m.ok g) : Tells Tryd.prog 39 [.agg (m.cells.map .v)] g (.v (.bool (decide (markP m)))) := by
  refine meets_of mixedW Tryd.func39 (by kernel_rfl) x39_ok (some []) ?_
  refine (lent (by kernel_rfl) shorts_s [m.port] 1 rfl (by decide) (fun x hx => by rw [List.mem_singleton.1 hx]; exact hm.1) g).callS [1] 2 rfl rfl rfl rfl ?_
  rintro o L1 g' ⟨rfl, rfl, rfl⟩ _
  refine bsplit_of (fun (h1 : decide (shortP [m.port]) = true) => ?_) (fun (h1 : decide (shortP [m.port]) = false) => ⟨rbd (iff_of_false (by simp) fun hq => of_decide_eq_false h1 hq.1), rfl, rfl⟩)
  have h1 := of_decide_eq_true h1
  refine (within_c m.txn 0 4294967295 g').call rfl rfl rfl ?_
  exact ⟨rbd (by rw [decide_eq_true_eq]; exact ⟨fun h => ⟨h1, h⟩, fun h => h.2⟩), rfl, rfl⟩

def kindN (b : Bool) : Nat := match b with | true => 2 | false => 1
def markS (m : MarkerV) : ByteArray := ⟨#[2, 1]⟩ ++ beS 1 (kindN m.reply) ++ ⟨#[16]⟩ ++ beS 2 m.port.toNat ++ bytesOfInts [m.sys.e0, m.sys.e1, m.sys.e2, m.sys.e3, m.sys.e4, m.sys.e5] ++ beS 4 m.txn.toNat
theorem markS_size (m : MarkerV) : (markS m).size = 16 := by simp only [markS, ByteArray.size_append, beS_size, sz1, sz2, szA]
theorem rep94_c (g : G) : Tells Tryd.prog 103 [.v (.string ⟨#[0]⟩), .v (.int .i64 94)] g (.v (.string (zeroS 94))) :=
  Tells.of_below (by kernel_rfl) rfl fun _ w _ => by unfold zeroS; exact sh_strings_Repeat ⟨#[0]⟩ 94 w (by decide) (by decide)

theorem writeMark_bad (m : MarkerV) (g : G) (hm : m.ok g) (h : ¬ markP m) : Tells Tryd.prog 36 [.agg (m.cells.map .v)] g (.tup [.v (.string emp), .v (errW 1)]) := by
  refine meets_of mixedW Tryd.func36 (by kernel_rfl) x36_ok (some []) ?_
  refine (mark_c m g hm).call rfl rfl rfl ?_
  refine bsplit_of (fun _ => ⟨rfl, rfl, rfl⟩) (fun (q : (!decide (markP m)) = false) => absurd q (by simp [h]))
theorem writeMark_good (m : MarkerV) (g : G) (hm : m.ok g) (h : markP m) : Tells Tryd.prog 36 [.agg (m.cells.map .v)] g (.tup [.v (.string (markS m ++ zeroS 94)), .v .nilIface]) := by
  refine meets_of mixedW Tryd.func36 (by kernel_rfl) x36_ok (some []) ?_
  refine (mark_c m g hm).call rfl rfl rfl ?_
  refine bsplit_of (fun (q : (!decide (markP m)) = true) => absurd q (by simp [h])) (fun _ => ?_)
  have a1 := short_in h.1 (x := m.port) (by simp)
  have hsz := markS_size m
  refine bsplit_of (fun (h2 : m.reply = true) => ?_) (fun (h2 : m.reply = false) => ?_)
  · refine (mustG 2 1 g (by decide) (by decide) (by decide) (by decide) (by decide)).call rfl rfl rfl ?_
    refine ⟨szOk rfl, ?_⟩
    refine ⟨szOk rfl, ?_⟩
    refine (mustG m.port 2 g (by decide) (by decide) a1.1 a1.2.1 a1.2.2).call rfl rfl rfl ?_
    refine ⟨szOk rfl, ?_⟩
    refine ⟨szOk rfl, ?_⟩
    refine (mustG m.txn 4 g (by decide) (by decide) h.2.1 (by show m.txn < 4294967296; have := h.2.2; omega) (by have := h.2.2; omega)).call rfl rfl rfl ?_
    refine ⟨szOk rfl, ?_⟩
    refine (rep94_c g).call rfl rfl rfl ?_
    refine ⟨by show _ + (zeroS 94).size ≤ 9223372036854775807; simp only [ByteArray.size_append, beS_size, sz1, sz2, szA, zeroS_size]; decide, ?_⟩
    refine ⟨rts ?_, rfl, rfl⟩
    rw [markS, h2]; rfl
  · refine (mustG 1 1 g (by decide) (by decide) (by decide) (by decide) (by decide)).call rfl rfl rfl ?_
    refine ⟨szOk rfl, ?_⟩
    refine ⟨szOk rfl, ?_⟩
    refine (mustG m.port 2 g (by decide) (by decide) a1.1 a1.2.1 a1.2.2).call rfl rfl rfl ?_
    refine ⟨szOk rfl, ?_⟩
    refine ⟨szOk rfl, ?_⟩
    refine (mustG m.txn 4 g (by decide) (by decide) h.2.1 (by show m.txn < 4294967296; have := h.2.2; omega) (by have := h.2.2; omega)).call rfl rfl rfl ?_
    refine ⟨szOk rfl, ?_⟩
    refine (rep94_c g).call rfl rfl rfl ?_
    refine ⟨by show _ + (zeroS 94).size ≤ 9223372036854775807; simp only [ByteArray.size_append, beS_size, sz1, sz2, szA, zeroS_size]; decide, ?_⟩
    refine ⟨rts ?_, rfl, rfl⟩
    rw [markS, h2]; rfl

theorem writeMarkR_bad (m : MarkerV) (g : G) (hm : m.ok g) (h : ¬ markP m) : Tells Tryd.prog 35 [.agg (m.cells.map .v)] g (.tup [.v (.string emp), .v (.int .i64 1)]) := by
  refine meets_ofJ mixedW Tryd.func35 (by kernel_rfl) x35_ok (some []) ?_
  refine (markR_c m g hm).call rfl rfl rfl ?_
  refine bsplit_of (fun _ => ⟨rfl, rfl, rfl⟩) (fun (q : (!decide (markP m)) = false) => absurd q (by simp [h]))
end Go.Proofs.YtdfpbmchkfmfdaaDoor
