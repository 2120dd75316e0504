/- ref.MarkWrite. Conditions: that the marker may be. -/
import Derived.Test.YtdfpbmchkfmfdaaDoorMarkC
namespace Go.Proofs.YtdfpbmchkfmfdaaDoor
open Go.Sx Go.Lib Go.RowKit
set_option maxRecDepth 100000
set_option maxHeartbeats 8000000
attribute [local irreducible] Meets
attribute [local instance] Classical.propDecidable
attribute [local irreducible] zeroS

def two : ByteArray := ⟨#[2]⟩
def one : ByteArray := ⟨#[1]⟩
instance szTwo : Sz two 1 := ⟨by decide⟩
instance szOne : Sz one 1 := ⟨by decide⟩
theorem two_e : beS 1 2 = two := by decide +kernel
theorem one_e : beS 1 1 = one := by decide +kernel
theorem writeMarkR_good (m : MarkerV) (g : G) (hm : m.ok g) (h : markP m) : Tells Tryd.prog 35 [.agg (m.cells.map .v)] g (.tup [.v (.string (markS m ++ zeroS 94)), .v (.int .i64 0)]) := by
  refine meets_ofJ mixedW Tryd.func35 (by kernel_rfl) x35_ok (some []) ?_
  refine (markR_c m g hm).call rfl rfl rfl ?_
  refine bsplit_of (fun (q : (!decide (markP m)) = true) => absurd q (by simp [h])) (fun _ => ?_)
  have a1 := short_in h.1 (x := m.port) (by simp)
  have hsz := markS_size m
  have hS : ⟨#[2, 1]⟩ ++ (match m.reply with | true => two | false => one) ++ ⟨#[16]⟩ ++ beS 2 m.port.toNat ++ bytesOfInts [m.sys.e0, m.sys.e1, m.sys.e2, m.sys.e3, m.sys.e4, m.sys.e5] ++ beS 4 m.txn.toNat = markS m := by
    rw [markS]
    cases m.reply
    · show _ = _ ++ beS 1 1 ++ _ ++ _ ++ _ ++ _
      rw [one_e]
    · show _ = _ ++ beS 1 2 ++ _ ++ _ ++ _ ++ _
      rw [two_e]
  obtain ⟨r, po, sy, tx⟩ := m
  cases r
  · change JoinW _ _ _ _ _ _ _
    refine join_rule [] (α := Array MapEntry × Nat) (fun _ => [(4, .v (.string (markS ⟨false, po, sy, tx⟩)))]) (fun y => [.cells 75 ((MarkerV.cells ⟨false, po, sy, tx⟩).map .v), .raw (.map y.1 y.2)]) (fun _ => g) (fun _ => True) (fun y => by kernel_rfl) ?_ ?_
    · skip
      refine And.intro ?_ ?_
      · skip
        refine prim_makeMap 1 rfl rfl ?_
        refine And.intro ?_ ?_
        · skip
          refine prim_insert (kt := 4) (et := 9) (d := .bool) (by kernel_rfl) (by kernel_rfl) (by kernel_rfl) rfl rfl rfl ?_
          refine And.intro ?_ ?_
          · skip
            refine prim_insert (kt := 4) (et := 9) (d := .bool) (by kernel_rfl) (by kernel_rfl) (by kernel_rfl) rfl rfl rfl ?_
            refine And.intro ?_ ?_
            · skip
              first | refine prim_lookup (some (0, .string one)) (kt := 4) (et := 9) (d := .bool) (z := .string ⟨#[]⟩) (i := Tryd.t9) (by kernel_rfl) (by kernel_rfl) (by kernel_rfl) (by kernel_rfl) rfl rfl rfl rfl ?_ | refine prim_lookup (some (1, .string one)) (kt := 4) (et := 9) (d := .bool) (z := .string ⟨#[]⟩) (i := Tryd.t9) (by kernel_rfl) (by kernel_rfl) (by kernel_rfl) (by kernel_rfl) rfl rfl rfl rfl ?_
              refine ⟨szOk rfl, ?_⟩
              refine ⟨szOk rfl, ?_⟩
              refine (beG po 2 g (by decide) a1.1 a1.2.2).call rfl rfl rfl ?_
              refine ⟨szOk rfl, ?_⟩
              refine ⟨szOk rfl, ?_⟩
              refine (beG tx 4 g (by decide) h.2.1 (by have : tx ≤ 4294967295 := h.2.2; omega)).call rfl rfl rfl ?_
              refine ⟨szOk rfl, ?_⟩
              exact ⟨(_, _), trivial, [0, 1], rfl, ⟨vs hS, trivial⟩, rfl, rfl, rfl, rfl⟩
            refine (beG po 2 g (by decide) a1.1 a1.2.2).call rfl rfl rfl ?_
            refine And.intro ?_ ?_
            · skip
              first | refine prim_lookup (some (0, .string one)) (kt := 4) (et := 9) (d := .bool) (z := .string ⟨#[]⟩) (i := Tryd.t9) (by kernel_rfl) (by kernel_rfl) (by kernel_rfl) (by kernel_rfl) rfl rfl rfl rfl ?_ | refine prim_lookup (some (1, .string one)) (kt := 4) (et := 9) (d := .bool) (z := .string ⟨#[]⟩) (i := Tryd.t9) (by kernel_rfl) (by kernel_rfl) (by kernel_rfl) (by kernel_rfl) rfl rfl rfl rfl ?_
              refine ⟨szOk rfl, ?_⟩
              refine ⟨szOk rfl, ?_⟩
              refine ⟨szOk rfl, ?_⟩
              refine ⟨szOk rfl, ?_⟩
              refine (beG tx 4 g (by decide) h.2.1 (by have : tx ≤ 4294967295 := h.2.2; omega)).call rfl rfl rfl ?_
              refine ⟨szOk rfl, ?_⟩
              exact ⟨(_, _), trivial, [0, 1], rfl, ⟨vs hS, trivial⟩, rfl, rfl, rfl, rfl⟩
            refine (beG tx 4 g (by decide) h.2.1 (by have : tx ≤ 4294967295 := h.2.2; omega)).call rfl rfl rfl ?_
            first | refine prim_lookup (some (0, .string one)) (kt := 4) (et := 9) (d := .bool) (z := .string ⟨#[]⟩) (i := Tryd.t9) (by kernel_rfl) (by kernel_rfl) (by kernel_rfl) (by kernel_rfl) rfl rfl rfl rfl ?_ | refine prim_lookup (some (1, .string one)) (kt := 4) (et := 9) (d := .bool) (z := .string ⟨#[]⟩) (i := Tryd.t9) (by kernel_rfl) (by kernel_rfl) (by kernel_rfl) (by kernel_rfl) rfl rfl rfl rfl ?_
            refine ⟨szOk rfl, ?_⟩
            refine ⟨szOk rfl, ?_⟩
            refine ⟨szOk rfl, ?_⟩
            refine ⟨szOk rfl, ?_⟩
            refine ⟨szOk rfl, ?_⟩
            exact ⟨(_, _), trivial, [0, 1], rfl, ⟨vs hS, trivial⟩, rfl, rfl, rfl, rfl⟩
          refine (beG po 2 g (by decide) a1.1 a1.2.2).call rfl rfl rfl ?_
          refine And.intro ?_ ?_
          · skip
            refine prim_insert (kt := 4) (et := 9) (d := .bool) (by kernel_rfl) (by kernel_rfl) (by kernel_rfl) rfl rfl rfl ?_
            refine And.intro ?_ ?_
            · skip
              first | refine prim_lookup (some (0, .string one)) (kt := 4) (et := 9) (d := .bool) (z := .string ⟨#[]⟩) (i := Tryd.t9) (by kernel_rfl) (by kernel_rfl) (by kernel_rfl) (by kernel_rfl) rfl rfl rfl rfl ?_ | refine prim_lookup (some (1, .string one)) (kt := 4) (et := 9) (d := .bool) (z := .string ⟨#[]⟩) (i := Tryd.t9) (by kernel_rfl) (by kernel_rfl) (by kernel_rfl) (by kernel_rfl) rfl rfl rfl rfl ?_
              refine ⟨szOk rfl, ?_⟩
              refine ⟨szOk rfl, ?_⟩
              refine ⟨szOk rfl, ?_⟩
              refine ⟨szOk rfl, ?_⟩
              refine (beG tx 4 g (by decide) h.2.1 (by have : tx ≤ 4294967295 := h.2.2; omega)).call rfl rfl rfl ?_
              refine ⟨szOk rfl, ?_⟩
              exact ⟨(_, _), trivial, [0, 1], rfl, ⟨vs hS, trivial⟩, rfl, rfl, rfl, rfl⟩
            refine (beG tx 4 g (by decide) h.2.1 (by have : tx ≤ 4294967295 := h.2.2; omega)).call rfl rfl rfl ?_
            first | refine prim_lookup (some (0, .string one)) (kt := 4) (et := 9) (d := .bool) (z := .string ⟨#[]⟩) (i := Tryd.t9) (by kernel_rfl) (by kernel_rfl) (by kernel_rfl) (by kernel_rfl) rfl rfl rfl rfl ?_ | refine prim_lookup (some (1, .string one)) (kt := 4) (et := 9) (d := .bool) (z := .string ⟨#[]⟩) (i := Tryd.t9) (by kernel_rfl) (by kernel_rfl) (by kernel_rfl) (by kernel_rfl) rfl rfl rfl rfl ?_
            refine ⟨szOk rfl, ?_⟩
            refine ⟨szOk rfl, ?_⟩
            refine ⟨szOk rfl, ?_⟩
            refine ⟨szOk rfl, ?_⟩
            refine ⟨szOk rfl, ?_⟩
            exact ⟨(_, _), trivial, [0, 1], rfl, ⟨vs hS, trivial⟩, rfl, rfl, rfl, rfl⟩
          refine (beG tx 4 g (by decide) h.2.1 (by have : tx ≤ 4294967295 := h.2.2; omega)).call rfl rfl rfl ?_
          refine prim_insert (kt := 4) (et := 9) (d := .bool) (by kernel_rfl) (by kernel_rfl) (by kernel_rfl) rfl rfl rfl ?_
          first | refine prim_lookup (some (0, .string one)) (kt := 4) (et := 9) (d := .bool) (z := .string ⟨#[]⟩) (i := Tryd.t9) (by kernel_rfl) (by kernel_rfl) (by kernel_rfl) (by kernel_rfl) rfl rfl rfl rfl ?_ | refine prim_lookup (some (1, .string one)) (kt := 4) (et := 9) (d := .bool) (z := .string ⟨#[]⟩) (i := Tryd.t9) (by kernel_rfl) (by kernel_rfl) (by kernel_rfl) (by kernel_rfl) rfl rfl rfl rfl ?_
          refine ⟨szOk rfl, ?_⟩
          refine ⟨szOk rfl, ?_⟩
          refine ⟨szOk rfl, ?_⟩
          refine ⟨szOk rfl, ?_⟩
          refine ⟨szOk rfl, ?_⟩
          exact ⟨(_, _), trivial, [0, 1], rfl, ⟨vs hS, trivial⟩, rfl, rfl, rfl, rfl⟩
        refine And.intro ?_ ?_
        · skip
          refine prim_insert (kt := 4) (et := 9) (d := .bool) (by kernel_rfl) (by kernel_rfl) (by kernel_rfl) rfl rfl rfl ?_
          refine And.intro ?_ ?_
          · skip
            refine prim_insert (kt := 4) (et := 9) (d := .bool) (by kernel_rfl) (by kernel_rfl) (by kernel_rfl) rfl rfl rfl ?_
            refine And.intro ?_ ?_
            · skip
              first | refine prim_lookup (some (0, .string one)) (kt := 4) (et := 9) (d := .bool) (z := .string ⟨#[]⟩) (i := Tryd.t9) (by kernel_rfl) (by kernel_rfl) (by kernel_rfl) (by kernel_rfl) rfl rfl rfl rfl ?_ | refine prim_lookup (some (1, .string one)) (kt := 4) (et := 9) (d := .bool) (z := .string ⟨#[]⟩) (i := Tryd.t9) (by kernel_rfl) (by kernel_rfl) (by kernel_rfl) (by kernel_rfl) rfl rfl rfl rfl ?_
              refine ⟨szOk rfl, ?_⟩
              refine ⟨szOk rfl, ?_⟩
              refine (beG po 2 g (by decide) a1.1 a1.2.2).call rfl rfl rfl ?_
              refine ⟨szOk rfl, ?_⟩
              refine ⟨szOk rfl, ?_⟩
              refine (beG tx 4 g (by decide) h.2.1 (by have : tx ≤ 4294967295 := h.2.2; omega)).call rfl rfl rfl ?_
              refine ⟨szOk rfl, ?_⟩
              exact ⟨(_, _), trivial, [0, 1], rfl, ⟨vs hS, trivial⟩, rfl, rfl, rfl, rfl⟩
            refine (beG po 2 g (by decide) a1.1 a1.2.2).call rfl rfl rfl ?_
            refine And.intro ?_ ?_
            · skip
              first | refine prim_lookup (some (0, .string one)) (kt := 4) (et := 9) (d := .bool) (z := .string ⟨#[]⟩) (i := Tryd.t9) (by kernel_rfl) (by kernel_rfl) (by kernel_rfl) (by kernel_rfl) rfl rfl rfl rfl ?_ | refine prim_lookup (some (1, .string one)) (kt := 4) (et := 9) (d := .bool) (z := .string ⟨#[]⟩) (i := Tryd.t9) (by kernel_rfl) (by kernel_rfl) (by kernel_rfl) (by kernel_rfl) rfl rfl rfl rfl ?_
              refine ⟨szOk rfl, ?_⟩
              refine ⟨szOk rfl, ?_⟩
              refine ⟨szOk rfl, ?_⟩
              refine ⟨szOk rfl, ?_⟩
              refine (beG tx 4 g (by decide) h.2.1 (by have : tx ≤ 4294967295 := h.2.2; omega)).call rfl rfl rfl ?_
              refine ⟨szOk rfl, ?_⟩
              exact ⟨(_, _), trivial, [0, 1], rfl, ⟨vs hS, trivial⟩, rfl, rfl, rfl, rfl⟩
            refine (beG tx 4 g (by decide) h.2.1 (by have : tx ≤ 4294967295 := h.2.2; omega)).call rfl rfl rfl ?_
            first | refine prim_lookup (some (0, .string one)) (kt := 4) (et := 9) (d := .bool) (z := .string ⟨#[]⟩) (i := Tryd.t9) (by kernel_rfl) (by kernel_rfl) (by kernel_rfl) (by kernel_rfl) rfl rfl rfl rfl ?_ | refine prim_lookup (some (1, .string one)) (kt := 4) (et := 9) (d := .bool) (z := .string ⟨#[]⟩) (i := Tryd.t9) (by kernel_rfl) (by kernel_rfl) (by kernel_rfl) (by kernel_rfl) rfl rfl rfl rfl ?_
            refine ⟨szOk rfl, ?_⟩
            refine ⟨szOk rfl, ?_⟩
            refine ⟨szOk rfl, ?_⟩
            refine ⟨szOk rfl, ?_⟩
            refine ⟨szOk rfl, ?_⟩
            exact ⟨(_, _), trivial, [0, 1], rfl, ⟨vs hS, trivial⟩, rfl, rfl, rfl, rfl⟩
          refine (beG po 2 g (by decide) a1.1 a1.2.2).call rfl rfl rfl ?_
          refine And.intro ?_ ?_
          · skip
            refine prim_insert (kt := 4) (et := 9) (d := .bool) (by kernel_rfl) (by kernel_rfl) (by kernel_rfl) rfl rfl rfl ?_
            refine And.intro ?_ ?_
            · skip
              first | refine prim_lookup (some (0, .string one)) (kt := 4) (et := 9) (d := .bool) (z := .string ⟨#[]⟩) (i := Tryd.t9) (by kernel_rfl) (by kernel_rfl) (by kernel_rfl) (by kernel_rfl) rfl rfl rfl rfl ?_ | refine prim_lookup (some (1, .string one)) (kt := 4) (et := 9) (d := .bool) (z := .string ⟨#[]⟩) (i := Tryd.t9) (by kernel_rfl) (by kernel_rfl) (by kernel_rfl) (by kernel_rfl) rfl rfl rfl rfl ?_
              refine ⟨szOk rfl, ?_⟩
              refine ⟨szOk rfl, ?_⟩
              refine ⟨szOk rfl, ?_⟩
              refine ⟨szOk rfl, ?_⟩
              refine (beG tx 4 g (by decide) h.2.1 (by have : tx ≤ 4294967295 := h.2.2; omega)).call rfl rfl rfl ?_
              refine ⟨szOk rfl, ?_⟩
              exact ⟨(_, _), trivial, [0, 1], rfl, ⟨vs hS, trivial⟩, rfl, rfl, rfl, rfl⟩
            refine (beG tx 4 g (by decide) h.2.1 (by have : tx ≤ 4294967295 := h.2.2; omega)).call rfl rfl rfl ?_
            first | refine prim_lookup (some (0, .string one)) (kt := 4) (et := 9) (d := .bool) (z := .string ⟨#[]⟩) (i := Tryd.t9) (by kernel_rfl) (by kernel_rfl) (by kernel_rfl) (by kernel_rfl) rfl rfl rfl rfl ?_ | refine prim_lookup (some (1, .string one)) (kt := 4) (et := 9) (d := .bool) (z := .string ⟨#[]⟩) (i := Tryd.t9) (by kernel_rfl) (by kernel_rfl) (by kernel_rfl) (by kernel_rfl) rfl rfl rfl rfl ?_
            refine ⟨szOk rfl, ?_⟩
            refine ⟨szOk rfl, ?_⟩
            refine ⟨szOk rfl, ?_⟩
            refine ⟨szOk rfl, ?_⟩
            refine ⟨szOk rfl, ?_⟩
            exact ⟨(_, _), trivial, [0, 1], rfl, ⟨vs hS, trivial⟩, rfl, rfl, rfl, rfl⟩
          refine (beG tx 4 g (by decide) h.2.1 (by have : tx ≤ 4294967295 := h.2.2; omega)).call rfl rfl rfl ?_
          refine prim_insert (kt := 4) (et := 9) (d := .bool) (by kernel_rfl) (by kernel_rfl) (by kernel_rfl) rfl rfl rfl ?_
          first | refine prim_lookup (some (0, .string one)) (kt := 4) (et := 9) (d := .bool) (z := .string ⟨#[]⟩) (i := Tryd.t9) (by kernel_rfl) (by kernel_rfl) (by kernel_rfl) (by kernel_rfl) rfl rfl rfl rfl ?_ | refine prim_lookup (some (1, .string one)) (kt := 4) (et := 9) (d := .bool) (z := .string ⟨#[]⟩) (i := Tryd.t9) (by kernel_rfl) (by kernel_rfl) (by kernel_rfl) (by kernel_rfl) rfl rfl rfl rfl ?_
          refine ⟨szOk rfl, ?_⟩
          refine ⟨szOk rfl, ?_⟩
          refine ⟨szOk rfl, ?_⟩
          refine ⟨szOk rfl, ?_⟩
          refine ⟨szOk rfl, ?_⟩
          exact ⟨(_, _), trivial, [0, 1], rfl, ⟨vs hS, trivial⟩, rfl, rfl, rfl, rfl⟩
        refine (beG po 2 g (by decide) a1.1 a1.2.2).call rfl rfl rfl ?_
        refine And.intro ?_ ?_
        · skip
          refine prim_insert (kt := 4) (et := 9) (d := .bool) (by kernel_rfl) (by kernel_rfl) (by kernel_rfl) rfl rfl rfl ?_
          refine And.intro ?_ ?_
          · skip
            refine prim_insert (kt := 4) (et := 9) (d := .bool) (by kernel_rfl) (by kernel_rfl) (by kernel_rfl) rfl rfl rfl ?_
            refine And.intro ?_ ?_
            · skip
              first | refine prim_lookup (some (0, .string one)) (kt := 4) (et := 9) (d := .bool) (z := .string ⟨#[]⟩) (i := Tryd.t9) (by kernel_rfl) (by kernel_rfl) (by kernel_rfl) (by kernel_rfl) rfl rfl rfl rfl ?_ | refine prim_lookup (some (1, .string one)) (kt := 4) (et := 9) (d := .bool) (z := .string ⟨#[]⟩) (i := Tryd.t9) (by kernel_rfl) (by kernel_rfl) (by kernel_rfl) (by kernel_rfl) rfl rfl rfl rfl ?_
              refine ⟨szOk rfl, ?_⟩
              refine ⟨szOk rfl, ?_⟩
              refine ⟨szOk rfl, ?_⟩
              refine ⟨szOk rfl, ?_⟩
              refine (beG tx 4 g (by decide) h.2.1 (by have : tx ≤ 4294967295 := h.2.2; omega)).call rfl rfl rfl ?_
              refine ⟨szOk rfl, ?_⟩
              exact ⟨(_, _), trivial, [0, 1], rfl, ⟨vs hS, trivial⟩, rfl, rfl, rfl, rfl⟩
            refine (beG tx 4 g (by decide) h.2.1 (by have : tx ≤ 4294967295 := h.2.2; omega)).call rfl rfl rfl ?_
            first | refine prim_lookup (some (0, .string one)) (kt := 4) (et := 9) (d := .bool) (z := .string ⟨#[]⟩) (i := Tryd.t9) (by kernel_rfl) (by kernel_rfl) (by kernel_rfl) (by kernel_rfl) rfl rfl rfl rfl ?_ | refine prim_lookup (some (1, .string one)) (kt := 4) (et := 9) (d := .bool) (z := .string ⟨#[]⟩) (i := Tryd.t9) (by kernel_rfl) (by kernel_rfl) (by kernel_rfl) (by kernel_rfl) rfl rfl rfl rfl ?_
            refine ⟨szOk rfl, ?_⟩
            refine ⟨szOk rfl, ?_⟩
            refine ⟨szOk rfl, ?_⟩
            refine ⟨szOk rfl, ?_⟩
            refine ⟨szOk rfl, ?_⟩
            exact ⟨(_, _), trivial, [0, 1], rfl, ⟨vs hS, trivial⟩, rfl, rfl, rfl, rfl⟩
          refine (beG tx 4 g (by decide) h.2.1 (by have : tx ≤ 4294967295 := h.2.2; omega)).call rfl rfl rfl ?_
          refine prim_insert (kt := 4) (et := 9) (d := .bool) (by kernel_rfl) (by kernel_rfl) (by kernel_rfl) rfl rfl rfl ?_
          first | refine prim_lookup (some (0, .string one)) (kt := 4) (et := 9) (d := .bool) (z := .string ⟨#[]⟩) (i := Tryd.t9) (by kernel_rfl) (by kernel_rfl) (by kernel_rfl) (by kernel_rfl) rfl rfl rfl rfl ?_ | refine prim_lookup (some (1, .string one)) (kt := 4) (et := 9) (d := .bool) (z := .string ⟨#[]⟩) (i := Tryd.t9) (by kernel_rfl) (by kernel_rfl) (by kernel_rfl) (by kernel_rfl) rfl rfl rfl rfl ?_
          refine ⟨szOk rfl, ?_⟩
          refine ⟨szOk rfl, ?_⟩
          refine ⟨szOk rfl, ?_⟩
          refine ⟨szOk rfl, ?_⟩
          refine ⟨szOk rfl, ?_⟩
          exact ⟨(_, _), trivial, [0, 1], rfl, ⟨vs hS, trivial⟩, rfl, rfl, rfl, rfl⟩
        refine And.intro ?_ ?_
        · skip
          refine prim_insert (kt := 4) (et := 9) (d := .bool) (by kernel_rfl) (by kernel_rfl) (by kernel_rfl) rfl rfl rfl ?_
          refine And.intro ?_ ?_
          · skip
            refine prim_insert (kt := 4) (et := 9) (d := .bool) (by kernel_rfl) (by kernel_rfl) (by kernel_rfl) rfl rfl rfl ?_
            refine And.intro ?_ ?_
            · skip
              first | refine prim_lookup (some (0, .string one)) (kt := 4) (et := 9) (d := .bool) (z := .string ⟨#[]⟩) (i := Tryd.t9) (by kernel_rfl) (by kernel_rfl) (by kernel_rfl) (by kernel_rfl) rfl rfl rfl rfl ?_ | refine prim_lookup (some (1, .string one)) (kt := 4) (et := 9) (d := .bool) (z := .string ⟨#[]⟩) (i := Tryd.t9) (by kernel_rfl) (by kernel_rfl) (by kernel_rfl) (by kernel_rfl) rfl rfl rfl rfl ?_
              refine ⟨szOk rfl, ?_⟩
              refine ⟨szOk rfl, ?_⟩
              refine ⟨szOk rfl, ?_⟩
              refine ⟨szOk rfl, ?_⟩
              refine (beG tx 4 g (by decide) h.2.1 (by have : tx ≤ 4294967295 := h.2.2; omega)).call rfl rfl rfl ?_
              refine ⟨szOk rfl, ?_⟩
              exact ⟨(_, _), trivial, [0, 1], rfl, ⟨vs hS, trivial⟩, rfl, rfl, rfl, rfl⟩
            refine (beG tx 4 g (by decide) h.2.1 (by have : tx ≤ 4294967295 := h.2.2; omega)).call rfl rfl rfl ?_
            first | refine prim_lookup (some (0, .string one)) (kt := 4) (et := 9) (d := .bool) (z := .string ⟨#[]⟩) (i := Tryd.t9) (by kernel_rfl) (by kernel_rfl) (by kernel_rfl) (by kernel_rfl) rfl rfl rfl rfl ?_ | refine prim_lookup (some (1, .string one)) (kt := 4) (et := 9) (d := .bool) (z := .string ⟨#[]⟩) (i := Tryd.t9) (by kernel_rfl) (by kernel_rfl) (by kernel_rfl) (by kernel_rfl) rfl rfl rfl rfl ?_
            refine ⟨szOk rfl, ?_⟩
            refine ⟨szOk rfl, ?_⟩
            refine ⟨szOk rfl, ?_⟩
            refine ⟨szOk rfl, ?_⟩
            refine ⟨szOk rfl, ?_⟩
            exact ⟨(_, _), trivial, [0, 1], rfl, ⟨vs hS, trivial⟩, rfl, rfl, rfl, rfl⟩
          refine (beG tx 4 g (by decide) h.2.1 (by have : tx ≤ 4294967295 := h.2.2; omega)).call rfl rfl rfl ?_
          refine prim_insert (kt := 4) (et := 9) (d := .bool) (by kernel_rfl) (by kernel_rfl) (by kernel_rfl) rfl rfl rfl ?_
          first | refine prim_lookup (some (0, .string one)) (kt := 4) (et := 9) (d := .bool) (z := .string ⟨#[]⟩) (i := Tryd.t9) (by kernel_rfl) (by kernel_rfl) (by kernel_rfl) (by kernel_rfl) rfl rfl rfl rfl ?_ | refine prim_lookup (some (1, .string one)) (kt := 4) (et := 9) (d := .bool) (z := .string ⟨#[]⟩) (i := Tryd.t9) (by kernel_rfl) (by kernel_rfl) (by kernel_rfl) (by kernel_rfl) rfl rfl rfl rfl ?_
          refine ⟨szOk rfl, ?_⟩
          refine ⟨szOk rfl, ?_⟩
          refine ⟨szOk rfl, ?_⟩
          refine ⟨szOk rfl, ?_⟩
          refine ⟨szOk rfl, ?_⟩
          exact ⟨(_, _), trivial, [0, 1], rfl, ⟨vs hS, trivial⟩, rfl, rfl, rfl, rfl⟩
        refine (beG tx 4 g (by decide) h.2.1 (by have : tx ≤ 4294967295 := h.2.2; omega)).call rfl rfl rfl ?_
        refine And.intro ?_ ?_
        · skip
          refine prim_insert (kt := 4) (et := 9) (d := .bool) (by kernel_rfl) (by kernel_rfl) (by kernel_rfl) rfl rfl rfl ?_
          refine prim_insert (kt := 4) (et := 9) (d := .bool) (by kernel_rfl) (by kernel_rfl) (by kernel_rfl) rfl rfl rfl ?_
          first | refine prim_lookup (some (0, .string one)) (kt := 4) (et := 9) (d := .bool) (z := .string ⟨#[]⟩) (i := Tryd.t9) (by kernel_rfl) (by kernel_rfl) (by kernel_rfl) (by kernel_rfl) rfl rfl rfl rfl ?_ | refine prim_lookup (some (1, .string one)) (kt := 4) (et := 9) (d := .bool) (z := .string ⟨#[]⟩) (i := Tryd.t9) (by kernel_rfl) (by kernel_rfl) (by kernel_rfl) (by kernel_rfl) rfl rfl rfl rfl ?_
          refine ⟨szOk rfl, ?_⟩
          refine ⟨szOk rfl, ?_⟩
          refine ⟨szOk rfl, ?_⟩
          refine ⟨szOk rfl, ?_⟩
          refine ⟨szOk rfl, ?_⟩
          exact ⟨(_, _), trivial, [0, 1], rfl, ⟨vs hS, trivial⟩, rfl, rfl, rfl, rfl⟩
        refine prim_insert (kt := 4) (et := 9) (d := .bool) (by kernel_rfl) (by kernel_rfl) (by kernel_rfl) rfl rfl rfl ?_
        refine prim_insert (kt := 4) (et := 9) (d := .bool) (by kernel_rfl) (by kernel_rfl) (by kernel_rfl) rfl rfl rfl ?_
        first | refine prim_lookup (some (0, .string one)) (kt := 4) (et := 9) (d := .bool) (z := .string ⟨#[]⟩) (i := Tryd.t9) (by kernel_rfl) (by kernel_rfl) (by kernel_rfl) (by kernel_rfl) rfl rfl rfl rfl ?_ | refine prim_lookup (some (1, .string one)) (kt := 4) (et := 9) (d := .bool) (z := .string ⟨#[]⟩) (i := Tryd.t9) (by kernel_rfl) (by kernel_rfl) (by kernel_rfl) (by kernel_rfl) rfl rfl rfl rfl ?_
        refine ⟨szOk rfl, ?_⟩
        refine ⟨szOk rfl, ?_⟩
        refine ⟨szOk rfl, ?_⟩
        refine ⟨szOk rfl, ?_⟩
        refine ⟨szOk rfl, ?_⟩
        exact ⟨(_, _), trivial, [0, 1], rfl, ⟨vs hS, trivial⟩, rfl, rfl, rfl, rfl⟩
      refine (beG po 2 g (by decide) a1.1 a1.2.2).call rfl rfl rfl ?_
      refine And.intro ?_ ?_
      · skip
        refine prim_makeMap 1 rfl rfl ?_
        refine And.intro ?_ ?_
        · skip
          refine prim_insert (kt := 4) (et := 9) (d := .bool) (by kernel_rfl) (by kernel_rfl) (by kernel_rfl) rfl rfl rfl ?_
          refine And.intro ?_ ?_
          · skip
            refine prim_insert (kt := 4) (et := 9) (d := .bool) (by kernel_rfl) (by kernel_rfl) (by kernel_rfl) rfl rfl rfl ?_
            refine And.intro ?_ ?_
            · skip
              first | refine prim_lookup (some (0, .string one)) (kt := 4) (et := 9) (d := .bool) (z := .string ⟨#[]⟩) (i := Tryd.t9) (by kernel_rfl) (by kernel_rfl) (by kernel_rfl) (by kernel_rfl) rfl rfl rfl rfl ?_ | refine prim_lookup (some (1, .string one)) (kt := 4) (et := 9) (d := .bool) (z := .string ⟨#[]⟩) (i := Tryd.t9) (by kernel_rfl) (by kernel_rfl) (by kernel_rfl) (by kernel_rfl) rfl rfl rfl rfl ?_
              refine ⟨szOk rfl, ?_⟩
              refine ⟨szOk rfl, ?_⟩
              refine ⟨szOk rfl, ?_⟩
              refine ⟨szOk rfl, ?_⟩
              refine (beG tx 4 g (by decide) h.2.1 (by have : tx ≤ 4294967295 := h.2.2; omega)).call rfl rfl rfl ?_
              refine ⟨szOk rfl, ?_⟩
              exact ⟨(_, _), trivial, [0, 1], rfl, ⟨vs hS, trivial⟩, rfl, rfl, rfl, rfl⟩
            refine (beG tx 4 g (by decide) h.2.1 (by have : tx ≤ 4294967295 := h.2.2; omega)).call rfl rfl rfl ?_
            first | refine prim_lookup (some (0, .string one)) (kt := 4) (et := 9) (d := .bool) (z := .string ⟨#[]⟩) (i := Tryd.t9) (by kernel_rfl) (by kernel_rfl) (by kernel_rfl) (by kernel_rfl) rfl rfl rfl rfl ?_ | refine prim_lookup (some (1, .string one)) (kt := 4) (et := 9) (d := .bool) (z := .string ⟨#[]⟩) (i := Tryd.t9) (by kernel_rfl) (by kernel_rfl) (by kernel_rfl) (by kernel_rfl) rfl rfl rfl rfl ?_
            refine ⟨szOk rfl, ?_⟩
            refine ⟨szOk rfl, ?_⟩
            refine ⟨szOk rfl, ?_⟩
            refine ⟨szOk rfl, ?_⟩
            refine ⟨szOk rfl, ?_⟩
            exact ⟨(_, _), trivial, [0, 1], rfl, ⟨vs hS, trivial⟩, rfl, rfl, rfl, rfl⟩
          refine (beG tx 4 g (by decide) h.2.1 (by have : tx ≤ 4294967295 := h.2.2; omega)).call rfl rfl rfl ?_
          refine prim_insert (kt := 4) (et := 9) (d := .bool) (by kernel_rfl) (by kernel_rfl) (by kernel_rfl) rfl rfl rfl ?_
          first | refine prim_lookup (some (0, .string one)) (kt := 4) (et := 9) (d := .bool) (z := .string ⟨#[]⟩) (i := Tryd.t9) (by kernel_rfl) (by kernel_rfl) (by kernel_rfl) (by kernel_rfl) rfl rfl rfl rfl ?_ | refine prim_lookup (some (1, .string one)) (kt := 4) (et := 9) (d := .bool) (z := .string ⟨#[]⟩) (i := Tryd.t9) (by kernel_rfl) (by kernel_rfl) (by kernel_rfl) (by kernel_rfl) rfl rfl rfl rfl ?_
          refine ⟨szOk rfl, ?_⟩
          refine ⟨szOk rfl, ?_⟩
          refine ⟨szOk rfl, ?_⟩
          refine ⟨szOk rfl, ?_⟩
          refine ⟨szOk rfl, ?_⟩
          exact ⟨(_, _), trivial, [0, 1], rfl, ⟨vs hS, trivial⟩, rfl, rfl, rfl, rfl⟩
        refine And.intro ?_ ?_
        · skip
          refine prim_insert (kt := 4) (et := 9) (d := .bool) (by kernel_rfl) (by kernel_rfl) (by kernel_rfl) rfl rfl rfl ?_
          refine And.intro ?_ ?_
          · skip
            refine prim_insert (kt := 4) (et := 9) (d := .bool) (by kernel_rfl) (by kernel_rfl) (by kernel_rfl) rfl rfl rfl ?_
            refine And.intro ?_ ?_
            · skip
              first | refine prim_lookup (some (0, .string one)) (kt := 4) (et := 9) (d := .bool) (z := .string ⟨#[]⟩) (i := Tryd.t9) (by kernel_rfl) (by kernel_rfl) (by kernel_rfl) (by kernel_rfl) rfl rfl rfl rfl ?_ | refine prim_lookup (some (1, .string one)) (kt := 4) (et := 9) (d := .bool) (z := .string ⟨#[]⟩) (i := Tryd.t9) (by kernel_rfl) (by kernel_rfl) (by kernel_rfl) (by kernel_rfl) rfl rfl rfl rfl ?_
              refine ⟨szOk rfl, ?_⟩
              refine ⟨szOk rfl, ?_⟩
              refine ⟨szOk rfl, ?_⟩
              refine ⟨szOk rfl, ?_⟩
              refine (beG tx 4 g (by decide) h.2.1 (by have : tx ≤ 4294967295 := h.2.2; omega)).call rfl rfl rfl ?_
              refine ⟨szOk rfl, ?_⟩
              exact ⟨(_, _), trivial, [0, 1], rfl, ⟨vs hS, trivial⟩, rfl, rfl, rfl, rfl⟩
            refine (beG tx 4 g (by decide) h.2.1 (by have : tx ≤ 4294967295 := h.2.2; omega)).call rfl rfl rfl ?_
            first | refine prim_lookup (some (0, .string one)) (kt := 4) (et := 9) (d := .bool) (z := .string ⟨#[]⟩) (i := Tryd.t9) (by kernel_rfl) (by kernel_rfl) (by kernel_rfl) (by kernel_rfl) rfl rfl rfl rfl ?_ | refine prim_lookup (some (1, .string one)) (kt := 4) (et := 9) (d := .bool) (z := .string ⟨#[]⟩) (i := Tryd.t9) (by kernel_rfl) (by kernel_rfl) (by kernel_rfl) (by kernel_rfl) rfl rfl rfl rfl ?_
            refine ⟨szOk rfl, ?_⟩
            refine ⟨szOk rfl, ?_⟩
            refine ⟨szOk rfl, ?_⟩
            refine ⟨szOk rfl, ?_⟩
            refine ⟨szOk rfl, ?_⟩
            exact ⟨(_, _), trivial, [0, 1], rfl, ⟨vs hS, trivial⟩, rfl, rfl, rfl, rfl⟩
          refine (beG tx 4 g (by decide) h.2.1 (by have : tx ≤ 4294967295 := h.2.2; omega)).call rfl rfl rfl ?_
          refine prim_insert (kt := 4) (et := 9) (d := .bool) (by kernel_rfl) (by kernel_rfl) (by kernel_rfl) rfl rfl rfl ?_
          first | refine prim_lookup (some (0, .string one)) (kt := 4) (et := 9) (d := .bool) (z := .string ⟨#[]⟩) (i := Tryd.t9) (by kernel_rfl) (by kernel_rfl) (by kernel_rfl) (by kernel_rfl) rfl rfl rfl rfl ?_ | refine prim_lookup (some (1, .string one)) (kt := 4) (et := 9) (d := .bool) (z := .string ⟨#[]⟩) (i := Tryd.t9) (by kernel_rfl) (by kernel_rfl) (by kernel_rfl) (by kernel_rfl) rfl rfl rfl rfl ?_
          refine ⟨szOk rfl, ?_⟩
          refine ⟨szOk rfl, ?_⟩
          refine ⟨szOk rfl, ?_⟩
          refine ⟨szOk rfl, ?_⟩
          refine ⟨szOk rfl, ?_⟩
          exact ⟨(_, _), trivial, [0, 1], rfl, ⟨vs hS, trivial⟩, rfl, rfl, rfl, rfl⟩
        refine (beG tx 4 g (by decide) h.2.1 (by have : tx ≤ 4294967295 := h.2.2; omega)).call rfl rfl rfl ?_
        refine And.intro ?_ ?_
        · skip
          refine prim_insert (kt := 4) (et := 9) (d := .bool) (by kernel_rfl) (by kernel_rfl) (by kernel_rfl) rfl rfl rfl ?_
          refine prim_insert (kt := 4) (et := 9) (d := .bool) (by kernel_rfl) (by kernel_rfl) (by kernel_rfl) rfl rfl rfl ?_
          first | refine prim_lookup (some (0, .string one)) (kt := 4) (et := 9) (d := .bool) (z := .string ⟨#[]⟩) (i := Tryd.t9) (by kernel_rfl) (by kernel_rfl) (by kernel_rfl) (by kernel_rfl) rfl rfl rfl rfl ?_ | refine prim_lookup (some (1, .string one)) (kt := 4) (et := 9) (d := .bool) (z := .string ⟨#[]⟩) (i := Tryd.t9) (by kernel_rfl) (by kernel_rfl) (by kernel_rfl) (by kernel_rfl) rfl rfl rfl rfl ?_
          refine ⟨szOk rfl, ?_⟩
          refine ⟨szOk rfl, ?_⟩
          refine ⟨szOk rfl, ?_⟩
          refine ⟨szOk rfl, ?_⟩
          refine ⟨szOk rfl, ?_⟩
          exact ⟨(_, _), trivial, [0, 1], rfl, ⟨vs hS, trivial⟩, rfl, rfl, rfl, rfl⟩
        refine prim_insert (kt := 4) (et := 9) (d := .bool) (by kernel_rfl) (by kernel_rfl) (by kernel_rfl) rfl rfl rfl ?_
        refine prim_insert (kt := 4) (et := 9) (d := .bool) (by kernel_rfl) (by kernel_rfl) (by kernel_rfl) rfl rfl rfl ?_
        first | refine prim_lookup (some (0, .string one)) (kt := 4) (et := 9) (d := .bool) (z := .string ⟨#[]⟩) (i := Tryd.t9) (by kernel_rfl) (by kernel_rfl) (by kernel_rfl) (by kernel_rfl) rfl rfl rfl rfl ?_ | refine prim_lookup (some (1, .string one)) (kt := 4) (et := 9) (d := .bool) (z := .string ⟨#[]⟩) (i := Tryd.t9) (by kernel_rfl) (by kernel_rfl) (by kernel_rfl) (by kernel_rfl) rfl rfl rfl rfl ?_
        refine ⟨szOk rfl, ?_⟩
        refine ⟨szOk rfl, ?_⟩
        refine ⟨szOk rfl, ?_⟩
        refine ⟨szOk rfl, ?_⟩
        refine ⟨szOk rfl, ?_⟩
        exact ⟨(_, _), trivial, [0, 1], rfl, ⟨vs hS, trivial⟩, rfl, rfl, rfl, rfl⟩
      refine (beG tx 4 g (by decide) h.2.1 (by have : tx ≤ 4294967295 := h.2.2; omega)).call rfl rfl rfl ?_
      refine prim_makeMap 1 rfl rfl ?_
      refine And.intro ?_ ?_
      · skip
        refine prim_insert (kt := 4) (et := 9) (d := .bool) (by kernel_rfl) (by kernel_rfl) (by kernel_rfl) rfl rfl rfl ?_
        refine prim_insert (kt := 4) (et := 9) (d := .bool) (by kernel_rfl) (by kernel_rfl) (by kernel_rfl) rfl rfl rfl ?_
        first | refine prim_lookup (some (0, .string one)) (kt := 4) (et := 9) (d := .bool) (z := .string ⟨#[]⟩) (i := Tryd.t9) (by kernel_rfl) (by kernel_rfl) (by kernel_rfl) (by kernel_rfl) rfl rfl rfl rfl ?_ | refine prim_lookup (some (1, .string one)) (kt := 4) (et := 9) (d := .bool) (z := .string ⟨#[]⟩) (i := Tryd.t9) (by kernel_rfl) (by kernel_rfl) (by kernel_rfl) (by kernel_rfl) rfl rfl rfl rfl ?_
        refine ⟨szOk rfl, ?_⟩
        refine ⟨szOk rfl, ?_⟩
        refine ⟨szOk rfl, ?_⟩
        refine ⟨szOk rfl, ?_⟩
        refine ⟨szOk rfl, ?_⟩
        exact ⟨(_, _), trivial, [0, 1], rfl, ⟨vs hS, trivial⟩, rfl, rfl, rfl, rfl⟩
      refine prim_insert (kt := 4) (et := 9) (d := .bool) (by kernel_rfl) (by kernel_rfl) (by kernel_rfl) rfl rfl rfl ?_
      refine prim_insert (kt := 4) (et := 9) (d := .bool) (by kernel_rfl) (by kernel_rfl) (by kernel_rfl) rfl rfl rfl ?_
      first | refine prim_lookup (some (0, .string one)) (kt := 4) (et := 9) (d := .bool) (z := .string ⟨#[]⟩) (i := Tryd.t9) (by kernel_rfl) (by kernel_rfl) (by kernel_rfl) (by kernel_rfl) rfl rfl rfl rfl ?_ | refine prim_lookup (some (1, .string one)) (kt := 4) (et := 9) (d := .bool) (z := .string ⟨#[]⟩) (i := Tryd.t9) (by kernel_rfl) (by kernel_rfl) (by kernel_rfl) (by kernel_rfl) rfl rfl rfl rfl ?_
      refine ⟨szOk rfl, ?_⟩
      refine ⟨szOk rfl, ?_⟩
      refine ⟨szOk rfl, ?_⟩
      refine ⟨szOk rfl, ?_⟩
      refine ⟨szOk rfl, ?_⟩
      exact ⟨(_, _), trivial, [0, 1], rfl, ⟨vs hS, trivial⟩, rfl, rfl, rfl, rfl⟩
    · rintro ⟨es, ck⟩ -
      generalize hT : markS ⟨false, po, sy, tx⟩ = s3 at hsz
      change LoopW _ _ _ _ _ _ _
      apply loop_rule [] (α := ByteArray × Nat) (fun x => [(4, .v (.string x.1))]) (fun _ => [.cells 75 ((MarkerV.cells ⟨false, po, sy, tx⟩).map .v), .raw (.map es ck)]) (fun _ => g) (fun x => x.1 = s3 ++ zeroS x.2 ∧ x.2 ≤ 94) (fun x => 94 - x.2) (s3, 0)
      · intro x; kernel_rfl
      · exact ⟨zeroS_nil s3, Nat.zero_le _⟩
      · exact ⟨rfl, trivial⟩
      · rfl
      · rfl
      rintro ⟨t, j⟩ ⟨ht, hj⟩
      dsimp only at ht hj
      have hts : t.size = 16 + j := by rw [ht, ByteArray.size_append, hsz, zeroS_size]
      refine bsplit_of (fun (q : decide ((t.size : Int) < 110) = true) => ?_) (fun (q : decide ((t.size : Int) < 110) = false) => ?_)
      · have q := of_decide_eq_true q
        refine ⟨by show t.size + 1 ≤ _; omega, ?_⟩
        refine ⟨(t ++ ⟨#[0]⟩, j + 1), ⟨?_, by show j + 1 ≤ 94; omega⟩, by show 94 - (j + 1) < 94 - j; omega, [0, 1], rfl, ⟨rfl, trivial⟩, rfl, rfl, rfl, rfl⟩
        show t ++ ⟨#[0]⟩ = s3 ++ zeroS (j + 1)
        rw [ht, ByteArray.append_assoc, zeroS_next]
      · have q := of_decide_eq_false q
        have hj64 : j = 94 := by omega
        subst hj64
        rw [← ht]
        exact ⟨rfl, rfl, rfl⟩
  · change JoinW _ _ _ _ _ _ _
    refine join_rule [] (α := Array MapEntry × Nat) (fun _ => [(4, .v (.string (markS ⟨true, po, sy, tx⟩)))]) (fun y => [.cells 75 ((MarkerV.cells ⟨true, po, sy, tx⟩).map .v), .raw (.map y.1 y.2)]) (fun _ => g) (fun _ => True) (fun y => by kernel_rfl) ?_ ?_
    · skip
      refine And.intro ?_ ?_
      · skip
        refine prim_makeMap 1 rfl rfl ?_
        refine And.intro ?_ ?_
        · skip
          refine prim_insert (kt := 4) (et := 9) (d := .bool) (by kernel_rfl) (by kernel_rfl) (by kernel_rfl) rfl rfl rfl ?_
          refine And.intro ?_ ?_
          · skip
            refine prim_insert (kt := 4) (et := 9) (d := .bool) (by kernel_rfl) (by kernel_rfl) (by kernel_rfl) rfl rfl rfl ?_
            refine And.intro ?_ ?_
            · skip
              first | refine prim_lookup (some (0, .string two)) (kt := 4) (et := 9) (d := .bool) (z := .string ⟨#[]⟩) (i := Tryd.t9) (by kernel_rfl) (by kernel_rfl) (by kernel_rfl) (by kernel_rfl) rfl rfl rfl rfl ?_ | refine prim_lookup (some (1, .string two)) (kt := 4) (et := 9) (d := .bool) (z := .string ⟨#[]⟩) (i := Tryd.t9) (by kernel_rfl) (by kernel_rfl) (by kernel_rfl) (by kernel_rfl) rfl rfl rfl rfl ?_
              refine ⟨szOk rfl, ?_⟩
              refine ⟨szOk rfl, ?_⟩
              refine (beG po 2 g (by decide) a1.1 a1.2.2).call rfl rfl rfl ?_
              refine ⟨szOk rfl, ?_⟩
              refine ⟨szOk rfl, ?_⟩
              refine (beG tx 4 g (by decide) h.2.1 (by have : tx ≤ 4294967295 := h.2.2; omega)).call rfl rfl rfl ?_
              refine ⟨szOk rfl, ?_⟩
              exact ⟨(_, _), trivial, [0, 1], rfl, ⟨vs hS, trivial⟩, rfl, rfl, rfl, rfl⟩
            refine (beG po 2 g (by decide) a1.1 a1.2.2).call rfl rfl rfl ?_
            refine And.intro ?_ ?_
            · skip
              first | refine prim_lookup (some (0, .string two)) (kt := 4) (et := 9) (d := .bool) (z := .string ⟨#[]⟩) (i := Tryd.t9) (by kernel_rfl) (by kernel_rfl) (by kernel_rfl) (by kernel_rfl) rfl rfl rfl rfl ?_ | refine prim_lookup (some (1, .string two)) (kt := 4) (et := 9) (d := .bool) (z := .string ⟨#[]⟩) (i := Tryd.t9) (by kernel_rfl) (by kernel_rfl) (by kernel_rfl) (by kernel_rfl) rfl rfl rfl rfl ?_
              refine ⟨szOk rfl, ?_⟩
              refine ⟨szOk rfl, ?_⟩
              refine ⟨szOk rfl, ?_⟩
              refine ⟨szOk rfl, ?_⟩
              refine (beG tx 4 g (by decide) h.2.1 (by have : tx ≤ 4294967295 := h.2.2; omega)).call rfl rfl rfl ?_
              refine ⟨szOk rfl, ?_⟩
              exact ⟨(_, _), trivial, [0, 1], rfl, ⟨vs hS, trivial⟩, rfl, rfl, rfl, rfl⟩
            refine (beG tx 4 g (by decide) h.2.1 (by have : tx ≤ 4294967295 := h.2.2; omega)).call rfl rfl rfl ?_
            first | refine prim_lookup (some (0, .string two)) (kt := 4) (et := 9) (d := .bool) (z := .string ⟨#[]⟩) (i := Tryd.t9) (by kernel_rfl) (by kernel_rfl) (by kernel_rfl) (by kernel_rfl) rfl rfl rfl rfl ?_ | refine prim_lookup (some (1, .string two)) (kt := 4) (et := 9) (d := .bool) (z := .string ⟨#[]⟩) (i := Tryd.t9) (by kernel_rfl) (by kernel_rfl) (by kernel_rfl) (by kernel_rfl) rfl rfl rfl rfl ?_
            refine ⟨szOk rfl, ?_⟩
            refine ⟨szOk rfl, ?_⟩
            refine ⟨szOk rfl, ?_⟩
            refine ⟨szOk rfl, ?_⟩
            refine ⟨szOk rfl, ?_⟩
            exact ⟨(_, _), trivial, [0, 1], rfl, ⟨vs hS, trivial⟩, rfl, rfl, rfl, rfl⟩
          refine (beG po 2 g (by decide) a1.1 a1.2.2).call rfl rfl rfl ?_
          refine And.intro ?_ ?_
          · skip
            refine prim_insert (kt := 4) (et := 9) (d := .bool) (by kernel_rfl) (by kernel_rfl) (by kernel_rfl) rfl rfl rfl ?_
            refine And.intro ?_ ?_
            · skip
              first | refine prim_lookup (some (0, .string two)) (kt := 4) (et := 9) (d := .bool) (z := .string ⟨#[]⟩) (i := Tryd.t9) (by kernel_rfl) (by kernel_rfl) (by kernel_rfl) (by kernel_rfl) rfl rfl rfl rfl ?_ | refine prim_lookup (some (1, .string two)) (kt := 4) (et := 9) (d := .bool) (z := .string ⟨#[]⟩) (i := Tryd.t9) (by kernel_rfl) (by kernel_rfl) (by kernel_rfl) (by kernel_rfl) rfl rfl rfl rfl ?_
              refine ⟨szOk rfl, ?_⟩
              refine ⟨szOk rfl, ?_⟩
              refine ⟨szOk rfl, ?_⟩
              refine ⟨szOk rfl, ?_⟩
              refine (beG tx 4 g (by decide) h.2.1 (by have : tx ≤ 4294967295 := h.2.2; omega)).call rfl rfl rfl ?_
              refine ⟨szOk rfl, ?_⟩
              exact ⟨(_, _), trivial, [0, 1], rfl, ⟨vs hS, trivial⟩, rfl, rfl, rfl, rfl⟩
            refine (beG tx 4 g (by decide) h.2.1 (by have : tx ≤ 4294967295 := h.2.2; omega)).call rfl rfl rfl ?_
            first | refine prim_lookup (some (0, .string two)) (kt := 4) (et := 9) (d := .bool) (z := .string ⟨#[]⟩) (i := Tryd.t9) (by kernel_rfl) (by kernel_rfl) (by kernel_rfl) (by kernel_rfl) rfl rfl rfl rfl ?_ | refine prim_lookup (some (1, .string two)) (kt := 4) (et := 9) (d := .bool) (z := .string ⟨#[]⟩) (i := Tryd.t9) (by kernel_rfl) (by kernel_rfl) (by kernel_rfl) (by kernel_rfl) rfl rfl rfl rfl ?_
            refine ⟨szOk rfl, ?_⟩
            refine ⟨szOk rfl, ?_⟩
            refine ⟨szOk rfl, ?_⟩
            refine ⟨szOk rfl, ?_⟩
            refine ⟨szOk rfl, ?_⟩
            exact ⟨(_, _), trivial, [0, 1], rfl, ⟨vs hS, trivial⟩, rfl, rfl, rfl, rfl⟩
          refine (beG tx 4 g (by decide) h.2.1 (by have : tx ≤ 4294967295 := h.2.2; omega)).call rfl rfl rfl ?_
          refine prim_insert (kt := 4) (et := 9) (d := .bool) (by kernel_rfl) (by kernel_rfl) (by kernel_rfl) rfl rfl rfl ?_
          first | refine prim_lookup (some (0, .string two)) (kt := 4) (et := 9) (d := .bool) (z := .string ⟨#[]⟩) (i := Tryd.t9) (by kernel_rfl) (by kernel_rfl) (by kernel_rfl) (by kernel_rfl) rfl rfl rfl rfl ?_ | refine prim_lookup (some (1, .string two)) (kt := 4) (et := 9) (d := .bool) (z := .string ⟨#[]⟩) (i := Tryd.t9) (by kernel_rfl) (by kernel_rfl) (by kernel_rfl) (by kernel_rfl) rfl rfl rfl rfl ?_
          refine ⟨szOk rfl, ?_⟩
          refine ⟨szOk rfl, ?_⟩
          refine ⟨szOk rfl, ?_⟩
          refine ⟨szOk rfl, ?_⟩
          refine ⟨szOk rfl, ?_⟩
          exact ⟨(_, _), trivial, [0, 1], rfl, ⟨vs hS, trivial⟩, rfl, rfl, rfl, rfl⟩
        refine And.intro ?_ ?_
        · skip
          refine prim_insert (kt := 4) (et := 9) (d := .bool) (by kernel_rfl) (by kernel_rfl) (by kernel_rfl) rfl rfl rfl ?_
          refine And.intro ?_ ?_
          · skip
            refine prim_insert (kt := 4) (et := 9) (d := .bool) (by kernel_rfl) (by kernel_rfl) (by kernel_rfl) rfl rfl rfl ?_
            refine And.intro ?_ ?_
            · skip
              first | refine prim_lookup (some (0, .string two)) (kt := 4) (et := 9) (d := .bool) (z := .string ⟨#[]⟩) (i := Tryd.t9) (by kernel_rfl) (by kernel_rfl) (by kernel_rfl) (by kernel_rfl) rfl rfl rfl rfl ?_ | refine prim_lookup (some (1, .string two)) (kt := 4) (et := 9) (d := .bool) (z := .string ⟨#[]⟩) (i := Tryd.t9) (by kernel_rfl) (by kernel_rfl) (by kernel_rfl) (by kernel_rfl) rfl rfl rfl rfl ?_
              refine ⟨szOk rfl, ?_⟩
              refine ⟨szOk rfl, ?_⟩
              refine (beG po 2 g (by decide) a1.1 a1.2.2).call rfl rfl rfl ?_
              refine ⟨szOk rfl, ?_⟩
              refine ⟨szOk rfl, ?_⟩
              refine (beG tx 4 g (by decide) h.2.1 (by have : tx ≤ 4294967295 := h.2.2; omega)).call rfl rfl rfl ?_
              refine ⟨szOk rfl, ?_⟩
              exact ⟨(_, _), trivial, [0, 1], rfl, ⟨vs hS, trivial⟩, rfl, rfl, rfl, rfl⟩
            refine (beG po 2 g (by decide) a1.1 a1.2.2).call rfl rfl rfl ?_
            refine And.intro ?_ ?_
            · skip
              first | refine prim_lookup (some (0, .string two)) (kt := 4) (et := 9) (d := .bool) (z := .string ⟨#[]⟩) (i := Tryd.t9) (by kernel_rfl) (by kernel_rfl) (by kernel_rfl) (by kernel_rfl) rfl rfl rfl rfl ?_ | refine prim_lookup (some (1, .string two)) (kt := 4) (et := 9) (d := .bool) (z := .string ⟨#[]⟩) (i := Tryd.t9) (by kernel_rfl) (by kernel_rfl) (by kernel_rfl) (by kernel_rfl) rfl rfl rfl rfl ?_
              refine ⟨szOk rfl, ?_⟩
              refine ⟨szOk rfl, ?_⟩
              refine ⟨szOk rfl, ?_⟩
              refine ⟨szOk rfl, ?_⟩
              refine (beG tx 4 g (by decide) h.2.1 (by have : tx ≤ 4294967295 := h.2.2; omega)).call rfl rfl rfl ?_
              refine ⟨szOk rfl, ?_⟩
              exact ⟨(_, _), trivial, [0, 1], rfl, ⟨vs hS, trivial⟩, rfl, rfl, rfl, rfl⟩
            refine (beG tx 4 g (by decide) h.2.1 (by have : tx ≤ 4294967295 := h.2.2; omega)).call rfl rfl rfl ?_
            first | refine prim_lookup (some (0, .string two)) (kt := 4) (et := 9) (d := .bool) (z := .string ⟨#[]⟩) (i := Tryd.t9) (by kernel_rfl) (by kernel_rfl) (by kernel_rfl) (by kernel_rfl) rfl rfl rfl rfl ?_ | refine prim_lookup (some (1, .string two)) (kt := 4) (et := 9) (d := .bool) (z := .string ⟨#[]⟩) (i := Tryd.t9) (by kernel_rfl) (by kernel_rfl) (by kernel_rfl) (by kernel_rfl) rfl rfl rfl rfl ?_
            refine ⟨szOk rfl, ?_⟩
            refine ⟨szOk rfl, ?_⟩
            refine ⟨szOk rfl, ?_⟩
            refine ⟨szOk rfl, ?_⟩
            refine ⟨szOk rfl, ?_⟩
            exact ⟨(_, _), trivial, [0, 1], rfl, ⟨vs hS, trivial⟩, rfl, rfl, rfl, rfl⟩
          refine (beG po 2 g (by decide) a1.1 a1.2.2).call rfl rfl rfl ?_
          refine And.intro ?_ ?_
          · skip
            refine prim_insert (kt := 4) (et := 9) (d := .bool) (by kernel_rfl) (by kernel_rfl) (by kernel_rfl) rfl rfl rfl ?_
            refine And.intro ?_ ?_
            · skip
              first | refine prim_lookup (some (0, .string two)) (kt := 4) (et := 9) (d := .bool) (z := .string ⟨#[]⟩) (i := Tryd.t9) (by kernel_rfl) (by kernel_rfl) (by kernel_rfl) (by kernel_rfl) rfl rfl rfl rfl ?_ | refine prim_lookup (some (1, .string two)) (kt := 4) (et := 9) (d := .bool) (z := .string ⟨#[]⟩) (i := Tryd.t9) (by kernel_rfl) (by kernel_rfl) (by kernel_rfl) (by kernel_rfl) rfl rfl rfl rfl ?_
              refine ⟨szOk rfl, ?_⟩
              refine ⟨szOk rfl, ?_⟩
              refine ⟨szOk rfl, ?_⟩
              refine ⟨szOk rfl, ?_⟩
              refine (beG tx 4 g (by decide) h.2.1 (by have : tx ≤ 4294967295 := h.2.2; omega)).call rfl rfl rfl ?_
              refine ⟨szOk rfl, ?_⟩
              exact ⟨(_, _), trivial, [0, 1], rfl, ⟨vs hS, trivial⟩, rfl, rfl, rfl, rfl⟩
            refine (beG tx 4 g (by decide) h.2.1 (by have : tx ≤ 4294967295 := h.2.2; omega)).call rfl rfl rfl ?_
            first | refine prim_lookup (some (0, .string two)) (kt := 4) (et := 9) (d := .bool) (z := .string ⟨#[]⟩) (i := Tryd.t9) (by kernel_rfl) (by kernel_rfl) (by kernel_rfl) (by kernel_rfl) rfl rfl rfl rfl ?_ | refine prim_lookup (some (1, .string two)) (kt := 4) (et := 9) (d := .bool) (z := .string ⟨#[]⟩) (i := Tryd.t9) (by kernel_rfl) (by kernel_rfl) (by kernel_rfl) (by kernel_rfl) rfl rfl rfl rfl ?_
            refine ⟨szOk rfl, ?_⟩
            refine ⟨szOk rfl, ?_⟩
            refine ⟨szOk rfl, ?_⟩
            refine ⟨szOk rfl, ?_⟩
            refine ⟨szOk rfl, ?_⟩
            exact ⟨(_, _), trivial, [0, 1], rfl, ⟨vs hS, trivial⟩, rfl, rfl, rfl, rfl⟩
          refine (beG tx 4 g (by decide) h.2.1 (by have : tx ≤ 4294967295 := h.2.2; omega)).call rfl rfl rfl ?_
          refine prim_insert (kt := 4) (et := 9) (d := .bool) (by kernel_rfl) (by kernel_rfl) (by kernel_rfl) rfl rfl rfl ?_
          first | refine prim_lookup (some (0, .string two)) (kt := 4) (et := 9) (d := .bool) (z := .string ⟨#[]⟩) (i := Tryd.t9) (by kernel_rfl) (by kernel_rfl) (by kernel_rfl) (by kernel_rfl) rfl rfl rfl rfl ?_ | refine prim_lookup (some (1, .string two)) (kt := 4) (et := 9) (d := .bool) (z := .string ⟨#[]⟩) (i := Tryd.t9) (by kernel_rfl) (by kernel_rfl) (by kernel_rfl) (by kernel_rfl) rfl rfl rfl rfl ?_
          refine ⟨szOk rfl, ?_⟩
          refine ⟨szOk rfl, ?_⟩
          refine ⟨szOk rfl, ?_⟩
          refine ⟨szOk rfl, ?_⟩
          refine ⟨szOk rfl, ?_⟩
          exact ⟨(_, _), trivial, [0, 1], rfl, ⟨vs hS, trivial⟩, rfl, rfl, rfl, rfl⟩
        refine (beG po 2 g (by decide) a1.1 a1.2.2).call rfl rfl rfl ?_
        refine And.intro ?_ ?_
        · skip
          refine prim_insert (kt := 4) (et := 9) (d := .bool) (by kernel_rfl) (by kernel_rfl) (by kernel_rfl) rfl rfl rfl ?_
          refine And.intro ?_ ?_
          · skip
            refine prim_insert (kt := 4) (et := 9) (d := .bool) (by kernel_rfl) (by kernel_rfl) (by kernel_rfl) rfl rfl rfl ?_
            refine And.intro ?_ ?_
            · skip
              first | refine prim_lookup (some (0, .string two)) (kt := 4) (et := 9) (d := .bool) (z := .string ⟨#[]⟩) (i := Tryd.t9) (by kernel_rfl) (by kernel_rfl) (by kernel_rfl) (by kernel_rfl) rfl rfl rfl rfl ?_ | refine prim_lookup (some (1, .string two)) (kt := 4) (et := 9) (d := .bool) (z := .string ⟨#[]⟩) (i := Tryd.t9) (by kernel_rfl) (by kernel_rfl) (by kernel_rfl) (by kernel_rfl) rfl rfl rfl rfl ?_
              refine ⟨szOk rfl, ?_⟩
              refine ⟨szOk rfl, ?_⟩
              refine ⟨szOk rfl, ?_⟩
              refine ⟨szOk rfl, ?_⟩
              refine (beG tx 4 g (by decide) h.2.1 (by have : tx ≤ 4294967295 := h.2.2; omega)).call rfl rfl rfl ?_
              refine ⟨szOk rfl, ?_⟩
              exact ⟨(_, _), trivial, [0, 1], rfl, ⟨vs hS, trivial⟩, rfl, rfl, rfl, rfl⟩
            refine (beG tx 4 g (by decide) h.2.1 (by have : tx ≤ 4294967295 := h.2.2; omega)).call rfl rfl rfl ?_
            first | refine prim_lookup (some (0, .string two)) (kt := 4) (et := 9) (d := .bool) (z := .string ⟨#[]⟩) (i := Tryd.t9) (by kernel_rfl) (by kernel_rfl) (by kernel_rfl) (by kernel_rfl) rfl rfl rfl rfl ?_ | refine prim_lookup (some (1, .string two)) (kt := 4) (et := 9) (d := .bool) (z := .string ⟨#[]⟩) (i := Tryd.t9) (by kernel_rfl) (by kernel_rfl) (by kernel_rfl) (by kernel_rfl) rfl rfl rfl rfl ?_
            refine ⟨szOk rfl, ?_⟩
            refine ⟨szOk rfl, ?_⟩
            refine ⟨szOk rfl, ?_⟩
            refine ⟨szOk rfl, ?_⟩
            refine ⟨szOk rfl, ?_⟩
            exact ⟨(_, _), trivial, [0, 1], rfl, ⟨vs hS, trivial⟩, rfl, rfl, rfl, rfl⟩
          refine (beG tx 4 g (by decide) h.2.1 (by have : tx ≤ 4294967295 := h.2.2; omega)).call rfl rfl rfl ?_
          refine prim_insert (kt := 4) (et := 9) (d := .bool) (by kernel_rfl) (by kernel_rfl) (by kernel_rfl) rfl rfl rfl ?_
          first | refine prim_lookup (some (0, .string two)) (kt := 4) (et := 9) (d := .bool) (z := .string ⟨#[]⟩) (i := Tryd.t9) (by kernel_rfl) (by kernel_rfl) (by kernel_rfl) (by kernel_rfl) rfl rfl rfl rfl ?_ | refine prim_lookup (some (1, .string two)) (kt := 4) (et := 9) (d := .bool) (z := .string ⟨#[]⟩) (i := Tryd.t9) (by kernel_rfl) (by kernel_rfl) (by kernel_rfl) (by kernel_rfl) rfl rfl rfl rfl ?_
          refine ⟨szOk rfl, ?_⟩
          refine ⟨szOk rfl, ?_⟩
          refine ⟨szOk rfl, ?_⟩
          refine ⟨szOk rfl, ?_⟩
          refine ⟨szOk rfl, ?_⟩
          exact ⟨(_, _), trivial, [0, 1], rfl, ⟨vs hS, trivial⟩, rfl, rfl, rfl, rfl⟩
        refine And.intro ?_ ?_
        · skip
          refine prim_insert (kt := 4) (et := 9) (d := .bool) (by kernel_rfl) (by kernel_rfl) (by kernel_rfl) rfl rfl rfl ?_
          refine And.intro ?_ ?_
          · skip
            refine prim_insert (kt := 4) (et := 9) (d := .bool) (by kernel_rfl) (by kernel_rfl) (by kernel_rfl) rfl rfl rfl ?_
            refine And.intro ?_ ?_
            · skip
              first | refine prim_lookup (some (0, .string two)) (kt := 4) (et := 9) (d := .bool) (z := .string ⟨#[]⟩) (i := Tryd.t9) (by kernel_rfl) (by kernel_rfl) (by kernel_rfl) (by kernel_rfl) rfl rfl rfl rfl ?_ | refine prim_lookup (some (1, .string two)) (kt := 4) (et := 9) (d := .bool) (z := .string ⟨#[]⟩) (i := Tryd.t9) (by kernel_rfl) (by kernel_rfl) (by kernel_rfl) (by kernel_rfl) rfl rfl rfl rfl ?_
              refine ⟨szOk rfl, ?_⟩
              refine ⟨szOk rfl, ?_⟩
              refine ⟨szOk rfl, ?_⟩
              refine ⟨szOk rfl, ?_⟩
              refine (beG tx 4 g (by decide) h.2.1 (by have : tx ≤ 4294967295 := h.2.2; omega)).call rfl rfl rfl ?_
              refine ⟨szOk rfl, ?_⟩
              exact ⟨(_, _), trivial, [0, 1], rfl, ⟨vs hS, trivial⟩, rfl, rfl, rfl, rfl⟩
            refine (beG tx 4 g (by decide) h.2.1 (by have : tx ≤ 4294967295 := h.2.2; omega)).call rfl rfl rfl ?_
            first | refine prim_lookup (some (0, .string two)) (kt := 4) (et := 9) (d := .bool) (z := .string ⟨#[]⟩) (i := Tryd.t9) (by kernel_rfl) (by kernel_rfl) (by kernel_rfl) (by kernel_rfl) rfl rfl rfl rfl ?_ | refine prim_lookup (some (1, .string two)) (kt := 4) (et := 9) (d := .bool) (z := .string ⟨#[]⟩) (i := Tryd.t9) (by kernel_rfl) (by kernel_rfl) (by kernel_rfl) (by kernel_rfl) rfl rfl rfl rfl ?_
            refine ⟨szOk rfl, ?_⟩
            refine ⟨szOk rfl, ?_⟩
            refine ⟨szOk rfl, ?_⟩
            refine ⟨szOk rfl, ?_⟩
            refine ⟨szOk rfl, ?_⟩
            exact ⟨(_, _), trivial, [0, 1], rfl, ⟨vs hS, trivial⟩, rfl, rfl, rfl, rfl⟩
          refine (beG tx 4 g (by decide) h.2.1 (by have : tx ≤ 4294967295 := h.2.2; omega)).call rfl rfl rfl ?_
          refine prim_insert (kt := 4) (et := 9) (d := .bool) (by kernel_rfl) (by kernel_rfl) (by kernel_rfl) rfl rfl rfl ?_
          first | refine prim_lookup (some (0, .string two)) (kt := 4) (et := 9) (d := .bool) (z := .string ⟨#[]⟩) (i := Tryd.t9) (by kernel_rfl) (by kernel_rfl) (by kernel_rfl) (by kernel_rfl) rfl rfl rfl rfl ?_ | refine prim_lookup (some (1, .string two)) (kt := 4) (et := 9) (d := .bool) (z := .string ⟨#[]⟩) (i := Tryd.t9) (by kernel_rfl) (by kernel_rfl) (by kernel_rfl) (by kernel_rfl) rfl rfl rfl rfl ?_
          refine ⟨szOk rfl, ?_⟩
          refine ⟨szOk rfl, ?_⟩
          refine ⟨szOk rfl, ?_⟩
          refine ⟨szOk rfl, ?_⟩
          refine ⟨szOk rfl, ?_⟩
          exact ⟨(_, _), trivial, [0, 1], rfl, ⟨vs hS, trivial⟩, rfl, rfl, rfl, rfl⟩
        refine (beG tx 4 g (by decide) h.2.1 (by have : tx ≤ 4294967295 := h.2.2; omega)).call rfl rfl rfl ?_
        refine And.intro ?_ ?_
        · skip
          refine prim_insert (kt := 4) (et := 9) (d := .bool) (by kernel_rfl) (by kernel_rfl) (by kernel_rfl) rfl rfl rfl ?_
          refine prim_insert (kt := 4) (et := 9) (d := .bool) (by kernel_rfl) (by kernel_rfl) (by kernel_rfl) rfl rfl rfl ?_
          first | refine prim_lookup (some (0, .string two)) (kt := 4) (et := 9) (d := .bool) (z := .string ⟨#[]⟩) (i := Tryd.t9) (by kernel_rfl) (by kernel_rfl) (by kernel_rfl) (by kernel_rfl) rfl rfl rfl rfl ?_ | refine prim_lookup (some (1, .string two)) (kt := 4) (et := 9) (d := .bool) (z := .string ⟨#[]⟩) (i := Tryd.t9) (by kernel_rfl) (by kernel_rfl) (by kernel_rfl) (by kernel_rfl) rfl rfl rfl rfl ?_
          refine ⟨szOk rfl, ?_⟩
          refine ⟨szOk rfl, ?_⟩
          refine ⟨szOk rfl, ?_⟩
          refine ⟨szOk rfl, ?_⟩
          refine ⟨szOk rfl, ?_⟩
          exact ⟨(_, _), trivial, [0, 1], rfl, ⟨vs hS, trivial⟩, rfl, rfl, rfl, rfl⟩
        refine prim_insert (kt := 4) (et := 9) (d := .bool) (by kernel_rfl) (by kernel_rfl) (by kernel_rfl) rfl rfl rfl ?_
        refine prim_insert (kt := 4) (et := 9) (d := .bool) (by kernel_rfl) (by kernel_rfl) (by kernel_rfl) rfl rfl rfl ?_
        first | refine prim_lookup (some (0, .string two)) (kt := 4) (et := 9) (d := .bool) (z := .string ⟨#[]⟩) (i := Tryd.t9) (by kernel_rfl) (by kernel_rfl) (by kernel_rfl) (by kernel_rfl) rfl rfl rfl rfl ?_ | refine prim_lookup (some (1, .string two)) (kt := 4) (et := 9) (d := .bool) (z := .string ⟨#[]⟩) (i := Tryd.t9) (by kernel_rfl) (by kernel_rfl) (by kernel_rfl) (by kernel_rfl) rfl rfl rfl rfl ?_
        refine ⟨szOk rfl, ?_⟩
        refine ⟨szOk rfl, ?_⟩
        refine ⟨szOk rfl, ?_⟩
        refine ⟨szOk rfl, ?_⟩
        refine ⟨szOk rfl, ?_⟩
        exact ⟨(_, _), trivial, [0, 1], rfl, ⟨vs hS, trivial⟩, rfl, rfl, rfl, rfl⟩
      refine (beG po 2 g (by decide) a1.1 a1.2.2).call rfl rfl rfl ?_
      refine And.intro ?_ ?_
      · skip
        refine prim_makeMap 1 rfl rfl ?_
        refine And.intro ?_ ?_
        · skip
          refine prim_insert (kt := 4) (et := 9) (d := .bool) (by kernel_rfl) (by kernel_rfl) (by kernel_rfl) rfl rfl rfl ?_
          refine And.intro ?_ ?_
          · skip
            refine prim_insert (kt := 4) (et := 9) (d := .bool) (by kernel_rfl) (by kernel_rfl) (by kernel_rfl) rfl rfl rfl ?_
            refine And.intro ?_ ?_
            · skip
              first | refine prim_lookup (some (0, .string two)) (kt := 4) (et := 9) (d := .bool) (z := .string ⟨#[]⟩) (i := Tryd.t9) (by kernel_rfl) (by kernel_rfl) (by kernel_rfl) (by kernel_rfl) rfl rfl rfl rfl ?_ | refine prim_lookup (some (1, .string two)) (kt := 4) (et := 9) (d := .bool) (z := .string ⟨#[]⟩) (i := Tryd.t9) (by kernel_rfl) (by kernel_rfl) (by kernel_rfl) (by kernel_rfl) rfl rfl rfl rfl ?_
              refine ⟨szOk rfl, ?_⟩
              refine ⟨szOk rfl, ?_⟩
              refine ⟨szOk rfl, ?_⟩
              refine ⟨szOk rfl, ?_⟩
              refine (beG tx 4 g (by decide) h.2.1 (by have : tx ≤ 4294967295 := h.2.2; omega)).call rfl rfl rfl ?_
              refine ⟨szOk rfl, ?_⟩
              exact ⟨(_, _), trivial, [0, 1], rfl, ⟨vs hS, trivial⟩, rfl, rfl, rfl, rfl⟩
            refine (beG tx 4 g (by decide) h.2.1 (by have : tx ≤ 4294967295 := h.2.2; omega)).call rfl rfl rfl ?_
            first | refine prim_lookup (some (0, .string two)) (kt := 4) (et := 9) (d := .bool) (z := .string ⟨#[]⟩) (i := Tryd.t9) (by kernel_rfl) (by kernel_rfl) (by kernel_rfl) (by kernel_rfl) rfl rfl rfl rfl ?_ | refine prim_lookup (some (1, .string two)) (kt := 4) (et := 9) (d := .bool) (z := .string ⟨#[]⟩) (i := Tryd.t9) (by kernel_rfl) (by kernel_rfl) (by kernel_rfl) (by kernel_rfl) rfl rfl rfl rfl ?_
            refine ⟨szOk rfl, ?_⟩
            refine ⟨szOk rfl, ?_⟩
            refine ⟨szOk rfl, ?_⟩
            refine ⟨szOk rfl, ?_⟩
            refine ⟨szOk rfl, ?_⟩
            exact ⟨(_, _), trivial, [0, 1], rfl, ⟨vs hS, trivial⟩, rfl, rfl, rfl, rfl⟩
          refine (beG tx 4 g (by decide) h.2.1 (by have : tx ≤ 4294967295 := h.2.2; omega)).call rfl rfl rfl ?_
          refine prim_insert (kt := 4) (et := 9) (d := .bool) (by kernel_rfl) (by kernel_rfl) (by kernel_rfl) rfl rfl rfl ?_
          first | refine prim_lookup (some (0, .string two)) (kt := 4) (et := 9) (d := .bool) (z := .string ⟨#[]⟩) (i := Tryd.t9) (by kernel_rfl) (by kernel_rfl) (by kernel_rfl) (by kernel_rfl) rfl rfl rfl rfl ?_ | refine prim_lookup (some (1, .string two)) (kt := 4) (et := 9) (d := .bool) (z := .string ⟨#[]⟩) (i := Tryd.t9) (by kernel_rfl) (by kernel_rfl) (by kernel_rfl) (by kernel_rfl) rfl rfl rfl rfl ?_
          refine ⟨szOk rfl, ?_⟩
          refine ⟨szOk rfl, ?_⟩
          refine ⟨szOk rfl, ?_⟩
          refine ⟨szOk rfl, ?_⟩
          refine ⟨szOk rfl, ?_⟩
          exact ⟨(_, _), trivial, [0, 1], rfl, ⟨vs hS, trivial⟩, rfl, rfl, rfl, rfl⟩
        refine And.intro ?_ ?_
        · skip
          refine prim_insert (kt := 4) (et := 9) (d := .bool) (by kernel_rfl) (by kernel_rfl) (by kernel_rfl) rfl rfl rfl ?_
          refine And.intro ?_ ?_
          · skip
            refine prim_insert (kt := 4) (et := 9) (d := .bool) (by kernel_rfl) (by kernel_rfl) (by kernel_rfl) rfl rfl rfl ?_
            refine And.intro ?_ ?_
            · skip
              first | refine prim_lookup (some (0, .string two)) (kt := 4) (et := 9) (d := .bool) (z := .string ⟨#[]⟩) (i := Tryd.t9) (by kernel_rfl) (by kernel_rfl) (by kernel_rfl) (by kernel_rfl) rfl rfl rfl rfl ?_ | refine prim_lookup (some (1, .string two)) (kt := 4) (et := 9) (d := .bool) (z := .string ⟨#[]⟩) (i := Tryd.t9) (by kernel_rfl) (by kernel_rfl) (by kernel_rfl) (by kernel_rfl) rfl rfl rfl rfl ?_
              refine ⟨szOk rfl, ?_⟩
              refine ⟨szOk rfl, ?_⟩
              refine ⟨szOk rfl, ?_⟩
              refine ⟨szOk rfl, ?_⟩
              refine (beG tx 4 g (by decide) h.2.1 (by have : tx ≤ 4294967295 := h.2.2; omega)).call rfl rfl rfl ?_
              refine ⟨szOk rfl, ?_⟩
              exact ⟨(_, _), trivial, [0, 1], rfl, ⟨vs hS, trivial⟩, rfl, rfl, rfl, rfl⟩
            refine (beG tx 4 g (by decide) h.2.1 (by have : tx ≤ 4294967295 := h.2.2; omega)).call rfl rfl rfl ?_
            first | refine prim_lookup (some (0, .string two)) (kt := 4) (et := 9) (d := .bool) (z := .string ⟨#[]⟩) (i := Tryd.t9) (by kernel_rfl) (by kernel_rfl) (by kernel_rfl) (by kernel_rfl) rfl rfl rfl rfl ?_ | refine prim_lookup (some (1, .string two)) (kt := 4) (et := 9) (d := .bool) (z := .string ⟨#[]⟩) (i := Tryd.t9) (by kernel_rfl) (by kernel_rfl) (by kernel_rfl) (by kernel_rfl) rfl rfl rfl rfl ?_
            refine ⟨szOk rfl, ?_⟩
            refine ⟨szOk rfl, ?_⟩
            refine ⟨szOk rfl, ?_⟩
            refine ⟨szOk rfl, ?_⟩
            refine ⟨szOk rfl, ?_⟩
            exact ⟨(_, _), trivial, [0, 1], rfl, ⟨vs hS, trivial⟩, rfl, rfl, rfl, rfl⟩
          refine (beG tx 4 g (by decide) h.2.1 (by have : tx ≤ 4294967295 := h.2.2; omega)).call rfl rfl rfl ?_
          refine prim_insert (kt := 4) (et := 9) (d := .bool) (by kernel_rfl) (by kernel_rfl) (by kernel_rfl) rfl rfl rfl ?_
          first | refine prim_lookup (some (0, .string two)) (kt := 4) (et := 9) (d := .bool) (z := .string ⟨#[]⟩) (i := Tryd.t9) (by kernel_rfl) (by kernel_rfl) (by kernel_rfl) (by kernel_rfl) rfl rfl rfl rfl ?_ | refine prim_lookup (some (1, .string two)) (kt := 4) (et := 9) (d := .bool) (z := .string ⟨#[]⟩) (i := Tryd.t9) (by kernel_rfl) (by kernel_rfl) (by kernel_rfl) (by kernel_rfl) rfl rfl rfl rfl ?_
          refine ⟨szOk rfl, ?_⟩
          refine ⟨szOk rfl, ?_⟩
          refine ⟨szOk rfl, ?_⟩
          refine ⟨szOk rfl, ?_⟩
          refine ⟨szOk rfl, ?_⟩
          exact ⟨(_, _), trivial, [0, 1], rfl, ⟨vs hS, trivial⟩, rfl, rfl, rfl, rfl⟩
        refine (beG tx 4 g (by decide) h.2.1 (by have : tx ≤ 4294967295 := h.2.2; omega)).call rfl rfl rfl ?_
        refine And.intro ?_ ?_
        · skip
          refine prim_insert (kt := 4) (et := 9) (d := .bool) (by kernel_rfl) (by kernel_rfl) (by kernel_rfl) rfl rfl rfl ?_
          refine prim_insert (kt := 4) (et := 9) (d := .bool) (by kernel_rfl) (by kernel_rfl) (by kernel_rfl) rfl rfl rfl ?_
          first | refine prim_lookup (some (0, .string two)) (kt := 4) (et := 9) (d := .bool) (z := .string ⟨#[]⟩) (i := Tryd.t9) (by kernel_rfl) (by kernel_rfl) (by kernel_rfl) (by kernel_rfl) rfl rfl rfl rfl ?_ | refine prim_lookup (some (1, .string two)) (kt := 4) (et := 9) (d := .bool) (z := .string ⟨#[]⟩) (i := Tryd.t9) (by kernel_rfl) (by kernel_rfl) (by kernel_rfl) (by kernel_rfl) rfl rfl rfl rfl ?_
          refine ⟨szOk rfl, ?_⟩
          refine ⟨szOk rfl, ?_⟩
          refine ⟨szOk rfl, ?_⟩
          refine ⟨szOk rfl, ?_⟩
          refine ⟨szOk rfl, ?_⟩
          exact ⟨(_, _), trivial, [0, 1], rfl, ⟨vs hS, trivial⟩, rfl, rfl, rfl, rfl⟩
        refine prim_insert (kt := 4) (et := 9) (d := .bool) (by kernel_rfl) (by kernel_rfl) (by kernel_rfl) rfl rfl rfl ?_
        refine prim_insert (kt := 4) (et := 9) (d := .bool) (by kernel_rfl) (by kernel_rfl) (by kernel_rfl) rfl rfl rfl ?_
        first | refine prim_lookup (some (0, .string two)) (kt := 4) (et := 9) (d := .bool) (z := .string ⟨#[]⟩) (i := Tryd.t9) (by kernel_rfl) (by kernel_rfl) (by kernel_rfl) (by kernel_rfl) rfl rfl rfl rfl ?_ | refine prim_lookup (some (1, .string two)) (kt := 4) (et := 9) (d := .bool) (z := .string ⟨#[]⟩) (i := Tryd.t9) (by kernel_rfl) (by kernel_rfl) (by kernel_rfl) (by kernel_rfl) rfl rfl rfl rfl ?_
        refine ⟨szOk rfl, ?_⟩
        refine ⟨szOk rfl, ?_⟩
        refine ⟨szOk rfl, ?_⟩
        refine ⟨szOk rfl, ?_⟩
        refine ⟨szOk rfl, ?_⟩
        exact ⟨(_, _), trivial, [0, 1], rfl, ⟨vs hS, trivial⟩, rfl, rfl, rfl, rfl⟩
      refine (beG tx 4 g (by decide) h.2.1 (by have : tx ≤ 4294967295 := h.2.2; omega)).call rfl rfl rfl ?_
      refine prim_makeMap 1 rfl rfl ?_
      refine And.intro ?_ ?_
      · skip
        refine prim_insert (kt := 4) (et := 9) (d := .bool) (by kernel_rfl) (by kernel_rfl) (by kernel_rfl) rfl rfl rfl ?_
        refine prim_insert (kt := 4) (et := 9) (d := .bool) (by kernel_rfl) (by kernel_rfl) (by kernel_rfl) rfl rfl rfl ?_
        first | refine prim_lookup (some (0, .string two)) (kt := 4) (et := 9) (d := .bool) (z := .string ⟨#[]⟩) (i := Tryd.t9) (by kernel_rfl) (by kernel_rfl) (by kernel_rfl) (by kernel_rfl) rfl rfl rfl rfl ?_ | refine prim_lookup (some (1, .string two)) (kt := 4) (et := 9) (d := .bool) (z := .string ⟨#[]⟩) (i := Tryd.t9) (by kernel_rfl) (by kernel_rfl) (by kernel_rfl) (by kernel_rfl) rfl rfl rfl rfl ?_
        refine ⟨szOk rfl, ?_⟩
        refine ⟨szOk rfl, ?_⟩
        refine ⟨szOk rfl, ?_⟩
        refine ⟨szOk rfl, ?_⟩
        refine ⟨szOk rfl, ?_⟩
        exact ⟨(_, _), trivial, [0, 1], rfl, ⟨vs hS, trivial⟩, rfl, rfl, rfl, rfl⟩
      refine prim_insert (kt := 4) (et := 9) (d := .bool) (by kernel_rfl) (by kernel_rfl) (by kernel_rfl) rfl rfl rfl ?_
      refine prim_insert (kt := 4) (et := 9) (d := .bool) (by kernel_rfl) (by kernel_rfl) (by kernel_rfl) rfl rfl rfl ?_
      first | refine prim_lookup (some (0, .string two)) (kt := 4) (et := 9) (d := .bool) (z := .string ⟨#[]⟩) (i := Tryd.t9) (by kernel_rfl) (by kernel_rfl) (by kernel_rfl) (by kernel_rfl) rfl rfl rfl rfl ?_ | refine prim_lookup (some (1, .string two)) (kt := 4) (et := 9) (d := .bool) (z := .string ⟨#[]⟩) (i := Tryd.t9) (by kernel_rfl) (by kernel_rfl) (by kernel_rfl) (by kernel_rfl) rfl rfl rfl rfl ?_
      refine ⟨szOk rfl, ?_⟩
      refine ⟨szOk rfl, ?_⟩
      refine ⟨szOk rfl, ?_⟩
      refine ⟨szOk rfl, ?_⟩
      refine ⟨szOk rfl, ?_⟩
      exact ⟨(_, _), trivial, [0, 1], rfl, ⟨vs hS, trivial⟩, rfl, rfl, rfl, rfl⟩
    · rintro ⟨es, ck⟩ -
      generalize hT : markS ⟨true, po, sy, tx⟩ = s3 at hsz
      change LoopW _ _ _ _ _ _ _
      apply loop_rule [] (α := ByteArray × Nat) (fun x => [(4, .v (.string x.1))]) (fun _ => [.cells 75 ((MarkerV.cells ⟨true, po, sy, tx⟩).map .v), .raw (.map es ck)]) (fun _ => g) (fun x => x.1 = s3 ++ zeroS x.2 ∧ x.2 ≤ 94) (fun x => 94 - x.2) (s3, 0)
      · intro x; kernel_rfl
      · exact ⟨zeroS_nil s3, Nat.zero_le _⟩
      · exact ⟨rfl, trivial⟩
      · rfl
      · rfl
      rintro ⟨t, j⟩ ⟨ht, hj⟩
      dsimp only at ht hj
      have hts : t.size = 16 + j := by rw [ht, ByteArray.size_append, hsz, zeroS_size]
      refine bsplit_of (fun (q : decide ((t.size : Int) < 110) = true) => ?_) (fun (q : decide ((t.size : Int) < 110) = false) => ?_)
      · have q := of_decide_eq_true q
        refine ⟨by show t.size + 1 ≤ _; omega, ?_⟩
        refine ⟨(t ++ ⟨#[0]⟩, j + 1), ⟨?_, by show j + 1 ≤ 94; omega⟩, by show 94 - (j + 1) < 94 - j; omega, [0, 1], rfl, ⟨rfl, trivial⟩, rfl, rfl, rfl, rfl⟩
        show t ++ ⟨#[0]⟩ = s3 ++ zeroS (j + 1)
        rw [ht, ByteArray.append_assoc, zeroS_next]
      · have q := of_decide_eq_false q
        have hj64 : j = 94 := by omega
        subst hj64
        rw [← ht]
        exact ⟨rfl, rfl, rfl⟩
end Go.Proofs.YtdfpbmchkfmfdaaDoor
