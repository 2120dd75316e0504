/- ref.FrameWrite; the law FrameWrites. Conditions: of the law: the variable errors.errorType is as laid. -/
import Derived.Test.YtdfpbmchkfmfdaaDoorFrWD
namespace Go.Proofs.YtdfpbmchkfmfdaaDoor
open Go.Sx Go.Lib Go.RowKit
set_option maxRecDepth 100000
set_option maxHeartbeats 8000000
attribute [local irreducible] Meets
attribute [local instance] Classical.propDecidable

def svcT : ByteArray := ⟨#[136, 168]⟩
def svcF : ByteArray := ⟨#[129, 0]⟩
instance szSvcT : Sz svcT 2 := ⟨by decide⟩
instance szSvcF : Sz svcF 2 := ⟨by decide⟩
theorem svcT_size : svcT.size = 2 := rfl
theorem svcF_size : svcF.size = 2 := rfl

theorem frWriteR_bad (f : FrameV) (g : G) (hf : f.ok g) (hb : f.body.size ≤ 1000000) (h : ¬ frP f) : Tells Tryd.prog 40 [.agg (f.cells.map .v)] g (.tup [.v (.string emp), .v (.int .i64 1)]) := by
  refine meets_ofJ mixedS Tryd.func40 (by kernel_rfl) x40_ok (some []) ?_
  refine (frameRightR_c f g hf hb).call rfl rfl rfl ?_
  refine bsplit_of (fun _ => ⟨rfl, rfl, rfl⟩) (fun (q : (!decide (frP f)) = false) => absurd q (by simp [h]))

theorem frWriteR_good (f : FrameV) (g : G) (hf : f.ok g) (hb : f.body.size ≤ 1000000) (h : frP f) : Tells Tryd.prog 40 [.agg (f.cells.map .v)] g (.tup [.v (.string (frameS f)), .v (.int .i64 0)]) := by
  refine meets_ofJ mixedS Tryd.func40 (by kernel_rfl) x40_ok (some []) ?_
  refine (frameRightR_c f g hf hb).call rfl rfl rfl ?_
  refine bsplit_of (fun (q : (!decide (frP f)) = true) => absurd q (by simp [h])) (fun _ => ?_)
  have hn2 : f.tags.l.length ≤ 2 := h.1.2
  have hts := hf.2.2.1
  refine ⟨szOk rfl, ?_⟩
  change LoopW _ _ _ _ _ _ _
  apply loop_rule [] (α := Nat) (fun k => [(23, .v (.int .i64 k)), (4, .v (.string (preS f k)))]) (fun _ => [frC f]) (fun _ => g) (fun k => k ≤ f.tags.l.length) (fun k => f.tags.l.length - k) 0
  · intro x; kernel_rfl
  · exact Nat.zero_le _
  · exact ⟨rfl, vs (preS_zero f).symm, trivial⟩
  · rfl
  · rfl
  intro k hk
  refine bsplit_of (fun hlt => ?_) (fun hlt => ?_)
  · have hlt' : k < f.tags.l.length := by simpa using hlt
    obtain ⟨ad, t, ha, hx, hat, htok⟩ := hts.elem (fun _ => rfl) hlt'
    refine ⟨⟨by omega, by omega⟩, ad, ha, ?_⟩
    refine ⟨t.cells, rfl, hat, ?_⟩
    have htp : tagP t := (h.1.1 k t hx).1
    have hrng := tagNum_rng htp
    have hps := preS_size f k hk
    refine (packR_good t g htp).call rfl rfl rfl ?_
    obtain ⟨ts, tp, td, tv⟩ := t
    cases ts
    · have hS : preS f k ++ (svcF ++ beS 2 (tagNum ⟨false, tp, td, tv⟩).toNat) = preS f (k + 1) := by
        rw [← preS_next hx, tagS]
        rfl
      change JoinW _ _ _ _ _ _ _
      refine join_rule [] (α := Array MapEntry × Nat) (fun _ => [(4, .v (.string (preS f (k + 1))))]) (fun y => [frC f, .cells 107 ((TagV.cells ⟨false, tp, td, tv⟩).map .v), .raw (.map y.1 y.2)]) (fun _ => g) (fun _ => True) (fun y => by kernel_rfl) ?_ ?_
      · skip
        refine And.intro ?_ ?_
        · skip
          refine prim_makeMap 2 rfl rfl ?_
          refine And.intro ?_ ?_
          · skip
            refine prim_insert (kt := 4) (et := 9) (d := .bool) (by kernel_rfl) (by kernel_rfl) (by kernel_rfl) rfl rfl rfl ?_
            refine And.intro ?_ ?_
            · skip
              refine prim_insert (kt := 4) (et := 9) (d := .bool) (by kernel_rfl) (by kernel_rfl) (by kernel_rfl) rfl rfl rfl ?_
              refine And.intro ?_ ?_
              · skip
                first | refine prim_lookup (some (0, .string svcF)) (kt := 4) (et := 9) (d := .bool) (z := .string ⟨#[]⟩) (i := Tryd.t9) (by kernel_rfl) (by kernel_rfl) (by kernel_rfl) (by kernel_rfl) rfl rfl rfl rfl ?_ | refine prim_lookup (some (1, .string svcF)) (kt := 4) (et := 9) (d := .bool) (z := .string ⟨#[]⟩) (i := Tryd.t9) (by kernel_rfl) (by kernel_rfl) (by kernel_rfl) (by kernel_rfl) rfl rfl rfl rfl ?_
                refine (beG (tagNum ⟨false, tp, td, tv⟩) 2 g (by decide) hrng.1 (by omega)).call rfl rfl rfl ?_
                refine ⟨szOk rfl, ?_⟩
                refine ⟨by show (preS f k).size + (svcF ++ beS 2 _).size ≤ _; rw [hps, ByteArray.size_append, beS_size, svcF_size]; omega, ?_⟩
                exact ⟨(_, _), trivial, [0, 1, 2], rfl, ⟨vs hS, trivial⟩, rfl, rfl, rfl, rfl⟩
              refine (beG (tagNum ⟨false, tp, td, tv⟩) 2 g (by decide) hrng.1 (by omega)).call rfl rfl rfl ?_
              first | refine prim_lookup (some (0, .string svcF)) (kt := 4) (et := 9) (d := .bool) (z := .string ⟨#[]⟩) (i := Tryd.t9) (by kernel_rfl) (by kernel_rfl) (by kernel_rfl) (by kernel_rfl) rfl rfl rfl rfl ?_ | refine prim_lookup (some (1, .string svcF)) (kt := 4) (et := 9) (d := .bool) (z := .string ⟨#[]⟩) (i := Tryd.t9) (by kernel_rfl) (by kernel_rfl) (by kernel_rfl) (by kernel_rfl) rfl rfl rfl rfl ?_
              refine ⟨szOk rfl, ?_⟩
              refine ⟨by show (preS f k).size + (svcF ++ beS 2 _).size ≤ _; rw [hps, ByteArray.size_append, beS_size, svcF_size]; omega, ?_⟩
              exact ⟨(_, _), trivial, [0, 1, 2], rfl, ⟨vs hS, trivial⟩, rfl, rfl, rfl, rfl⟩
            refine (beG (tagNum ⟨false, tp, td, tv⟩) 2 g (by decide) hrng.1 (by omega)).call rfl rfl rfl ?_
            refine prim_insert (kt := 4) (et := 9) (d := .bool) (by kernel_rfl) (by kernel_rfl) (by kernel_rfl) rfl rfl rfl ?_
            first | refine prim_lookup (some (0, .string svcF)) (kt := 4) (et := 9) (d := .bool) (z := .string ⟨#[]⟩) (i := Tryd.t9) (by kernel_rfl) (by kernel_rfl) (by kernel_rfl) (by kernel_rfl) rfl rfl rfl rfl ?_ | refine prim_lookup (some (1, .string svcF)) (kt := 4) (et := 9) (d := .bool) (z := .string ⟨#[]⟩) (i := Tryd.t9) (by kernel_rfl) (by kernel_rfl) (by kernel_rfl) (by kernel_rfl) rfl rfl rfl rfl ?_
            refine ⟨szOk rfl, ?_⟩
            refine ⟨by show (preS f k).size + (svcF ++ beS 2 _).size ≤ _; rw [hps, ByteArray.size_append, beS_size, svcF_size]; omega, ?_⟩
            exact ⟨(_, _), trivial, [0, 1, 2], rfl, ⟨vs hS, trivial⟩, rfl, rfl, rfl, rfl⟩
          refine And.intro ?_ ?_
          · skip
            refine prim_insert (kt := 4) (et := 9) (d := .bool) (by kernel_rfl) (by kernel_rfl) (by kernel_rfl) rfl rfl rfl ?_
            refine And.intro ?_ ?_
            · skip
              refine prim_insert (kt := 4) (et := 9) (d := .bool) (by kernel_rfl) (by kernel_rfl) (by kernel_rfl) rfl rfl rfl ?_
              refine And.intro ?_ ?_
              · skip
                first | refine prim_lookup (some (0, .string svcF)) (kt := 4) (et := 9) (d := .bool) (z := .string ⟨#[]⟩) (i := Tryd.t9) (by kernel_rfl) (by kernel_rfl) (by kernel_rfl) (by kernel_rfl) rfl rfl rfl rfl ?_ | refine prim_lookup (some (1, .string svcF)) (kt := 4) (et := 9) (d := .bool) (z := .string ⟨#[]⟩) (i := Tryd.t9) (by kernel_rfl) (by kernel_rfl) (by kernel_rfl) (by kernel_rfl) rfl rfl rfl rfl ?_
                refine (beG (tagNum ⟨false, tp, td, tv⟩) 2 g (by decide) hrng.1 (by omega)).call rfl rfl rfl ?_
                refine ⟨szOk rfl, ?_⟩
                refine ⟨by show (preS f k).size + (svcF ++ beS 2 _).size ≤ _; rw [hps, ByteArray.size_append, beS_size, svcF_size]; omega, ?_⟩
                exact ⟨(_, _), trivial, [0, 1, 2], rfl, ⟨vs hS, trivial⟩, rfl, rfl, rfl, rfl⟩
              refine (beG (tagNum ⟨false, tp, td, tv⟩) 2 g (by decide) hrng.1 (by omega)).call rfl rfl rfl ?_
              first | refine prim_lookup (some (0, .string svcF)) (kt := 4) (et := 9) (d := .bool) (z := .string ⟨#[]⟩) (i := Tryd.t9) (by kernel_rfl) (by kernel_rfl) (by kernel_rfl) (by kernel_rfl) rfl rfl rfl rfl ?_ | refine prim_lookup (some (1, .string svcF)) (kt := 4) (et := 9) (d := .bool) (z := .string ⟨#[]⟩) (i := Tryd.t9) (by kernel_rfl) (by kernel_rfl) (by kernel_rfl) (by kernel_rfl) rfl rfl rfl rfl ?_
              refine ⟨szOk rfl, ?_⟩
              refine ⟨by show (preS f k).size + (svcF ++ beS 2 _).size ≤ _; rw [hps, ByteArray.size_append, beS_size, svcF_size]; omega, ?_⟩
              exact ⟨(_, _), trivial, [0, 1, 2], rfl, ⟨vs hS, trivial⟩, rfl, rfl, rfl, rfl⟩
            refine (beG (tagNum ⟨false, tp, td, tv⟩) 2 g (by decide) hrng.1 (by omega)).call rfl rfl rfl ?_
            refine prim_insert (kt := 4) (et := 9) (d := .bool) (by kernel_rfl) (by kernel_rfl) (by kernel_rfl) rfl rfl rfl ?_
            first | refine prim_lookup (some (0, .string svcF)) (kt := 4) (et := 9) (d := .bool) (z := .string ⟨#[]⟩) (i := Tryd.t9) (by kernel_rfl) (by kernel_rfl) (by kernel_rfl) (by kernel_rfl) rfl rfl rfl rfl ?_ | refine prim_lookup (some (1, .string svcF)) (kt := 4) (et := 9) (d := .bool) (z := .string ⟨#[]⟩) (i := Tryd.t9) (by kernel_rfl) (by kernel_rfl) (by kernel_rfl) (by kernel_rfl) rfl rfl rfl rfl ?_
            refine ⟨szOk rfl, ?_⟩
            refine ⟨by show (preS f k).size + (svcF ++ beS 2 _).size ≤ _; rw [hps, ByteArray.size_append, beS_size, svcF_size]; omega, ?_⟩
            exact ⟨(_, _), trivial, [0, 1, 2], rfl, ⟨vs hS, trivial⟩, rfl, rfl, rfl, rfl⟩
          refine (beG (tagNum ⟨false, tp, td, tv⟩) 2 g (by decide) hrng.1 (by omega)).call rfl rfl rfl ?_
          refine And.intro ?_ ?_
          · skip
            refine prim_insert (kt := 4) (et := 9) (d := .bool) (by kernel_rfl) (by kernel_rfl) (by kernel_rfl) rfl rfl rfl ?_
            refine prim_insert (kt := 4) (et := 9) (d := .bool) (by kernel_rfl) (by kernel_rfl) (by kernel_rfl) rfl rfl rfl ?_
            first | refine prim_lookup (some (0, .string svcF)) (kt := 4) (et := 9) (d := .bool) (z := .string ⟨#[]⟩) (i := Tryd.t9) (by kernel_rfl) (by kernel_rfl) (by kernel_rfl) (by kernel_rfl) rfl rfl rfl rfl ?_ | refine prim_lookup (some (1, .string svcF)) (kt := 4) (et := 9) (d := .bool) (z := .string ⟨#[]⟩) (i := Tryd.t9) (by kernel_rfl) (by kernel_rfl) (by kernel_rfl) (by kernel_rfl) rfl rfl rfl rfl ?_
            refine ⟨szOk rfl, ?_⟩
            refine ⟨by show (preS f k).size + (svcF ++ beS 2 _).size ≤ _; rw [hps, ByteArray.size_append, beS_size, svcF_size]; omega, ?_⟩
            exact ⟨(_, _), trivial, [0, 1, 2], rfl, ⟨vs hS, trivial⟩, rfl, rfl, rfl, rfl⟩
          refine prim_insert (kt := 4) (et := 9) (d := .bool) (by kernel_rfl) (by kernel_rfl) (by kernel_rfl) rfl rfl rfl ?_
          refine prim_insert (kt := 4) (et := 9) (d := .bool) (by kernel_rfl) (by kernel_rfl) (by kernel_rfl) rfl rfl rfl ?_
          first | refine prim_lookup (some (0, .string svcF)) (kt := 4) (et := 9) (d := .bool) (z := .string ⟨#[]⟩) (i := Tryd.t9) (by kernel_rfl) (by kernel_rfl) (by kernel_rfl) (by kernel_rfl) rfl rfl rfl rfl ?_ | refine prim_lookup (some (1, .string svcF)) (kt := 4) (et := 9) (d := .bool) (z := .string ⟨#[]⟩) (i := Tryd.t9) (by kernel_rfl) (by kernel_rfl) (by kernel_rfl) (by kernel_rfl) rfl rfl rfl rfl ?_
          refine ⟨szOk rfl, ?_⟩
          refine ⟨by show (preS f k).size + (svcF ++ beS 2 _).size ≤ _; rw [hps, ByteArray.size_append, beS_size, svcF_size]; omega, ?_⟩
          exact ⟨(_, _), trivial, [0, 1, 2], rfl, ⟨vs hS, trivial⟩, rfl, rfl, rfl, rfl⟩
        refine (beG (tagNum ⟨false, tp, td, tv⟩) 2 g (by decide) hrng.1 (by omega)).call rfl rfl rfl ?_
        refine prim_makeMap 2 rfl rfl ?_
        refine And.intro ?_ ?_
        · skip
          refine prim_insert (kt := 4) (et := 9) (d := .bool) (by kernel_rfl) (by kernel_rfl) (by kernel_rfl) rfl rfl rfl ?_
          refine prim_insert (kt := 4) (et := 9) (d := .bool) (by kernel_rfl) (by kernel_rfl) (by kernel_rfl) rfl rfl rfl ?_
          first | refine prim_lookup (some (0, .string svcF)) (kt := 4) (et := 9) (d := .bool) (z := .string ⟨#[]⟩) (i := Tryd.t9) (by kernel_rfl) (by kernel_rfl) (by kernel_rfl) (by kernel_rfl) rfl rfl rfl rfl ?_ | refine prim_lookup (some (1, .string svcF)) (kt := 4) (et := 9) (d := .bool) (z := .string ⟨#[]⟩) (i := Tryd.t9) (by kernel_rfl) (by kernel_rfl) (by kernel_rfl) (by kernel_rfl) rfl rfl rfl rfl ?_
          refine ⟨szOk rfl, ?_⟩
          refine ⟨by show (preS f k).size + (svcF ++ beS 2 _).size ≤ _; rw [hps, ByteArray.size_append, beS_size, svcF_size]; omega, ?_⟩
          exact ⟨(_, _), trivial, [0, 1, 2], rfl, ⟨vs hS, trivial⟩, rfl, rfl, rfl, rfl⟩
        refine prim_insert (kt := 4) (et := 9) (d := .bool) (by kernel_rfl) (by kernel_rfl) (by kernel_rfl) rfl rfl rfl ?_
        refine prim_insert (kt := 4) (et := 9) (d := .bool) (by kernel_rfl) (by kernel_rfl) (by kernel_rfl) rfl rfl rfl ?_
        first | refine prim_lookup (some (0, .string svcF)) (kt := 4) (et := 9) (d := .bool) (z := .string ⟨#[]⟩) (i := Tryd.t9) (by kernel_rfl) (by kernel_rfl) (by kernel_rfl) (by kernel_rfl) rfl rfl rfl rfl ?_ | refine prim_lookup (some (1, .string svcF)) (kt := 4) (et := 9) (d := .bool) (z := .string ⟨#[]⟩) (i := Tryd.t9) (by kernel_rfl) (by kernel_rfl) (by kernel_rfl) (by kernel_rfl) rfl rfl rfl rfl ?_
        refine ⟨szOk rfl, ?_⟩
        refine ⟨by show (preS f k).size + (svcF ++ beS 2 _).size ≤ _; rw [hps, ByteArray.size_append, beS_size, svcF_size]; omega, ?_⟩
        exact ⟨(_, _), trivial, [0, 1, 2], rfl, ⟨vs hS, trivial⟩, rfl, rfl, rfl, rfl⟩
      · rintro ⟨es, ck⟩ -
        exact ⟨k + 1, hlt', by omega, [0], rfl, ⟨vi (wrap_id (by omega) (by omega)), rfl, trivial⟩, rfl, rfl, rfl, rfl⟩
    · have hS : preS f k ++ (svcT ++ beS 2 (tagNum ⟨true, tp, td, tv⟩).toNat) = preS f (k + 1) := by
        rw [← preS_next hx, tagS]
        rfl
      change JoinW _ _ _ _ _ _ _
      refine join_rule [] (α := Array MapEntry × Nat) (fun _ => [(4, .v (.string (preS f (k + 1))))]) (fun y => [frC f, .cells 107 ((TagV.cells ⟨true, tp, td, tv⟩).map .v), .raw (.map y.1 y.2)]) (fun _ => g) (fun _ => True) (fun y => by kernel_rfl) ?_ ?_
      · skip
        refine And.intro ?_ ?_
        · skip
          refine prim_makeMap 2 rfl rfl ?_
          refine And.intro ?_ ?_
          · skip
            refine prim_insert (kt := 4) (et := 9) (d := .bool) (by kernel_rfl) (by kernel_rfl) (by kernel_rfl) rfl rfl rfl ?_
            refine And.intro ?_ ?_
            · skip
              refine prim_insert (kt := 4) (et := 9) (d := .bool) (by kernel_rfl) (by kernel_rfl) (by kernel_rfl) rfl rfl rfl ?_
              refine And.intro ?_ ?_
              · skip
                first | refine prim_lookup (some (0, .string svcT)) (kt := 4) (et := 9) (d := .bool) (z := .string ⟨#[]⟩) (i := Tryd.t9) (by kernel_rfl) (by kernel_rfl) (by kernel_rfl) (by kernel_rfl) rfl rfl rfl rfl ?_ | refine prim_lookup (some (1, .string svcT)) (kt := 4) (et := 9) (d := .bool) (z := .string ⟨#[]⟩) (i := Tryd.t9) (by kernel_rfl) (by kernel_rfl) (by kernel_rfl) (by kernel_rfl) rfl rfl rfl rfl ?_
                refine (beG (tagNum ⟨true, tp, td, tv⟩) 2 g (by decide) hrng.1 (by omega)).call rfl rfl rfl ?_
                refine ⟨szOk rfl, ?_⟩
                refine ⟨by show (preS f k).size + (svcT ++ beS 2 _).size ≤ _; rw [hps, ByteArray.size_append, beS_size, svcT_size]; omega, ?_⟩
                exact ⟨(_, _), trivial, [0, 1, 2], rfl, ⟨vs hS, trivial⟩, rfl, rfl, rfl, rfl⟩
              refine (beG (tagNum ⟨true, tp, td, tv⟩) 2 g (by decide) hrng.1 (by omega)).call rfl rfl rfl ?_
              first | refine prim_lookup (some (0, .string svcT)) (kt := 4) (et := 9) (d := .bool) (z := .string ⟨#[]⟩) (i := Tryd.t9) (by kernel_rfl) (by kernel_rfl) (by kernel_rfl) (by kernel_rfl) rfl rfl rfl rfl ?_ | refine prim_lookup (some (1, .string svcT)) (kt := 4) (et := 9) (d := .bool) (z := .string ⟨#[]⟩) (i := Tryd.t9) (by kernel_rfl) (by kernel_rfl) (by kernel_rfl) (by kernel_rfl) rfl rfl rfl rfl ?_
              refine ⟨szOk rfl, ?_⟩
              refine ⟨by show (preS f k).size + (svcT ++ beS 2 _).size ≤ _; rw [hps, ByteArray.size_append, beS_size, svcT_size]; omega, ?_⟩
              exact ⟨(_, _), trivial, [0, 1, 2], rfl, ⟨vs hS, trivial⟩, rfl, rfl, rfl, rfl⟩
            refine (beG (tagNum ⟨true, tp, td, tv⟩) 2 g (by decide) hrng.1 (by omega)).call rfl rfl rfl ?_
            refine prim_insert (kt := 4) (et := 9) (d := .bool) (by kernel_rfl) (by kernel_rfl) (by kernel_rfl) rfl rfl rfl ?_
            first | refine prim_lookup (some (0, .string svcT)) (kt := 4) (et := 9) (d := .bool) (z := .string ⟨#[]⟩) (i := Tryd.t9) (by kernel_rfl) (by kernel_rfl) (by kernel_rfl) (by kernel_rfl) rfl rfl rfl rfl ?_ | refine prim_lookup (some (1, .string svcT)) (kt := 4) (et := 9) (d := .bool) (z := .string ⟨#[]⟩) (i := Tryd.t9) (by kernel_rfl) (by kernel_rfl) (by kernel_rfl) (by kernel_rfl) rfl rfl rfl rfl ?_
            refine ⟨szOk rfl, ?_⟩
            refine ⟨by show (preS f k).size + (svcT ++ beS 2 _).size ≤ _; rw [hps, ByteArray.size_append, beS_size, svcT_size]; omega, ?_⟩
            exact ⟨(_, _), trivial, [0, 1, 2], rfl, ⟨vs hS, trivial⟩, rfl, rfl, rfl, rfl⟩
          refine And.intro ?_ ?_
          · skip
            refine prim_insert (kt := 4) (et := 9) (d := .bool) (by kernel_rfl) (by kernel_rfl) (by kernel_rfl) rfl rfl rfl ?_
            refine And.intro ?_ ?_
            · skip
              refine prim_insert (kt := 4) (et := 9) (d := .bool) (by kernel_rfl) (by kernel_rfl) (by kernel_rfl) rfl rfl rfl ?_
              refine And.intro ?_ ?_
              · skip
                first | refine prim_lookup (some (0, .string svcT)) (kt := 4) (et := 9) (d := .bool) (z := .string ⟨#[]⟩) (i := Tryd.t9) (by kernel_rfl) (by kernel_rfl) (by kernel_rfl) (by kernel_rfl) rfl rfl rfl rfl ?_ | refine prim_lookup (some (1, .string svcT)) (kt := 4) (et := 9) (d := .bool) (z := .string ⟨#[]⟩) (i := Tryd.t9) (by kernel_rfl) (by kernel_rfl) (by kernel_rfl) (by kernel_rfl) rfl rfl rfl rfl ?_
                refine (beG (tagNum ⟨true, tp, td, tv⟩) 2 g (by decide) hrng.1 (by omega)).call rfl rfl rfl ?_
                refine ⟨szOk rfl, ?_⟩
                refine ⟨by show (preS f k).size + (svcT ++ beS 2 _).size ≤ _; rw [hps, ByteArray.size_append, beS_size, svcT_size]; omega, ?_⟩
                exact ⟨(_, _), trivial, [0, 1, 2], rfl, ⟨vs hS, trivial⟩, rfl, rfl, rfl, rfl⟩
              refine (beG (tagNum ⟨true, tp, td, tv⟩) 2 g (by decide) hrng.1 (by omega)).call rfl rfl rfl ?_
              first | refine prim_lookup (some (0, .string svcT)) (kt := 4) (et := 9) (d := .bool) (z := .string ⟨#[]⟩) (i := Tryd.t9) (by kernel_rfl) (by kernel_rfl) (by kernel_rfl) (by kernel_rfl) rfl rfl rfl rfl ?_ | refine prim_lookup (some (1, .string svcT)) (kt := 4) (et := 9) (d := .bool) (z := .string ⟨#[]⟩) (i := Tryd.t9) (by kernel_rfl) (by kernel_rfl) (by kernel_rfl) (by kernel_rfl) rfl rfl rfl rfl ?_
              refine ⟨szOk rfl, ?_⟩
              refine ⟨by show (preS f k).size + (svcT ++ beS 2 _).size ≤ _; rw [hps, ByteArray.size_append, beS_size, svcT_size]; omega, ?_⟩
              exact ⟨(_, _), trivial, [0, 1, 2], rfl, ⟨vs hS, trivial⟩, rfl, rfl, rfl, rfl⟩
            refine (beG (tagNum ⟨true, tp, td, tv⟩) 2 g (by decide) hrng.1 (by omega)).call rfl rfl rfl ?_
            refine prim_insert (kt := 4) (et := 9) (d := .bool) (by kernel_rfl) (by kernel_rfl) (by kernel_rfl) rfl rfl rfl ?_
            first | refine prim_lookup (some (0, .string svcT)) (kt := 4) (et := 9) (d := .bool) (z := .string ⟨#[]⟩) (i := Tryd.t9) (by kernel_rfl) (by kernel_rfl) (by kernel_rfl) (by kernel_rfl) rfl rfl rfl rfl ?_ | refine prim_lookup (some (1, .string svcT)) (kt := 4) (et := 9) (d := .bool) (z := .string ⟨#[]⟩) (i := Tryd.t9) (by kernel_rfl) (by kernel_rfl) (by kernel_rfl) (by kernel_rfl) rfl rfl rfl rfl ?_
            refine ⟨szOk rfl, ?_⟩
            refine ⟨by show (preS f k).size + (svcT ++ beS 2 _).size ≤ _; rw [hps, ByteArray.size_append, beS_size, svcT_size]; omega, ?_⟩
            exact ⟨(_, _), trivial, [0, 1, 2], rfl, ⟨vs hS, trivial⟩, rfl, rfl, rfl, rfl⟩
          refine (beG (tagNum ⟨true, tp, td, tv⟩) 2 g (by decide) hrng.1 (by omega)).call rfl rfl rfl ?_
          refine And.intro ?_ ?_
          · skip
            refine prim_insert (kt := 4) (et := 9) (d := .bool) (by kernel_rfl) (by kernel_rfl) (by kernel_rfl) rfl rfl rfl ?_
            refine prim_insert (kt := 4) (et := 9) (d := .bool) (by kernel_rfl) (by kernel_rfl) (by kernel_rfl) rfl rfl rfl ?_
            first | refine prim_lookup (some (0, .string svcT)) (kt := 4) (et := 9) (d := .bool) (z := .string ⟨#[]⟩) (i := Tryd.t9) (by kernel_rfl) (by kernel_rfl) (by kernel_rfl) (by kernel_rfl) rfl rfl rfl rfl ?_ | refine prim_lookup (some (1, .string svcT)) (kt := 4) (et := 9) (d := .bool) (z := .string ⟨#[]⟩) (i := Tryd.t9) (by kernel_rfl) (by kernel_rfl) (by kernel_rfl) (by kernel_rfl) rfl rfl rfl rfl ?_
            refine ⟨szOk rfl, ?_⟩
            refine ⟨by show (preS f k).size + (svcT ++ beS 2 _).size ≤ _; rw [hps, ByteArray.size_append, beS_size, svcT_size]; omega, ?_⟩
            exact ⟨(_, _), trivial, [0, 1, 2], rfl, ⟨vs hS, trivial⟩, rfl, rfl, rfl, rfl⟩
          refine prim_insert (kt := 4) (et := 9) (d := .bool) (by kernel_rfl) (by kernel_rfl) (by kernel_rfl) rfl rfl rfl ?_
          refine prim_insert (kt := 4) (et := 9) (d := .bool) (by kernel_rfl) (by kernel_rfl) (by kernel_rfl) rfl rfl rfl ?_
          first | refine prim_lookup (some (0, .string svcT)) (kt := 4) (et := 9) (d := .bool) (z := .string ⟨#[]⟩) (i := Tryd.t9) (by kernel_rfl) (by kernel_rfl) (by kernel_rfl) (by kernel_rfl) rfl rfl rfl rfl ?_ | refine prim_lookup (some (1, .string svcT)) (kt := 4) (et := 9) (d := .bool) (z := .string ⟨#[]⟩) (i := Tryd.t9) (by kernel_rfl) (by kernel_rfl) (by kernel_rfl) (by kernel_rfl) rfl rfl rfl rfl ?_
          refine ⟨szOk rfl, ?_⟩
          refine ⟨by show (preS f k).size + (svcT ++ beS 2 _).size ≤ _; rw [hps, ByteArray.size_append, beS_size, svcT_size]; omega, ?_⟩
          exact ⟨(_, _), trivial, [0, 1, 2], rfl, ⟨vs hS, trivial⟩, rfl, rfl, rfl, rfl⟩
        refine (beG (tagNum ⟨true, tp, td, tv⟩) 2 g (by decide) hrng.1 (by omega)).call rfl rfl rfl ?_
        refine prim_makeMap 2 rfl rfl ?_
        refine And.intro ?_ ?_
        · skip
          refine prim_insert (kt := 4) (et := 9) (d := .bool) (by kernel_rfl) (by kernel_rfl) (by kernel_rfl) rfl rfl rfl ?_
          refine prim_insert (kt := 4) (et := 9) (d := .bool) (by kernel_rfl) (by kernel_rfl) (by kernel_rfl) rfl rfl rfl ?_
          first | refine prim_lookup (some (0, .string svcT)) (kt := 4) (et := 9) (d := .bool) (z := .string ⟨#[]⟩) (i := Tryd.t9) (by kernel_rfl) (by kernel_rfl) (by kernel_rfl) (by kernel_rfl) rfl rfl rfl rfl ?_ | refine prim_lookup (some (1, .string svcT)) (kt := 4) (et := 9) (d := .bool) (z := .string ⟨#[]⟩) (i := Tryd.t9) (by kernel_rfl) (by kernel_rfl) (by kernel_rfl) (by kernel_rfl) rfl rfl rfl rfl ?_
          refine ⟨szOk rfl, ?_⟩
          refine ⟨by show (preS f k).size + (svcT ++ beS 2 _).size ≤ _; rw [hps, ByteArray.size_append, beS_size, svcT_size]; omega, ?_⟩
          exact ⟨(_, _), trivial, [0, 1, 2], rfl, ⟨vs hS, trivial⟩, rfl, rfl, rfl, rfl⟩
        refine prim_insert (kt := 4) (et := 9) (d := .bool) (by kernel_rfl) (by kernel_rfl) (by kernel_rfl) rfl rfl rfl ?_
        refine prim_insert (kt := 4) (et := 9) (d := .bool) (by kernel_rfl) (by kernel_rfl) (by kernel_rfl) rfl rfl rfl ?_
        first | refine prim_lookup (some (0, .string svcT)) (kt := 4) (et := 9) (d := .bool) (z := .string ⟨#[]⟩) (i := Tryd.t9) (by kernel_rfl) (by kernel_rfl) (by kernel_rfl) (by kernel_rfl) rfl rfl rfl rfl ?_ | refine prim_lookup (some (1, .string svcT)) (kt := 4) (et := 9) (d := .bool) (z := .string ⟨#[]⟩) (i := Tryd.t9) (by kernel_rfl) (by kernel_rfl) (by kernel_rfl) (by kernel_rfl) rfl rfl rfl rfl ?_
        refine ⟨szOk rfl, ?_⟩
        refine ⟨by show (preS f k).size + (svcT ++ beS 2 _).size ≤ _; rw [hps, ByteArray.size_append, beS_size, svcT_size]; omega, ?_⟩
        exact ⟨(_, _), trivial, [0, 1, 2], rfl, ⟨vs hS, trivial⟩, rfl, rfl, rfl, rfl⟩
      · rintro ⟨es, ck⟩ -
        exact ⟨k + 1, hlt', by omega, [0], rfl, ⟨vi (wrap_id (by omega) (by omega)), rfl, trivial⟩, rfl, rfl, rfl, rfl⟩
  · have hge : f.tags.l.length ≤ k := by simpa using hlt
    have hkn : k = f.tags.l.length := by omega
    subst hkn
    have hps := preS_size f _ hk
    rcases h.2 with ⟨hk1, a1, a2, a3, -⟩ | ⟨hk2, a1, -, b1, b2, b3, b4, b5, b6, -, -, -, b7⟩ | ⟨hk3, a1, -, -, -, -, b1, b2, b3, b4, b7⟩
    · refine bsplit_of (fun _ => ?_) (fun (q : (f.kind == 1) = false) => absurd q (by simp [hk1]))
      refine (beG f.type_ 2 g (by decide) (by omega) (by omega)).call rfl rfl rfl ?_
      refine ⟨by show (preS f f.tags.l.length).size + (beS 2 _).size ≤ _; rw [hps, beS_size]; omega, ?_⟩
      refine ⟨by show (preS f f.tags.l.length ++ beS 2 f.type_.toNat).size + f.body.size ≤ _; rw [ByteArray.size_append, hps, beS_size]; omega, ?_⟩
      refine ⟨rts ?_, rfl, rfl⟩
      rw [frameS, if_pos hk1]
    · refine bsplit_of (fun (q : (f.kind == 1) = true) => absurd q (by simp [hk2])) (fun _ => ?_)
      refine bsplit_of (fun _ => ?_) (fun (q : (f.kind == 2) = false) => absurd q (by simp [hk2]))
      have hsz : (beS 1 f.dsap.toNat ++ beS 1 f.ssap.toNat ++ beS 1 f.ctl.toNat).size = 3 := by rw [ByteArray.size_append, ByteArray.size_append, beS_size, beS_size, beS_size]
      refine (beG f.dsap 1 g (by decide) b1 (by omega)).call rfl rfl rfl ?_
      refine (beG f.ssap 1 g (by decide) b3 (by omega)).call rfl rfl rfl ?_
      refine ⟨szOk rfl, ?_⟩
      refine (beG f.ctl 1 g (by decide) b5 (by omega)).call rfl rfl rfl ?_
      refine ⟨szOk rfl, ?_⟩
      refine ⟨by show (beS 1 f.dsap.toNat ++ beS 1 f.ssap.toNat ++ beS 1 f.ctl.toNat).size + f.body.size ≤ _; rw [hsz]; omega, ?_⟩
      obtain ⟨u, hu⟩ : ∃ u, (beS 1 f.dsap.toNat ++ beS 1 f.ssap.toNat ++ beS 1 f.ctl.toNat) ++ f.body = u := ⟨_, rfl⟩
      have zu : u.size = 3 + f.body.size := by rw [← hu, ByteArray.size_append, hsz]
      have hbe := beG ((beS 1 f.dsap.toNat ++ beS 1 f.ssap.toNat ++ beS 1 f.ctl.toNat) ++ f.body).size 2 g (by decide) (by omega) (by rw [hu, zu]; omega)
      refine hbe.call rfl rfl rfl ?_
      refine ⟨by show (preS f f.tags.l.length).size + (beS 2 _).size ≤ _; rw [hps, beS_size]; omega, ?_⟩
      refine ⟨by show (preS f f.tags.l.length ++ beS 2 _).size + ((beS 1 f.dsap.toNat ++ beS 1 f.ssap.toNat ++ beS 1 f.ctl.toNat) ++ f.body).size ≤ _; rw [hu, zu, ByteArray.size_append, hps, beS_size]; omega, ?_⟩
      refine ⟨rts ?_, rfl, rfl⟩
      have en : (((beS 1 f.dsap.toNat ++ beS 1 f.ssap.toNat ++ beS 1 f.ctl.toNat) ++ f.body).size : Int).toNat = (inner f.kind + f.body.size).toNat := by
        rw [hu, zu, show inner f.kind = 3 by rw [inner]; simp [hk2]]; omega
      rw [en, frameS, if_neg (by omega), inS]
      rw [if_pos hk2, ← ByteArray.append_assoc]
    · refine bsplit_of (fun (q : (f.kind == 1) = true) => absurd q (by simp [hk3])) (fun _ => ?_)
      refine bsplit_of (fun (q : (f.kind == 2) = true) => absurd q (by simp [hk3])) (fun _ => ?_)
      have hsz : (⟨#[170, 170, 3]⟩ ++ beS 3 f.oui.toNat ++ beS 2 f.pid.toNat).size = 8 := by rw [ByteArray.size_append, ByteArray.size_append, beS_size, beS_size, sz3]
      refine (beG f.oui 3 g (by decide) b1 (by omega)).call rfl rfl rfl ?_
      refine ⟨szOk rfl, ?_⟩
      refine (beG f.pid 2 g (by decide) b3 (by omega)).call rfl rfl rfl ?_
      refine ⟨szOk rfl, ?_⟩
      refine ⟨by show (⟨#[170, 170, 3]⟩ ++ beS 3 f.oui.toNat ++ beS 2 f.pid.toNat).size + f.body.size ≤ _; rw [hsz]; omega, ?_⟩
      obtain ⟨u, hu⟩ : ∃ u, (⟨#[170, 170, 3]⟩ ++ beS 3 f.oui.toNat ++ beS 2 f.pid.toNat) ++ f.body = u := ⟨_, rfl⟩
      have zu : u.size = 8 + f.body.size := by rw [← hu, ByteArray.size_append, hsz]
      have hbe := beG ((⟨#[170, 170, 3]⟩ ++ beS 3 f.oui.toNat ++ beS 2 f.pid.toNat) ++ f.body).size 2 g (by decide) (by omega) (by rw [hu, zu]; omega)
      refine hbe.call rfl rfl rfl ?_
      refine ⟨by show (preS f f.tags.l.length).size + (beS 2 _).size ≤ _; rw [hps, beS_size]; omega, ?_⟩
      refine ⟨by show (preS f f.tags.l.length ++ beS 2 _).size + ((⟨#[170, 170, 3]⟩ ++ beS 3 f.oui.toNat ++ beS 2 f.pid.toNat) ++ f.body).size ≤ _; rw [hu, zu, ByteArray.size_append, hps, beS_size]; omega, ?_⟩
      refine ⟨rts ?_, rfl, rfl⟩
      have en : (((⟨#[170, 170, 3]⟩ ++ beS 3 f.oui.toNat ++ beS 2 f.pid.toNat) ++ f.body).size : Int).toNat = (inner f.kind + f.body.size).toNat := by
        rw [hu, zu, show inner f.kind = 8 by rw [inner]; simp [hk3]]; omega
      rw [en, frameS, if_neg (by omega), inS]
      rw [if_neg (by omega), ← ByteArray.append_assoc]

noncomputable def fS (f : FrameV) : ByteArray := if frP f then frameS f else emp
noncomputable def fE (f : FrameV) : Int := if frP f then 0 else 1
theorem frWrite_c (f : FrameV) (g : G) (hf : f.ok g) (hb : f.body.size ≤ 1000000) : Tells Tryd.prog 41 [.agg (f.cells.map .v)] g (.tup [.v (.string (fS f)), .v (nilOr (fE f))]) := by
  by_cases h : frP f
  · rw [fS, fE, if_pos h, if_pos h, nilOr, if_pos rfl]; exact frWrite_good f g hf hb h
  · rw [fS, fE, if_neg h, if_neg h, nilOr, if_neg (by decide)]; exact frWrite_bad f g hf hb h
theorem frWriteR_c (f : FrameV) (g : G) (hf : f.ok g) (hb : f.body.size ≤ 1000000) : Tells Tryd.prog 40 [.agg (f.cells.map .v)] g (.tup [.v (.string (fS f)), .v (.int .i64 (fE f))]) := by
  by_cases h : frP f
  · rw [fS, fE, if_pos h, if_pos h]; exact frWriteR_good f g hf hb h
  · rw [fS, fE, if_neg h, if_neg h]; exact frWriteR_bad f g hf hb h

/-- The law FrameWrites. -/
theorem frameWrites_c (f : FrameV) (g : G) (hf : f.ok g) (hE : ErrVar g) : Meets Tryd.prog 8 [.agg (f.cells.map .v)] [] g (fun o _ _ => o = .ret (.v (.bool true))) := by
  refine meets_of mixedS Tryd.func8 (by kernel_rfl) x8_ok (some []) ?_
  refine bsplit_of (fun _ => rfl) (fun _ => ?_)
  refine bsplit_of (fun _ => rfl) (fun (h : decide ((f.body.size : Int) > 3000) = false) => ?_)
  have hb : f.body.size ≤ 1000000 := by have := of_decide_eq_false h; omega
  refine (frWriteR_c f g hf hb).call rfl rfl rfl ?_
  refine (frWrite_c f g hf hb).call rfl rfl rfl ?_
  refine (bare_c _ _ _ (fE f) g hE (errP_nilOr _)).call rfl rfl rfl ?_
  refine bsplit_of (fun _ => ?_) (fun h => absurd h (by simp))
  refine bsplit_of (fun _ => ?_) (fun (h : ((fS f).toList == (fS f).toList) = false) => absurd h (by simp))
  refine (pad_c f.body hb g).call rfl rfl rfl ?_
  refine (padR_c f.body hb g).call rfl rfl rfl ?_
  exact rb (by simp)
end Go.Proofs.YtdfpbmchkfmfdaaDoor
