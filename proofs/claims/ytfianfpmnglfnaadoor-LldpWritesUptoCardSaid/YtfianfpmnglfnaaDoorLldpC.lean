/- The reference's Tlvs of what a station tells: what it returns. Conditions: no text and no list is longer than 2^20. -/
import Derived.Test.YtfianfpmnglfnaaDoorXlldpb
import Derived.Test.YtfianfpmnglfnaaDoorLldpL
import Derived.Test.YtfianfpmnglfnaaDoorBaseD
namespace Go.Proofs.YtfianfpmnglfnaaDoor
open Go.Sx
set_option maxRecDepth 100000
set_option maxHeartbeats 8000000
attribute [local irreducible] Meets beZ
attribute [local instance] Classical.propDecidable

structure TS where
  l : List TlvV
  m : Nat
  cap : Nat
  sp : List Value
def TS.ok (y : TS) : Prop := y.l.length = y.m + 1 ∧ grOk 2 (y.m + 1) y.cap (y.l.flatMap TlvV.cells) y.sp
def lldB (l : LldpV) : Chunk := .cells 29 (l.cells.map .v)
def TS.c (y : TS) : Chunk := .vals 108 (y.l.flatMap TlvV.cells ++ y.sp)
theorem sb {a b : Bool} (h : a = b) : SV.v (.bool a) = .v (.bool b) := by rw [h]
noncomputable def okS (l : LldpV) : Nat → Bool
  | 0 => ok1 l
  | 1 => ok1 l && lenB l.desc.l && l.desc.l.all strB
  | 2 => (ok1 l && lenB l.desc.l && l.desc.l.all strB) && lenB l.host.l && l.host.l.all strB
  | _ => ((ok1 l && lenB l.desc.l && l.desc.l.all strB) && lenB l.host.l && l.host.l.all strB) && lenB l.system.l && l.system.l.all strB
def preS (l : LldpV) : Nat → List TlvV
  | 0 => headT l
  | 1 => headT l ++ strT2 4 l.desc.l
  | 2 => headT l ++ strT2 4 l.desc.l ++ strT2 5 l.host.l
  | _ => headT l ++ strT2 4 l.desc.l ++ strT2 5 l.host.l ++ strT2 6 l.system.l
theorem ts_next {y : TS} (h : y.ok) {t : TlvV} {cap : Nat} {sp : List Value} (k1 : y.m + 1 + 1 ≤ cap) (k2 : cap ≤ 9223372036854775807) (k3 : sp.length = (cap - (y.m + 1 + 1)) * 2) : TS.ok ⟨y.l ++ [t], y.m + 1, cap, sp⟩ :=
  ⟨by show (y.l ++ [t]).length = _; rw [List.length_append, h.1]; rfl, by show grOk 2 _ _ ((y.l ++ [t]).flatMap TlvV.cells) _; rw [flat_app]; exact gr_next h.2 rfl k1 k2 k3⟩

theorem tlvs_b (l : LldpV) (g : G) (hl : l.ok g) (hs : LldpSmall l) : Meets Tryd.prog 28 [.agg (l.cells.map .v)] [] g (fun o L' g' => ∃ y : TS, y.l = tlvsOf l ∧ y.ok ∧ o = .ret (.tup [.slc 0 0 (y.m + 1) y.cap, .v (.bool (okEnd l))]) ∧ L' = [y.c] ∧ g' = g) := by
  obtain ⟨-, -, -, o3, o4, o5, o6, o7, o8⟩ := hl
  have n3 := o3.len
  have n4 := o4.len
  have n5 := o5.len
  have n6 := o6.len
  have n7 := o7.len
  have n8 := o8.len
  obtain ⟨z1, z2, z3, z4, z5, z6, z7, z8⟩ := hs
  obtain ⟨B, hB⟩ : ∃ B, B = 1048576 := ⟨_, rfl⟩
  haveI : Sz l.chassis.iD 1048576 := ⟨z1⟩
  haveI : Sz l.port.iD 1048576 := ⟨z2⟩
  refine meets_ofJ mixedS Tryd.func28 (by kernel_rfl) x28_ok none ?_
  change JoinW _ _ _ _ _ _ _ _ _
  refine join_rule [] (α := Unit) (fun _ => [(4, .v (.bool (ok1 l)))]) (fun _ => [lldB l]) (fun _ => g) (fun _ => True) (fun _ => by kernel_rfl) ?_ ?_
  · refine (lnameR_c l.chassis g).call rfl rfl rfl ?_
    refine bsplit_of (fun k1 => ?_) (fun k1 => ?_)
    rotate_left
    ·
      exact ⟨(), trivial, [0], rfl, ⟨sb (decide_eq_false fun h => absurd h.1 (of_decide_eq_false k1)).symm, trivial⟩, rfl, rfl, rfl, rfl⟩
    refine (lnameR_c l.port g).call rfl rfl rfl ?_
    refine bsplit_of (fun k2 => ?_) (fun k2 => ?_)
    rotate_left
    ·
      exact ⟨(), trivial, [0], rfl, ⟨sb (decide_eq_false fun h => absurd h.2.1 (of_decide_eq_false k2)).symm, trivial⟩, rfl, rfl, rfl, rfl⟩
    refine (within_c l.ttl 0 65535 g).call rfl rfl rfl ?_
    refine bsplit_of (fun k3 => ?_) (fun k3 => ?_)
    rotate_left
    ·
      exact ⟨(), trivial, [0], rfl, ⟨sb (decide_eq_false fun h => absurd h.2.2.1 (of_decide_eq_false k3)).symm, trivial⟩, rfl, rfl, rfl, rfl⟩
    refine bsplit_of (fun k4 => ?_) (fun k4 => ?_)
    rotate_left
    ·
      exact ⟨(), trivial, [0], rfl, ⟨sb (decide_eq_false fun h => absurd h.2.2.2.1 (by have := of_decide_eq_false k4; omega)).symm, trivial⟩, rfl, rfl, rfl, rfl⟩
    refine bsplit_of (fun k5 => ?_) (fun k5 => ?_)
    rotate_left
    ·
      exact ⟨(), trivial, [0], rfl, ⟨sb (decide_eq_false fun h => absurd h.2.2.2.2.1 (by have := of_decide_eq_false k5; omega)).symm, trivial⟩, rfl, rfl, rfl, rfl⟩
    refine ⟨(), trivial, [0], rfl, ⟨sb ?_, trivial⟩, rfl, rfl, rfl, rfl⟩
    refine (decide_eq_decide.2 ⟨fun h => ⟨of_decide_eq_true k1, of_decide_eq_true k2, of_decide_eq_true k3, ?_, ?_, ?_⟩, fun h => ?_⟩)
    · have := of_decide_eq_true k4; omega
    · have := of_decide_eq_true k5; omega
    · omega
    · have := h.2.2.2.2.2; omega
  intro _ _
  refine (beZ_c l.chassis.sub 1 g (by decide)).call rfl rfl rfl ?_
  refine ⟨szOk rfl, ?_⟩
  refine (beZ_c l.port.sub 1 g (by decide)).call rfl rfl rfl ?_
  refine ⟨szOk rfl, ?_⟩
  refine (beZ_c l.ttl 2 g (by decide)).call rfl rfl rfl ?_
  change TurnW _ _ _ _ _ _
  refine turn_vals 1 108 ((headT l).flatMap TlvV.cells) rfl ?_
  change LoopW _ _ _ _ _ _ _ _ _
  apply loop_rule [1] (α := Nat × TS) (fun y => [(77, .v (.int .i64 y.1)), (4, .v (.bool (okS l y.1))), (5, .slc 1 0 (y.2.m + 1) y.2.cap)]) (fun y => [lldB l, y.2.c]) (fun _ => g) (fun y => y.1 ≤ 3 ∧ y.2.ok ∧ y.2.l = preS l y.1 ∧ y.2.m ≤ 2 + B * y.1) (fun y => 3 - y.1) (0, ⟨headT l, 2, 3, []⟩)
  · intro x; kernel_rfl
  · exact ⟨by show 0 ≤ 3; omega, ⟨rfl, ⟨rfl, by show 3 ≤ 3; omega, by show 3 ≤ 9223372036854775807; omega, fun _ => rfl⟩⟩, rfl, by show 2 ≤ 2 + B * 0; omega⟩
  · exact ⟨rfl, rfl, rfl, trivial⟩
  · rfl
  · rfl
  rintro ⟨i, y⟩ ⟨hi, hy, hyl, hym⟩
  dsimp only at hi hy hyl hym
  rcases (by omega : i = 0 ∨ i = 1 ∨ i = 2 ∨ i = 3) with rfl | rfl | rfl | rfl
  ·
    refine ⟨⟨by show (0 : Int) ≤ ((0 : Nat) : Int); decide, by show ((0 : Nat) : Int) < ((3 : Nat) : Int); decide⟩, ?_⟩
    change JoinW _ _ _ _ _ _ _ _ _
    refine join_rule [] (α := Unit) (fun _ => [(4, .v (.bool (okS l 0 && lenB l.desc.l)))]) (fun _ => [lldB l, y.c]) (fun _ => g) (fun _ => True) (fun _ => by kernel_rfl) ?_ ?_
    · refine bsplit_of (fun k1 => ?_) (fun k1 => ?_)
      · exact ⟨(), trivial, [0, 1], rfl, ⟨sb (by rw [k1, Bool.true_and]; rfl), trivial⟩, rfl, rfl, rfl, rfl⟩
      · exact ⟨(), trivial, [0, 1], rfl, ⟨sb (by rw [k1, Bool.false_and]), trivial⟩, rfl, rfl, rfl, rfl⟩
    intro _ _
    change LoopW _ _ _ _ _ _ _ _ _
    apply loop_rule [1] (α := Nat × TS) (fun x => [(89, .v (.int .i64 x.1)), (4, .v (.bool ((okS l 0 && lenB l.desc.l) && (l.desc.l.take x.1).all strB))), (5, .slc 1 0 (x.2.m + 1) x.2.cap)]) (fun x => [lldB l, x.2.c]) (fun _ => g) (fun x => x.1 ≤ l.desc.l.length ∧ x.2.ok ∧ x.2.l = preS l 0 ++ (l.desc.l.take x.1).map (fun s => ⟨4, s⟩) ∧ x.2.m ≤ 2 + B * 0 + x.1) (fun x => l.desc.l.length - x.1) (0, y)
    · intro x; kernel_rfl
    · exact ⟨Nat.zero_le _, hy, by rw [hyl]; simp, by show y.m ≤ 2 + B * 0 + 0; omega⟩
    · exact ⟨rfl, sb (by simp), rfl, trivial⟩
    · rfl
    · rfl
    rintro ⟨k, w⟩ ⟨hk, hw, hwl, hwm⟩
    dsimp only at hk hw hwl hwm
    refine bsplit_of (fun hlt => ?_) (fun hlt => ?_)
    · have hlt' : k < l.desc.l.length := by have := of_decide_eq_true hlt; omega
      obtain ⟨ad, x, ha, hx, hat, -⟩ := o3.elem (fun _ => rfl) hlt'
      have hat : g.at _ [.string x] := hat
      refine ⟨⟨by omega, by omega⟩, ad, ha, ?_⟩
      refine ⟨[.string x], rfl, hat, ?_⟩
      refine bsplit_of (fun k1 => ?_) (fun k1 => ?_)
      ·
        have g1 := gr_bounds hw.2
        refine ⟨by show 0 + 1 * 2 ≤ 2; decide, fun u hu => by simp at hu; rcases hu with rfl | rfl <;> rfl, ?_⟩
        refine ⟨w.l.flatMap TlvV.cells, w.sp, rfl, g1.1, ⟨g1.2.1, g1.2.2.1, g1.2.2.2⟩, by show (w.m + 1 + 1) * 24 ≤ 140737488355328; omega, fun cap3 sp3 q1 q2 q3 => ?_⟩
        refine ⟨(k + 1, ⟨w.l ++ [⟨4, x⟩], w.m + 1, cap3, sp3⟩), ⟨hlt', ts_next hw q1 q2 q3, by rw [hwl, map_take (fun s => TlvV.mk 4 s) hx], by show w.m + 1 ≤ _; omega⟩, by show l.desc.l.length - (k + 1) < l.desc.l.length - k; omega, [0, 3], rfl, ⟨vi (wrap_id (by omega) (by omega)), sb (by rw [all_take strB hx, k1, Bool.true_and]; rfl), rfl, trivial⟩, ?_, rfl, rfl, rfl⟩
        exact congrArg (fun a => [lldB l, .vals 108 a]) (flat_app2 TlvV.cells w.l (⟨4, x⟩) sp3).symm
      ·
        have g1 := gr_bounds hw.2
        refine ⟨by show 0 + 1 * 2 ≤ 2; decide, fun u hu => by simp at hu; rcases hu with rfl | rfl <;> rfl, ?_⟩
        refine ⟨w.l.flatMap TlvV.cells, w.sp, rfl, g1.1, ⟨g1.2.1, g1.2.2.1, g1.2.2.2⟩, by show (w.m + 1 + 1) * 24 ≤ 140737488355328; omega, fun cap3 sp3 q1 q2 q3 => ?_⟩
        refine ⟨(k + 1, ⟨w.l ++ [⟨4, x⟩], w.m + 1, cap3, sp3⟩), ⟨hlt', ts_next hw q1 q2 q3, by rw [hwl, map_take (fun s => TlvV.mk 4 s) hx], by show w.m + 1 ≤ _; omega⟩, by show l.desc.l.length - (k + 1) < l.desc.l.length - k; omega, [0, 3], rfl, ⟨vi (wrap_id (by omega) (by omega)), sb (by rw [all_take strB hx, k1, Bool.false_and]), rfl, trivial⟩, ?_, rfl, rfl, rfl⟩
        exact congrArg (fun a => [lldB l, .vals 108 a]) (flat_app2 TlvV.cells w.l (⟨4, x⟩) sp3).symm
    · have hkn : k = l.desc.l.length := by have := of_decide_eq_false hlt; omega
      subst hkn
      refine ⟨(0 + 1, w), ⟨by omega, hw, by rw [hwl, List.take_length]; rfl, by show w.m ≤ 2 + B * (0 + 1); omega⟩, by show 3 - (0 + 1) < 3 - 0; omega, [0, 1], rfl, ⟨rfl, sb (by rw [List.take_length]; rfl), rfl, trivial⟩, rfl, rfl, rfl, rfl⟩
  ·
    refine ⟨⟨by show (0 : Int) ≤ ((1 : Nat) : Int); decide, by show ((1 : Nat) : Int) < ((3 : Nat) : Int); decide⟩, ?_⟩
    change JoinW _ _ _ _ _ _ _ _ _
    refine join_rule [] (α := Unit) (fun _ => [(4, .v (.bool (okS l 1 && lenB l.host.l)))]) (fun _ => [lldB l, y.c]) (fun _ => g) (fun _ => True) (fun _ => by kernel_rfl) ?_ ?_
    · refine bsplit_of (fun k1 => ?_) (fun k1 => ?_)
      · exact ⟨(), trivial, [0, 1], rfl, ⟨sb (by rw [k1, Bool.true_and]; rfl), trivial⟩, rfl, rfl, rfl, rfl⟩
      · exact ⟨(), trivial, [0, 1], rfl, ⟨sb (by rw [k1, Bool.false_and]), trivial⟩, rfl, rfl, rfl, rfl⟩
    intro _ _
    change LoopW _ _ _ _ _ _ _ _ _
    apply loop_rule [1] (α := Nat × TS) (fun x => [(89, .v (.int .i64 x.1)), (4, .v (.bool ((okS l 1 && lenB l.host.l) && (l.host.l.take x.1).all strB))), (5, .slc 1 0 (x.2.m + 1) x.2.cap)]) (fun x => [lldB l, x.2.c]) (fun _ => g) (fun x => x.1 ≤ l.host.l.length ∧ x.2.ok ∧ x.2.l = preS l 1 ++ (l.host.l.take x.1).map (fun s => ⟨5, s⟩) ∧ x.2.m ≤ 2 + B * 1 + x.1) (fun x => l.host.l.length - x.1) (0, y)
    · intro x; kernel_rfl
    · exact ⟨Nat.zero_le _, hy, by rw [hyl]; simp, by show y.m ≤ 2 + B * 1 + 0; omega⟩
    · exact ⟨rfl, sb (by simp), rfl, trivial⟩
    · rfl
    · rfl
    rintro ⟨k, w⟩ ⟨hk, hw, hwl, hwm⟩
    dsimp only at hk hw hwl hwm
    refine bsplit_of (fun hlt => ?_) (fun hlt => ?_)
    · have hlt' : k < l.host.l.length := by have := of_decide_eq_true hlt; omega
      obtain ⟨ad, x, ha, hx, hat, -⟩ := o4.elem (fun _ => rfl) hlt'
      have hat : g.at _ [.string x] := hat
      refine ⟨⟨by omega, by omega⟩, ad, ha, ?_⟩
      refine ⟨[.string x], rfl, hat, ?_⟩
      refine bsplit_of (fun k1 => ?_) (fun k1 => ?_)
      ·
        have g1 := gr_bounds hw.2
        refine ⟨by show 0 + 1 * 2 ≤ 2; decide, fun u hu => by simp at hu; rcases hu with rfl | rfl <;> rfl, ?_⟩
        refine ⟨w.l.flatMap TlvV.cells, w.sp, rfl, g1.1, ⟨g1.2.1, g1.2.2.1, g1.2.2.2⟩, by show (w.m + 1 + 1) * 24 ≤ 140737488355328; omega, fun cap3 sp3 q1 q2 q3 => ?_⟩
        refine ⟨(k + 1, ⟨w.l ++ [⟨5, x⟩], w.m + 1, cap3, sp3⟩), ⟨hlt', ts_next hw q1 q2 q3, by rw [hwl, map_take (fun s => TlvV.mk 5 s) hx], by show w.m + 1 ≤ _; omega⟩, by show l.host.l.length - (k + 1) < l.host.l.length - k; omega, [0, 3], rfl, ⟨vi (wrap_id (by omega) (by omega)), sb (by rw [all_take strB hx, k1, Bool.true_and]; rfl), rfl, trivial⟩, ?_, rfl, rfl, rfl⟩
        exact congrArg (fun a => [lldB l, .vals 108 a]) (flat_app2 TlvV.cells w.l (⟨5, x⟩) sp3).symm
      ·
        have g1 := gr_bounds hw.2
        refine ⟨by show 0 + 1 * 2 ≤ 2; decide, fun u hu => by simp at hu; rcases hu with rfl | rfl <;> rfl, ?_⟩
        refine ⟨w.l.flatMap TlvV.cells, w.sp, rfl, g1.1, ⟨g1.2.1, g1.2.2.1, g1.2.2.2⟩, by show (w.m + 1 + 1) * 24 ≤ 140737488355328; omega, fun cap3 sp3 q1 q2 q3 => ?_⟩
        refine ⟨(k + 1, ⟨w.l ++ [⟨5, x⟩], w.m + 1, cap3, sp3⟩), ⟨hlt', ts_next hw q1 q2 q3, by rw [hwl, map_take (fun s => TlvV.mk 5 s) hx], by show w.m + 1 ≤ _; omega⟩, by show l.host.l.length - (k + 1) < l.host.l.length - k; omega, [0, 3], rfl, ⟨vi (wrap_id (by omega) (by omega)), sb (by rw [all_take strB hx, k1, Bool.false_and]), rfl, trivial⟩, ?_, rfl, rfl, rfl⟩
        exact congrArg (fun a => [lldB l, .vals 108 a]) (flat_app2 TlvV.cells w.l (⟨5, x⟩) sp3).symm
    · have hkn : k = l.host.l.length := by have := of_decide_eq_false hlt; omega
      subst hkn
      refine ⟨(1 + 1, w), ⟨by omega, hw, by rw [hwl, List.take_length]; rfl, by show w.m ≤ 2 + B * (1 + 1); omega⟩, by show 3 - (1 + 1) < 3 - 1; omega, [0, 1], rfl, ⟨rfl, sb (by rw [List.take_length]; rfl), rfl, trivial⟩, rfl, rfl, rfl, rfl⟩
  ·
    refine ⟨⟨by show (0 : Int) ≤ ((2 : Nat) : Int); decide, by show ((2 : Nat) : Int) < ((3 : Nat) : Int); decide⟩, ?_⟩
    change JoinW _ _ _ _ _ _ _ _ _
    refine join_rule [] (α := Unit) (fun _ => [(4, .v (.bool (okS l 2 && lenB l.system.l)))]) (fun _ => [lldB l, y.c]) (fun _ => g) (fun _ => True) (fun _ => by kernel_rfl) ?_ ?_
    · refine bsplit_of (fun k1 => ?_) (fun k1 => ?_)
      · exact ⟨(), trivial, [0, 1], rfl, ⟨sb (by rw [k1, Bool.true_and]; rfl), trivial⟩, rfl, rfl, rfl, rfl⟩
      · exact ⟨(), trivial, [0, 1], rfl, ⟨sb (by rw [k1, Bool.false_and]), trivial⟩, rfl, rfl, rfl, rfl⟩
    intro _ _
    change LoopW _ _ _ _ _ _ _ _ _
    apply loop_rule [1] (α := Nat × TS) (fun x => [(89, .v (.int .i64 x.1)), (4, .v (.bool ((okS l 2 && lenB l.system.l) && (l.system.l.take x.1).all strB))), (5, .slc 1 0 (x.2.m + 1) x.2.cap)]) (fun x => [lldB l, x.2.c]) (fun _ => g) (fun x => x.1 ≤ l.system.l.length ∧ x.2.ok ∧ x.2.l = preS l 2 ++ (l.system.l.take x.1).map (fun s => ⟨6, s⟩) ∧ x.2.m ≤ 2 + B * 2 + x.1) (fun x => l.system.l.length - x.1) (0, y)
    · intro x; kernel_rfl
    · exact ⟨Nat.zero_le _, hy, by rw [hyl]; simp, by show y.m ≤ 2 + B * 2 + 0; omega⟩
    · exact ⟨rfl, sb (by simp), rfl, trivial⟩
    · rfl
    · rfl
    rintro ⟨k, w⟩ ⟨hk, hw, hwl, hwm⟩
    dsimp only at hk hw hwl hwm
    refine bsplit_of (fun hlt => ?_) (fun hlt => ?_)
    · have hlt' : k < l.system.l.length := by have := of_decide_eq_true hlt; omega
      obtain ⟨ad, x, ha, hx, hat, -⟩ := o5.elem (fun _ => rfl) hlt'
      have hat : g.at _ [.string x] := hat
      refine ⟨⟨by omega, by omega⟩, ad, ha, ?_⟩
      refine ⟨[.string x], rfl, hat, ?_⟩
      refine bsplit_of (fun k1 => ?_) (fun k1 => ?_)
      ·
        have g1 := gr_bounds hw.2
        refine ⟨by show 0 + 1 * 2 ≤ 2; decide, fun u hu => by simp at hu; rcases hu with rfl | rfl <;> rfl, ?_⟩
        refine ⟨w.l.flatMap TlvV.cells, w.sp, rfl, g1.1, ⟨g1.2.1, g1.2.2.1, g1.2.2.2⟩, by show (w.m + 1 + 1) * 24 ≤ 140737488355328; omega, fun cap3 sp3 q1 q2 q3 => ?_⟩
        refine ⟨(k + 1, ⟨w.l ++ [⟨6, x⟩], w.m + 1, cap3, sp3⟩), ⟨hlt', ts_next hw q1 q2 q3, by rw [hwl, map_take (fun s => TlvV.mk 6 s) hx], by show w.m + 1 ≤ _; omega⟩, by show l.system.l.length - (k + 1) < l.system.l.length - k; omega, [0, 3], rfl, ⟨vi (wrap_id (by omega) (by omega)), sb (by rw [all_take strB hx, k1, Bool.true_and]; rfl), rfl, trivial⟩, ?_, rfl, rfl, rfl⟩
        exact congrArg (fun a => [lldB l, .vals 108 a]) (flat_app2 TlvV.cells w.l (⟨6, x⟩) sp3).symm
      ·
        have g1 := gr_bounds hw.2
        refine ⟨by show 0 + 1 * 2 ≤ 2; decide, fun u hu => by simp at hu; rcases hu with rfl | rfl <;> rfl, ?_⟩
        refine ⟨w.l.flatMap TlvV.cells, w.sp, rfl, g1.1, ⟨g1.2.1, g1.2.2.1, g1.2.2.2⟩, by show (w.m + 1 + 1) * 24 ≤ 140737488355328; omega, fun cap3 sp3 q1 q2 q3 => ?_⟩
        refine ⟨(k + 1, ⟨w.l ++ [⟨6, x⟩], w.m + 1, cap3, sp3⟩), ⟨hlt', ts_next hw q1 q2 q3, by rw [hwl, map_take (fun s => TlvV.mk 6 s) hx], by show w.m + 1 ≤ _; omega⟩, by show l.system.l.length - (k + 1) < l.system.l.length - k; omega, [0, 3], rfl, ⟨vi (wrap_id (by omega) (by omega)), sb (by rw [all_take strB hx, k1, Bool.false_and]), rfl, trivial⟩, ?_, rfl, rfl, rfl⟩
        exact congrArg (fun a => [lldB l, .vals 108 a]) (flat_app2 TlvV.cells w.l (⟨6, x⟩) sp3).symm
    · have hkn : k = l.system.l.length := by have := of_decide_eq_false hlt; omega
      subst hkn
      refine ⟨(2 + 1, w), ⟨by omega, hw, by rw [hwl, List.take_length]; rfl, by show w.m ≤ 2 + B * (2 + 1); omega⟩, by show 3 - (2 + 1) < 3 - 2; omega, [0, 1], rfl, ⟨rfl, sb (by rw [List.take_length]; rfl), rfl, trivial⟩, rfl, rfl, rfl, rfl⟩
  change LoopW _ _ _ _ _ _ _ _ _
  apply loop_rule [1] (α := Nat × TS) (fun x => [(111, .v (.int .i64 x.1)), (4, .v (.bool (okS l 3 && (l.caps.l.take x.1).all (fun c => decide (capsP c))))), (5, .slc 1 0 (x.2.m + 1) x.2.cap)]) (fun x => [lldB l, x.2.c]) (fun _ => g) (fun x => x.1 ≤ l.caps.l.length ∧ x.2.ok ∧ x.2.l = preS l 3 ++ (l.caps.l.take x.1).map capsT ∧ x.2.m ≤ 2 + B * 3 + x.1) (fun x => l.caps.l.length - x.1) (0, y)
  · intro x; kernel_rfl
  · exact ⟨Nat.zero_le _, hy, by rw [hyl]; simp, by show y.m ≤ 2 + B * 3 + 0; omega⟩
  · exact ⟨rfl, sb (by simp), rfl, trivial⟩
  · rfl
  · rfl
  rintro ⟨k, w⟩ ⟨hk, hw, hwl, hwm⟩
  dsimp only at hk hw hwl hwm
  refine bsplit_of (fun hlt => ?_) (fun hlt => ?_)
  ·
    have hlt' : k < l.caps.l.length := by have := of_decide_eq_true hlt; omega
    obtain ⟨ad, x, ha, hx, hat, -⟩ := o6.elem (fun _ => rfl) hlt'
    refine ⟨⟨by omega, by omega⟩, ad, ha, ?_⟩
    refine ⟨x.cells, rfl, hat, ?_⟩
    change JoinW _ _ _ _ _ _ _ _ _
    refine join_rule [] (α := Unit) (fun _ => [(4, .v (.bool ((okS l 3 && (l.caps.l.take k).all (fun c => decide (capsP c))) && decide (capsP x))))]) (fun _ => [lldB l, w.c, .cells 111 (x.cells.map .v)]) (fun _ => g) (fun _ => True) (fun _ => by kernel_rfl) ?_ ?_
    · refine bsplit_of (fun k1 => ?_) (fun k1 => ?_)
      · refine (lcapsR_c x g).call rfl rfl rfl ?_
        exact ⟨(), trivial, [0, 1, 2], rfl, ⟨sb (by rw [k1, Bool.true_and]), trivial⟩, rfl, rfl, rfl, rfl⟩
      · exact ⟨(), trivial, [0, 1, 2], rfl, ⟨sb (by rw [k1, Bool.false_and]), trivial⟩, rfl, rfl, rfl, rfl⟩
    intro _ _
    refine (beZ_c x.has 2 g (by decide)).call rfl rfl rfl ?_
    refine (beZ_c x.on_ 2 g (by decide)).call rfl rfl rfl ?_
    refine ⟨szOk rfl, ?_⟩
    have g1 := gr_bounds hw.2
    refine ⟨by show 0 + 1 * 2 ≤ 2; decide, fun u hu => by simp at hu; rcases hu with rfl | rfl <;> rfl, ?_⟩
    refine ⟨w.l.flatMap TlvV.cells, w.sp, rfl, g1.1, ⟨g1.2.1, g1.2.2.1, g1.2.2.2⟩, by show (w.m + 1 + 1) * 24 ≤ 140737488355328; omega, fun cap3 sp3 q1 q2 q3 => ?_⟩
    refine ⟨(k + 1, ⟨w.l ++ [capsT x], w.m + 1, cap3, sp3⟩), ⟨hlt', ts_next hw q1 q2 q3, by rw [hwl, map_take capsT hx], by show w.m + 1 ≤ _; omega⟩, by show l.caps.l.length - (k + 1) < l.caps.l.length - k; omega, [0, 4], rfl, ⟨vi (wrap_id (by omega) (by omega)), sb (by rw [all_take (fun c => decide (capsP c)) hx]), rfl, trivial⟩, ?_, rfl, rfl, rfl⟩
    exact congrArg (fun a => [lldB l, .vals 108 a]) (flat_app2 TlvV.cells w.l (capsT x) sp3).symm
  have hkn : k = l.caps.l.length := by have := of_decide_eq_false hlt; omega
  subst hkn
  rw [List.take_length] at hwl ⊢
  change LoopW _ _ _ _ _ _ _ _ _
  apply loop_rule [1] (α := Nat × TS) (fun x => [(135, .v (.int .i64 x.1)), (4, .v (.bool (okS l 3 && l.caps.l.all (fun c => decide (capsP c)) && (l.manage.l.take x.1).all (fun c => decide (manageP c))))), (5, .slc 1 0 (x.2.m + 1) x.2.cap)]) (fun x => [lldB l, x.2.c]) (fun _ => g) (fun x => x.1 ≤ l.manage.l.length ∧ x.2.ok ∧ x.2.l = preS l 3 ++ l.caps.l.map capsT ++ (l.manage.l.take x.1).map manageT ∧ x.2.m ≤ 2 + B * 4 + x.1) (fun x => l.manage.l.length - x.1) (0, w)
  · intro x; kernel_rfl
  · exact ⟨Nat.zero_le _, hw, by rw [hwl]; simp, by show w.m ≤ 2 + B * 4 + 0; omega⟩
  · exact ⟨rfl, sb (by simp), rfl, trivial⟩
  · rfl
  · rfl
  rintro ⟨k, u⟩ ⟨hk, hu, hul, hum⟩
  dsimp only at hk hu hul hum
  refine bsplit_of (fun hlt => ?_) (fun hlt => ?_)
  ·
    have hlt' : k < l.manage.l.length := by have := of_decide_eq_true hlt; omega
    obtain ⟨ad, x, ha, hx, hat, -⟩ := o7.elem (fun _ => rfl) hlt'
    refine ⟨⟨by omega, by omega⟩, ad, ha, ?_⟩
    refine ⟨x.cells, rfl, hat, ?_⟩
    change JoinW _ _ _ _ _ _ _ _ _
    refine join_rule [] (α := Unit) (fun _ => [(4, .v (.bool ((okS l 3 && l.caps.l.all (fun c => decide (capsP c)) && (l.manage.l.take k).all (fun c => decide (manageP c))) && decide (manageP x))))]) (fun _ => [lldB l, u.c, .cells 113 (x.cells.map .v)]) (fun _ => g) (fun _ => True) (fun _ => by kernel_rfl) ?_ ?_
    · refine bsplit_of (fun k1 => ?_) (fun k1 => ?_)
      · refine (lmanageR_c x g).call rfl rfl rfl ?_
        exact ⟨(), trivial, [0, 1, 2], rfl, ⟨sb (by rw [k1, Bool.true_and]), trivial⟩, rfl, rfl, rfl, rfl⟩
      · exact ⟨(), trivial, [0, 1, 2], rfl, ⟨sb (by rw [k1, Bool.false_and]), trivial⟩, rfl, rfl, rfl, rfl⟩
    intro _ _
    have hz := z7.2 x (List.mem_of_getElem? hx)
    haveI : Sz x.addr.iD 1048576 := ⟨hz.1⟩
    haveI : Sz x.oid 1048576 := ⟨hz.2⟩
    have hw1 : IntKind.i64.wrap ((x.addr.iD.size : Int) + 1) = (x.addr.iD.size : Int) + 1 := wrap_id (by omega) (by omega)
    have hbe : Tells Tryd.prog 79 [.v (.int .i64 (IntKind.i64.wrap ((x.addr.iD.size : Int) + 1))), .v (.int .i64 1)] g (.v (.string (beZ 1 ((x.addr.iD.size : Int) + 1)))) := by rw [hw1]; exact beZ_c _ 1 g (by decide)
    refine hbe.call rfl rfl rfl ?_
    refine (beZ_c x.addr.sub 1 g (by decide)).call rfl rfl rfl ?_
    refine ⟨szOk rfl, ?_⟩
    refine ⟨szOk rfl, ?_⟩
    refine (beZ_c x.ifSub 1 g (by decide)).call rfl rfl rfl ?_
    refine ⟨szOk rfl, ?_⟩
    refine (beZ_c x.if_ 4 g (by decide)).call rfl rfl rfl ?_
    refine ⟨szOk rfl, ?_⟩
    refine (beZ_c (x.oid.size : Int) 1 g (by decide)).call rfl rfl rfl ?_
    refine ⟨szOk rfl, ?_⟩
    refine ⟨szOk rfl, ?_⟩
    have g1 := gr_bounds hu.2
    refine ⟨by show 0 + 1 * 2 ≤ 2; decide, fun u hu => by simp at hu; rcases hu with rfl | rfl <;> rfl, ?_⟩
    refine ⟨u.l.flatMap TlvV.cells, u.sp, rfl, g1.1, ⟨g1.2.1, g1.2.2.1, g1.2.2.2⟩, by show (u.m + 1 + 1) * 24 ≤ 140737488355328; omega, fun cap3 sp3 q1 q2 q3 => ?_⟩
    refine ⟨(k + 1, ⟨u.l ++ [manageT x], u.m + 1, cap3, sp3⟩), ⟨hlt', ts_next hu q1 q2 q3, by rw [hul, map_take manageT hx], by show u.m + 1 ≤ _; omega⟩, by show l.manage.l.length - (k + 1) < l.manage.l.length - k; omega, [0, 4], rfl, ⟨vi (wrap_id (by omega) (by omega)), sb (by rw [all_take (fun c => decide (manageP c)) hx]), rfl, trivial⟩, ?_, rfl, rfl, rfl⟩
    exact congrArg (fun a => [lldB l, .vals 108 a]) (flat_app2 TlvV.cells u.l (manageT x) sp3).symm
  have hkn : k = l.manage.l.length := by have := of_decide_eq_false hlt; omega
  subst hkn
  rw [List.take_length] at hul ⊢
  change LoopW _ _ _ _ _ _ _ _ _
  apply loop_rule [1] (α := Nat × TS) (fun x => [(183, .v (.int .i64 x.1)), (4, .v (.bool (okS l 3 && l.caps.l.all (fun c => decide (capsP c)) && l.manage.l.all (fun c => decide (manageP c)) && (l.orgs.l.take x.1).all (fun c => decide (orgP c))))), (5, .slc 1 0 (x.2.m + 1) x.2.cap)]) (fun x => [lldB l, x.2.c]) (fun _ => g) (fun x => x.1 ≤ l.orgs.l.length ∧ x.2.ok ∧ x.2.l = preS l 3 ++ l.caps.l.map capsT ++ l.manage.l.map manageT ++ (l.orgs.l.take x.1).map orgT ∧ x.2.m ≤ 2 + B * 5 + x.1) (fun x => l.orgs.l.length - x.1) (0, u)
  · intro x; kernel_rfl
  · exact ⟨Nat.zero_le _, hu, by rw [hul]; simp, by show u.m ≤ 2 + B * 5 + 0; omega⟩
  · exact ⟨rfl, sb (by simp), rfl, trivial⟩
  · rfl
  · rfl
  rintro ⟨k, v⟩ ⟨hk, hv, hvl, hvm⟩
  dsimp only at hk hv hvl hvm
  refine bsplit_of (fun hlt => ?_) (fun hlt => ?_)
  ·
    have hlt' : k < l.orgs.l.length := by have := of_decide_eq_true hlt; omega
    obtain ⟨ad, x, ha, hx, hat, -⟩ := o8.elem (fun _ => rfl) hlt'
    refine ⟨⟨by omega, by omega⟩, ad, ha, ?_⟩
    refine ⟨x.cells, rfl, hat, ?_⟩
    change JoinW _ _ _ _ _ _ _ _ _
    refine join_rule [] (α := Unit) (fun _ => [(4, .v (.bool ((okS l 3 && l.caps.l.all (fun c => decide (capsP c)) && l.manage.l.all (fun c => decide (manageP c)) && (l.orgs.l.take k).all (fun c => decide (orgP c))) && decide (orgP x))))]) (fun _ => [lldB l, v.c, .cells 100 (x.cells.map .v)]) (fun _ => g) (fun _ => True) (fun _ => by kernel_rfl) ?_ ?_
    · refine bsplit_of (fun k1 => ?_) (fun k1 => ?_)
      · refine (lorgR_c x g).call rfl rfl rfl ?_
        exact ⟨(), trivial, [0, 1, 2], rfl, ⟨sb (by rw [k1, Bool.true_and]), trivial⟩, rfl, rfl, rfl, rfl⟩
      · exact ⟨(), trivial, [0, 1, 2], rfl, ⟨sb (by rw [k1, Bool.false_and]), trivial⟩, rfl, rfl, rfl, rfl⟩
    intro _ _
    have hz := z8.2 x (List.mem_of_getElem? hx)
    haveI : Sz x.info 1048576 := ⟨hz⟩
    refine (beZ_c x.oui 3 g (by decide)).call rfl rfl rfl ?_
    refine (beZ_c x.sub 1 g (by decide)).call rfl rfl rfl ?_
    refine ⟨szOk rfl, ?_⟩
    refine ⟨szOk rfl, ?_⟩
    have g1 := gr_bounds hv.2
    refine ⟨by show 0 + 1 * 2 ≤ 2; decide, fun u hu => by simp at hu; rcases hu with rfl | rfl <;> rfl, ?_⟩
    refine ⟨v.l.flatMap TlvV.cells, v.sp, rfl, g1.1, ⟨g1.2.1, g1.2.2.1, g1.2.2.2⟩, by show (v.m + 1 + 1) * 24 ≤ 140737488355328; omega, fun cap3 sp3 q1 q2 q3 => ?_⟩
    refine ⟨(k + 1, ⟨v.l ++ [orgT x], v.m + 1, cap3, sp3⟩), ⟨hlt', ts_next hv q1 q2 q3, by rw [hvl, map_take orgT hx], by show v.m + 1 ≤ _; omega⟩, by show l.orgs.l.length - (k + 1) < l.orgs.l.length - k; omega, [0, 4], rfl, ⟨vi (wrap_id (by omega) (by omega)), sb (by rw [all_take (fun c => decide (orgP c)) hx]), rfl, trivial⟩, ?_, rfl, rfl, rfl⟩
    exact congrArg (fun a => [lldB l, .vals 108 a]) (flat_app2 TlvV.cells v.l (orgT x) sp3).symm
  have hkn : k = l.orgs.l.length := by have := of_decide_eq_false hlt; omega
  subst hkn
  rw [List.take_length] at hvl ⊢
  exact ⟨[1], v, hvl, hv, rfl, rfl, rfl⟩
end Go.Proofs.YtfianfpmnglfnaaDoor
