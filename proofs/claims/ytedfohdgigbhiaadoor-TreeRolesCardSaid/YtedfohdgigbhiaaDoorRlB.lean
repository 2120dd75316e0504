/- tree.Roles: what it returns. Conditions: the slices lie where they say. -/
import Derived.Test.YtedfohdgigbhiaaDoorRlA
namespace Go.Proofs.YtedfohdgigbhiaaDoor
open Go.Sx Go.Lib
set_option maxRecDepth 100000
set_option maxHeartbeats 8000000
attribute [local irreducible] Meets
attribute [local instance] Classical.propDecidable

abbrev RowsOk (g : G) (t : SliceV (SliceV Int)) : Prop := t.ok 1 SliceV.cells (fun _ => True) g
theorem ints_len (l : List Int) : (l.flatMap (intC .i64)).length = l.length * 1 := flat_len (f := intC .i64) (sz := 1) (fun _ => rfl) l
theorem int_one (z : Int) : ∀ u ∈ intC .i64 z, u.oneCell' = true := fun u hu => by
  rw [intC, List.mem_singleton] at hu; rw [hu]; rfl
theorem row_one (y : SliceV Int) : ∀ u ∈ y.cells, u.oneCell' = true := fun u hu => by
  rw [SliceV.cells, List.mem_singleton] at hu; rw [hu]; rfl
theorem rolesTo_ok (l : List NodeV) (h : List VectorV) (n : NodeV) (i k : Nat) : ∀ z ∈ rolesTo l h n i k, iok .i64 z := fun z hz => by
  obtain ⟨x, -, rfl⟩ := List.mem_map.1 hz
  unfold roleAt
  split
  · exact role_ok _ _ _ _
  · show -9223372036854775808 ≤ (0 : Int) ∧ (0 : Int) ≤ 9223372036854775807
    omega
theorem fiveV {a b c d : Chunk} {ty : TypeId} {X Y : List Value} (h : X = Y) : [a, b, c, d, Chunk.vals ty X] = [a, b, c, d, .vals ty Y] := by rw [h]
theorem roles_c (s : SliceV NodeV) (g : G) (hs : NodesOk g s) (hE : netE s.l = (0, -1)) : Meets Tryd.prog 16 [.v (.slice s.a s.l.length s.c)] [] g (fun o L' g' => ∃ (h : List VectorV) (t : SliceV (SliceV Int)), Rnd s.l s.l.length h ∧ h.length = s.l.length ∧ t.l.length = s.l.length ∧ RolesV s.l h g' t.l ∧ o = .ret (.tup [.v (.slice t.a t.l.length t.c), .v .nilIface]) ∧ L' = [] ∧ RowsOk g' t ∧ G.le g g') := by
  refine meets_ofJ mixedS Tryd.func16 (by kernel_rfl) x16_ok (some []) ?_
  have N := netOk_of hE
  have hfew := N.few
  refine (solve_c s g hs hE).call0 rfl rfl 0 rfl ?_
  rintro o L1 g1 ⟨h, hR, hl, rfl, rfl, hv1, hle1⟩
  have hs1 := hs.up hle1
  change LoopW _ _ _ _ _ _ _ _ _ _
  refine loop_gone ?_
  apply loop_rule [1] (α := Nat × List (SliceV Int) × Nat × List Value × G) (fun x => [(22, .v (.int .i64 x.1)), (6, grS 1 x.2.1.length x.2.2.1)]) (fun x => [.cells 24 [.v (.slice h.a h.l.length h.c)], grC 137 x.2.1.length (x.2.1.flatMap SliceV.cells) x.2.2.2.1]) (fun x => x.2.2.2.2)
    (fun x => x.1 ≤ s.l.length ∧ x.2.1.length = x.1 ∧ RolesV s.l h.l x.2.2.2.2 x.2.1 ∧ grOk 1 x.2.1.length x.2.2.1 (x.2.1.flatMap SliceV.cells) x.2.2.2.1 ∧ G.le g1 x.2.2.2.2) (fun x => s.l.length - x.1) (0, [], 0, [], g1)
  · rintro ⟨i, ys, cap, sp, g2⟩
    cases ys <;> kernel_rfl
  · exact ⟨Nat.zero_le _, rfl, ⟨fun i y n hy => by simp at hy, fun y hy => by simp at hy⟩, grOk.zero 1, fun _ _ h => h⟩
  · exact ⟨rfl, rfl, trivial⟩
  · rfl
  · rfl
  rintro ⟨i, ys, cap, sp, g2⟩ ⟨hi, hyl, hV, hgr, hle2⟩
  have hi : i ≤ s.l.length := hi
  have hyl : ys.length = i := hyl
  have hV : RolesV s.l h.l g2 ys := hV
  have hgr : grOk 1 ys.length cap (ys.flatMap SliceV.cells) sp := hgr
  have hle2 : G.le g1 g2 := hle2
  rcases ys with _ | ⟨y0, ys⟩
  · refine bsplit_of (fun hlt => ?_) (fun hlt => ?_)
    · skip
      have hil : i < s.l.length := by have := of_decide_eq_true hlt; omega
      obtain ⟨ad, n, ha, hnx, hat, hnok⟩ := (hs1.up hle2).elem (fun _ => rfl) hil
      refine ⟨⟨by omega, by omega⟩, ad, ha, ?_⟩
      refine ⟨n.cells, rfl, hat, ?_⟩
      obtain ⟨w, hw⟩ : ∃ w, h.l[i]? = some w := lt_some (by omega)
      change LoopW _ _ _ _ _ _ _ _ _ _
      refine loop_gone ?_
      apply loop_rule [4] (α := Nat × List Int × Nat × List Value × G) (fun x => [(30, .v (.int .i64 x.1)), (9, grS 4 x.2.1.length x.2.2.1)]) (fun x => [.cells 24 [.v (.slice h.a h.l.length h.c)], .gone, .cells 3 [.v (.int .i64 i)], .cells 148 (n.cells.map .v), grC 3 x.2.1.length (x.2.1.flatMap (intC .i64)) x.2.2.2.1]) (fun x => x.2.2.2.2)
        (fun x => x.1 ≤ n.ports.l.length ∧ x.2.1 = rolesTo s.l h.l n i x.1 ∧ grOk 1 x.2.1.length x.2.2.1 (x.2.1.flatMap (intC .i64)) x.2.2.2.1 ∧ G.le g2 x.2.2.2.2) (fun x => n.ports.l.length - x.1) (0, [], 0, [], g2)
      · rintro ⟨k, zs, cap2, sp2, g3⟩
        cases zs <;> kernel_rfl
      · exact ⟨Nat.zero_le _, rfl, grOk.zero 1, fun _ _ h => h⟩
      · exact ⟨rfl, rfl, trivial⟩
      · rfl
      · rfl
      rintro ⟨k, zs, cap2, sp2, g3⟩ ⟨hk, hzs, hgr2, hle3⟩
      have hk : k ≤ n.ports.l.length := hk
      have hzs : zs = rolesTo s.l h.l n i k := hzs
      have hgr2 : grOk 1 zs.length cap2 (zs.flatMap (intC .i64)) sp2 := hgr2
      have hle3 : G.le g2 g3 := hle3
      have hle13 : G.le g1 g3 := fun b o q => hle3 b o (hle2 b o q)
      have hzl : zs.length = k := by rw [hzs, rolesTo_len]
      have hp8 := N.ports n (List.mem_of_getElem? hnx)
      rcases zs with _ | ⟨z0, zs⟩
      · refine bsplit_of (fun hlt => ?_) (fun hlt => ?_)
        · have hkl : k < n.ports.l.length := by have := of_decide_eq_true hlt; omega
          obtain ⟨p, hp⟩ := lt_some hkl
          refine (others_c s h i k n p g3 (hs1.up hle13) (hv1.mono hle13 fun _ h => h) hl.symm N hnx hp).call0 rfl rfl 6 rfl ?_
          rintro o L1 g4 ⟨tt, htt, rfl, rfl, hvt, hle4⟩
          have hle14 : G.le g1 g4 := fun b o q => hle4 b o (hle13 b o q)
          have hv4 : VecsOk g4 h := hv1.mono hle14 fun _ h => h
          have hnok4 : n.ok g4 := ⟨hnok.1, hnok.2.mono (fun b o q => hle4 b o (hle3 b o q)) fun _ h => h⟩
          refine (anyV_c n h i k w tt g4 hnok4 hv4 hw hvt).callS [3, 0, 2, 5] 6 rfl rfl rfl rfl ?_
          rintro o L1 g5 ⟨rfl, rfl, rfl⟩ _
          obtain ⟨aw, w', haw, hw', hatw, hwok⟩ := hv4.elem (fun _ => rfl) (show i < h.l.length by omega)
          rw [hw] at hw'; cases hw'
          have hrc := role_c n w (k : Int) (!decide (∃ v ∈ tt.l, vless v (n.tells w k) = true)) g5 hnok4
          have hre : n.role w k (!decide (∃ v ∈ tt.l, vless v (n.tells w k) = true)) = roleAt s.l h.l n i k := by
            rw [roleAt_at hw hp, htt]; congr 1
            by_cases hx : ∃ v ∈ oth s.l h.l p.lan i k s.l.length, vless v (n.tells w k) = true <;> simp [hx]
          rw [hre] at hrc
          refine ⟨⟨by omega, by omega⟩, aw, haw, ?_⟩
          refine ⟨w.cells, rfl, hatw, ?_⟩
          refine hrc.call rfl rfl rfl ?_
          have hnx2 : rolesTo s.l h.l n i (k + 1) = ([] : List Int) ++ [roleAt s.l h.l n i k] := by rw [rolesTo_next, ← hzs]
          refine ⟨by show 0 + 1 * 1 ≤ 1; decide, fun u hu => int_one (roleAt s.l h.l n i k) u (List.mem_of_mem_drop (List.mem_of_mem_take hu)), ?_⟩
          refine ⟨by decide, fun cap3 sp3 k1 k2 k3 => ?_⟩
          refine ⟨(k + 1, [roleAt s.l h.l n i k], cap3, sp3, g5), ⟨hkl, hnx2.symm, gr_first rfl k1 k2 k3, fun b o q => hle4 b o (hle3 b o q)⟩, by show n.ports.l.length - (k + 1) < n.ports.l.length - k; omega, [0, 1, 2, 3, 7], rfl, ⟨vi (show IntKind.i64.wrap ((k : Int) + 1) = ((k + 1 : Nat) : Int) from by rw [wrap_id (by omega) (by omega)]; omega), rfl, trivial⟩, rfl, rfl, rfl, rfl⟩
        · have hkl : k = n.ports.l.length := by have := of_decide_eq_false hlt; omega
          refine turn_same ?_
          have hrow : RolesV s.l h.l g3 (([] : List (SliceV Int)) ++ [⟨none, [], 0⟩]) := (hV.mono hle3).snoc (by rw [hyl]; exact hnx) (by rw [hyl, ← hkl]; exact hzs) (sliceV_nil _ _ _ _)
          refine ⟨by show 0 + 1 * 1 ≤ 1; decide, fun u hu => row_one (⟨none, [], 0⟩ : SliceV Int) u (List.mem_of_mem_drop (List.mem_of_mem_take hu)), ?_⟩
          refine ⟨by decide, fun cap4 sp4 q1 q2 q3 => ?_⟩
          exact ⟨(i + 1, [(⟨none, [], 0⟩ : SliceV Int)], cap4, sp4, g3), ⟨hil, by show 1 = i + 1; simp at hyl; omega, hrow, gr_first rfl q1 q2 q3, hle13⟩, by show s.l.length - (i + 1) < s.l.length - i; omega, [0, 6], rfl, ⟨vi (show IntKind.i64.wrap ((i : Int) + 1) = ((i + 1 : Nat) : Int) from by rw [wrap_id (by omega) (by omega)]; omega), rfl, trivial⟩, rfl, rfl, rfl, rfl⟩
      · refine bsplit_of (fun hlt => ?_) (fun hlt => ?_)
        · have hkl : k < n.ports.l.length := by have := of_decide_eq_true hlt; omega
          obtain ⟨p, hp⟩ := lt_some hkl
          refine (others_c s h i k n p g3 (hs1.up hle13) (hv1.mono hle13 fun _ h => h) hl.symm N hnx hp).call0 rfl rfl 6 rfl ?_
          rintro o L1 g4 ⟨tt, htt, rfl, rfl, hvt, hle4⟩
          have hle14 : G.le g1 g4 := fun b o q => hle4 b o (hle13 b o q)
          have hv4 : VecsOk g4 h := hv1.mono hle14 fun _ h => h
          have hnok4 : n.ok g4 := ⟨hnok.1, hnok.2.mono (fun b o q => hle4 b o (hle3 b o q)) fun _ h => h⟩
          refine (anyV_c n h i k w tt g4 hnok4 hv4 hw hvt).callS [3, 0, 2, 5] 6 rfl rfl rfl rfl ?_
          rintro o L1 g5 ⟨rfl, rfl, rfl⟩ _
          obtain ⟨aw, w', haw, hw', hatw, hwok⟩ := hv4.elem (fun _ => rfl) (show i < h.l.length by omega)
          rw [hw] at hw'; cases hw'
          have hrc := role_c n w (k : Int) (!decide (∃ v ∈ tt.l, vless v (n.tells w k) = true)) g5 hnok4
          have hre : n.role w k (!decide (∃ v ∈ tt.l, vless v (n.tells w k) = true)) = roleAt s.l h.l n i k := by
            rw [roleAt_at hw hp, htt]; congr 1
            by_cases hx : ∃ v ∈ oth s.l h.l p.lan i k s.l.length, vless v (n.tells w k) = true <;> simp [hx]
          rw [hre] at hrc
          refine ⟨⟨by omega, by omega⟩, aw, haw, ?_⟩
          refine ⟨w.cells, rfl, hatw, ?_⟩
          refine hrc.call rfl rfl rfl ?_
          have hnx2 : rolesTo s.l h.l n i (k + 1) = (z0 :: zs) ++ [roleAt s.l h.l n i k] := by rw [rolesTo_next, ← hzs]
          have g1' := gr_bounds hgr2
          refine ⟨by show 0 + 1 * 1 ≤ 1; decide, fun u hu => int_one (roleAt s.l h.l n i k) u (List.mem_of_mem_drop (List.mem_of_mem_take hu)), ?_⟩
          refine ⟨(z0 :: zs).flatMap (intC .i64), sp2, rfl, g1'.1, ⟨g1'.2.1, g1'.2.2.1, g1'.2.2.2⟩, by simp at hzl; omega, fun cap3 sp3 k1 k2 k3 => ?_⟩
          have hl2 : ((z0 :: zs) ++ [roleAt s.l h.l n i k]).length = zs.length + 1 + 1 := by simp
          have hgr3 : grOk 1 ((z0 :: zs) ++ [roleAt s.l h.l n i k]).length cap3 (((z0 :: zs) ++ [roleAt s.l h.l n i k]).flatMap (intC .i64)) sp3 := by
            rw [hl2, List.flatMap_append]
            exact gr_next hgr2 rfl k1 k2 k3
          refine ⟨(k + 1, z0 :: (zs ++ [roleAt s.l h.l n i k]), cap3, sp3, g5), ⟨hkl, hnx2.symm, hgr3, fun b o q => hle4 b o (hle3 b o q)⟩, by show n.ports.l.length - (k + 1) < n.ports.l.length - k; omega, [0, 1, 2, 3, 7], rfl, ⟨vi (show IntKind.i64.wrap ((k : Int) + 1) = ((k + 1 : Nat) : Int) from by rw [wrap_id (by omega) (by omega)]; omega), (show SV.slc 7 0 (zs.length + 1 + 1) cap3 = SV.slc 7 0 ((zs ++ [roleAt s.l h.l n i k]).length + 1) cap3 from by rw [List.length_append]; rfl), trivial⟩, fiveV (show (z0 :: zs).flatMap (intC .i64) ++ (intC .i64 (roleAt s.l h.l n i k) ++ sp3) = (z0 :: (zs ++ [roleAt s.l h.l n i k])).flatMap (intC .i64) ++ sp3 from by simp), rfl, rfl, rfl⟩
        · have hkl : k = n.ports.l.length := by have := of_decide_eq_false hlt; omega
          refine turn_freezeB 4 3 ((z0 :: zs).flatMap (intC .i64) ++ sp2) (.inl rfl) (fun b0 g6 hb0 hle6 hgb => ?_)
          have hle36 : G.le g2 g6 := fun b o q => hle6 b o (hle3 b o q)
          have hle16 : G.le g1 g6 := fun b o q => hle6 b o (hle13 b o q)
          have hrow : RolesV s.l h.l g6 (([] : List (SliceV Int)) ++ [⟨some ⟨b0, 0, none⟩, z0 :: zs, cap2⟩]) := (hV.mono hle36).snoc (by rw [hyl]; exact hnx) (by rw [hyl, ← hkl]; exact hzs) (sliceV_frz hgr2 hgb (by rw [hzs]; exact rolesTo_ok _ _ _ _ _))
          refine ⟨by show 0 + 1 * 1 ≤ 1; decide, fun u hu => row_one (⟨some ⟨b0, 0, none⟩, z0 :: zs, cap2⟩ : SliceV Int) u (List.mem_of_mem_drop (List.mem_of_mem_take hu)), ?_⟩
          refine ⟨by decide, fun cap4 sp4 q1 q2 q3 => ?_⟩
          exact ⟨(i + 1, [(⟨some ⟨b0, 0, none⟩, z0 :: zs, cap2⟩ : SliceV Int)], cap4, sp4, g6), ⟨hil, by show 1 = i + 1; simp at hyl; omega, hrow, gr_first rfl q1 q2 q3, hle16⟩, by show s.l.length - (i + 1) < s.l.length - i; omega, [0, 6], rfl, ⟨vi (show IntKind.i64.wrap ((i : Int) + 1) = ((i + 1 : Nat) : Int) from by rw [wrap_id (by omega) (by omega)]; omega), rfl, trivial⟩, rfl, rfl, rfl, rfl⟩
    · have hil : i = s.l.length := by have := of_decide_eq_false hlt; omega
      refine turn_same ?_
      exact ⟨h.l, ⟨none, [], 0⟩, hR, hl, hyl.trans hil, hV, rfl, rfl, sliceV_nil _ _ _ _, fun b o q => hle2 b o (hle1 b o q)⟩
  · refine bsplit_of (fun hlt => ?_) (fun hlt => ?_)
    · skip
      have hil : i < s.l.length := by have := of_decide_eq_true hlt; omega
      obtain ⟨ad, n, ha, hnx, hat, hnok⟩ := (hs1.up hle2).elem (fun _ => rfl) hil
      refine ⟨⟨by omega, by omega⟩, ad, ha, ?_⟩
      refine ⟨n.cells, rfl, hat, ?_⟩
      obtain ⟨w, hw⟩ : ∃ w, h.l[i]? = some w := lt_some (by omega)
      change LoopW _ _ _ _ _ _ _ _ _ _
      refine loop_gone ?_
      apply loop_rule [4] (α := Nat × List Int × Nat × List Value × G) (fun x => [(30, .v (.int .i64 x.1)), (9, grS 4 x.2.1.length x.2.2.1)]) (fun x => [.cells 24 [.v (.slice h.a h.l.length h.c)], .vals 137 ((y0 :: ys).flatMap SliceV.cells ++ sp), .cells 3 [.v (.int .i64 i)], .cells 148 (n.cells.map .v), grC 3 x.2.1.length (x.2.1.flatMap (intC .i64)) x.2.2.2.1]) (fun x => x.2.2.2.2)
        (fun x => x.1 ≤ n.ports.l.length ∧ x.2.1 = rolesTo s.l h.l n i x.1 ∧ grOk 1 x.2.1.length x.2.2.1 (x.2.1.flatMap (intC .i64)) x.2.2.2.1 ∧ G.le g2 x.2.2.2.2) (fun x => n.ports.l.length - x.1) (0, [], 0, [], g2)
      · rintro ⟨k, zs, cap2, sp2, g3⟩
        cases zs <;> kernel_rfl
      · exact ⟨Nat.zero_le _, rfl, grOk.zero 1, fun _ _ h => h⟩
      · exact ⟨rfl, rfl, trivial⟩
      · rfl
      · rfl
      rintro ⟨k, zs, cap2, sp2, g3⟩ ⟨hk, hzs, hgr2, hle3⟩
      have hk : k ≤ n.ports.l.length := hk
      have hzs : zs = rolesTo s.l h.l n i k := hzs
      have hgr2 : grOk 1 zs.length cap2 (zs.flatMap (intC .i64)) sp2 := hgr2
      have hle3 : G.le g2 g3 := hle3
      have hle13 : G.le g1 g3 := fun b o q => hle3 b o (hle2 b o q)
      have hzl : zs.length = k := by rw [hzs, rolesTo_len]
      have hp8 := N.ports n (List.mem_of_getElem? hnx)
      rcases zs with _ | ⟨z0, zs⟩
      · refine bsplit_of (fun hlt => ?_) (fun hlt => ?_)
        · have hkl : k < n.ports.l.length := by have := of_decide_eq_true hlt; omega
          obtain ⟨p, hp⟩ := lt_some hkl
          refine (others_c s h i k n p g3 (hs1.up hle13) (hv1.mono hle13 fun _ h => h) hl.symm N hnx hp).call0 rfl rfl 6 rfl ?_
          rintro o L1 g4 ⟨tt, htt, rfl, rfl, hvt, hle4⟩
          have hle14 : G.le g1 g4 := fun b o q => hle4 b o (hle13 b o q)
          have hv4 : VecsOk g4 h := hv1.mono hle14 fun _ h => h
          have hnok4 : n.ok g4 := ⟨hnok.1, hnok.2.mono (fun b o q => hle4 b o (hle3 b o q)) fun _ h => h⟩
          refine (anyV_c n h i k w tt g4 hnok4 hv4 hw hvt).callS [3, 0, 2, 5] 6 rfl rfl rfl rfl ?_
          rintro o L1 g5 ⟨rfl, rfl, rfl⟩ _
          obtain ⟨aw, w', haw, hw', hatw, hwok⟩ := hv4.elem (fun _ => rfl) (show i < h.l.length by omega)
          rw [hw] at hw'; cases hw'
          have hrc := role_c n w (k : Int) (!decide (∃ v ∈ tt.l, vless v (n.tells w k) = true)) g5 hnok4
          have hre : n.role w k (!decide (∃ v ∈ tt.l, vless v (n.tells w k) = true)) = roleAt s.l h.l n i k := by
            rw [roleAt_at hw hp, htt]; congr 1
            by_cases hx : ∃ v ∈ oth s.l h.l p.lan i k s.l.length, vless v (n.tells w k) = true <;> simp [hx]
          rw [hre] at hrc
          refine ⟨⟨by omega, by omega⟩, aw, haw, ?_⟩
          refine ⟨w.cells, rfl, hatw, ?_⟩
          refine hrc.call rfl rfl rfl ?_
          have hnx2 : rolesTo s.l h.l n i (k + 1) = ([] : List Int) ++ [roleAt s.l h.l n i k] := by rw [rolesTo_next, ← hzs]
          refine ⟨by show 0 + 1 * 1 ≤ 1; decide, fun u hu => int_one (roleAt s.l h.l n i k) u (List.mem_of_mem_drop (List.mem_of_mem_take hu)), ?_⟩
          refine ⟨by decide, fun cap3 sp3 k1 k2 k3 => ?_⟩
          refine ⟨(k + 1, [roleAt s.l h.l n i k], cap3, sp3, g5), ⟨hkl, hnx2.symm, gr_first rfl k1 k2 k3, fun b o q => hle4 b o (hle3 b o q)⟩, by show n.ports.l.length - (k + 1) < n.ports.l.length - k; omega, [0, 1, 2, 3, 7], rfl, ⟨vi (show IntKind.i64.wrap ((k : Int) + 1) = ((k + 1 : Nat) : Int) from by rw [wrap_id (by omega) (by omega)]; omega), rfl, trivial⟩, rfl, rfl, rfl, rfl⟩
        · have hkl : k = n.ports.l.length := by have := of_decide_eq_false hlt; omega
          refine turn_same ?_
          have hrow : RolesV s.l h.l g3 ((y0 :: ys) ++ [⟨none, [], 0⟩]) := (hV.mono hle3).snoc (by rw [hyl]; exact hnx) (by rw [hyl, ← hkl]; exact hzs) (sliceV_nil _ _ _ _)
          have g1' := gr_bounds hgr
          refine ⟨by show 0 + 1 * 1 ≤ 1; decide, fun u hu => row_one (⟨none, [], 0⟩ : SliceV Int) u (List.mem_of_mem_drop (List.mem_of_mem_take hu)), ?_⟩
          refine ⟨(y0 :: ys).flatMap SliceV.cells, sp, rfl, g1'.1, ⟨g1'.2.1, g1'.2.2.1, g1'.2.2.2⟩, by simp at hyl; omega, fun cap4 sp4 q1 q2 q3 => ?_⟩
          have hl2 : ((y0 :: ys) ++ [(⟨none, [], 0⟩ : SliceV Int)]).length = ys.length + 1 + 1 := by simp
          have hgr4 : grOk 1 ((y0 :: ys) ++ [(⟨none, [], 0⟩ : SliceV Int)]).length cap4 (((y0 :: ys) ++ [(⟨none, [], 0⟩ : SliceV Int)]).flatMap SliceV.cells) sp4 := by
            rw [hl2, List.flatMap_append]
            exact gr_next hgr rfl q1 q2 q3
          exact ⟨(i + 1, y0 :: (ys ++ [(⟨none, [], 0⟩ : SliceV Int)]), cap4, sp4, g3), ⟨hil, by show ((y0 :: ys) ++ [(⟨none, [], 0⟩ : SliceV Int)]).length = i + 1; rw [hl2]; simp at hyl; omega, hrow, hgr4, hle13⟩, by show s.l.length - (i + 1) < s.l.length - i; omega, [0, 6], rfl, ⟨vi (show IntKind.i64.wrap ((i : Int) + 1) = ((i + 1 : Nat) : Int) from by rw [wrap_id (by omega) (by omega)]; omega), (show SV.slc 6 0 (ys.length + 1 + 1) cap4 = SV.slc 6 0 ((ys ++ [(⟨none, [], 0⟩ : SliceV Int)]).length + 1) cap4 from by rw [List.length_append]; rfl), trivial⟩, twoV (show (y0 :: ys).flatMap SliceV.cells ++ (SliceV.cells (⟨none, [], 0⟩ : SliceV Int) ++ sp4) = (y0 :: (ys ++ [(⟨none, [], 0⟩ : SliceV Int)])).flatMap SliceV.cells ++ sp4 from by simp), rfl, rfl, rfl⟩
      · refine bsplit_of (fun hlt => ?_) (fun hlt => ?_)
        · have hkl : k < n.ports.l.length := by have := of_decide_eq_true hlt; omega
          obtain ⟨p, hp⟩ := lt_some hkl
          refine (others_c s h i k n p g3 (hs1.up hle13) (hv1.mono hle13 fun _ h => h) hl.symm N hnx hp).call0 rfl rfl 6 rfl ?_
          rintro o L1 g4 ⟨tt, htt, rfl, rfl, hvt, hle4⟩
          have hle14 : G.le g1 g4 := fun b o q => hle4 b o (hle13 b o q)
          have hv4 : VecsOk g4 h := hv1.mono hle14 fun _ h => h
          have hnok4 : n.ok g4 := ⟨hnok.1, hnok.2.mono (fun b o q => hle4 b o (hle3 b o q)) fun _ h => h⟩
          refine (anyV_c n h i k w tt g4 hnok4 hv4 hw hvt).callS [3, 0, 2, 5] 6 rfl rfl rfl rfl ?_
          rintro o L1 g5 ⟨rfl, rfl, rfl⟩ _
          obtain ⟨aw, w', haw, hw', hatw, hwok⟩ := hv4.elem (fun _ => rfl) (show i < h.l.length by omega)
          rw [hw] at hw'; cases hw'
          have hrc := role_c n w (k : Int) (!decide (∃ v ∈ tt.l, vless v (n.tells w k) = true)) g5 hnok4
          have hre : n.role w k (!decide (∃ v ∈ tt.l, vless v (n.tells w k) = true)) = roleAt s.l h.l n i k := by
            rw [roleAt_at hw hp, htt]; congr 1
            by_cases hx : ∃ v ∈ oth s.l h.l p.lan i k s.l.length, vless v (n.tells w k) = true <;> simp [hx]
          rw [hre] at hrc
          refine ⟨⟨by omega, by omega⟩, aw, haw, ?_⟩
          refine ⟨w.cells, rfl, hatw, ?_⟩
          refine hrc.call rfl rfl rfl ?_
          have hnx2 : rolesTo s.l h.l n i (k + 1) = (z0 :: zs) ++ [roleAt s.l h.l n i k] := by rw [rolesTo_next, ← hzs]
          have g1' := gr_bounds hgr2
          refine ⟨by show 0 + 1 * 1 ≤ 1; decide, fun u hu => int_one (roleAt s.l h.l n i k) u (List.mem_of_mem_drop (List.mem_of_mem_take hu)), ?_⟩
          refine ⟨(z0 :: zs).flatMap (intC .i64), sp2, rfl, g1'.1, ⟨g1'.2.1, g1'.2.2.1, g1'.2.2.2⟩, by simp at hzl; omega, fun cap3 sp3 k1 k2 k3 => ?_⟩
          have hl2 : ((z0 :: zs) ++ [roleAt s.l h.l n i k]).length = zs.length + 1 + 1 := by simp
          have hgr3 : grOk 1 ((z0 :: zs) ++ [roleAt s.l h.l n i k]).length cap3 (((z0 :: zs) ++ [roleAt s.l h.l n i k]).flatMap (intC .i64)) sp3 := by
            rw [hl2, List.flatMap_append]
            exact gr_next hgr2 rfl k1 k2 k3
          refine ⟨(k + 1, z0 :: (zs ++ [roleAt s.l h.l n i k]), cap3, sp3, g5), ⟨hkl, hnx2.symm, hgr3, fun b o q => hle4 b o (hle3 b o q)⟩, by show n.ports.l.length - (k + 1) < n.ports.l.length - k; omega, [0, 1, 2, 3, 7], rfl, ⟨vi (show IntKind.i64.wrap ((k : Int) + 1) = ((k + 1 : Nat) : Int) from by rw [wrap_id (by omega) (by omega)]; omega), (show SV.slc 7 0 (zs.length + 1 + 1) cap3 = SV.slc 7 0 ((zs ++ [roleAt s.l h.l n i k]).length + 1) cap3 from by rw [List.length_append]; rfl), trivial⟩, fiveV (show (z0 :: zs).flatMap (intC .i64) ++ (intC .i64 (roleAt s.l h.l n i k) ++ sp3) = (z0 :: (zs ++ [roleAt s.l h.l n i k])).flatMap (intC .i64) ++ sp3 from by simp), rfl, rfl, rfl⟩
        · have hkl : k = n.ports.l.length := by have := of_decide_eq_false hlt; omega
          refine turn_freezeB 4 3 ((z0 :: zs).flatMap (intC .i64) ++ sp2) (.inl rfl) (fun b0 g6 hb0 hle6 hgb => ?_)
          have hle36 : G.le g2 g6 := fun b o q => hle6 b o (hle3 b o q)
          have hle16 : G.le g1 g6 := fun b o q => hle6 b o (hle13 b o q)
          have hrow : RolesV s.l h.l g6 ((y0 :: ys) ++ [⟨some ⟨b0, 0, none⟩, z0 :: zs, cap2⟩]) := (hV.mono hle36).snoc (by rw [hyl]; exact hnx) (by rw [hyl, ← hkl]; exact hzs) (sliceV_frz hgr2 hgb (by rw [hzs]; exact rolesTo_ok _ _ _ _ _))
          have g1' := gr_bounds hgr
          refine ⟨by show 0 + 1 * 1 ≤ 1; decide, fun u hu => row_one (⟨some ⟨b0, 0, none⟩, z0 :: zs, cap2⟩ : SliceV Int) u (List.mem_of_mem_drop (List.mem_of_mem_take hu)), ?_⟩
          refine ⟨(y0 :: ys).flatMap SliceV.cells, sp, rfl, g1'.1, ⟨g1'.2.1, g1'.2.2.1, g1'.2.2.2⟩, by simp at hyl; omega, fun cap4 sp4 q1 q2 q3 => ?_⟩
          have hl2 : ((y0 :: ys) ++ [(⟨some ⟨b0, 0, none⟩, z0 :: zs, cap2⟩ : SliceV Int)]).length = ys.length + 1 + 1 := by simp
          have hgr4 : grOk 1 ((y0 :: ys) ++ [(⟨some ⟨b0, 0, none⟩, z0 :: zs, cap2⟩ : SliceV Int)]).length cap4 (((y0 :: ys) ++ [(⟨some ⟨b0, 0, none⟩, z0 :: zs, cap2⟩ : SliceV Int)]).flatMap SliceV.cells) sp4 := by
            rw [hl2, List.flatMap_append]
            exact gr_next hgr rfl q1 q2 q3
          exact ⟨(i + 1, y0 :: (ys ++ [(⟨some ⟨b0, 0, none⟩, z0 :: zs, cap2⟩ : SliceV Int)]), cap4, sp4, g6), ⟨hil, by show ((y0 :: ys) ++ [(⟨some ⟨b0, 0, none⟩, z0 :: zs, cap2⟩ : SliceV Int)]).length = i + 1; rw [hl2]; simp at hyl; omega, hrow, hgr4, hle16⟩, by show s.l.length - (i + 1) < s.l.length - i; omega, [0, 6], rfl, ⟨vi (show IntKind.i64.wrap ((i : Int) + 1) = ((i + 1 : Nat) : Int) from by rw [wrap_id (by omega) (by omega)]; omega), (show SV.slc 6 0 (ys.length + 1 + 1) cap4 = SV.slc 6 0 ((ys ++ [(⟨some ⟨b0, 0, none⟩, z0 :: zs, cap2⟩ : SliceV Int)]).length + 1) cap4 from by rw [List.length_append]; rfl), trivial⟩, twoV (show (y0 :: ys).flatMap SliceV.cells ++ (SliceV.cells (⟨some ⟨b0, 0, none⟩, z0 :: zs, cap2⟩ : SliceV Int) ++ sp4) = (y0 :: (ys ++ [(⟨some ⟨b0, 0, none⟩, z0 :: zs, cap2⟩ : SliceV Int)])).flatMap SliceV.cells ++ sp4 from by simp), rfl, rfl, rfl⟩
    · have hil : i = s.l.length := by have := of_decide_eq_false hlt; omega
      refine turn_freezeB 1 137 ((y0 :: ys).flatMap SliceV.cells ++ sp) (.inl rfl) (fun b0 g6 hb0 hle6 hgb => ?_)
      exact ⟨h.l, ⟨some ⟨b0, 0, none⟩, y0 :: ys, cap⟩, hR, hl, hyl.trans hil, hV.mono hle6, rfl, rfl, sliceV_frz hgr hgb (fun _ _ => trivial), fun b o q => hle6 b o (hle2 b o (hle1 b o q))⟩
end Go.Proofs.YtedfohdgigbhiaaDoor
