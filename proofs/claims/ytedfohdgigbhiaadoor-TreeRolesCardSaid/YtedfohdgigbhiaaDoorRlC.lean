/- ref.Roles: what it returns. Conditions: the slices lie where they say. -/
import Derived.Test.YtedfohdgigbhiaaDoorRlB
namespace Go.Proofs.YtedfohdgigbhiaaDoor
open Go.Sx Go.Lib
set_option maxRecDepth 100000
set_option maxHeartbeats 8000000
attribute [local irreducible] Meets
attribute [local instance] Classical.propDecidable

noncomputable def bestOf (V : List VectorV) (n : NodeV) (w : VectorV) (k : Int) : Bool := decide (¬ ∃ v ∈ V, vless v (n.tells w k) = true)
theorem bestOf_nil (n : NodeV) (w : VectorV) (k : Int) : true = bestOf [] n w k := by
  symm; apply decide_eq_true; rintro ⟨v, hv, _⟩; cases hv
theorem bestD {V : List VectorV} {n : NodeV} {w : VectorV} {k : Int} {v : VectorV} {b : Bool} (hb : b = bestOf V n w k) (hv : vless v (n.tells w k) = false) : b = bestOf (V ++ [v]) n w k := by
  rw [hb]; apply decide_eq_decide.2
  constructor
  · rintro h ⟨x, hx, hl⟩
    rcases List.mem_append.1 hx with hx | hx
    · exact h ⟨x, hx, hl⟩
    · rw [List.mem_singleton] at hx; rw [hx, hv] at hl; cases hl
  · rintro h ⟨x, hx, hl⟩; exact h ⟨x, List.mem_append.2 (.inl hx), hl⟩
theorem bestE {V : List VectorV} {n : NodeV} {w : VectorV} {k : Int} {v : VectorV} (hv : vless v (n.tells w k) = true) : false = bestOf (V ++ [v]) n w k := by
  symm; apply decide_eq_false
  exact fun h => h ⟨v, by simp, hv⟩
theorem roleAt_best {l : List NodeV} {h : List VectorV} {n : NodeV} {i k : Nat} {w : VectorV} {p : MemberV} (hw : h[i]? = some w) (hp : n.ports.l[k]? = some p) : n.role w k (bestOf (oth l h p.lan i k l.length) n w k) = roleAt l h n i k := by
  rw [roleAt_at hw hp, bestOf]
theorem threeVV {a b : Chunk} {ty : TypeId} {X Y : List Value} (h : X = Y) : [a, b, Chunk.vals ty X] = [a, b, .vals ty Y] := by rw [h]
theorem rolesR_c (s : SliceV NodeV) (g : G) (hs : NodesOk g s) (N : NetOk s.l) : Meets Tryd.prog 18 [.v (.slice s.a s.l.length s.c)] [] g (fun o L' g' => ∃ (h : List VectorV) (t : SliceV (SliceV Int)), (h.length = s.l.length ∧ ∃ rt, NetW s.l.length (brL s.l) (psL s.l) (fw (eM s.l) s.l.length) rt ∧ FinR s.l rt g h) ∧ t.l.length = s.l.length ∧ RolesV s.l h g' t.l ∧ o = .ret (.v (.slice t.a t.l.length t.c)) ∧ L' = [] ∧ RowsOk g' t ∧ G.le g g') := by
  refine meets_ofJ mixedS Tryd.func18 (by kernel_rfl) x18_ok (some []) ?_
  have hfew := N.few
  refine (solveR_c s g hs N).call0 rfl rfl 0 rfl ?_
  rintro o L1 g1 ⟨h, hR, rfl, rfl, hv1, hle1⟩
  have hl := hR.1
  have hs1 := hs.up hle1
  change LoopW _ _ _ _ _ _ _ _ _ _
  refine loop_gone ?_
  apply loop_rule [0] (α := Nat × List (SliceV Int) × Nat × List Value × G) (fun x => [(19, .v (.int .i64 x.1)), (4, grS 0 x.2.1.length x.2.2.1)]) (fun x => [grC 137 x.2.1.length (x.2.1.flatMap SliceV.cells) x.2.2.2.1]) (fun x => x.2.2.2.2)
    (fun x => x.1 ≤ s.l.length ∧ x.2.1.length = x.1 ∧ RolesV s.l h.l x.2.2.2.2 x.2.1 ∧ grOk 1 x.2.1.length x.2.2.1 (x.2.1.flatMap SliceV.cells) x.2.2.2.1 ∧ G.le g1 x.2.2.2.2) (fun x => s.l.length - x.1) (0, [], 0, [], g1)
  · rintro ⟨i, ys, cap, sp, g2⟩
    cases ys <;> kernel_rfl
  · exact ⟨Nat.zero_le _, rfl, ⟨fun i y n hy => by simp at hy, fun y hy => by simp at hy⟩, grOk.zero 1, fun _ _ h => h⟩
  · exact ⟨rfl, rfl, trivial⟩
  · rfl
  · rfl
  rintro ⟨i, ys, cap, sp, g2⟩ ⟨hi, hyl, hV, hgr, hle2⟩
  have hi : i ≤ s.l.length := hi
  have hyl : ys.length = i := hyl
  have hV : RolesV s.l h.l g2 ys := hV
  have hgr : grOk 1 ys.length cap (ys.flatMap SliceV.cells) sp := hgr
  have hle2 : G.le g1 g2 := hle2
  rcases ys with _ | ⟨y0, ys⟩
  · refine bsplit_of (fun hlt => ?_) (fun hlt => ?_)
    · skip
      have hil : i < s.l.length := by have := of_decide_eq_true hlt; omega
      obtain ⟨ad, n, ha, hnx, hat, hnok⟩ := (hs1.up hle2).elem (fun _ => rfl) hil
      refine ⟨⟨by omega, by omega⟩, ad, ha, ?_⟩
      refine ⟨n.cells, rfl, hat, ?_⟩
      obtain ⟨w, hw⟩ : ∃ w, h.l[i]? = some w := lt_some (by omega)
      change LoopW _ _ _ _ _ _ _ _ _ _
      refine loop_gone ?_
      apply loop_rule [2] (α := Nat × List Int × Nat × List Value × G) (fun x => [(27, .v (.int .i64 x.1)), (7, grS 2 x.2.1.length x.2.2.1)]) (fun x => [.gone, .cells 148 (n.cells.map .v), grC 3 x.2.1.length (x.2.1.flatMap (intC .i64)) x.2.2.2.1]) (fun x => x.2.2.2.2)
        (fun x => x.1 ≤ n.ports.l.length ∧ x.2.1 = rolesTo s.l h.l n i x.1 ∧ grOk 1 x.2.1.length x.2.2.1 (x.2.1.flatMap (intC .i64)) x.2.2.2.1 ∧ G.le g2 x.2.2.2.2) (fun x => n.ports.l.length - x.1) (0, [], 0, [], g2)
      · rintro ⟨k, zs, cap2, sp2, g3⟩
        cases zs <;> kernel_rfl
      · exact ⟨Nat.zero_le _, rfl, grOk.zero 1, fun _ _ h => h⟩
      · exact ⟨rfl, rfl, trivial⟩
      · rfl
      · rfl
      rintro ⟨k, zs, cap2, sp2, g3⟩ ⟨hk, hzs, hgr2, hle3⟩
      have hk : k ≤ n.ports.l.length := hk
      have hzs : zs = rolesTo s.l h.l n i k := hzs
      have hgr2 : grOk 1 zs.length cap2 (zs.flatMap (intC .i64)) sp2 := hgr2
      have hle3 : G.le g2 g3 := hle3
      have hle13 : G.le g1 g3 := fun b o q => hle3 b o (hle2 b o q)
      have hzl : zs.length = k := by rw [hzs, rolesTo_len]
      have hp8 := N.ports n (List.mem_of_getElem? hnx)
      rcases zs with _ | ⟨z0, zs⟩
      · refine bsplit_of (fun hlt => ?_) (fun hlt => ?_)
        · have hkl : k < n.ports.l.length := by have := of_decide_eq_true hlt; omega
          obtain ⟨ap, p, hap, hp, hatp, hpok⟩ := (hnok.2.mono hle3 fun _ h => h : MemsOk g3 n.ports).elem (fun _ => rfl) hkl
          refine ⟨⟨by omega, by omega⟩, ap, hap, ?_⟩
          refine ⟨p.cells, rfl, hatp, ?_⟩
          have hs3 := hs1.up hle13
          have hv3 : VecsOk g3 h := hv1.mono hle13 fun _ h => h
          have hnok3 : n.ok g3 := ⟨hnok.1, hnok.2.mono hle3 fun _ h => h⟩
          obtain ⟨aw, w', haw, hw', hatw, hwok⟩ := hv3.elem (fun _ => rfl) (show i < h.l.length by omega)
          rw [hw] at hw'; cases hw'
          change LoopW _ _ _ _ _ _ _ _ _ _
          apply loop_rule [] (α := Nat × Bool) (fun x => [(34, .v (.int .i64 x.1)), (10, .v (.bool x.2))]) (fun _ => [.gone, .cells 148 (n.cells.map .v), .gone, .cells 159 (p.cells.map .v)]) (fun _ => g3)
            (fun x => x.1 ≤ s.l.length ∧ x.2 = bestOf (oth s.l h.l p.lan i k x.1) n w k) (fun x => s.l.length - x.1) (0, true)
          · intro x; kernel_rfl
          · exact ⟨Nat.zero_le _, bestOf_nil n w k⟩
          · exact ⟨rfl, rfl, trivial⟩
          · rfl
          · rfl
          rintro ⟨j, b⟩ ⟨hj, hb⟩
          have hj : j ≤ s.l.length := hj
          have hb : b = bestOf (oth s.l h.l p.lan i k j) n w k := hb
          refine bsplit_of (fun hlt => ?_) (fun hlt => ?_)
          · have hjl : j < s.l.length := by have := of_decide_eq_true hlt; omega
            obtain ⟨am, m, ham, hm, hatm, hmok⟩ := hs3.elem (fun _ => rfl) hjl
            obtain ⟨au, u, hau, hu, hatu, huok⟩ := hv3.elem (fun _ => rfl) (show j < h.l.length by omega)
            refine ⟨⟨by omega, by omega⟩, am, ham, ?_⟩
            refine ⟨m.cells, rfl, hatm, ?_⟩
            have hml := hmok.2.len
            have hm8 := N.ports m (List.mem_of_getElem? hm)
            obtain ⟨ok, hokd⟩ : ∃ ok : Nat → Bool, (fun x => !(j == i && x == k)) = ok := ⟨_, rfl⟩
            have hnx := oth_next (lan := p.lan) (i := i) (k := k) hm hu
            rw [hokd] at hnx
            change LoopW _ _ _ _ _ _ _ _ _ _
            apply loop_rule [] (α := Nat × Bool) (fun x => [(42, .v (.int .i64 x.1)), (10, .v (.bool x.2))]) (fun _ => [.gone, .cells 148 (n.cells.map .v), .gone, .cells 159 (p.cells.map .v), .cells 148 (m.cells.map .v)]) (fun _ => g3)
              (fun x => x.1 ≤ m.ports.l.length ∧ x.2 = bestOf (oth s.l h.l p.lan i k j ++ othN u m p.lan ok x.1) n w k) (fun x => m.ports.l.length - x.1) (0, b)
            · intro x; kernel_rfl
            · exact ⟨Nat.zero_le _, by show b = bestOf (oth s.l h.l p.lan i k j ++ []) n w k; rw [List.append_nil]; exact hb⟩
            · exact ⟨rfl, rfl, trivial⟩
            · rfl
            · rfl
            rintro ⟨x, b⟩ ⟨hx, hb⟩
            have hx : x ≤ m.ports.l.length := hx
            have hb : b = bestOf (oth s.l h.l p.lan i k j ++ othN u m p.lan ok x) n w k := hb
            refine bsplit_of (fun hlt => ?_) (fun hlt => ?_)
            · have hxl : x < m.ports.l.length := by have := of_decide_eq_true hlt; omega
              obtain ⟨aq, q, haq, hq, hatq, hqok⟩ := hmok.2.elem (fun _ => rfl) hxl
              refine ⟨⟨by omega, by omega⟩, aq, haq, ?_⟩
              refine ⟨q.cells, rfl, hatq, ?_⟩
              refine bsplit_of (fun (h1 : (q.lan == p.lan) = true) => ?_) (fun (h1 : (q.lan == p.lan) = false) => ?_)
              · have h1 : decide (q.lan = p.lan) = true := by simpa using h1
                refine bsplit_of (fun (h2 : ((j : Int) != (i : Int)) = true) => ?_) (fun (h2 : ((j : Int) != (i : Int)) = false) => ?_)
                · skip
                  have hnew : oth s.l h.l p.lan i k j ++ othN u m p.lan ok (x + 1) = (oth s.l h.l p.lan i k j ++ othN u m p.lan ok x) ++ [m.tells u x] := by
                    rw [othN_yes hq ⟨of_decide_eq_true h1, (by rw [← hokd]; simp at h2; simp; exact .inl (by omega))⟩, ← List.append_assoc]
                  have ht1 := tellsR_c m u (x : Int) g3 hmok
                  have ht1k := tells_ok hmok huok (x : Int)
                  have ht2 := tellsR_c n w (k : Int) g3 hnok3
                  have ht2k := tells_ok hnok3 hwok (k : Int)
                  have hbD := bestD (v := m.tells u x) hb
                  have hbE := bestE (V := oth s.l h.l p.lan i k j ++ othN u m p.lan ok x) (n := n) (w := w) (k := k) (v := m.tells u x)
                  rw [← hnew] at hbD hbE
                  obtain ⟨tv, htve⟩ : ∃ tv, m.tells u (x : Int) = tv := ⟨_, rfl⟩
                  obtain ⟨tw, htwe⟩ : ∃ tw, n.tells w (k : Int) = tw := ⟨_, rfl⟩
                  rw [htve] at ht1 ht1k hbD hbE
                  rw [htwe] at ht2 ht2k hbD hbE
                  refine ⟨⟨by omega, by omega⟩, au, hau, ?_⟩
                  refine ⟨u.cells, rfl, hatu, ?_⟩
                  refine ⟨⟨by omega, by omega⟩, aw, haw, ?_⟩
                  refine ⟨w.cells, rfl, hatw, ?_⟩
                  refine ht1.call rfl rfl rfl ?_
                  refine ht2.call rfl rfl rfl ?_
                  refine (betterR_c tv tw g3 ht1k ht2k).call rfl rfl rfl ?_
                  refine bsplit_of (fun (hbt : vless tv tw = true) => ?_) (fun (hbt : vless tv tw = false) => ?_)
                  · exact ⟨(x + 1, false), ⟨hxl, hbE hbt⟩, by show m.ports.l.length - (x + 1) < m.ports.l.length - x; omega, [0, 1, 2, 3, 4], rfl, ⟨vi (show IntKind.i64.wrap ((x : Int) + 1) = ((x + 1 : Nat) : Int) from by rw [wrap_id (by omega) (by omega)]; omega), rfl, trivial⟩, rfl, rfl, rfl, rfl⟩
                  · exact ⟨(x + 1, b), ⟨hxl, hbD hbt⟩, by show m.ports.l.length - (x + 1) < m.ports.l.length - x; omega, [0, 1, 2, 3, 4], rfl, ⟨vi (show IntKind.i64.wrap ((x : Int) + 1) = ((x + 1 : Nat) : Int) from by rw [wrap_id (by omega) (by omega)]; omega), rfl, trivial⟩, rfl, rfl, rfl, rfl⟩
                · refine bsplit_of (fun (h3 : ((x : Int) != (k : Int)) = true) => ?_) (fun (h3 : ((x : Int) != (k : Int)) = false) => ?_)
                  · skip
                    have hnew : oth s.l h.l p.lan i k j ++ othN u m p.lan ok (x + 1) = (oth s.l h.l p.lan i k j ++ othN u m p.lan ok x) ++ [m.tells u x] := by
                      rw [othN_yes hq ⟨of_decide_eq_true h1, (by rw [← hokd]; simp at h3; simp; exact .inr (by omega))⟩, ← List.append_assoc]
                    have ht1 := tellsR_c m u (x : Int) g3 hmok
                    have ht1k := tells_ok hmok huok (x : Int)
                    have ht2 := tellsR_c n w (k : Int) g3 hnok3
                    have ht2k := tells_ok hnok3 hwok (k : Int)
                    have hbD := bestD (v := m.tells u x) hb
                    have hbE := bestE (V := oth s.l h.l p.lan i k j ++ othN u m p.lan ok x) (n := n) (w := w) (k := k) (v := m.tells u x)
                    rw [← hnew] at hbD hbE
                    obtain ⟨tv, htve⟩ : ∃ tv, m.tells u (x : Int) = tv := ⟨_, rfl⟩
                    obtain ⟨tw, htwe⟩ : ∃ tw, n.tells w (k : Int) = tw := ⟨_, rfl⟩
                    rw [htve] at ht1 ht1k hbD hbE
                    rw [htwe] at ht2 ht2k hbD hbE
                    refine ⟨⟨by omega, by omega⟩, au, hau, ?_⟩
                    refine ⟨u.cells, rfl, hatu, ?_⟩
                    refine ⟨⟨by omega, by omega⟩, aw, haw, ?_⟩
                    refine ⟨w.cells, rfl, hatw, ?_⟩
                    refine ht1.call rfl rfl rfl ?_
                    refine ht2.call rfl rfl rfl ?_
                    refine (betterR_c tv tw g3 ht1k ht2k).call rfl rfl rfl ?_
                    refine bsplit_of (fun (hbt : vless tv tw = true) => ?_) (fun (hbt : vless tv tw = false) => ?_)
                    · exact ⟨(x + 1, false), ⟨hxl, hbE hbt⟩, by show m.ports.l.length - (x + 1) < m.ports.l.length - x; omega, [0, 1, 2, 3, 4], rfl, ⟨vi (show IntKind.i64.wrap ((x : Int) + 1) = ((x + 1 : Nat) : Int) from by rw [wrap_id (by omega) (by omega)]; omega), rfl, trivial⟩, rfl, rfl, rfl, rfl⟩
                    · exact ⟨(x + 1, b), ⟨hxl, hbD hbt⟩, by show m.ports.l.length - (x + 1) < m.ports.l.length - x; omega, [0, 1, 2, 3, 4], rfl, ⟨vi (show IntKind.i64.wrap ((x : Int) + 1) = ((x + 1 : Nat) : Int) from by rw [wrap_id (by omega) (by omega)]; omega), rfl, trivial⟩, rfl, rfl, rfl, rfl⟩
                  · skip
                    exact ⟨(x + 1, b), ⟨hxl, by show b = bestOf (oth s.l h.l p.lan i k j ++ othN u m p.lan ok (x + 1)) n w k; rw [othN_no hq (by rw [← hokd]; simp at h2 h3; rintro ⟨_, hh⟩; simp at hh; omega)]; exact hb⟩, by show m.ports.l.length - (x + 1) < m.ports.l.length - x; omega, [0, 1, 2, 3, 4], rfl, ⟨vi (show IntKind.i64.wrap ((x : Int) + 1) = ((x + 1 : Nat) : Int) from by rw [wrap_id (by omega) (by omega)]; omega), rfl, trivial⟩, rfl, rfl, rfl, rfl⟩
              · skip
                exact ⟨(x + 1, b), ⟨hxl, by show b = bestOf (oth s.l h.l p.lan i k j ++ othN u m p.lan ok (x + 1)) n w k; rw [othN_no hq (by simp at h1; exact fun hh => h1 hh.1)]; exact hb⟩, by show m.ports.l.length - (x + 1) < m.ports.l.length - x; omega, [0, 1, 2, 3, 4], rfl, ⟨vi (show IntKind.i64.wrap ((x : Int) + 1) = ((x + 1 : Nat) : Int) from by rw [wrap_id (by omega) (by omega)]; omega), rfl, trivial⟩, rfl, rfl, rfl, rfl⟩
            · have hxe : x = m.ports.l.length := by have := of_decide_eq_false hlt; omega
              subst hxe
              exact ⟨(j + 1, b), ⟨hjl, by show b = bestOf (oth s.l h.l p.lan i k (j + 1)) n w k; rw [hnx]; exact hb⟩, by show s.l.length - (j + 1) < s.l.length - j; omega, [0, 1, 2, 3], rfl, ⟨vi (show IntKind.i64.wrap ((j : Int) + 1) = ((j + 1 : Nat) : Int) from by rw [wrap_id (by omega) (by omega)]; omega), rfl, trivial⟩, rfl, rfl, rfl, rfl⟩
          have hje : j = s.l.length := by have := of_decide_eq_false hlt; omega
          subst hje
          have hrc := roleR_c n w (k : Int) b g3 hnok3
          have hre : n.role w k b = roleAt s.l h.l n i k := by
            rw [hb]; exact roleAt_best hw hp
          rw [hre] at hrc
          refine ⟨⟨by omega, by omega⟩, aw, haw, ?_⟩
          refine ⟨w.cells, rfl, hatw, ?_⟩
          refine hrc.call rfl rfl rfl ?_
          have hnx2 : rolesTo s.l h.l n i (k + 1) = ([] : List Int) ++ [roleAt s.l h.l n i k] := by rw [rolesTo_next, ← hzs]
          refine ⟨by show 0 + 1 * 1 ≤ 1; decide, fun u hu => int_one (roleAt s.l h.l n i k) u (List.mem_of_mem_drop (List.mem_of_mem_take hu)), ?_⟩
          refine ⟨by decide, fun cap3 sp3 k1 k2 k3 => ?_⟩
          refine ⟨(k + 1, [roleAt s.l h.l n i k], cap3, sp3, g3), ⟨hkl, hnx2.symm, gr_first rfl k1 k2 k3, hle3⟩, by show n.ports.l.length - (k + 1) < n.ports.l.length - k; omega, [0, 1, 5], rfl, ⟨vi (show IntKind.i64.wrap ((k : Int) + 1) = ((k + 1 : Nat) : Int) from by rw [wrap_id (by omega) (by omega)]; omega), rfl, trivial⟩, rfl, rfl, rfl, rfl⟩
        · have hkl : k = n.ports.l.length := by have := of_decide_eq_false hlt; omega
          refine turn_same ?_
          have hrow : RolesV s.l h.l g3 (([] : List (SliceV Int)) ++ [⟨none, [], 0⟩]) := (hV.mono hle3).snoc (by rw [hyl]; exact hnx) (by rw [hyl, ← hkl]; exact hzs) (sliceV_nil _ _ _ _)
          refine ⟨by show 0 + 1 * 1 ≤ 1; decide, fun u hu => row_one (⟨none, [], 0⟩ : SliceV Int) u (List.mem_of_mem_drop (List.mem_of_mem_take hu)), ?_⟩
          refine ⟨by decide, fun cap4 sp4 q1 q2 q3 => ?_⟩
          exact ⟨(i + 1, [(⟨none, [], 0⟩ : SliceV Int)], cap4, sp4, g3), ⟨hil, by show 1 = i + 1; simp at hyl; omega, hrow, gr_first rfl q1 q2 q3, hle13⟩, by show s.l.length - (i + 1) < s.l.length - i; omega, [4], rfl, ⟨vi (show IntKind.i64.wrap ((i : Int) + 1) = ((i + 1 : Nat) : Int) from by rw [wrap_id (by omega) (by omega)]; omega), rfl, trivial⟩, rfl, rfl, rfl, rfl⟩
      · refine bsplit_of (fun hlt => ?_) (fun hlt => ?_)
        · have hkl : k < n.ports.l.length := by have := of_decide_eq_true hlt; omega
          obtain ⟨ap, p, hap, hp, hatp, hpok⟩ := (hnok.2.mono hle3 fun _ h => h : MemsOk g3 n.ports).elem (fun _ => rfl) hkl
          refine ⟨⟨by omega, by omega⟩, ap, hap, ?_⟩
          refine ⟨p.cells, rfl, hatp, ?_⟩
          have hs3 := hs1.up hle13
          have hv3 : VecsOk g3 h := hv1.mono hle13 fun _ h => h
          have hnok3 : n.ok g3 := ⟨hnok.1, hnok.2.mono hle3 fun _ h => h⟩
          obtain ⟨aw, w', haw, hw', hatw, hwok⟩ := hv3.elem (fun _ => rfl) (show i < h.l.length by omega)
          rw [hw] at hw'; cases hw'
          change LoopW _ _ _ _ _ _ _ _ _ _
          apply loop_rule [] (α := Nat × Bool) (fun x => [(34, .v (.int .i64 x.1)), (10, .v (.bool x.2))]) (fun _ => [.gone, .cells 148 (n.cells.map .v), .vals 3 ((z0 :: zs).flatMap (intC .i64) ++ sp2), .cells 159 (p.cells.map .v)]) (fun _ => g3)
            (fun x => x.1 ≤ s.l.length ∧ x.2 = bestOf (oth s.l h.l p.lan i k x.1) n w k) (fun x => s.l.length - x.1) (0, true)
          · intro x; kernel_rfl
          · exact ⟨Nat.zero_le _, bestOf_nil n w k⟩
          · exact ⟨rfl, rfl, trivial⟩
          · rfl
          · rfl
          rintro ⟨j, b⟩ ⟨hj, hb⟩
          have hj : j ≤ s.l.length := hj
          have hb : b = bestOf (oth s.l h.l p.lan i k j) n w k := hb
          refine bsplit_of (fun hlt => ?_) (fun hlt => ?_)
          · have hjl : j < s.l.length := by have := of_decide_eq_true hlt; omega
            obtain ⟨am, m, ham, hm, hatm, hmok⟩ := hs3.elem (fun _ => rfl) hjl
            obtain ⟨au, u, hau, hu, hatu, huok⟩ := hv3.elem (fun _ => rfl) (show j < h.l.length by omega)
            refine ⟨⟨by omega, by omega⟩, am, ham, ?_⟩
            refine ⟨m.cells, rfl, hatm, ?_⟩
            have hml := hmok.2.len
            have hm8 := N.ports m (List.mem_of_getElem? hm)
            obtain ⟨ok, hokd⟩ : ∃ ok : Nat → Bool, (fun x => !(j == i && x == k)) = ok := ⟨_, rfl⟩
            have hnx := oth_next (lan := p.lan) (i := i) (k := k) hm hu
            rw [hokd] at hnx
            change LoopW _ _ _ _ _ _ _ _ _ _
            apply loop_rule [] (α := Nat × Bool) (fun x => [(42, .v (.int .i64 x.1)), (10, .v (.bool x.2))]) (fun _ => [.gone, .cells 148 (n.cells.map .v), .vals 3 ((z0 :: zs).flatMap (intC .i64) ++ sp2), .cells 159 (p.cells.map .v), .cells 148 (m.cells.map .v)]) (fun _ => g3)
              (fun x => x.1 ≤ m.ports.l.length ∧ x.2 = bestOf (oth s.l h.l p.lan i k j ++ othN u m p.lan ok x.1) n w k) (fun x => m.ports.l.length - x.1) (0, b)
            · intro x; kernel_rfl
            · exact ⟨Nat.zero_le _, by show b = bestOf (oth s.l h.l p.lan i k j ++ []) n w k; rw [List.append_nil]; exact hb⟩
            · exact ⟨rfl, rfl, trivial⟩
            · rfl
            · rfl
            rintro ⟨x, b⟩ ⟨hx, hb⟩
            have hx : x ≤ m.ports.l.length := hx
            have hb : b = bestOf (oth s.l h.l p.lan i k j ++ othN u m p.lan ok x) n w k := hb
            refine bsplit_of (fun hlt => ?_) (fun hlt => ?_)
            · have hxl : x < m.ports.l.length := by have := of_decide_eq_true hlt; omega
              obtain ⟨aq, q, haq, hq, hatq, hqok⟩ := hmok.2.elem (fun _ => rfl) hxl
              refine ⟨⟨by omega, by omega⟩, aq, haq, ?_⟩
              refine ⟨q.cells, rfl, hatq, ?_⟩
              refine bsplit_of (fun (h1 : (q.lan == p.lan) = true) => ?_) (fun (h1 : (q.lan == p.lan) = false) => ?_)
              · have h1 : decide (q.lan = p.lan) = true := by simpa using h1
                refine bsplit_of (fun (h2 : ((j : Int) != (i : Int)) = true) => ?_) (fun (h2 : ((j : Int) != (i : Int)) = false) => ?_)
                · skip
                  have hnew : oth s.l h.l p.lan i k j ++ othN u m p.lan ok (x + 1) = (oth s.l h.l p.lan i k j ++ othN u m p.lan ok x) ++ [m.tells u x] := by
                    rw [othN_yes hq ⟨of_decide_eq_true h1, (by rw [← hokd]; simp at h2; simp; exact .inl (by omega))⟩, ← List.append_assoc]
                  have ht1 := tellsR_c m u (x : Int) g3 hmok
                  have ht1k := tells_ok hmok huok (x : Int)
                  have ht2 := tellsR_c n w (k : Int) g3 hnok3
                  have ht2k := tells_ok hnok3 hwok (k : Int)
                  have hbD := bestD (v := m.tells u x) hb
                  have hbE := bestE (V := oth s.l h.l p.lan i k j ++ othN u m p.lan ok x) (n := n) (w := w) (k := k) (v := m.tells u x)
                  rw [← hnew] at hbD hbE
                  obtain ⟨tv, htve⟩ : ∃ tv, m.tells u (x : Int) = tv := ⟨_, rfl⟩
                  obtain ⟨tw, htwe⟩ : ∃ tw, n.tells w (k : Int) = tw := ⟨_, rfl⟩
                  rw [htve] at ht1 ht1k hbD hbE
                  rw [htwe] at ht2 ht2k hbD hbE
                  refine ⟨⟨by omega, by omega⟩, au, hau, ?_⟩
                  refine ⟨u.cells, rfl, hatu, ?_⟩
                  refine ⟨⟨by omega, by omega⟩, aw, haw, ?_⟩
                  refine ⟨w.cells, rfl, hatw, ?_⟩
                  refine ht1.call rfl rfl rfl ?_
                  refine ht2.call rfl rfl rfl ?_
                  refine (betterR_c tv tw g3 ht1k ht2k).call rfl rfl rfl ?_
                  refine bsplit_of (fun (hbt : vless tv tw = true) => ?_) (fun (hbt : vless tv tw = false) => ?_)
                  · exact ⟨(x + 1, false), ⟨hxl, hbE hbt⟩, by show m.ports.l.length - (x + 1) < m.ports.l.length - x; omega, [0, 1, 2, 3, 4], rfl, ⟨vi (show IntKind.i64.wrap ((x : Int) + 1) = ((x + 1 : Nat) : Int) from by rw [wrap_id (by omega) (by omega)]; omega), rfl, trivial⟩, rfl, rfl, rfl, rfl⟩
                  · exact ⟨(x + 1, b), ⟨hxl, hbD hbt⟩, by show m.ports.l.length - (x + 1) < m.ports.l.length - x; omega, [0, 1, 2, 3, 4], rfl, ⟨vi (show IntKind.i64.wrap ((x : Int) + 1) = ((x + 1 : Nat) : Int) from by rw [wrap_id (by omega) (by omega)]; omega), rfl, trivial⟩, rfl, rfl, rfl, rfl⟩
                · refine bsplit_of (fun (h3 : ((x : Int) != (k : Int)) = true) => ?_) (fun (h3 : ((x : Int) != (k : Int)) = false) => ?_)
                  · skip
                    have hnew : oth s.l h.l p.lan i k j ++ othN u m p.lan ok (x + 1) = (oth s.l h.l p.lan i k j ++ othN u m p.lan ok x) ++ [m.tells u x] := by
                      rw [othN_yes hq ⟨of_decide_eq_true h1, (by rw [← hokd]; simp at h3; simp; exact .inr (by omega))⟩, ← List.append_assoc]
                    have ht1 := tellsR_c m u (x : Int) g3 hmok
                    have ht1k := tells_ok hmok huok (x : Int)
                    have ht2 := tellsR_c n w (k : Int) g3 hnok3
                    have ht2k := tells_ok hnok3 hwok (k : Int)
                    have hbD := bestD (v := m.tells u x) hb
                    have hbE := bestE (V := oth s.l h.l p.lan i k j ++ othN u m p.lan ok x) (n := n) (w := w) (k := k) (v := m.tells u x)
                    rw [← hnew] at hbD hbE
                    obtain ⟨tv, htve⟩ : ∃ tv, m.tells u (x : Int) = tv := ⟨_, rfl⟩
                    obtain ⟨tw, htwe⟩ : ∃ tw, n.tells w (k : Int) = tw := ⟨_, rfl⟩
                    rw [htve] at ht1 ht1k hbD hbE
                    rw [htwe] at ht2 ht2k hbD hbE
                    refine ⟨⟨by omega, by omega⟩, au, hau, ?_⟩
                    refine ⟨u.cells, rfl, hatu, ?_⟩
                    refine ⟨⟨by omega, by omega⟩, aw, haw, ?_⟩
                    refine ⟨w.cells, rfl, hatw, ?_⟩
                    refine ht1.call rfl rfl rfl ?_
                    refine ht2.call rfl rfl rfl ?_
                    refine (betterR_c tv tw g3 ht1k ht2k).call rfl rfl rfl ?_
                    refine bsplit_of (fun (hbt : vless tv tw = true) => ?_) (fun (hbt : vless tv tw = false) => ?_)
                    · exact ⟨(x + 1, false), ⟨hxl, hbE hbt⟩, by show m.ports.l.length - (x + 1) < m.ports.l.length - x; omega, [0, 1, 2, 3, 4], rfl, ⟨vi (show IntKind.i64.wrap ((x : Int) + 1) = ((x + 1 : Nat) : Int) from by rw [wrap_id (by omega) (by omega)]; omega), rfl, trivial⟩, rfl, rfl, rfl, rfl⟩
                    · exact ⟨(x + 1, b), ⟨hxl, hbD hbt⟩, by show m.ports.l.length - (x + 1) < m.ports.l.length - x; omega, [0, 1, 2, 3, 4], rfl, ⟨vi (show IntKind.i64.wrap ((x : Int) + 1) = ((x + 1 : Nat) : Int) from by rw [wrap_id (by omega) (by omega)]; omega), rfl, trivial⟩, rfl, rfl, rfl, rfl⟩
                  · skip
                    exact ⟨(x + 1, b), ⟨hxl, by show b = bestOf (oth s.l h.l p.lan i k j ++ othN u m p.lan ok (x + 1)) n w k; rw [othN_no hq (by rw [← hokd]; simp at h2 h3; rintro ⟨_, hh⟩; simp at hh; omega)]; exact hb⟩, by show m.ports.l.length - (x + 1) < m.ports.l.length - x; omega, [0, 1, 2, 3, 4], rfl, ⟨vi (show IntKind.i64.wrap ((x : Int) + 1) = ((x + 1 : Nat) : Int) from by rw [wrap_id (by omega) (by omega)]; omega), rfl, trivial⟩, rfl, rfl, rfl, rfl⟩
              · skip
                exact ⟨(x + 1, b), ⟨hxl, by show b = bestOf (oth s.l h.l p.lan i k j ++ othN u m p.lan ok (x + 1)) n w k; rw [othN_no hq (by simp at h1; exact fun hh => h1 hh.1)]; exact hb⟩, by show m.ports.l.length - (x + 1) < m.ports.l.length - x; omega, [0, 1, 2, 3, 4], rfl, ⟨vi (show IntKind.i64.wrap ((x : Int) + 1) = ((x + 1 : Nat) : Int) from by rw [wrap_id (by omega) (by omega)]; omega), rfl, trivial⟩, rfl, rfl, rfl, rfl⟩
            · have hxe : x = m.ports.l.length := by have := of_decide_eq_false hlt; omega
              subst hxe
              exact ⟨(j + 1, b), ⟨hjl, by show b = bestOf (oth s.l h.l p.lan i k (j + 1)) n w k; rw [hnx]; exact hb⟩, by show s.l.length - (j + 1) < s.l.length - j; omega, [0, 1, 2, 3], rfl, ⟨vi (show IntKind.i64.wrap ((j : Int) + 1) = ((j + 1 : Nat) : Int) from by rw [wrap_id (by omega) (by omega)]; omega), rfl, trivial⟩, rfl, rfl, rfl, rfl⟩
          have hje : j = s.l.length := by have := of_decide_eq_false hlt; omega
          subst hje
          have hrc := roleR_c n w (k : Int) b g3 hnok3
          have hre : n.role w k b = roleAt s.l h.l n i k := by
            rw [hb]; exact roleAt_best hw hp
          rw [hre] at hrc
          refine ⟨⟨by omega, by omega⟩, aw, haw, ?_⟩
          refine ⟨w.cells, rfl, hatw, ?_⟩
          refine hrc.call rfl rfl rfl ?_
          have hnx2 : rolesTo s.l h.l n i (k + 1) = (z0 :: zs) ++ [roleAt s.l h.l n i k] := by rw [rolesTo_next, ← hzs]
          have g1' := gr_bounds hgr2
          refine ⟨by show 0 + 1 * 1 ≤ 1; decide, fun u hu => int_one (roleAt s.l h.l n i k) u (List.mem_of_mem_drop (List.mem_of_mem_take hu)), ?_⟩
          refine ⟨(z0 :: zs).flatMap (intC .i64), sp2, rfl, g1'.1, ⟨g1'.2.1, g1'.2.2.1, g1'.2.2.2⟩, by simp at hzl; omega, fun cap3 sp3 k1 k2 k3 => ?_⟩
          have hl2 : ((z0 :: zs) ++ [roleAt s.l h.l n i k]).length = zs.length + 1 + 1 := by simp
          have hgr3 : grOk 1 ((z0 :: zs) ++ [roleAt s.l h.l n i k]).length cap3 (((z0 :: zs) ++ [roleAt s.l h.l n i k]).flatMap (intC .i64)) sp3 := by
            rw [hl2, List.flatMap_append]
            exact gr_next hgr2 rfl k1 k2 k3
          refine ⟨(k + 1, z0 :: (zs ++ [roleAt s.l h.l n i k]), cap3, sp3, g3), ⟨hkl, hnx2.symm, hgr3, hle3⟩, by show n.ports.l.length - (k + 1) < n.ports.l.length - k; omega, [0, 1, 5], rfl, ⟨vi (show IntKind.i64.wrap ((k : Int) + 1) = ((k + 1 : Nat) : Int) from by rw [wrap_id (by omega) (by omega)]; omega), (show SV.slc 5 0 (zs.length + 1 + 1) cap3 = SV.slc 5 0 ((zs ++ [roleAt s.l h.l n i k]).length + 1) cap3 from by rw [List.length_append]; rfl), trivial⟩, threeVV (show (z0 :: zs).flatMap (intC .i64) ++ (intC .i64 (roleAt s.l h.l n i k) ++ sp3) = (z0 :: (zs ++ [roleAt s.l h.l n i k])).flatMap (intC .i64) ++ sp3 from by simp), rfl, rfl, rfl⟩
        · have hkl : k = n.ports.l.length := by have := of_decide_eq_false hlt; omega
          refine turn_freezeB 2 3 ((z0 :: zs).flatMap (intC .i64) ++ sp2) (.inl rfl) (fun b0 g6 hb0 hle6 hgb => ?_)
          have hle36 : G.le g2 g6 := fun b o q => hle6 b o (hle3 b o q)
          have hle16 : G.le g1 g6 := fun b o q => hle6 b o (hle13 b o q)
          have hrow : RolesV s.l h.l g6 (([] : List (SliceV Int)) ++ [⟨some ⟨b0, 0, none⟩, z0 :: zs, cap2⟩]) := (hV.mono hle36).snoc (by rw [hyl]; exact hnx) (by rw [hyl, ← hkl]; exact hzs) (sliceV_frz hgr2 hgb (by rw [hzs]; exact rolesTo_ok _ _ _ _ _))
          refine ⟨by show 0 + 1 * 1 ≤ 1; decide, fun u hu => row_one (⟨some ⟨b0, 0, none⟩, z0 :: zs, cap2⟩ : SliceV Int) u (List.mem_of_mem_drop (List.mem_of_mem_take hu)), ?_⟩
          refine ⟨by decide, fun cap4 sp4 q1 q2 q3 => ?_⟩
          exact ⟨(i + 1, [(⟨some ⟨b0, 0, none⟩, z0 :: zs, cap2⟩ : SliceV Int)], cap4, sp4, g6), ⟨hil, by show 1 = i + 1; simp at hyl; omega, hrow, gr_first rfl q1 q2 q3, hle16⟩, by show s.l.length - (i + 1) < s.l.length - i; omega, [4], rfl, ⟨vi (show IntKind.i64.wrap ((i : Int) + 1) = ((i + 1 : Nat) : Int) from by rw [wrap_id (by omega) (by omega)]; omega), rfl, trivial⟩, rfl, rfl, rfl, rfl⟩
    · have hil : i = s.l.length := by have := of_decide_eq_false hlt; omega
      refine turn_same ?_
      exact ⟨h.l, ⟨none, [], 0⟩, hR, hyl.trans hil, hV, rfl, rfl, sliceV_nil _ _ _ _, fun b o q => hle2 b o (hle1 b o q)⟩
  · refine bsplit_of (fun hlt => ?_) (fun hlt => ?_)
    · skip
      have hil : i < s.l.length := by have := of_decide_eq_true hlt; omega
      obtain ⟨ad, n, ha, hnx, hat, hnok⟩ := (hs1.up hle2).elem (fun _ => rfl) hil
      refine ⟨⟨by omega, by omega⟩, ad, ha, ?_⟩
      refine ⟨n.cells, rfl, hat, ?_⟩
      obtain ⟨w, hw⟩ : ∃ w, h.l[i]? = some w := lt_some (by omega)
      change LoopW _ _ _ _ _ _ _ _ _ _
      refine loop_gone ?_
      apply loop_rule [2] (α := Nat × List Int × Nat × List Value × G) (fun x => [(27, .v (.int .i64 x.1)), (7, grS 2 x.2.1.length x.2.2.1)]) (fun x => [.vals 137 ((y0 :: ys).flatMap SliceV.cells ++ sp), .cells 148 (n.cells.map .v), grC 3 x.2.1.length (x.2.1.flatMap (intC .i64)) x.2.2.2.1]) (fun x => x.2.2.2.2)
        (fun x => x.1 ≤ n.ports.l.length ∧ x.2.1 = rolesTo s.l h.l n i x.1 ∧ grOk 1 x.2.1.length x.2.2.1 (x.2.1.flatMap (intC .i64)) x.2.2.2.1 ∧ G.le g2 x.2.2.2.2) (fun x => n.ports.l.length - x.1) (0, [], 0, [], g2)
      · rintro ⟨k, zs, cap2, sp2, g3⟩
        cases zs <;> kernel_rfl
      · exact ⟨Nat.zero_le _, rfl, grOk.zero 1, fun _ _ h => h⟩
      · exact ⟨rfl, rfl, trivial⟩
      · rfl
      · rfl
      rintro ⟨k, zs, cap2, sp2, g3⟩ ⟨hk, hzs, hgr2, hle3⟩
      have hk : k ≤ n.ports.l.length := hk
      have hzs : zs = rolesTo s.l h.l n i k := hzs
      have hgr2 : grOk 1 zs.length cap2 (zs.flatMap (intC .i64)) sp2 := hgr2
      have hle3 : G.le g2 g3 := hle3
      have hle13 : G.le g1 g3 := fun b o q => hle3 b o (hle2 b o q)
      have hzl : zs.length = k := by rw [hzs, rolesTo_len]
      have hp8 := N.ports n (List.mem_of_getElem? hnx)
      rcases zs with _ | ⟨z0, zs⟩
      · refine bsplit_of (fun hlt => ?_) (fun hlt => ?_)
        · have hkl : k < n.ports.l.length := by have := of_decide_eq_true hlt; omega
          obtain ⟨ap, p, hap, hp, hatp, hpok⟩ := (hnok.2.mono hle3 fun _ h => h : MemsOk g3 n.ports).elem (fun _ => rfl) hkl
          refine ⟨⟨by omega, by omega⟩, ap, hap, ?_⟩
          refine ⟨p.cells, rfl, hatp, ?_⟩
          have hs3 := hs1.up hle13
          have hv3 : VecsOk g3 h := hv1.mono hle13 fun _ h => h
          have hnok3 : n.ok g3 := ⟨hnok.1, hnok.2.mono hle3 fun _ h => h⟩
          obtain ⟨aw, w', haw, hw', hatw, hwok⟩ := hv3.elem (fun _ => rfl) (show i < h.l.length by omega)
          rw [hw] at hw'; cases hw'
          change LoopW _ _ _ _ _ _ _ _ _ _
          apply loop_rule [] (α := Nat × Bool) (fun x => [(34, .v (.int .i64 x.1)), (10, .v (.bool x.2))]) (fun _ => [.vals 137 ((y0 :: ys).flatMap SliceV.cells ++ sp), .cells 148 (n.cells.map .v), .gone, .cells 159 (p.cells.map .v)]) (fun _ => g3)
            (fun x => x.1 ≤ s.l.length ∧ x.2 = bestOf (oth s.l h.l p.lan i k x.1) n w k) (fun x => s.l.length - x.1) (0, true)
          · intro x; kernel_rfl
          · exact ⟨Nat.zero_le _, bestOf_nil n w k⟩
          · exact ⟨rfl, rfl, trivial⟩
          · rfl
          · rfl
          rintro ⟨j, b⟩ ⟨hj, hb⟩
          have hj : j ≤ s.l.length := hj
          have hb : b = bestOf (oth s.l h.l p.lan i k j) n w k := hb
          refine bsplit_of (fun hlt => ?_) (fun hlt => ?_)
          · have hjl : j < s.l.length := by have := of_decide_eq_true hlt; omega
            obtain ⟨am, m, ham, hm, hatm, hmok⟩ := hs3.elem (fun _ => rfl) hjl
            obtain ⟨au, u, hau, hu, hatu, huok⟩ := hv3.elem (fun _ => rfl) (show j < h.l.length by omega)
            refine ⟨⟨by omega, by omega⟩, am, ham, ?_⟩
            refine ⟨m.cells, rfl, hatm, ?_⟩
            have hml := hmok.2.len
            have hm8 := N.ports m (List.mem_of_getElem? hm)
            obtain ⟨ok, hokd⟩ : ∃ ok : Nat → Bool, (fun x => !(j == i && x == k)) = ok := ⟨_, rfl⟩
            have hnx := oth_next (lan := p.lan) (i := i) (k := k) hm hu
            rw [hokd] at hnx
            change LoopW _ _ _ _ _ _ _ _ _ _
            apply loop_rule [] (α := Nat × Bool) (fun x => [(42, .v (.int .i64 x.1)), (10, .v (.bool x.2))]) (fun _ => [.vals 137 ((y0 :: ys).flatMap SliceV.cells ++ sp), .cells 148 (n.cells.map .v), .gone, .cells 159 (p.cells.map .v), .cells 148 (m.cells.map .v)]) (fun _ => g3)
              (fun x => x.1 ≤ m.ports.l.length ∧ x.2 = bestOf (oth s.l h.l p.lan i k j ++ othN u m p.lan ok x.1) n w k) (fun x => m.ports.l.length - x.1) (0, b)
            · intro x; kernel_rfl
            · exact ⟨Nat.zero_le _, by show b = bestOf (oth s.l h.l p.lan i k j ++ []) n w k; rw [List.append_nil]; exact hb⟩
            · exact ⟨rfl, rfl, trivial⟩
            · rfl
            · rfl
            rintro ⟨x, b⟩ ⟨hx, hb⟩
            have hx : x ≤ m.ports.l.length := hx
            have hb : b = bestOf (oth s.l h.l p.lan i k j ++ othN u m p.lan ok x) n w k := hb
            refine bsplit_of (fun hlt => ?_) (fun hlt => ?_)
            · have hxl : x < m.ports.l.length := by have := of_decide_eq_true hlt; omega
              obtain ⟨aq, q, haq, hq, hatq, hqok⟩ := hmok.2.elem (fun _ => rfl) hxl
              refine ⟨⟨by omega, by omega⟩, aq, haq, ?_⟩
              refine ⟨q.cells, rfl, hatq, ?_⟩
              refine bsplit_of (fun (h1 : (q.lan == p.lan) = true) => ?_) (fun (h1 : (q.lan == p.lan) = false) => ?_)
              · have h1 : decide (q.lan = p.lan) = true := by simpa using h1
                refine bsplit_of (fun (h2 : ((j : Int) != (i : Int)) = true) => ?_) (fun (h2 : ((j : Int) != (i : Int)) = false) => ?_)
                · skip
                  have hnew : oth s.l h.l p.lan i k j ++ othN u m p.lan ok (x + 1) = (oth s.l h.l p.lan i k j ++ othN u m p.lan ok x) ++ [m.tells u x] := by
                    rw [othN_yes hq ⟨of_decide_eq_true h1, (by rw [← hokd]; simp at h2; simp; exact .inl (by omega))⟩, ← List.append_assoc]
                  have ht1 := tellsR_c m u (x : Int) g3 hmok
                  have ht1k := tells_ok hmok huok (x : Int)
                  have ht2 := tellsR_c n w (k : Int) g3 hnok3
                  have ht2k := tells_ok hnok3 hwok (k : Int)
                  have hbD := bestD (v := m.tells u x) hb
                  have hbE := bestE (V := oth s.l h.l p.lan i k j ++ othN u m p.lan ok x) (n := n) (w := w) (k := k) (v := m.tells u x)
                  rw [← hnew] at hbD hbE
                  obtain ⟨tv, htve⟩ : ∃ tv, m.tells u (x : Int) = tv := ⟨_, rfl⟩
                  obtain ⟨tw, htwe⟩ : ∃ tw, n.tells w (k : Int) = tw := ⟨_, rfl⟩
                  rw [htve] at ht1 ht1k hbD hbE
                  rw [htwe] at ht2 ht2k hbD hbE
                  refine ⟨⟨by omega, by omega⟩, au, hau, ?_⟩
                  refine ⟨u.cells, rfl, hatu, ?_⟩
                  refine ⟨⟨by omega, by omega⟩, aw, haw, ?_⟩
                  refine ⟨w.cells, rfl, hatw, ?_⟩
                  refine ht1.call rfl rfl rfl ?_
                  refine ht2.call rfl rfl rfl ?_
                  refine (betterR_c tv tw g3 ht1k ht2k).call rfl rfl rfl ?_
                  refine bsplit_of (fun (hbt : vless tv tw = true) => ?_) (fun (hbt : vless tv tw = false) => ?_)
                  · exact ⟨(x + 1, false), ⟨hxl, hbE hbt⟩, by show m.ports.l.length - (x + 1) < m.ports.l.length - x; omega, [0, 1, 2, 3, 4], rfl, ⟨vi (show IntKind.i64.wrap ((x : Int) + 1) = ((x + 1 : Nat) : Int) from by rw [wrap_id (by omega) (by omega)]; omega), rfl, trivial⟩, rfl, rfl, rfl, rfl⟩
                  · exact ⟨(x + 1, b), ⟨hxl, hbD hbt⟩, by show m.ports.l.length - (x + 1) < m.ports.l.length - x; omega, [0, 1, 2, 3, 4], rfl, ⟨vi (show IntKind.i64.wrap ((x : Int) + 1) = ((x + 1 : Nat) : Int) from by rw [wrap_id (by omega) (by omega)]; omega), rfl, trivial⟩, rfl, rfl, rfl, rfl⟩
                · refine bsplit_of (fun (h3 : ((x : Int) != (k : Int)) = true) => ?_) (fun (h3 : ((x : Int) != (k : Int)) = false) => ?_)
                  · skip
                    have hnew : oth s.l h.l p.lan i k j ++ othN u m p.lan ok (x + 1) = (oth s.l h.l p.lan i k j ++ othN u m p.lan ok x) ++ [m.tells u x] := by
                      rw [othN_yes hq ⟨of_decide_eq_true h1, (by rw [← hokd]; simp at h3; simp; exact .inr (by omega))⟩, ← List.append_assoc]
                    have ht1 := tellsR_c m u (x : Int) g3 hmok
                    have ht1k := tells_ok hmok huok (x : Int)
                    have ht2 := tellsR_c n w (k : Int) g3 hnok3
                    have ht2k := tells_ok hnok3 hwok (k : Int)
                    have hbD := bestD (v := m.tells u x) hb
                    have hbE := bestE (V := oth s.l h.l p.lan i k j ++ othN u m p.lan ok x) (n := n) (w := w) (k := k) (v := m.tells u x)
                    rw [← hnew] at hbD hbE
                    obtain ⟨tv, htve⟩ : ∃ tv, m.tells u (x : Int) = tv := ⟨_, rfl⟩
                    obtain ⟨tw, htwe⟩ : ∃ tw, n.tells w (k : Int) = tw := ⟨_, rfl⟩
                    rw [htve] at ht1 ht1k hbD hbE
                    rw [htwe] at ht2 ht2k hbD hbE
                    refine ⟨⟨by omega, by omega⟩, au, hau, ?_⟩
                    refine ⟨u.cells, rfl, hatu, ?_⟩
                    refine ⟨⟨by omega, by omega⟩, aw, haw, ?_⟩
                    refine ⟨w.cells, rfl, hatw, ?_⟩
                    refine ht1.call rfl rfl rfl ?_
                    refine ht2.call rfl rfl rfl ?_
                    refine (betterR_c tv tw g3 ht1k ht2k).call rfl rfl rfl ?_
                    refine bsplit_of (fun (hbt : vless tv tw = true) => ?_) (fun (hbt : vless tv tw = false) => ?_)
                    · exact ⟨(x + 1, false), ⟨hxl, hbE hbt⟩, by show m.ports.l.length - (x + 1) < m.ports.l.length - x; omega, [0, 1, 2, 3, 4], rfl, ⟨vi (show IntKind.i64.wrap ((x : Int) + 1) = ((x + 1 : Nat) : Int) from by rw [wrap_id (by omega) (by omega)]; omega), rfl, trivial⟩, rfl, rfl, rfl, rfl⟩
                    · exact ⟨(x + 1, b), ⟨hxl, hbD hbt⟩, by show m.ports.l.length - (x + 1) < m.ports.l.length - x; omega, [0, 1, 2, 3, 4], rfl, ⟨vi (show IntKind.i64.wrap ((x : Int) + 1) = ((x + 1 : Nat) : Int) from by rw [wrap_id (by omega) (by omega)]; omega), rfl, trivial⟩, rfl, rfl, rfl, rfl⟩
                  · skip
                    exact ⟨(x + 1, b), ⟨hxl, by show b = bestOf (oth s.l h.l p.lan i k j ++ othN u m p.lan ok (x + 1)) n w k; rw [othN_no hq (by rw [← hokd]; simp at h2 h3; rintro ⟨_, hh⟩; simp at hh; omega)]; exact hb⟩, by show m.ports.l.length - (x + 1) < m.ports.l.length - x; omega, [0, 1, 2, 3, 4], rfl, ⟨vi (show IntKind.i64.wrap ((x : Int) + 1) = ((x + 1 : Nat) : Int) from by rw [wrap_id (by omega) (by omega)]; omega), rfl, trivial⟩, rfl, rfl, rfl, rfl⟩
              · skip
                exact ⟨(x + 1, b), ⟨hxl, by show b = bestOf (oth s.l h.l p.lan i k j ++ othN u m p.lan ok (x + 1)) n w k; rw [othN_no hq (by simp at h1; exact fun hh => h1 hh.1)]; exact hb⟩, by show m.ports.l.length - (x + 1) < m.ports.l.length - x; omega, [0, 1, 2, 3, 4], rfl, ⟨vi (show IntKind.i64.wrap ((x : Int) + 1) = ((x + 1 : Nat) : Int) from by rw [wrap_id (by omega) (by omega)]; omega), rfl, trivial⟩, rfl, rfl, rfl, rfl⟩
            · have hxe : x = m.ports.l.length := by have := of_decide_eq_false hlt; omega
              subst hxe
              exact ⟨(j + 1, b), ⟨hjl, by show b = bestOf (oth s.l h.l p.lan i k (j + 1)) n w k; rw [hnx]; exact hb⟩, by show s.l.length - (j + 1) < s.l.length - j; omega, [0, 1, 2, 3], rfl, ⟨vi (show IntKind.i64.wrap ((j : Int) + 1) = ((j + 1 : Nat) : Int) from by rw [wrap_id (by omega) (by omega)]; omega), rfl, trivial⟩, rfl, rfl, rfl, rfl⟩
          have hje : j = s.l.length := by have := of_decide_eq_false hlt; omega
          subst hje
          have hrc := roleR_c n w (k : Int) b g3 hnok3
          have hre : n.role w k b = roleAt s.l h.l n i k := by
            rw [hb]; exact roleAt_best hw hp
          rw [hre] at hrc
          refine ⟨⟨by omega, by omega⟩, aw, haw, ?_⟩
          refine ⟨w.cells, rfl, hatw, ?_⟩
          refine hrc.call rfl rfl rfl ?_
          have hnx2 : rolesTo s.l h.l n i (k + 1) = ([] : List Int) ++ [roleAt s.l h.l n i k] := by rw [rolesTo_next, ← hzs]
          refine ⟨by show 0 + 1 * 1 ≤ 1; decide, fun u hu => int_one (roleAt s.l h.l n i k) u (List.mem_of_mem_drop (List.mem_of_mem_take hu)), ?_⟩
          refine ⟨by decide, fun cap3 sp3 k1 k2 k3 => ?_⟩
          refine ⟨(k + 1, [roleAt s.l h.l n i k], cap3, sp3, g3), ⟨hkl, hnx2.symm, gr_first rfl k1 k2 k3, hle3⟩, by show n.ports.l.length - (k + 1) < n.ports.l.length - k; omega, [0, 1, 5], rfl, ⟨vi (show IntKind.i64.wrap ((k : Int) + 1) = ((k + 1 : Nat) : Int) from by rw [wrap_id (by omega) (by omega)]; omega), rfl, trivial⟩, rfl, rfl, rfl, rfl⟩
        · have hkl : k = n.ports.l.length := by have := of_decide_eq_false hlt; omega
          refine turn_same ?_
          have hrow : RolesV s.l h.l g3 ((y0 :: ys) ++ [⟨none, [], 0⟩]) := (hV.mono hle3).snoc (by rw [hyl]; exact hnx) (by rw [hyl, ← hkl]; exact hzs) (sliceV_nil _ _ _ _)
          have g1' := gr_bounds hgr
          refine ⟨by show 0 + 1 * 1 ≤ 1; decide, fun u hu => row_one (⟨none, [], 0⟩ : SliceV Int) u (List.mem_of_mem_drop (List.mem_of_mem_take hu)), ?_⟩
          refine ⟨(y0 :: ys).flatMap SliceV.cells, sp, rfl, g1'.1, ⟨g1'.2.1, g1'.2.2.1, g1'.2.2.2⟩, by simp at hyl; omega, fun cap4 sp4 q1 q2 q3 => ?_⟩
          have hl2 : ((y0 :: ys) ++ [(⟨none, [], 0⟩ : SliceV Int)]).length = ys.length + 1 + 1 := by simp
          have hgr4 : grOk 1 ((y0 :: ys) ++ [(⟨none, [], 0⟩ : SliceV Int)]).length cap4 (((y0 :: ys) ++ [(⟨none, [], 0⟩ : SliceV Int)]).flatMap SliceV.cells) sp4 := by
            rw [hl2, List.flatMap_append]
            exact gr_next hgr rfl q1 q2 q3
          exact ⟨(i + 1, y0 :: (ys ++ [(⟨none, [], 0⟩ : SliceV Int)]), cap4, sp4, g3), ⟨hil, by show ((y0 :: ys) ++ [(⟨none, [], 0⟩ : SliceV Int)]).length = i + 1; rw [hl2]; simp at hyl; omega, hrow, hgr4, hle13⟩, by show s.l.length - (i + 1) < s.l.length - i; omega, [4], rfl, ⟨vi (show IntKind.i64.wrap ((i : Int) + 1) = ((i + 1 : Nat) : Int) from by rw [wrap_id (by omega) (by omega)]; omega), (show SV.slc 4 0 (ys.length + 1 + 1) cap4 = SV.slc 4 0 ((ys ++ [(⟨none, [], 0⟩ : SliceV Int)]).length + 1) cap4 from by rw [List.length_append]; rfl), trivial⟩, onesV (show (y0 :: ys).flatMap SliceV.cells ++ (SliceV.cells (⟨none, [], 0⟩ : SliceV Int) ++ sp4) = (y0 :: (ys ++ [(⟨none, [], 0⟩ : SliceV Int)])).flatMap SliceV.cells ++ sp4 from by simp), rfl, rfl, rfl⟩
      · refine bsplit_of (fun hlt => ?_) (fun hlt => ?_)
        · have hkl : k < n.ports.l.length := by have := of_decide_eq_true hlt; omega
          obtain ⟨ap, p, hap, hp, hatp, hpok⟩ := (hnok.2.mono hle3 fun _ h => h : MemsOk g3 n.ports).elem (fun _ => rfl) hkl
          refine ⟨⟨by omega, by omega⟩, ap, hap, ?_⟩
          refine ⟨p.cells, rfl, hatp, ?_⟩
          have hs3 := hs1.up hle13
          have hv3 : VecsOk g3 h := hv1.mono hle13 fun _ h => h
          have hnok3 : n.ok g3 := ⟨hnok.1, hnok.2.mono hle3 fun _ h => h⟩
          obtain ⟨aw, w', haw, hw', hatw, hwok⟩ := hv3.elem (fun _ => rfl) (show i < h.l.length by omega)
          rw [hw] at hw'; cases hw'
          change LoopW _ _ _ _ _ _ _ _ _ _
          apply loop_rule [] (α := Nat × Bool) (fun x => [(34, .v (.int .i64 x.1)), (10, .v (.bool x.2))]) (fun _ => [.vals 137 ((y0 :: ys).flatMap SliceV.cells ++ sp), .cells 148 (n.cells.map .v), .vals 3 ((z0 :: zs).flatMap (intC .i64) ++ sp2), .cells 159 (p.cells.map .v)]) (fun _ => g3)
            (fun x => x.1 ≤ s.l.length ∧ x.2 = bestOf (oth s.l h.l p.lan i k x.1) n w k) (fun x => s.l.length - x.1) (0, true)
          · intro x; kernel_rfl
          · exact ⟨Nat.zero_le _, bestOf_nil n w k⟩
          · exact ⟨rfl, rfl, trivial⟩
          · rfl
          · rfl
          rintro ⟨j, b⟩ ⟨hj, hb⟩
          have hj : j ≤ s.l.length := hj
          have hb : b = bestOf (oth s.l h.l p.lan i k j) n w k := hb
          refine bsplit_of (fun hlt => ?_) (fun hlt => ?_)
          · have hjl : j < s.l.length := by have := of_decide_eq_true hlt; omega
            obtain ⟨am, m, ham, hm, hatm, hmok⟩ := hs3.elem (fun _ => rfl) hjl
            obtain ⟨au, u, hau, hu, hatu, huok⟩ := hv3.elem (fun _ => rfl) (show j < h.l.length by omega)
            refine ⟨⟨by omega, by omega⟩, am, ham, ?_⟩
            refine ⟨m.cells, rfl, hatm, ?_⟩
            have hml := hmok.2.len
            have hm8 := N.ports m (List.mem_of_getElem? hm)
            obtain ⟨ok, hokd⟩ : ∃ ok : Nat → Bool, (fun x => !(j == i && x == k)) = ok := ⟨_, rfl⟩
            have hnx := oth_next (lan := p.lan) (i := i) (k := k) hm hu
            rw [hokd] at hnx
            change LoopW _ _ _ _ _ _ _ _ _ _
            apply loop_rule [] (α := Nat × Bool) (fun x => [(42, .v (.int .i64 x.1)), (10, .v (.bool x.2))]) (fun _ => [.vals 137 ((y0 :: ys).flatMap SliceV.cells ++ sp), .cells 148 (n.cells.map .v), .vals 3 ((z0 :: zs).flatMap (intC .i64) ++ sp2), .cells 159 (p.cells.map .v), .cells 148 (m.cells.map .v)]) (fun _ => g3)
              (fun x => x.1 ≤ m.ports.l.length ∧ x.2 = bestOf (oth s.l h.l p.lan i k j ++ othN u m p.lan ok x.1) n w k) (fun x => m.ports.l.length - x.1) (0, b)
            · intro x; kernel_rfl
            · exact ⟨Nat.zero_le _, by show b = bestOf (oth s.l h.l p.lan i k j ++ []) n w k; rw [List.append_nil]; exact hb⟩
            · exact ⟨rfl, rfl, trivial⟩
            · rfl
            · rfl
            rintro ⟨x, b⟩ ⟨hx, hb⟩
            have hx : x ≤ m.ports.l.length := hx
            have hb : b = bestOf (oth s.l h.l p.lan i k j ++ othN u m p.lan ok x) n w k := hb
            refine bsplit_of (fun hlt => ?_) (fun hlt => ?_)
            · have hxl : x < m.ports.l.length := by have := of_decide_eq_true hlt; omega
              obtain ⟨aq, q, haq, hq, hatq, hqok⟩ := hmok.2.elem (fun _ => rfl) hxl
              refine ⟨⟨by omega, by omega⟩, aq, haq, ?_⟩
              refine ⟨q.cells, rfl, hatq, ?_⟩
              refine bsplit_of (fun (h1 : (q.lan == p.lan) = true) => ?_) (fun (h1 : (q.lan == p.lan) = false) => ?_)
              · have h1 : decide (q.lan = p.lan) = true := by simpa using h1
                refine bsplit_of (fun (h2 : ((j : Int) != (i : Int)) = true) => ?_) (fun (h2 : ((j : Int) != (i : Int)) = false) => ?_)
                · skip
                  have hnew : oth s.l h.l p.lan i k j ++ othN u m p.lan ok (x + 1) = (oth s.l h.l p.lan i k j ++ othN u m p.lan ok x) ++ [m.tells u x] := by
                    rw [othN_yes hq ⟨of_decide_eq_true h1, (by rw [← hokd]; simp at h2; simp; exact .inl (by omega))⟩, ← List.append_assoc]
                  have ht1 := tellsR_c m u (x : Int) g3 hmok
                  have ht1k := tells_ok hmok huok (x : Int)
                  have ht2 := tellsR_c n w (k : Int) g3 hnok3
                  have ht2k := tells_ok hnok3 hwok (k : Int)
                  have hbD := bestD (v := m.tells u x) hb
                  have hbE := bestE (V := oth s.l h.l p.lan i k j ++ othN u m p.lan ok x) (n := n) (w := w) (k := k) (v := m.tells u x)
                  rw [← hnew] at hbD hbE
                  obtain ⟨tv, htve⟩ : ∃ tv, m.tells u (x : Int) = tv := ⟨_, rfl⟩
                  obtain ⟨tw, htwe⟩ : ∃ tw, n.tells w (k : Int) = tw := ⟨_, rfl⟩
                  rw [htve] at ht1 ht1k hbD hbE
                  rw [htwe] at ht2 ht2k hbD hbE
                  refine ⟨⟨by omega, by omega⟩, au, hau, ?_⟩
                  refine ⟨u.cells, rfl, hatu, ?_⟩
                  refine ⟨⟨by omega, by omega⟩, aw, haw, ?_⟩
                  refine ⟨w.cells, rfl, hatw, ?_⟩
                  refine ht1.call rfl rfl rfl ?_
                  refine ht2.call rfl rfl rfl ?_
                  refine (betterR_c tv tw g3 ht1k ht2k).call rfl rfl rfl ?_
                  refine bsplit_of (fun (hbt : vless tv tw = true) => ?_) (fun (hbt : vless tv tw = false) => ?_)
                  · exact ⟨(x + 1, false), ⟨hxl, hbE hbt⟩, by show m.ports.l.length - (x + 1) < m.ports.l.length - x; omega, [0, 1, 2, 3, 4], rfl, ⟨vi (show IntKind.i64.wrap ((x : Int) + 1) = ((x + 1 : Nat) : Int) from by rw [wrap_id (by omega) (by omega)]; omega), rfl, trivial⟩, rfl, rfl, rfl, rfl⟩
                  · exact ⟨(x + 1, b), ⟨hxl, hbD hbt⟩, by show m.ports.l.length - (x + 1) < m.ports.l.length - x; omega, [0, 1, 2, 3, 4], rfl, ⟨vi (show IntKind.i64.wrap ((x : Int) + 1) = ((x + 1 : Nat) : Int) from by rw [wrap_id (by omega) (by omega)]; omega), rfl, trivial⟩, rfl, rfl, rfl, rfl⟩
                · refine bsplit_of (fun (h3 : ((x : Int) != (k : Int)) = true) => ?_) (fun (h3 : ((x : Int) != (k : Int)) = false) => ?_)
                  · skip
                    have hnew : oth s.l h.l p.lan i k j ++ othN u m p.lan ok (x + 1) = (oth s.l h.l p.lan i k j ++ othN u m p.lan ok x) ++ [m.tells u x] := by
                      rw [othN_yes hq ⟨of_decide_eq_true h1, (by rw [← hokd]; simp at h3; simp; exact .inr (by omega))⟩, ← List.append_assoc]
                    have ht1 := tellsR_c m u (x : Int) g3 hmok
                    have ht1k := tells_ok hmok huok (x : Int)
                    have ht2 := tellsR_c n w (k : Int) g3 hnok3
                    have ht2k := tells_ok hnok3 hwok (k : Int)
                    have hbD := bestD (v := m.tells u x) hb
                    have hbE := bestE (V := oth s.l h.l p.lan i k j ++ othN u m p.lan ok x) (n := n) (w := w) (k := k) (v := m.tells u x)
                    rw [← hnew] at hbD hbE
                    obtain ⟨tv, htve⟩ : ∃ tv, m.tells u (x : Int) = tv := ⟨_, rfl⟩
                    obtain ⟨tw, htwe⟩ : ∃ tw, n.tells w (k : Int) = tw := ⟨_, rfl⟩
                    rw [htve] at ht1 ht1k hbD hbE
                    rw [htwe] at ht2 ht2k hbD hbE
                    refine ⟨⟨by omega, by omega⟩, au, hau, ?_⟩
                    refine ⟨u.cells, rfl, hatu, ?_⟩
                    refine ⟨⟨by omega, by omega⟩, aw, haw, ?_⟩
                    refine ⟨w.cells, rfl, hatw, ?_⟩
                    refine ht1.call rfl rfl rfl ?_
                    refine ht2.call rfl rfl rfl ?_
                    refine (betterR_c tv tw g3 ht1k ht2k).call rfl rfl rfl ?_
                    refine bsplit_of (fun (hbt : vless tv tw = true) => ?_) (fun (hbt : vless tv tw = false) => ?_)
                    · exact ⟨(x + 1, false), ⟨hxl, hbE hbt⟩, by show m.ports.l.length - (x + 1) < m.ports.l.length - x; omega, [0, 1, 2, 3, 4], rfl, ⟨vi (show IntKind.i64.wrap ((x : Int) + 1) = ((x + 1 : Nat) : Int) from by rw [wrap_id (by omega) (by omega)]; omega), rfl, trivial⟩, rfl, rfl, rfl, rfl⟩
                    · exact ⟨(x + 1, b), ⟨hxl, hbD hbt⟩, by show m.ports.l.length - (x + 1) < m.ports.l.length - x; omega, [0, 1, 2, 3, 4], rfl, ⟨vi (show IntKind.i64.wrap ((x : Int) + 1) = ((x + 1 : Nat) : Int) from by rw [wrap_id (by omega) (by omega)]; omega), rfl, trivial⟩, rfl, rfl, rfl, rfl⟩
                  · skip
                    exact ⟨(x + 1, b), ⟨hxl, by show b = bestOf (oth s.l h.l p.lan i k j ++ othN u m p.lan ok (x + 1)) n w k; rw [othN_no hq (by rw [← hokd]; simp at h2 h3; rintro ⟨_, hh⟩; simp at hh; omega)]; exact hb⟩, by show m.ports.l.length - (x + 1) < m.ports.l.length - x; omega, [0, 1, 2, 3, 4], rfl, ⟨vi (show IntKind.i64.wrap ((x : Int) + 1) = ((x + 1 : Nat) : Int) from by rw [wrap_id (by omega) (by omega)]; omega), rfl, trivial⟩, rfl, rfl, rfl, rfl⟩
              · skip
                exact ⟨(x + 1, b), ⟨hxl, by show b = bestOf (oth s.l h.l p.lan i k j ++ othN u m p.lan ok (x + 1)) n w k; rw [othN_no hq (by simp at h1; exact fun hh => h1 hh.1)]; exact hb⟩, by show m.ports.l.length - (x + 1) < m.ports.l.length - x; omega, [0, 1, 2, 3, 4], rfl, ⟨vi (show IntKind.i64.wrap ((x : Int) + 1) = ((x + 1 : Nat) : Int) from by rw [wrap_id (by omega) (by omega)]; omega), rfl, trivial⟩, rfl, rfl, rfl, rfl⟩
            · have hxe : x = m.ports.l.length := by have := of_decide_eq_false hlt; omega
              subst hxe
              exact ⟨(j + 1, b), ⟨hjl, by show b = bestOf (oth s.l h.l p.lan i k (j + 1)) n w k; rw [hnx]; exact hb⟩, by show s.l.length - (j + 1) < s.l.length - j; omega, [0, 1, 2, 3], rfl, ⟨vi (show IntKind.i64.wrap ((j : Int) + 1) = ((j + 1 : Nat) : Int) from by rw [wrap_id (by omega) (by omega)]; omega), rfl, trivial⟩, rfl, rfl, rfl, rfl⟩
          have hje : j = s.l.length := by have := of_decide_eq_false hlt; omega
          subst hje
          have hrc := roleR_c n w (k : Int) b g3 hnok3
          have hre : n.role w k b = roleAt s.l h.l n i k := by
            rw [hb]; exact roleAt_best hw hp
          rw [hre] at hrc
          refine ⟨⟨by omega, by omega⟩, aw, haw, ?_⟩
          refine ⟨w.cells, rfl, hatw, ?_⟩
          refine hrc.call rfl rfl rfl ?_
          have hnx2 : rolesTo s.l h.l n i (k + 1) = (z0 :: zs) ++ [roleAt s.l h.l n i k] := by rw [rolesTo_next, ← hzs]
          have g1' := gr_bounds hgr2
          refine ⟨by show 0 + 1 * 1 ≤ 1; decide, fun u hu => int_one (roleAt s.l h.l n i k) u (List.mem_of_mem_drop (List.mem_of_mem_take hu)), ?_⟩
          refine ⟨(z0 :: zs).flatMap (intC .i64), sp2, rfl, g1'.1, ⟨g1'.2.1, g1'.2.2.1, g1'.2.2.2⟩, by simp at hzl; omega, fun cap3 sp3 k1 k2 k3 => ?_⟩
          have hl2 : ((z0 :: zs) ++ [roleAt s.l h.l n i k]).length = zs.length + 1 + 1 := by simp
          have hgr3 : grOk 1 ((z0 :: zs) ++ [roleAt s.l h.l n i k]).length cap3 (((z0 :: zs) ++ [roleAt s.l h.l n i k]).flatMap (intC .i64)) sp3 := by
            rw [hl2, List.flatMap_append]
            exact gr_next hgr2 rfl k1 k2 k3
          refine ⟨(k + 1, z0 :: (zs ++ [roleAt s.l h.l n i k]), cap3, sp3, g3), ⟨hkl, hnx2.symm, hgr3, hle3⟩, by show n.ports.l.length - (k + 1) < n.ports.l.length - k; omega, [0, 1, 5], rfl, ⟨vi (show IntKind.i64.wrap ((k : Int) + 1) = ((k + 1 : Nat) : Int) from by rw [wrap_id (by omega) (by omega)]; omega), (show SV.slc 5 0 (zs.length + 1 + 1) cap3 = SV.slc 5 0 ((zs ++ [roleAt s.l h.l n i k]).length + 1) cap3 from by rw [List.length_append]; rfl), trivial⟩, threeVV (show (z0 :: zs).flatMap (intC .i64) ++ (intC .i64 (roleAt s.l h.l n i k) ++ sp3) = (z0 :: (zs ++ [roleAt s.l h.l n i k])).flatMap (intC .i64) ++ sp3 from by simp), rfl, rfl, rfl⟩
        · have hkl : k = n.ports.l.length := by have := of_decide_eq_false hlt; omega
          refine turn_freezeB 2 3 ((z0 :: zs).flatMap (intC .i64) ++ sp2) (.inl rfl) (fun b0 g6 hb0 hle6 hgb => ?_)
          have hle36 : G.le g2 g6 := fun b o q => hle6 b o (hle3 b o q)
          have hle16 : G.le g1 g6 := fun b o q => hle6 b o (hle13 b o q)
          have hrow : RolesV s.l h.l g6 ((y0 :: ys) ++ [⟨some ⟨b0, 0, none⟩, z0 :: zs, cap2⟩]) := (hV.mono hle36).snoc (by rw [hyl]; exact hnx) (by rw [hyl, ← hkl]; exact hzs) (sliceV_frz hgr2 hgb (by rw [hzs]; exact rolesTo_ok _ _ _ _ _))
          have g1' := gr_bounds hgr
          refine ⟨by show 0 + 1 * 1 ≤ 1; decide, fun u hu => row_one (⟨some ⟨b0, 0, none⟩, z0 :: zs, cap2⟩ : SliceV Int) u (List.mem_of_mem_drop (List.mem_of_mem_take hu)), ?_⟩
          refine ⟨(y0 :: ys).flatMap SliceV.cells, sp, rfl, g1'.1, ⟨g1'.2.1, g1'.2.2.1, g1'.2.2.2⟩, by simp at hyl; omega, fun cap4 sp4 q1 q2 q3 => ?_⟩
          have hl2 : ((y0 :: ys) ++ [(⟨some ⟨b0, 0, none⟩, z0 :: zs, cap2⟩ : SliceV Int)]).length = ys.length + 1 + 1 := by simp
          have hgr4 : grOk 1 ((y0 :: ys) ++ [(⟨some ⟨b0, 0, none⟩, z0 :: zs, cap2⟩ : SliceV Int)]).length cap4 (((y0 :: ys) ++ [(⟨some ⟨b0, 0, none⟩, z0 :: zs, cap2⟩ : SliceV Int)]).flatMap SliceV.cells) sp4 := by
            rw [hl2, List.flatMap_append]
            exact gr_next hgr rfl q1 q2 q3
          exact ⟨(i + 1, y0 :: (ys ++ [(⟨some ⟨b0, 0, none⟩, z0 :: zs, cap2⟩ : SliceV Int)]), cap4, sp4, g6), ⟨hil, by show ((y0 :: ys) ++ [(⟨some ⟨b0, 0, none⟩, z0 :: zs, cap2⟩ : SliceV Int)]).length = i + 1; rw [hl2]; simp at hyl; omega, hrow, hgr4, hle16⟩, by show s.l.length - (i + 1) < s.l.length - i; omega, [4], rfl, ⟨vi (show IntKind.i64.wrap ((i : Int) + 1) = ((i + 1 : Nat) : Int) from by rw [wrap_id (by omega) (by omega)]; omega), (show SV.slc 4 0 (ys.length + 1 + 1) cap4 = SV.slc 4 0 ((ys ++ [(⟨some ⟨b0, 0, none⟩, z0 :: zs, cap2⟩ : SliceV Int)]).length + 1) cap4 from by rw [List.length_append]; rfl), trivial⟩, onesV (show (y0 :: ys).flatMap SliceV.cells ++ (SliceV.cells (⟨some ⟨b0, 0, none⟩, z0 :: zs, cap2⟩ : SliceV Int) ++ sp4) = (y0 :: (ys ++ [(⟨some ⟨b0, 0, none⟩, z0 :: zs, cap2⟩ : SliceV Int)])).flatMap SliceV.cells ++ sp4 from by simp), rfl, rfl, rfl⟩
    · have hil : i = s.l.length := by have := of_decide_eq_false hlt; omega
      refine turn_freezeB 0 137 ((y0 :: ys).flatMap SliceV.cells ++ sp) (.inl rfl) (fun b0 g6 hb0 hle6 hgb => ?_)
      exact ⟨h.l, ⟨some ⟨b0, 0, none⟩, y0 :: ys, cap⟩, hR, hyl.trans hil, hV.mono hle6, rfl, rfl, sliceV_frz hgr hgb (fun _ _ => trivial), fun b o q => hle6 b o (hle2 b o (hle1 b o q))⟩
end Go.Proofs.YtedfohdgigbhiaaDoor
