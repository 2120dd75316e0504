/- The law TreeRoles. Conditions: the slices lie where they say; the variable errors.errorType is as laid. -/
import Derived.Test.YtedfohdgigbhiaaDoorRlC
namespace Go.Proofs.YtedfohdgigbhiaaDoor
open Go.Sx Go.Lib
set_option maxRecDepth 100000
set_option maxHeartbeats 8000000
attribute [local irreducible] Meets
attribute [local instance] Classical.propDecidable

theorem roles_bad (s : SliceV NodeV) (g : G) (hs : NodesOk g s) (hE : netE s.l ≠ (0, -1)) : Meets Tryd.prog 16 [.v (.slice s.a s.l.length s.c)] [] g (fun o L' g' => G.le g g' ∧ ∃ t x, ErrP g' (.iface t x) (netE s.l).1 (netE s.l).2 ∧ (netE s.l).1 ≠ 0 ∧ o = .ret (.tup [.v (.slice none 0 0), .v (.iface t x)]) ∧ L' = []) := by
  refine meets_ofJ mixedS Tryd.func16 (by kernel_rfl) x16_ok (some []) ?_
  refine (solve_bad s g hs hE).call0 rfl rfl 0 rfl ?_
  rintro o L1 g1 ⟨hle1, t, x, hv, h0, rfl, rfl⟩
  exact ⟨hle1, t, x, hv, h0, rfl, rfl⟩

theorem sameRoles_c (a b : SliceV (SliceV Int)) (g : G) (ha : RowsOk g a) (hb : RowsOk g b) (hra : ∀ y ∈ a.l, IntsOk g y) (hrb : ∀ y ∈ b.l, IntsOk g y) (hlen : a.l.length = b.l.length) (he : ∀ (i : Nat) (x y : SliceV Int), a.l[i]? = some x → b.l[i]? = some y → x.l = y.l) :
    Meets Tryd.prog 17 [.v (.slice a.a a.l.length a.c), .v (.slice b.a b.l.length b.c)] [] g (fun o L' g' => o = .ret (.v (.bool true)) ∧ L' = [] ∧ g' = g) := by
  refine meets_of mixedS Tryd.func17 (by kernel_rfl) x17_ok (some []) ?_
  have hal := ha.len
  refine bsplit_of (fun (h : ((a.l.length : Int) != (b.l.length : Int)) = true) => by rw [hlen] at h; simp at h) (fun _ => ?_)
  change LoopW _ _ _ _ _ _ _ _ _ _
  apply loop_rule [] (α := Nat) (fun k => [(14, .v (.int .i64 k))]) (fun _ => []) (fun _ => g) (fun k => k ≤ a.l.length) (fun k => a.l.length - k) 0
  · intro x; kernel_rfl
  · exact Nat.zero_le _
  · exact ⟨rfl, trivial⟩
  · rfl
  · rfl
  intro i hi
  refine bsplit_of (fun hlt => ?_) (fun hlt => ⟨rfl, rfl, rfl⟩)
  have hil : i < a.l.length := by have := of_decide_eq_true hlt; omega
  obtain ⟨a1, x, ha1, hx, hat1, -⟩ := ha.elem (fun _ => rfl) hil
  obtain ⟨a2, y, ha2, hy, hat2, -⟩ := hb.elem (fun _ => rfl) (show i < b.l.length by omega)
  have hxy := he i x y hx hy
  have hxk := hra x (List.mem_of_getElem? hx)
  have hyk := hrb y (List.mem_of_getElem? hy)
  have hxl := hxk.len
  have hyl := hyk.len
  refine ⟨⟨by omega, by omega⟩, a1, ha1, ?_⟩
  refine ⟨[.slice x.a x.l.length x.c], rfl, hat1, ?_⟩
  refine ⟨⟨by omega, by omega⟩, a2, ha2, ?_⟩
  refine ⟨[.slice y.a y.l.length y.c], rfl, hat2, ?_⟩
  refine bsplit_of (fun (h : ((x.l.length : Int) != (y.l.length : Int)) = true) => by rw [hxy] at h; simp at h) (fun _ => ?_)
  refine ⟨⟨by omega, by omega⟩, a1, ha1, ?_⟩
  refine ⟨[.slice x.a x.l.length x.c], rfl, hat1, ?_⟩
  change LoopW _ _ _ _ _ _ _ _ _ _
  apply loop_rule [] (α := Nat) (fun k => [(33, .v (.int .i64 k))]) (fun _ => []) (fun _ => g) (fun k => k ≤ x.l.length) (fun k => x.l.length - k) 0
  · intro x; kernel_rfl
  · exact Nat.zero_le _
  · exact ⟨rfl, trivial⟩
  · rfl
  · rfl
  intro k hk
  refine bsplit_of (fun hlt => ?_) (fun hlt => ?_)
  · have hkl : k < x.l.length := by have := of_decide_eq_true hlt; omega
    obtain ⟨b1, z, hb1, hz, hbt1, -⟩ := hxk.elem (fun _ => rfl) hkl
    obtain ⟨b2, z', hb2, hz', hbt2, -⟩ := hyk.elem (fun _ => rfl) (show k < y.l.length by rw [← hxy]; exact hkl)
    have hzz : z' = z := by rw [← hxy, hz] at hz'; exact (Option.some.inj hz').symm
    subst hzz
    refine ⟨⟨by omega, by omega⟩, a1, ha1, ?_⟩
    refine ⟨[.slice x.a x.l.length x.c], rfl, hat1, ?_⟩
    refine ⟨⟨by omega, by omega⟩, b1, hb1, ?_⟩
    refine ⟨[.int .i64 z'], rfl, hbt1, ?_⟩
    refine ⟨⟨by omega, by omega⟩, a2, ha2, ?_⟩
    refine ⟨[.slice y.a y.l.length y.c], rfl, hat2, ?_⟩
    refine ⟨⟨by omega, by rw [← hxy]; omega⟩, b2, hb2, ?_⟩
    refine ⟨[.int .i64 z'], rfl, hbt2, ?_⟩
    refine bsplit_of (fun (h : (z' != z') = true) => by simp at h) (fun _ => ?_)
    exact ⟨k + 1, hkl, by show x.l.length - (k + 1) < x.l.length - k; omega, [], rfl, ⟨vi (wrap_id (by omega) (by omega)), trivial⟩, rfl, rfl, rfl, rfl⟩
  · exact ⟨i + 1, hil, by show a.l.length - (i + 1) < a.l.length - i; omega, [], rfl, ⟨vi (wrap_id (by omega) (by omega)), trivial⟩, rfl, rfl, rfl, rfl⟩

theorem treeRoles_c (s : SliceV NodeV) (g : G) (hs : NodesOk g s) (hE : ErrVar g) : Meets Tryd.prog 4 [.v (.slice s.a s.l.length s.c)] [] g (fun o _ _ => o = .ret (.v (.bool true))) := by
  refine meets_of mixedS Tryd.func4 (by kernel_rfl) x4_ok none ?_
  refine (wide_c s g hs).call rfl rfl rfl ?_
  refine bsplit_of (fun (h : decide (wideP s.l) = true) => ⟨[], rfl⟩) (fun _ => ?_)
  by_cases hN : netE s.l = (0, -1)
  · have N := netOk_of hN
    refine (roles_c s g hs hN).call0 rfl rfl 0 rfl ?_
    rintro o L1 g1 ⟨h1, t1, hR, hl1, ht1, hV1, rfl, rfl, hv1, hle1⟩
    have hs1 := hs.up hle1
    have hnc := netCheck_c s g1 hs1
    rw [hN] at hnc
    refine hnc.call rfl rfl rfl ?_
    refine (placed_c .nilIface 0 (-1) 0 (-1) g1 (G.at.mono hle1 hE) .nil).call rfl rfl rfl ?_
    refine (isF_c 0 (-1) g1).call rfl rfl rfl ?_
    refine (rolesR_c s g1 hs1 N).call0 rfl rfl 1 rfl ?_
    rintro o L1 g2 ⟨h2, t2, ⟨hl2, rt, W, hF⟩, ht2, hV2, rfl, rfl, hv2, hle2⟩
    have hsame := solve_same hl1 hR hl2 W hF
    subst hsame
    refine (sameRoles_c t1 t2 g2 (hv1.mono hle2 fun _ h => h) hv2 (fun y hy => (hV1.ok y hy).mono hle2 fun _ h => h) hV2.ok (by omega) (fun i x y hx hy => ?_)).call0 rfl rfl 1 rfl ?_
    · obtain ⟨n, hn⟩ : ∃ n, s.l[i]? = some n := lt_some (by have := (List.getElem?_eq_some_iff.1 hx).1; omega)
      rw [hV1.row i x n hx hn, hV2.row i y n hy hn]
    rintro o L1 g3 ⟨rfl, rfl, rfl⟩
    exact ⟨[], rfl⟩
  · refine (roles_bad s g hs hN).call0 rfl rfl 0 rfl ?_
    rintro o L1 g1 ⟨hle1, t, x, hv, h0, rfl, rfl⟩
    have hs1 := hs.up hle1
    refine (netCheck_c s g1 hs1).call rfl rfl rfl ?_
    refine (placed_c (.iface t x) _ _ (netE s.l).1 (netE s.l).2 g1 (G.at.mono hle1 hE) hv).call rfl rfl rfl ?_
    refine bsplit_of (fun h => absurd h (by simp)) (fun _ => ?_)
    refine (isF_c (netE s.l).1 (netE s.l).2 g1).call rfl rfl rfl ?_
    exact bsplit_of (fun _ => ⟨[], rfl⟩) (fun h => absurd h (by simpa using h0))
end Go.Proofs.YtedfohdgigbhiaaDoor
