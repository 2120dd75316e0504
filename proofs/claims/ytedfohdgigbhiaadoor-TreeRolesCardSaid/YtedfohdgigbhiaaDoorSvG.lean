/- The law TreeSolves. Conditions: the slices lie where they say; the variable errors.errorType is as laid. -/
import Derived.Test.YtedfohdgigbhiaaDoorSvF
namespace Go.Proofs.YtedfohdgigbhiaaDoor
open Go.Sx Go.Lib
set_option maxRecDepth 100000
set_option maxHeartbeats 8000000
attribute [local irreducible] Meets
attribute [local instance] Classical.propDecidable

theorem solveR_c (s : SliceV NodeV) (g : G) (hs : NodesOk g s) (N : NetOk s.l) : Meets Tryd.prog 15 [.v (.slice s.a s.l.length s.c)] [] g (fun o L' g' => ∃ t : SliceV VectorV, (t.l.length = s.l.length ∧ ∃ rt, NetW s.l.length (brL s.l) (psL s.l) (fw (eM s.l) s.l.length) rt ∧ FinR s.l rt g t.l) ∧ o = .ret (.v (.slice t.a t.l.length t.c)) ∧ L' = [] ∧ VecsOk g' t ∧ G.le g g') := by
  refine (Meets.freezeSl 21 VectorV.cells 43 (fun x => x) (VectorV.ok g) (fun ys => ys.length = s.l.length ∧ ∃ rt, NetW s.l.length (brL s.l) (psL s.l) (fw (eM s.l) s.l.length) rt ∧ FinR s.l rt g ys) (fun _ _ _ => False) (fun b n cap => by simp [SV.frz]) (fun l h x hx => by obtain ⟨_, rt, _, hf⟩ := h; exact hf.2 x hx) (solveR_b s g hs N)).mono ?_
  rintro o L' g' (⟨t, h1, h3, h4, h5, h6⟩ | h)
  · exact ⟨t, h1, h3, h4, h5, h6⟩
  · exact h.elim
theorem solve_bad (s : SliceV NodeV) (g : G) (hs : NodesOk g s) (hE : netE s.l ≠ (0, -1)) : Meets Tryd.prog 11 [.v (.slice s.a s.l.length s.c)] [] g (fun o L' g' => G.le g g' ∧ ∃ t x, ErrP g' (.iface t x) (netE s.l).1 (netE s.l).2 ∧ (netE s.l).1 ≠ 0 ∧ o = .ret (.tup [.v (.slice none 0 0), .v (.iface t x)]) ∧ L' = []) := by
  refine meets_ofJ mixedS Tryd.func11 (by kernel_rfl) x11_ok (some []) ?_
  refine (check_c2 s g hs).call0 rfl rfl 0 rfl ?_
  rintro o L1 g1 ⟨hle1, v, hv, hn, rfl, rfl⟩
  obtain ⟨h0, t, x, rfl⟩ : (netE s.l).1 ≠ 0 ∧ ∃ t x, v = .iface t x := by
    rcases hn with ⟨h, _⟩ | h
    · exact absurd h hE
    · exact h
  exact ⟨hle1, t, x, hv, h0, rfl, rfl⟩
theorem isF_c (e pl : Int) (g : G) : Tells Tryd.prog 14 [.agg [.v (.int .i64 e), .v (.int .i64 pl)]] g (.v (.bool (e == 0))) := by
  refine meets_of mixedS Tryd.func14 (by kernel_rfl) x14_ok (some []) ?_
  exact ⟨rfl, rfl, rfl⟩

/-! ### The rounds are those of the plain law -/
theorem candP_mem {l : List NodeV} {h : List VectorV} {n : NodeV} {i : Nat} {x : VectorV} : ∀ {k : Nat}, x ∈ candP l h n i k ↔ ∃ k' p v, k' < k ∧ n.ports.l[k']? = some p ∧ v ∈ oth l h p.lan i k' l.length ∧ x = n.hears v k'
  | 0 => by simp [candP]
  | k + 1 => by
    rw [candP, List.mem_append, candP_mem]
    constructor
    · rintro (⟨k', p, v, h1, h2⟩ | h')
      · exact ⟨k', p, v, by omega, h2⟩
      · split at h'
        · rename_i p hp
          obtain ⟨v, hv, rfl⟩ := List.mem_map.1 h'
          exact ⟨k, p, v, by omega, hp, hv, rfl⟩
        · simp at h'
    · rintro ⟨k', p, v, h1, h2, h3, h4⟩
      by_cases hk : k' = k
      · subst hk
        right
        rw [h2]
        exact List.mem_map.2 ⟨v, h3, h4.symm⟩
      · exact .inl ⟨k', p, v, by omega, h2, h3, h4⟩
theorem leg_at {n : NodeV} {k : Nat} {p : MemberV} (h : n.ports.l[k]? = some p) : n.leg (k : Int) = some p := by
  rw [NodeV.leg, if_pos (by omega), Int.toNat_natCast]; exact h
theorem cand_at {n m : NodeV} {w : VectorV} {k y : Nat} {p q : MemberV} (hp : n.ports.l[k]? = some p) (hq : m.ports.l[y]? = some q) : n.hears (m.tells w y) k = cand w m.bridge q p := by
  rw [NodeV.hears, leg_at hp, NodeV.tells, leg_at hq]; rfl
def atV (h : List VectorV) (i : Nat) : VectorV := h[i]?.getD VectorV.zero
theorem atV_at {h : List VectorV} {i : Nat} {v : VectorV} (hv : h[i]? = some v) : atV h i = v := by rw [atV, hv]; rfl
theorem rnd_rounds {l : List NodeV} : ∀ (t : Nat) (h : List VectorV), h.length = l.length → Rnd l t h → Rounds l.length (brL l) (psL l) t (atV h)
  | 0, h, _, hr => fun i hi => by
    obtain ⟨n, hn⟩ := lt_some hi
    have hr : h = l.map ownV := hr
    rw [brL_at hn, atV_at (v := ownV n) (by rw [hr, List.getElem?_map, hn]; rfl)]
    rfl
  | t + 1, h', hl', hr => by
    obtain ⟨h, hr, hl, hT⟩ := hr
    refine ⟨atV h, rnd_rounds t h hl hr, ⟨fun i hi => ?_⟩⟩
    obtain ⟨n, hn⟩ := lt_some hi
    obtain ⟨w, b, hw, hb, hL⟩ := hT.done i n hi hn
    refine ⟨candP l h n i n.ports.l.length, by rw [atV_at hw, atV_at hb]; exact hL, fun x hx => ?_, fun j p q hj hne hp hq hl2 => ?_⟩
    · obtain ⟨k, p, v, hk, hp, hv, rfl⟩ := candP_mem.1 hx
      obtain ⟨j, m, u, y, q, hj, hm, hu, hq, hlan, hne, rfl⟩ := oth_mem.1 hv
      exact ⟨j, p, q, hj, by rw [psL_at hn]; exact List.mem_of_getElem? hp, by rw [psL_at hm]; exact List.mem_of_getElem? hq, hlan, by rw [cand_at hp hq, atV_at hu, brL_at hm]⟩
    · obtain ⟨m, hm⟩ := lt_some hj
      obtain ⟨u, hu⟩ : ∃ u, h[j]? = some u := lt_some (by omega)
      rw [psL_at hn] at hp
      rw [psL_at hm] at hq
      obtain ⟨k, hk, rfl⟩ := List.getElem_of_mem hp
      obtain ⟨y, hy, rfl⟩ := List.getElem_of_mem hq
      have hp' := List.getElem?_eq_getElem hk
      have hq' := List.getElem?_eq_getElem hy
      exact candP_mem.2 ⟨k, _, m.tells u y, hk, hp', oth_mem.2 ⟨j, m, u, y, _, hj, hm, hu, hq', hl2, .inl hne, rfl⟩, by rw [cand_at hp' hq', atV_at hu, brL_at hm]⟩
theorem solve_same {l : List NodeV} {a b : List VectorV} {rt : Nat → Nat} {g : G} (ha : a.length = l.length) (hR : Rnd l l.length a) (hb : b.length = l.length) (W : NetW l.length (brL l) (psL l) (fw (eM l) l.length) rt) (hF : FinR l rt g b) : a = b := by
  have hrs := rnd_rounds l.length a ha hR
  apply List.ext_getElem?
  intro i
  by_cases hi : i < l.length
  · obtain ⟨x, hx⟩ : ∃ x, a[i]? = some x := lt_some (by omega)
    obtain ⟨y, hy⟩ : ∃ y, b[i]? = some y := lt_some (by omega)
    have h1 := W.fin hrs hi
    rw [atV_at hx] at h1
    rw [hx, hy, h1.one (hF.1 i y hy)]
  · rw [List.getElem?_eq_none (by omega), List.getElem?_eq_none (by omega)]

theorem treeSolves_c (s : SliceV NodeV) (g : G) (hs : NodesOk g s) (hE : ErrVar g) : Meets Tryd.prog 3 [.v (.slice s.a s.l.length s.c)] [] g (fun o _ _ => o = .ret (.v (.bool true))) := by
  refine meets_of mixedS Tryd.func3 (by kernel_rfl) x3_ok none ?_
  refine (wide_c s g hs).call rfl rfl rfl ?_
  refine bsplit_of (fun (h : decide (wideP s.l) = true) => ⟨[], rfl⟩) (fun _ => ?_)
  by_cases hN : netE s.l = (0, -1)
  · have N := netOk_of hN
    refine (solve_c s g hs hN).call0 rfl rfl 0 rfl ?_
    rintro o L1 g1 ⟨t1, hR, hl1, rfl, rfl, hv1, hle1⟩
    have hs1 := hs.up hle1
    have hnc := netCheck_c s g1 hs1
    rw [hN] at hnc
    refine hnc.call rfl rfl rfl ?_
    refine (placed_c .nilIface 0 (-1) 0 (-1) g1 (G.at.mono hle1 hE) .nil).call rfl rfl rfl ?_
    refine (isF_c 0 (-1) g1).call rfl rfl rfl ?_
    refine (solveR_c s g1 hs1 N).call0 rfl rfl 1 rfl ?_
    rintro o L1 g2 ⟨t2, ⟨hl2, rt, W, hF⟩, rfl, rfl, hv2, hle2⟩
    have hsame := solve_same hl1 hR hl2 W hF
    have hfew := N.few
    refine bsplit_of (fun (h : ((t1.l.length : Int) != (t2.l.length : Int)) = true) => by rw [hsame] at h; simp at h) (fun _ => ?_)
    change LoopW _ _ _ _ _ _ _ _ _ _
    apply loop_rule [] (α := Nat) (fun k => [(32, .v (.int .i64 k))]) (fun _ => [.cells 31 [.v (.int .i64 0), .v (.int .i64 (-1))]]) (fun _ => g2) (fun k => k ≤ t1.l.length) (fun k => t1.l.length - k) 0
    · intro x; kernel_rfl
    · exact Nat.zero_le _
    · exact ⟨rfl, trivial⟩
    · rfl
    · rfl
    intro k hk
    refine bsplit_of (fun hlt => ?_) (fun hlt => ⟨[], rfl⟩)
    have hkl : k < t1.l.length := by have := of_decide_eq_true hlt; omega
    obtain ⟨a1, x, ha1, hx, hat1, -⟩ := (hv1.mono (g' := g2) hle2 fun _ h => h : VecsOk g2 t1).elem (fun _ => rfl) hkl
    obtain ⟨a2, y, ha2, hy, hat2, -⟩ := hv2.elem (fun _ => rfl) (show k < t2.l.length by omega)
    have hxy : x = y := by rw [hsame, hy] at hx; exact (Option.some.inj hx).symm
    subst hxy
    refine ⟨⟨by omega, by omega⟩, a1, ha1, ?_⟩
    refine ⟨x.cells, rfl, hat1, ?_⟩
    refine ⟨⟨by omega, by omega⟩, a2, ha2, ?_⟩
    refine ⟨x.cells, rfl, hat2, ?_⟩
    refine bsplit_of (fun (h : (true ^^ x.eq x) = true) => by rw [VectorV.eq_refl] at h; cases h) (fun _ => ?_)
    exact ⟨k + 1, hkl, by show t1.l.length - (k + 1) < t1.l.length - k; omega, [0], rfl, ⟨vi (wrap_id (by omega) (by omega)), trivial⟩, rfl, rfl, rfl, rfl⟩
  · refine (solve_bad s g hs hN).call0 rfl rfl 0 rfl ?_
    rintro o L1 g1 ⟨hle1, t, x, hv, h0, rfl, rfl⟩
    have hs1 := hs.up hle1
    refine (netCheck_c s g1 hs1).call rfl rfl rfl ?_
    refine (placed_c (.iface t x) _ _ (netE s.l).1 (netE s.l).2 g1 (G.at.mono hle1 hE) hv).call rfl rfl rfl ?_
    refine bsplit_of (fun h => absurd h (by simp)) (fun _ => ?_)
    refine (isF_c (netE s.l).1 (netE s.l).2 g1).call rfl rfl rfl ?_
    refine bsplit_of (fun h => absurd h (by simpa using h0)) (fun _ => ?_)
    change LoopW _ _ _ _ _ _ _ _ _ _
    apply loop_rule [] (α := Unit) (fun _ => [(32, .v (.int .i64 0))]) (fun _ => [.cells 31 [.v (.int .i64 (netE s.l).1), .v (.int .i64 (netE s.l).2)]]) (fun _ => g1) (fun _ => True) (fun _ => 0) ()
    · intro x; kernel_rfl
    · trivial
    · exact ⟨rfl, trivial⟩
    · rfl
    · rfl
    intro _ _
    exact ⟨[], rfl⟩
end Go.Proofs.YtedfohdgigbhiaaDoor
