/- tree.Solve: what it returns. Conditions: the slices lie where they say. -/
import Derived.Test.YtedfohdgigbhiaaDoorSvB
namespace Go.Proofs.YtedfohdgigbhiaaDoor
open Go.Sx Go.Lib
set_option maxRecDepth 100000
set_option maxHeartbeats 8000000
attribute [local irreducible] Meets
attribute [local instance] Classical.propDecidable

/-- Some cells read among others. -/
theorem loadA_at {c : List Value} {off n : Nat} {xs : List Value} {K : SV → Prop} (h : (c.drop off).take n = xs) (hl : off + n ≤ c.length) (k : K (.agg (xs.map .v))) : off + n ≤ c.length ∧ val1 true (((c.drop off).take n).map .v) K :=
  ⟨hl, by rw [h]; exact k⟩
theorem flat_at {α : Type} {sz : Nat} {f : α → List Value} (hf : ∀ x, (f x).length = sz) {l : List α} {i : Nat} {x : α} (sp : List Value) (h : l[i]? = some x) : ((l.flatMap f ++ sp).drop (i * sz)).take sz = f x ∧ i * sz + sz ≤ (l.flatMap f ++ sp).length := by
  obtain ⟨hi, rfl⟩ := List.getElem?_eq_some_iff.1 h
  have e : l = l.take i ++ (l[i] :: l.drop (i + 1)) := by rw [List.getElem_cons_drop, List.take_append_drop]
  have h1 : ((l.take i).flatMap f).length = i * sz := by rw [flat_len hf, List.length_take, Nat.min_eq_left (by omega)]
  have e2 : l.flatMap f ++ sp = (l.take i).flatMap f ++ (f l[i] ++ ((l.drop (i + 1)).flatMap f ++ sp)) := by
    calc l.flatMap f ++ sp = (l.take i ++ (l[i] :: l.drop (i + 1))).flatMap f ++ sp := by rw [← e]
      _ = _ := by rw [List.flatMap_append, List.flatMap_cons, List.append_assoc, List.append_assoc]
  rw [e2]
  refine ⟨?_, by simp only [List.length_append, h1, hf]; omega⟩
  rw [List.drop_append, List.drop_of_length_le (by omega), h1, Nat.sub_self, List.drop_zero, List.nil_append, List.take_append, hf, Nat.sub_self, List.take_zero, List.append_nil, List.take_of_length_le (by rw [hf]; omega)]
theorem flat_put {α : Type} {sz : Nat} {f : α → List Value} (hf : ∀ x, (f x).length = sz) {l : List α} {i : Nat} (x : α) (sp : List Value) (h : i < l.length) : (l.flatMap f ++ sp).take (i * sz) ++ (f x ++ (l.flatMap f ++ sp).drop (i * sz + sz)) = (l.set i x).flatMap f ++ sp := by
  have e : l = l.take i ++ (l[i] :: l.drop (i + 1)) := by rw [List.getElem_cons_drop, List.take_append_drop]
  have h1 : ((l.take i).flatMap f).length = i * sz := by rw [flat_len hf, List.length_take, Nat.min_eq_left (by omega)]
  have e2 : l.flatMap f ++ sp = (l.take i).flatMap f ++ (f l[i] ++ ((l.drop (i + 1)).flatMap f ++ sp)) := by
    calc l.flatMap f ++ sp = (l.take i ++ (l[i] :: l.drop (i + 1))).flatMap f ++ sp := by rw [← e]
      _ = _ := by rw [List.flatMap_append, List.flatMap_cons, List.append_assoc, List.append_assoc]
  have e3 : l.set i x = l.take i ++ (x :: l.drop (i + 1)) := by rw [List.set_eq_take_append_cons_drop, if_pos h]
  rw [e2, e3, List.take_append, List.take_of_length_le (by omega), h1, Nat.sub_self, List.take_zero, List.append_nil, List.drop_append, List.drop_of_length_le (by omega), h1, List.nil_append, List.drop_append, hf, List.drop_of_length_le (by rw [hf]; omega), List.nil_append, show i * sz + sz - i * sz - sz = 0 by omega, List.drop_zero]
  simp
theorem off21 (i : Nat) : 0 + ((i : Int)).toNat * 21 = i * 21 := by simp
theorem onesV {ty : TypeId} {X Y : List Value} (h : X = Y) : [Chunk.vals ty X] = [.vals ty Y] := by rw [h]
theorem threeV {c0 c2 : Chunk} {ty : TypeId} {X Y : List Value} (h : X = Y) : [c0, Chunk.vals ty X, c2] = [c0, .vals ty Y, c2] := by rw [h]
theorem twoV {c0 : Chunk} {ty : TypeId} {X Y : List Value} (h : X = Y) : [c0, Chunk.vals ty X] = [c0, .vals ty Y] := by rw [h]

theorem solve_c (s : SliceV NodeV) (g : G) (hs : NodesOk g s) (hE : netE s.l = (0, -1)) : Meets Tryd.prog 11 [.v (.slice s.a s.l.length s.c)] [] g (fun o L' g' => ∃ t : SliceV VectorV, Rnd s.l s.l.length t.l ∧ t.l.length = s.l.length ∧ o = .ret (.tup [.v (.slice t.a t.l.length t.c), .v .nilIface]) ∧ L' = [] ∧ VecsOk g' t ∧ G.le g g') := by
  refine meets_ofJ mixedS Tryd.func11 (by kernel_rfl) x11_ok (some []) ?_
  have N := netOk_of hE
  have hfew := N.few
  refine (check_c2 s g hs).call0 rfl rfl 0 rfl ?_
  rintro o L1 g1 ⟨hle1, v, hv, hn, rfl, rfl⟩
  have hn : v = .nilIface := by
    rcases hn with ⟨_, h⟩ | ⟨h, _⟩
    · exact h
    · rw [hE] at h; exact absurd rfl h
  subst hn
  have hs1 := hs.up hle1
  change LoopW _ _ _ _ _ _ _ _ _ _
  refine loop_gone ?_
  apply loop_rule [0] (α := Nat × Nat × List Value) (fun x => [(22, .v (.int .i64 x.1)), (5, grS 0 x.1 x.2.1)]) (fun x => [grC 43 x.1 (((s.l.take x.1).map ownV).flatMap VectorV.cells) x.2.2]) (fun _ => g1)
    (fun x => x.1 ≤ s.l.length ∧ grOk 21 x.1 x.2.1 (((s.l.take x.1).map ownV).flatMap VectorV.cells) x.2.2) (fun x => s.l.length - x.1) (0, 0, [])
  · rintro ⟨k, cap, sp⟩
    cases k <;> kernel_rfl
  · exact ⟨Nat.zero_le _, grOk.zero 21⟩
  · exact ⟨rfl, rfl, trivial⟩
  · rfl
  · rfl
  rintro ⟨k, cap, sp⟩ ⟨hk, hgr⟩
  have hk : k ≤ s.l.length := hk
  have hgr : grOk 21 k cap (((s.l.take k).map ownV).flatMap VectorV.cells) sp := hgr
  rcases k with _ | k
  · obtain ⟨k, hk0⟩ : ∃ k, k = 0 := ⟨0, rfl⟩
    refine bsplit_of (fun (hlt : decide (((0 : Nat) : Int) < (s.l.length : Int)) = true) => ?_) (fun (hlt : decide (((0 : Nat) : Int) < (s.l.length : Int)) = false) => ?_)
    · have hkl : 0 < s.l.length := by have := of_decide_eq_true hlt; omega
      obtain ⟨ad, n, ha, hnx, hat, hnok⟩ := hs1.elem (fun _ => rfl) hkl
      refine ⟨⟨by omega, by omega⟩, ad, ha, ?_⟩
      refine ⟨n.cells, rfl, hat, ?_⟩
      refine (own_c n g1).call rfl rfl rfl ?_
      have hsn : (s.l.take (0 + 1)).map ownV = [ownV n] := by rw [take_snoc hnx]; rfl
      refine ⟨by show 0 + 1 * 21 ≤ 21; decide, fun u hu => vec_one (ownV n) u (List.mem_of_mem_drop (List.mem_of_mem_take hu)), ?_⟩
      refine ⟨by decide, fun cap2 sp2 k1 k2 k3 => ?_⟩
      refine ⟨(1, cap2, sp2), ⟨hkl, by show grOk 21 1 cap2 (((s.l.take (0 + 1)).map ownV).flatMap VectorV.cells) sp2; rw [hsn, flatV_one]; exact gr_first rfl k1 k2 k3⟩, by show s.l.length - 1 < s.l.length - 0; omega, [3], rfl, ⟨rfl, rfl, trivial⟩, ?_, rfl, rfl, rfl⟩
      exact onesV (show (ownV n).cells ++ sp2 = ((s.l.take (0 + 1)).map ownV).flatMap VectorV.cells ++ sp2 from by rw [hsn, flatV_one])
    · have hn0 : s.l.length = 0 := by have := of_decide_eq_false hlt; omega
      have hl0 : s.l = [] := List.eq_nil_of_length_eq_zero hn0
      refine turn_same ?_
      change LoopW _ _ _ _ _ _ _ _ _ _
      apply loop_rule [] (α := Unit) (fun _ => [(34, .v (.int .i64 0)), (5, .v (.slice none 0 0))]) (fun _ => [.gone]) (fun _ => g1) (fun _ => True) (fun _ => 0) ()
      · intro x; kernel_rfl
      · trivial
      · exact ⟨rfl, rfl, trivial⟩
      · rfl
      · rfl
      intro _ _
      refine bsplit_of (fun (h : decide ((0 : Int) < (s.l.length : Int)) = true) => absurd (of_decide_eq_true h) (by omega)) (fun _ => ?_)
      exact ⟨⟨none, [], 0⟩, by rw [hn0, hl0]; rfl, hn0.symm, rfl, rfl, sliceV_nil _ _ _ _, hle1⟩
  · refine bsplit_of (fun (hlt : decide (((k + 1 : Nat) : Int) < (s.l.length : Int)) = true) => ?_) (fun (hlt : decide (((k + 1 : Nat) : Int) < (s.l.length : Int)) = false) => ?_)
    · have hkl : k + 1 < s.l.length := by have := of_decide_eq_true hlt; omega
      obtain ⟨ad, n, ha, hnx, hat, hnok⟩ := hs1.elem (fun _ => rfl) hkl
      refine ⟨⟨by omega, by omega⟩, ad, ha, ?_⟩
      refine ⟨n.cells, rfl, hat, ?_⟩
      refine (own_c n g1).call rfl rfl rfl ?_
      have hsn : (s.l.take (k + 1 + 1)).map ownV = (s.l.take (k + 1)).map ownV ++ [ownV n] := by rw [take_snoc hnx, List.map_append]; rfl
      have g1' := gr_bounds hgr
      refine ⟨by show 0 + 1 * 21 ≤ 21; decide, fun u hu => vec_one (ownV n) u (List.mem_of_mem_drop (List.mem_of_mem_take hu)), ?_⟩
      refine ⟨((s.l.take (k + 1)).map ownV).flatMap VectorV.cells, sp, rfl, g1'.1, ⟨g1'.2.1, g1'.2.2.1, g1'.2.2.2⟩, by omega, fun cap2 sp2 k1 k2 k3 => ?_⟩
      refine ⟨(k + 1 + 1, cap2, sp2), ⟨hkl, by show grOk 21 (k + 1 + 1) cap2 (((s.l.take (k + 1 + 1)).map ownV).flatMap VectorV.cells) sp2; rw [hsn, List.flatMap_append, flatV_one]; exact gr_next hgr rfl k1 k2 k3⟩, by show s.l.length - (k + 1 + 1) < s.l.length - (k + 1); omega, [3], rfl, ⟨vi (show IntKind.i64.wrap (((k + 1 : Nat) : Int) + 1) = ((k + 1 + 1 : Nat) : Int) from by rw [wrap_id (by omega) (by omega)]; omega), rfl, trivial⟩, ?_, rfl, rfl, rfl⟩
      exact onesV (show ((s.l.take (k + 1)).map ownV).flatMap VectorV.cells ++ ((ownV n).cells ++ sp2) = ((s.l.take (k + 1 + 1)).map ownV).flatMap VectorV.cells ++ sp2 from by rw [hsn, flatV_app])
    · have hkn : k + 1 = s.l.length := by have := of_decide_eq_false hlt; omega
      refine turn_freezeB 0 43 (((s.l.take (k + 1)).map ownV).flatMap VectorV.cells ++ sp) (.inl rfl) (fun b0 g2 hb0 hle2 hgb => ?_)
      have htk : s.l.take (k + 1) = s.l := List.take_of_length_le (by omega)
      rw [htk] at hgr hgb
      have hl0 : (s.l.map ownV).length = k + 1 := by rw [List.length_map]; exact hkn.symm
      have hok0 : ∀ x ∈ s.l.map ownV, x.ok g := fun x hx => by
        obtain ⟨m, hm, rfl⟩ := List.mem_map.1 hx
        exact own_ok (hs.2.2.2.2 m hm)
      have hv0 : VecsOk g2 ⟨some ⟨b0, 0, none⟩, s.l.map ownV, cap⟩ := sliceV_frz (by rw [hl0]; exact hgr) hgb hok0
      change LoopW _ _ _ _ _ _ _ _ _ _
      apply loop_rule [] (α := Nat × SliceV VectorV × G) (fun y => [(34, .v (.int .i64 y.1)), (5, .v (.slice y.2.1.a y.2.1.l.length y.2.1.c))]) (fun _ => [.gone]) (fun y => y.2.2)
        (fun y => y.1 ≤ s.l.length ∧ Rnd s.l y.1 y.2.1.l ∧ y.2.1.l.length = s.l.length ∧ VecsOk y.2.2 y.2.1 ∧ G.le g1 y.2.2) (fun y => s.l.length - y.1) (0, ⟨some ⟨b0, 0, none⟩, s.l.map ownV, cap⟩, g2)
      · intro x; kernel_rfl
      · exact ⟨Nat.zero_le _, rfl, List.length_map _, hv0, hle2⟩
      · exact ⟨rfl, (show SV.v (.slice (some ⟨b0, 0, none⟩) (k + 1) cap) = SV.v (.slice (some ⟨b0, 0, none⟩) (s.l.map ownV).length cap) from by rw [hl0]), trivial⟩
      · rfl
      · rfl
      rintro ⟨t, h, g2⟩ ⟨ht, hR, hl, hv, hle2⟩
      have ht : t ≤ s.l.length := ht
      have hR : Rnd s.l t h.l := hR
      have hl : h.l.length = s.l.length := hl
      have hv : VecsOk g2 h := hv
      have hle2 : G.le g1 g2 := hle2
      refine bsplit_of (fun hlt2 => ?_) (fun hlt2 => ?_)
      · have htl : t < s.l.length := by have := of_decide_eq_true hlt2; omega
        refine (cloneV_c h g2 hv (by omega) (by omega)).call0 rfl rfl 1 rfl ?_
        rintro o L1 g3 ⟨capN, spN, rfl, rfl, c1, c2, c3, rfl⟩
        change LoopW _ _ _ _ _ _ _ _ _ _
        apply loop_rule [] (α := Nat × List VectorV × G) (fun y => [(40, .v (.int .i64 y.1))]) (fun y => [.gone, .vals 43 (y.2.1.flatMap VectorV.cells ++ spN)]) (fun y => y.2.2)
          (fun y => y.1 ≤ s.l.length ∧ RoundTo s.l h.l y.1 y.2.1 ∧ (∀ v ∈ y.2.1, v.ok g) ∧ G.le g3 y.2.2) (fun y => s.l.length - y.1) (0, h.l, g3)
        · intro x; kernel_rfl
        · exact ⟨Nat.zero_le _, .zero hl, hv.2.2.2.2, fun _ _ h => h⟩
        · exact ⟨rfl, trivial⟩
        · rfl
        · rfl
        rintro ⟨i, nx, g4⟩ ⟨hi, hT, hnx, hle4⟩
        have hi : i ≤ s.l.length := hi
        have hT : RoundTo s.l h.l i nx := hT
        have hnx : ∀ v ∈ nx, v.ok g := hnx
        have hle4 : G.le g3 g4 := hle4
        have hnl := hT.len
        refine bsplit_of (fun hlt3 => ?_) (fun hlt3 => ?_)
        · have hil : i < s.l.length := by have := of_decide_eq_true hlt3; omega
          obtain ⟨ad, n, ha, hn, hat, hnok⟩ := (hs1.up (fun b o h => hle4 b o (hle2 b o h))).elem (fun _ => rfl) hil
          have hpl := hnok.2.len
          have hp8 := N.ports n (List.mem_of_getElem? hn)
          refine ⟨⟨by omega, by omega⟩, ad, ha, ?_⟩
          refine ⟨n.cells, rfl, hat, ?_⟩
          obtain ⟨w, hw⟩ : ∃ w, h.l[i]? = some w := lt_some (by omega)
          have hwn : nx[i]? = some w := by rw [hT.rest i (Nat.le_refl _)]; exact hw
          have hset : nx.set i w = nx := by
            apply List.ext_getElem?
            intro q
            by_cases hq : i = q
            · subst hq; rw [List.getElem?_set_self (by omega), hwn]
            · rw [List.getElem?_set_ne hq]
          change LoopW _ _ _ _ _ _ _ _ _ _
          apply loop_rule [] (α := Nat × VectorV × G) (fun y => [(48, .v (.int .i64 y.1))]) (fun y => [.gone, .vals 43 ((nx.set i y.2.1).flatMap VectorV.cells ++ spN), .cells 148 (n.cells.map .v)]) (fun y => y.2.2)
            (fun y => y.1 ≤ n.ports.l.length ∧ Least (w :: candP s.l h.l n i y.1) y.2.1 ∧ y.2.1.ok g ∧ G.le g4 y.2.2) (fun y => n.ports.l.length - y.1) (0, w, g4)
          · intro x; kernel_rfl
          · exact ⟨Nat.zero_le _, .one w, hnx w (List.mem_of_getElem? hwn), fun _ _ h => h⟩
          · exact ⟨rfl, trivial⟩
          · exact threeV (show nx.flatMap VectorV.cells ++ spN = (nx.set i w).flatMap VectorV.cells ++ spN from by rw [hset])
          · rfl
          rintro ⟨q, b, g5⟩ ⟨hq, hL, hbok, hle5⟩
          have hq : q ≤ n.ports.l.length := hq
          have hL : Least (w :: candP s.l h.l n i q) b := hL
          have hbok : b.ok g := hbok
          have hle5 : G.le g4 g5 := hle5
          have hs5 : NodesOk g5 s := hs1.up (fun b o h => hle5 b o (hle4 b o (hle2 b o h)))
          refine bsplit_of (fun hlt4 => ?_) (fun hlt4 => ?_)
          · have hql : q < n.ports.l.length := by have := of_decide_eq_true hlt4; omega
            obtain ⟨p, hp⟩ := lt_some hql
            refine (others_c s h i q n p g5 hs5 (hv.mono (fun b o h => hle5 b o (hle4 b o h)) fun _ h => h) hl.symm N hn hp).call0 rfl rfl 3 rfl ?_
            rintro o L1 g6 ⟨tt, htt, rfl, rfl, hvt, hle6⟩
            have htl2 := hvt.len
            have hnok6 : n.ok g6 := ⟨hnok.1, hnok.2.mono (fun b o h => hle6 b o (hle5 b o h)) fun _ h => h⟩
            change LoopW _ _ _ _ _ _ _ _ _ _
            apply loop_rule [] (α := Nat × VectorV) (fun y => [(57, .v (.int .i64 y.1))]) (fun y => [.gone, .vals 43 ((nx.set i y.2).flatMap VectorV.cells ++ spN), .cells 148 (n.cells.map .v)]) (fun _ => g6)
              (fun y => y.1 ≤ tt.l.length ∧ Least (w :: (candP s.l h.l n i q ++ (tt.l.take y.1).map fun v => n.hears v q)) y.2 ∧ y.2.ok g) (fun y => tt.l.length - y.1) (0, b)
            · intro x; kernel_rfl
            · exact ⟨Nat.zero_le _, by show Least (w :: (candP s.l h.l n i q ++ [])) b; rw [List.append_nil]; exact hL, hbok⟩
            · exact ⟨rfl, trivial⟩
            · rfl
            · rfl
            rintro ⟨m, b⟩ ⟨hm, hL, hbok⟩
            have hm : m ≤ tt.l.length := hm
            have hL : Least (w :: (candP s.l h.l n i q ++ (tt.l.take m).map fun v => n.hears v q)) b := hL
            have hbok : b.ok g := hbok
            refine bsplit_of (fun hlt5 => ?_) (fun hlt5 => ?_)
            · have hml : m < tt.l.length := by have := of_decide_eq_true hlt5; omega
              obtain ⟨av, x, hav, hx, hatx, hxok⟩ := hvt.elem (fun _ => rfl) hml
              refine ⟨⟨by omega, by omega⟩, av, hav, ?_⟩
              refine ⟨x.cells, rfl, hatx, ?_⟩
              have hhc := hears_c n x (q : Int) g6 hnok6
              have hhok := hears_ok hnok6 hxok (q : Int)
              have hLn := hL.next (n.hears x q)
              have hcs : (w :: (candP s.l h.l n i q ++ (tt.l.take m).map fun v => n.hears v q)) ++ [n.hears x q] = w :: (candP s.l h.l n i q ++ (tt.l.take (m + 1)).map fun v => n.hears v q) := by
                rw [take_snoc hx, List.map_append]; simp
              rw [hcs] at hLn
              obtain ⟨hb, hhb⟩ : ∃ hb, n.hears x (q : Int) = hb := ⟨_, rfl⟩
              rw [hhb] at hhc hhok hLn
              refine hhc.call rfl rfl rfl ?_
              refine ⟨⟨by omega, by omega⟩, ?_⟩
              have hbi : (nx.set i b)[i]? = some b := List.getElem?_set_self (by omega)
              have hfa := flat_at (f := VectorV.cells) (sz := 21) (fun _ => rfl) spN hbi
              refine loadA_at (xs := b.cells) (by rw [off21]; exact hfa.1) (by rw [off21]; exact hfa.2) ?_
              refine (better_c hb b g6 hhok hbok).call rfl rfl rfl ?_
              refine bsplit_of (fun (hbt : vless hb b = true) => ?_) (fun (hbt : vless hb b = false) => ?_)
              · refine ⟨⟨by omega, by omega⟩, ?_⟩
                refine ⟨rfl, fun u hu => vec_one hb u hu, by rw [off21]; exact hfa.2, ?_⟩
                have hbet : bet b hb = hb := by unfold bet; rw [if_pos hbt]
                rw [hbet] at hLn
                have hfp := flat_put (f := VectorV.cells) (sz := 21) (fun _ => rfl) (l := nx.set i b) (i := i) hb spN (by rw [List.length_set]; omega)
                rw [List.set_set] at hfp
                refine ⟨(m + 1, hb), ⟨hml, hLn, hhok⟩, by show tt.l.length - (m + 1) < tt.l.length - m; omega, [0, 1, 2], rfl, ⟨vi (show IntKind.i64.wrap ((m : Int) + 1) = ((m + 1 : Nat) : Int) from by rw [wrap_id (by omega) (by omega)]; omega), trivial⟩, ?_, rfl, rfl, rfl⟩
                exact threeV (show _ = (nx.set i hb).flatMap VectorV.cells ++ spN from by rw [off21]; exact hfp)
              · have hbet : bet b hb = b := by unfold bet; rw [if_neg (by rw [hbt]; decide)]
                rw [hbet] at hLn
                exact ⟨(m + 1, b), ⟨hml, hLn, hbok⟩, by show tt.l.length - (m + 1) < tt.l.length - m; omega, [0, 1, 2], rfl, ⟨vi (show IntKind.i64.wrap ((m : Int) + 1) = ((m + 1 : Nat) : Int) from by rw [wrap_id (by omega) (by omega)]; omega), trivial⟩, rfl, rfl, rfl, rfl⟩
            · have hml : m = tt.l.length := by have := of_decide_eq_false hlt5; omega
              subst hml
              rw [List.take_length, htt, ← candP_next hp] at hL
              exact ⟨(q + 1, b, g6), ⟨hql, hL, hbok, fun b o h => hle6 b o (hle5 b o h)⟩, by show n.ports.l.length - (q + 1) < n.ports.l.length - q; omega, [0, 1, 2], rfl, ⟨vi (show IntKind.i64.wrap ((q : Int) + 1) = ((q + 1 : Nat) : Int) from by rw [wrap_id (by omega) (by omega)]; omega), trivial⟩, rfl, rfl, rfl, rfl⟩
          · have hql : q = n.ports.l.length := by have := of_decide_eq_false hlt4; omega
            subst hql
            refine ⟨(i + 1, nx.set i b, g5), ⟨hil, hT.next hn hw hL, fun v hv => ?_, fun b o h => hle5 b o (hle4 b o h)⟩, by show s.l.length - (i + 1) < s.l.length - i; omega, [0, 1], rfl, ⟨vi (show IntKind.i64.wrap ((i : Int) + 1) = ((i + 1 : Nat) : Int) from by rw [wrap_id (by omega) (by omega)]; omega), trivial⟩, rfl, rfl, rfl, rfl⟩
            rcases List.mem_or_eq_of_mem_set hv with hv | rfl
            · exact hnx v hv
            · exact hbok
        · have hil : i = s.l.length := by have := of_decide_eq_false hlt3; omega
          subst hil
          refine turn_freezeB 1 43 (nx.flatMap VectorV.cells ++ spN) (.inl rfl) (fun b1 g7 hb1 hle7 hgb1 => ?_)
          have hgr1 : grOk 21 nx.length capN (nx.flatMap VectorV.cells) spN := ⟨vecs_len _, by omega, c2, fun _ => by rw [vecs_len, c3, hnl, ← hl, ← Nat.add_mul]; congr 1; omega⟩
          refine ⟨(t + 1, ⟨some ⟨b1, 0, none⟩, nx, capN⟩, g7), ⟨htl, ⟨h.l, hR, hl, hT⟩, hnl, sliceV_frz hgr1 hgb1 hnx, fun b o h => hle7 b o (hle4 b o (hle2 b o h))⟩, by show s.l.length - (t + 1) < s.l.length - t; omega, [0], rfl, ⟨vi (show IntKind.i64.wrap ((t : Int) + 1) = ((t + 1 : Nat) : Int) from by rw [wrap_id (by omega) (by omega)]; omega), ?_, trivial⟩, rfl, rfl, rfl, rfl⟩
          show SV.v (.slice (some ⟨b1, 0, none⟩) h.l.length capN) = SV.v (.slice (some ⟨b1, 0, none⟩) nx.length capN)
          rw [hl, hnl]
      · have htl : t = s.l.length := by have := of_decide_eq_false hlt2; omega
        subst htl
        exact ⟨h, hR, hl, rfl, rfl, hv, fun b o h => hle2 b o (hle1 b o h)⟩
end Go.Proofs.YtedfohdgigbhiaaDoor
