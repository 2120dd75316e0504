/- tree.Check, twice and their closures: what each returns. Conditions: the slices lie where they say. -/
import Derived.Test.YtedfohdgigbhiaaDoorXtreek
import Derived.Test.YtedfohdgigbhiaaDoorPrtC
import Derived.Test.YtedfohdgigbhiaaDoorErrB
import Derived.Test.YtedfohdgigbhiaaDoorBaseD
namespace Go.Proofs.YtedfohdgigbhiaaDoor
open Go.Sx Go.Lib
set_option maxRecDepth 100000
set_option maxHeartbeats 8000000
attribute [local irreducible] Meets
attribute [local instance] Classical.propDecidable

abbrev MemsOk (g : G) (s : SliceV MemberV) : Prop := s.ok 4 MemberV.cells (MemberV.ok g) g
abbrev NodesOk (g : G) (s : SliceV NodeV) : Prop := s.ok 9 NodeV.cells (NodeV.ok g) g
def memP (m : MemberV) : Prop := portP m.port ∧ 1 ≤ m.cost ∧ m.cost ≤ 200000000 ∧ 0 ≤ m.lan ∧ m.lan ≤ 63
theorem port_eq {x y : PortV} : (x.prio == y.prio && (x.no == y.no && true)) = true ↔ x = y := by
  obtain ⟨a, b⟩ := x
  obtain ⟨c, d⟩ := y
  simp
theorem bridge_eq {x y : BridgeV} : x.eq y = true ↔ x = y := by
  obtain ⟨a, b, ⟨a0, a1, a2, a3, a4, a5⟩⟩ := x
  obtain ⟨c, d, ⟨c0, c1, c2, c3, c4, c5⟩⟩ := y
  simp [BridgeV.eq]

theorem bad1_c (m : MemberV) (g : G) : Meets Tryd.prog 106 [.agg (m.cells.map .v)] [] g (fun o L' g' => o = .ret (.v (.bool (decide (¬ memP m)))) ∧ L' = [] ∧ g' = g) := by
  have yes : ¬ memP m → Out.ret (.v (.bool true)) = .ret (.v (.bool (decide (¬ memP m)))) := fun h => by rw [decide_eq_true h]
  refine meets_of mixedS Tryd.func106 (by kernel_rfl) x106_ok (some []) ?_
  refine (prioPort_c m.port g).call rfl rfl rfl ?_
  refine bsplit_of (fun (h : (!decide (portP m.port)) = true) => ⟨yes fun hq => by simp at h; exact h hq.1, rfl, rfl⟩) (fun (h1 : (!decide (portP m.port)) = false) => ?_)
  refine bsplit_of (fun (h : decide (m.cost < 1) = true) => ⟨yes fun hq => by have := of_decide_eq_true h; have := hq.2.1; omega, rfl, rfl⟩) (fun (h2 : decide (m.cost < 1) = false) => ?_)
  refine bsplit_of (fun (h : decide (m.cost > 200000000) = true) => ⟨yes fun hq => by have := of_decide_eq_true h; have := hq.2.2.1; omega, rfl, rfl⟩) (fun (h3 : decide (m.cost > 200000000) = false) => ?_)
  refine bsplit_of (fun (h : decide (m.lan < 0) = true) => ⟨yes fun hq => by have := of_decide_eq_true h; have := hq.2.2.2.1; omega, rfl, rfl⟩) (fun (h4 : decide (m.lan < 0) = false) => ?_)
  have h1 : portP m.port := by simpa using h1
  have h2 := of_decide_eq_false h2
  have h3 := of_decide_eq_false h3
  have h4 := of_decide_eq_false h4
  refine ⟨rbd ?_, rfl, rfl⟩
  rw [decide_eq_true_iff]
  exact ⟨fun h hq => by have := hq.2.2.2.2; omega, fun h => Classical.byContradiction fun hn => h ⟨h1, by omega, by omega, by omega, by omega⟩⟩
theorem same1_c (m q : MemberV) (g : G) : Meets Tryd.prog 149 [.agg (q.cells.map .v), .ptr 0 0] [.cells 159 (m.cells.map .v)] g (fun o L' g' => o = .ret (.v (.bool (decide (q.port = m.port)))) ∧ L' = [.cells 159 (m.cells.map .v)] ∧ g' = g) := by
  refine meets_of mixedS Tryd.func149 (by kernel_rfl) x149_ok (some []) ?_
  exact ⟨rbd (by rw [Bool.false_xor]; exact port_eq), rfl, rfl⟩
theorem same2_c (n m : NodeV) (g : G) : Meets Tryd.prog 151 [.agg (m.cells.map .v), .ptr 0 0] [.cells 148 (n.cells.map .v)] g (fun o L' g' => o = .ret (.v (.bool (decide (m.bridge = n.bridge)))) ∧ L' = [.cells 148 (n.cells.map .v)] ∧ g' = g) := by
  refine meets_of mixedS Tryd.func151 (by kernel_rfl) x151_ok (some []) ?_
  exact ⟨rbd (by rw [Bool.false_xor]; exact bridge_eq), rfl, rfl⟩

theorem idxBad_c  (s : SliceV MemberV) (g : G) (hs : MemsOk g s) : Meets Tryd.prog 148 [.v (.slice s.a s.l.length s.c), .fn 106 [] []] [] g (fun o L' g' => o = .ret (.v (.int .i64 (firstI (fun x => ¬ memP x) s.l))) ∧ L' = [] ∧ g' = g) := by
  refine meets_of mixedS Tryd.func148 (by kernel_rfl) x148_ok (some []) ?_
  have hlen := hs.len
  change LoopW _ _ _ _ _ _ _ _ _ _
  apply loop_rule [] (α := Nat) (fun k => [(8, .v (.int .i64 k))]) (fun _ => []) (fun _ => g) (fun k => k ≤ s.l.length ∧ ∀ (i : Nat) y, i < k → s.l[i]? = some y → ¬ (fun x => ¬ memP x) y) (fun k => s.l.length - k) 0
  · intro x; kernel_rfl
  · exact ⟨Nat.zero_le _, fun i t hi => by omega⟩
  · exact ⟨rfl, trivial⟩
  · rfl
  · rfl
  intro k hk
  refine bsplit_of (fun hlt => ?_) (fun hlt => ?_)
  · have hlt' : k < s.l.length := by simpa using hlt
    obtain ⟨ad, x, ha, hx, hat, -⟩ := hs.elem (fun _ => rfl) hlt'
    refine ⟨⟨by omega, by omega⟩, ad, ha, ?_⟩
    refine ⟨x.cells, rfl, hat, ?_⟩
    refine (bad1_c x g).callS [] 0 rfl rfl rfl rfl ?_
    rintro o L1 g' ⟨rfl, rfl, rfl⟩ _
    refine bsplit_of (fun (h : decide ((fun x => ¬ memP x) x) = true) => ?_) (fun (h : decide ((fun x => ¬ memP x) x) = false) => ?_)
    · exact ⟨ri (firstI_hit hk.2 hx (of_decide_eq_true h)).symm, rfl, rfl⟩
    · exact ⟨k + 1, ⟨by omega, seen_next hk.2 hx (of_decide_eq_false h)⟩, by omega, [], rfl, ⟨vi (wrap_id (by omega) (by omega)), trivial⟩, rfl, rfl, rfl, rfl⟩
  · have : s.l.length ≤ k := by simpa using hlt
    exact ⟨ri (firstI_none fun i y hy => hk.2 i y (by have := (List.getElem?_eq_some_iff.1 hy).1; omega) hy).symm, rfl, rfl⟩
theorem anyBad_c  (s : SliceV MemberV) (g : G) (hs : MemsOk g s) : Meets Tryd.prog 105 [.v (.slice s.a s.l.length s.c), .fn 106 [] []] [] g (fun o L' g' => o = .ret (.v (.bool (decide (∃ x ∈ s.l, (fun x => ¬ memP x) x)))) ∧ L' = [] ∧ g' = g) := by
  refine meets_of mixedS Tryd.func105 (by kernel_rfl) x105_ok (some []) ?_
  refine (idxBad_c  s g hs).callS [] 0 rfl rfl rfl rfl ?_
  rintro o L1 g' ⟨rfl, rfl, rfl⟩ _
  have e := firstI_ge (fun x => ¬ memP x) s.l
  rw [decide_eq_decide] at e
  exact ⟨rb (decide_eq_decide.2 e.symm), rfl, rfl⟩
theorem idxSame1_c (m : MemberV) (s : SliceV MemberV) (g : G) (hs : MemsOk g s) : Meets Tryd.prog 148 [.v (.slice s.a s.l.length s.c), .fn 149 [] [.ptr 0 0]] [.cells 159 (m.cells.map .v)] g (fun o L' g' => o = .ret (.v (.int .i64 (firstI (fun q => q.port = m.port) s.l))) ∧ L' = [.cells 159 (m.cells.map .v)] ∧ g' = g) := by
  refine meets_of mixedS Tryd.func148 (by kernel_rfl) x148_ok (some []) ?_
  have hlen := hs.len
  change LoopW _ _ _ _ _ _ _ _ _ _
  apply loop_rule [] (α := Nat) (fun k => [(8, .v (.int .i64 k))]) (fun _ => [.cells 159 (m.cells.map .v)]) (fun _ => g) (fun k => k ≤ s.l.length ∧ ∀ (i : Nat) y, i < k → s.l[i]? = some y → ¬ (fun q => q.port = m.port) y) (fun k => s.l.length - k) 0
  · intro x; kernel_rfl
  · exact ⟨Nat.zero_le _, fun i t hi => by omega⟩
  · exact ⟨rfl, trivial⟩
  · rfl
  · rfl
  intro k hk
  refine bsplit_of (fun hlt => ?_) (fun hlt => ?_)
  · have hlt' : k < s.l.length := by simpa using hlt
    obtain ⟨ad, x, ha, hx, hat, -⟩ := hs.elem (fun _ => rfl) hlt'
    refine ⟨⟨by omega, by omega⟩, ad, ha, ?_⟩
    refine ⟨x.cells, rfl, hat, ?_⟩
    refine (same1_c m x g).callS [0] 1 rfl rfl rfl rfl ?_
    rintro o L1 g' ⟨rfl, rfl, rfl⟩ _
    refine bsplit_of (fun (h : decide ((fun q => q.port = m.port) x) = true) => ?_) (fun (h : decide ((fun q => q.port = m.port) x) = false) => ?_)
    · exact ⟨ri (firstI_hit hk.2 hx (of_decide_eq_true h)).symm, rfl, rfl⟩
    · exact ⟨k + 1, ⟨by omega, seen_next hk.2 hx (of_decide_eq_false h)⟩, by omega, [0], rfl, ⟨vi (wrap_id (by omega) (by omega)), trivial⟩, rfl, rfl, rfl, rfl⟩
  · have : s.l.length ≤ k := by simpa using hlt
    exact ⟨ri (firstI_none fun i y hy => hk.2 i y (by have := (List.getElem?_eq_some_iff.1 hy).1; omega) hy).symm, rfl, rfl⟩
theorem anySame1_c (m : MemberV) (s : SliceV MemberV) (g : G) (hs : MemsOk g s) : Meets Tryd.prog 105 [.v (.slice s.a s.l.length s.c), .fn 149 [] [.ptr 0 0]] [.cells 159 (m.cells.map .v)] g (fun o L' g' => o = .ret (.v (.bool (decide (∃ x ∈ s.l, (fun q => q.port = m.port) x)))) ∧ L' = [.cells 159 (m.cells.map .v)] ∧ g' = g) := by
  refine meets_of mixedS Tryd.func105 (by kernel_rfl) x105_ok (some []) ?_
  refine (idxSame1_c m s g hs).callS [0] 1 rfl rfl rfl rfl ?_
  rintro o L1 g' ⟨rfl, rfl, rfl⟩ _
  have e := firstI_ge (fun q => q.port = m.port) s.l
  rw [decide_eq_decide] at e
  exact ⟨rb (decide_eq_decide.2 e.symm), rfl, rfl⟩
theorem idxSame2_c (n : NodeV) (s : SliceV NodeV) (g : G) (hs : NodesOk g s) : Meets Tryd.prog 156 [.v (.slice s.a s.l.length s.c), .fn 151 [] [.ptr 0 0]] [.cells 148 (n.cells.map .v)] g (fun o L' g' => o = .ret (.v (.int .i64 (firstI (fun q => q.bridge = n.bridge) s.l))) ∧ L' = [.cells 148 (n.cells.map .v)] ∧ g' = g) := by
  refine meets_of mixedS Tryd.func156 (by kernel_rfl) x156_ok (some []) ?_
  have hlen := hs.len
  change LoopW _ _ _ _ _ _ _ _ _ _
  apply loop_rule [] (α := Nat) (fun k => [(8, .v (.int .i64 k))]) (fun _ => [.cells 148 (n.cells.map .v)]) (fun _ => g) (fun k => k ≤ s.l.length ∧ ∀ (i : Nat) y, i < k → s.l[i]? = some y → ¬ (fun q => q.bridge = n.bridge) y) (fun k => s.l.length - k) 0
  · intro x; kernel_rfl
  · exact ⟨Nat.zero_le _, fun i t hi => by omega⟩
  · exact ⟨rfl, trivial⟩
  · rfl
  · rfl
  intro k hk
  refine bsplit_of (fun hlt => ?_) (fun hlt => ?_)
  · have hlt' : k < s.l.length := by simpa using hlt
    obtain ⟨ad, x, ha, hx, hat, -⟩ := hs.elem (fun _ => rfl) hlt'
    refine ⟨⟨by omega, by omega⟩, ad, ha, ?_⟩
    refine ⟨x.cells, rfl, hat, ?_⟩
    refine (same2_c n x g).callS [0] 1 rfl rfl rfl rfl ?_
    rintro o L1 g' ⟨rfl, rfl, rfl⟩ _
    refine bsplit_of (fun (h : decide ((fun q => q.bridge = n.bridge) x) = true) => ?_) (fun (h : decide ((fun q => q.bridge = n.bridge) x) = false) => ?_)
    · exact ⟨ri (firstI_hit hk.2 hx (of_decide_eq_true h)).symm, rfl, rfl⟩
    · exact ⟨k + 1, ⟨by omega, seen_next hk.2 hx (of_decide_eq_false h)⟩, by omega, [0], rfl, ⟨vi (wrap_id (by omega) (by omega)), trivial⟩, rfl, rfl, rfl, rfl⟩
  · have : s.l.length ≤ k := by simpa using hlt
    exact ⟨ri (firstI_none fun i y hy => hk.2 i y (by have := (List.getElem?_eq_some_iff.1 hy).1; omega) hy).symm, rfl, rfl⟩
theorem anySame2_c (n : NodeV) (s : SliceV NodeV) (g : G) (hs : NodesOk g s) : Meets Tryd.prog 150 [.v (.slice s.a s.l.length s.c), .fn 151 [] [.ptr 0 0]] [.cells 148 (n.cells.map .v)] g (fun o L' g' => o = .ret (.v (.bool (decide (∃ x ∈ s.l, (fun q => q.bridge = n.bridge) x)))) ∧ L' = [.cells 148 (n.cells.map .v)] ∧ g' = g) := by
  refine meets_of mixedS Tryd.func150 (by kernel_rfl) x150_ok (some []) ?_
  refine (idxSame2_c n s g hs).callS [0] 1 rfl rfl rfl rfl ?_
  rintro o L1 g' ⟨rfl, rfl, rfl⟩ _
  have e := firstI_ge (fun q => q.bridge = n.bridge) s.l
  rw [decide_eq_decide] at e
  exact ⟨rb (decide_eq_decide.2 e.symm), rfl, rfl⟩

def twP (l : List NodeV) (n : NodeV) : Prop := ¬ (n.ports.l.map MemberV.port).Nodup ∨ ∃ m ∈ l, m.bridge = n.bridge
theorem twice_c (s : SliceV NodeV) (n : NodeV) (g : G) (hs : NodesOk g s) (hn : n.ok g) : Tells Tryd.prog 108 [.v (.slice s.a s.l.length s.c), .agg (n.cells.map .v)] g (.v (.bool (decide (twP s.l n)))) := by
  refine meets_of mixedS Tryd.func108 (by kernel_rfl) x108_ok (some []) ?_
  have hp := hn.2
  have hlen := hp.len
  change LoopW _ _ _ _ _ _ _ _ _ _
  apply loop_rule [] (α := Nat) (fun k => [(10, .v (.int .i64 k))]) (fun _ => [.cells 148 (n.cells.map .v)]) (fun _ => g) (fun k => k ≤ n.ports.l.length ∧ ((n.ports.l.take k).map MemberV.port).Nodup) (fun k => n.ports.l.length - k) 0
  · intro x; kernel_rfl
  · exact ⟨Nat.zero_le _, by simp⟩
  · exact ⟨rfl, trivial⟩
  · rfl
  · rfl
  intro k hk
  refine bsplit_of (fun hlt => ?_) (fun hlt => ?_)
  · have hlt' : k < n.ports.l.length := by simpa using hlt
    obtain ⟨ad, m, ha, hx, hat, -⟩ := hp.elem (fun _ => rfl) hlt'
    refine ⟨⟨by omega, by omega⟩, ad, ha, ?_⟩
    refine ⟨m.cells, rfl, hat, ?_⟩
    have hcap : n.ports.l.length ≤ n.ports.c := hp.2.2.1
    refine ⟨⟨by omega, by omega⟩, ?_⟩
    have hc := anySame1_c m (n.ports.pre k) g (SliceV.ok.pre (f := MemberV.cells) (fun _ => rfl) hp hk.1)
    rw [SliceV.pre_len hk.1] at hc
    refine hc.callS [1] 2 rfl rfl rfl rfl ?_
    rintro o L1 g' ⟨rfl, rfl, rfl⟩ _
    have hsn := take_snoc hx
    refine bsplit_of (fun (h : decide (∃ x ∈ (n.ports.pre k).l, x.port = m.port) = true) => ?_) (fun (h : decide (∃ x ∈ (n.ports.pre k).l, x.port = m.port) = false) => ?_)
    · obtain ⟨q, hq, he⟩ := of_decide_eq_true h
      refine ⟨rb (decide_eq_true (.inl fun hnd => ?_)), rfl, rfl⟩
      have h2 : ((n.ports.l.take (k + 1)).map MemberV.port).Nodup := by
        rw [List.map_take]; exact hnd.sublist (List.take_sublist _ _)
      rw [hsn, List.map_append, List.map_singleton, nodup_snoc] at h2
      exact h2.2 (List.mem_map.2 ⟨q, hq, he⟩)
    · have h := of_decide_eq_false h
      refine ⟨k + 1, ⟨by omega, ?_⟩, by omega, [0], rfl, ⟨vi (wrap_id (by omega) (by omega)), trivial⟩, rfl, rfl, rfl, rfl⟩
      rw [hsn, List.map_append, List.map_singleton, nodup_snoc]
      refine ⟨hk.2, fun hm => ?_⟩
      obtain ⟨q, hq, he⟩ := List.mem_map.1 hm
      exact h ⟨q, hq, he⟩
  · have hge : n.ports.l.length ≤ k := by simpa using hlt
    have hnd : (n.ports.l.map MemberV.port).Nodup := by have := hk.2; rwa [List.take_of_length_le hge] at this
    refine (anySame2_c n s g hs).callS [0] 1 rfl rfl rfl rfl ?_
    rintro o L1 g' ⟨rfl, rfl, rfl⟩ _
    refine ⟨rb (decide_eq_decide.2 ⟨fun h => ?_, .inr⟩), rfl, rfl⟩
    rcases h with h | h
    · exact absurd hnd h
    · exact h

def okN (n : NodeV) : Prop := bridgeP n.bridge ∧ ∀ m ∈ n.ports.l, memP m
/-- What is wrong with a node behind others. -/
noncomputable def nodeE (l : List NodeV) (n : NodeV) : Int := if 8 < n.ports.l.length then 4 else if ¬ okN n then 1 else if twP l n then 9 else 0
noncomputable def nE (l : List NodeV) (i : Nat) : Int := match l[i]? with | some n => nodeE (l.take i) n | none => 0
noncomputable def netE (l : List NodeV) : Int × Int := if 12 < l.length then (4, -1) else match (List.range l.length).find? (fun i => decide (nE l i ≠ 0)) with | some i => (nE l i, (i : Int)) | none => (0, -1)
theorem nE_at {l : List NodeV} {i : Nat} {n : NodeV} (h : l[i]? = some n) : nE l i = nodeE (l.take i) n := by rw [nE, h]
theorem netE_hit {l : List NodeV} {k : Nat} (h12 : ¬ 12 < l.length) (hb : ∀ i, i < k → nE l i = 0) (hk : k < l.length) (he : nE l k ≠ 0) : netE l = (nE l k, (k : Int)) := by
  have : (List.range l.length).find? (fun i => decide (nE l i ≠ 0)) = some k := by
    rw [List.find?_eq_some_iff_append]
    refine ⟨by simpa using he, List.range k, (List.range (l.length - k - 1)).map (fun x => x + (k + 1)), ?_, fun a ha => ?_⟩
    · apply List.ext_getElem
      · simp; omega
      · intro i h1 h2
        rw [List.getElem_range]
        by_cases hik : i < k
        · rw [List.getElem_append_left (by simpa using hik), List.getElem_range]
        · rw [List.getElem_append_right (by simpa using hik)]
          by_cases h3 : i = k
          · subst h3; simp
          · simp only [List.length_range, List.getElem_cons, show ¬ i - k = 0 from by omega, dite_false, List.getElem_map, List.getElem_range]
            omega
    · have := hb a (by simpa using ha)
      simp [this]
  rw [netE, if_neg h12, this]
theorem netE_none {l : List NodeV} (h12 : ¬ 12 < l.length) (hb : ∀ i, i < l.length → nE l i = 0) : netE l = (0, -1) := by
  have : (List.range l.length).find? (fun i => decide (nE l i ≠ 0)) = none := by
    rw [List.find?_eq_none]
    intro i hi
    simpa using hb i (by simpa using hi)
  rw [netE, if_neg h12, this]
theorem netE_big {l : List NodeV} (h12 : 12 < l.length) : netE l = (4, -1) := if_pos h12

def CheckPost (E : Int × Int) (o : Out) (L' : List Chunk) : Prop :=
  (E = (0, -1) ∧ o = .ret (.v .nilIface) ∧ L' = []) ∨ (E.2 = -1 ∧ E.1 ≠ 0 ∧ o = .ret (.v (.iface 29 (.int .i64 E.1))) ∧ L' = []) ∨ (E.1 ≠ 0 ∧ o = .ret (.iface 191 (.ptr 0 0)) ∧ L' = [.cells 193 ([.int .i64 E.1, .int .i64 E.2].map .v)])
theorem check_b (s : SliceV NodeV) (g : G) (hs : NodesOk g s) : Meets Tryd.prog 51 [.v (.slice s.a s.l.length s.c)] [] g (fun o L' g' => g' = g ∧ CheckPost (netE s.l) o L') := by
  refine meets_of mixedS Tryd.func51 (by kernel_rfl) x51_ok none ?_
  have hlen := hs.len
  obtain ⟨E, hE⟩ : ∃ E, netE s.l = E := ⟨_, rfl⟩
  rw [hE]
  refine bsplit_of (fun (h : decide ((s.l.length : Int) > 12) = true) => ?_) (fun (h : decide ((s.l.length : Int) > 12) = false) => ?_)
  · have : E = (4, -1) := by rw [← hE]; exact netE_big (by have := of_decide_eq_true h; omega)
    subst this
    exact ⟨[], rfl, .inr (.inl ⟨rfl, by simp, rfl, rfl⟩)⟩
  have h12 : ¬ 12 < s.l.length := by have := of_decide_eq_false h; omega
  change LoopW _ _ _ _ _ _ _ _ _ _
  apply loop_rule [] (α := Nat) (fun k => [(12, .v (.int .i64 k))]) (fun _ => []) (fun _ => g) (fun k => k ≤ s.l.length ∧ ∀ i, i < k → nE s.l i = 0) (fun k => s.l.length - k) 0
  · intro x; kernel_rfl
  · exact ⟨Nat.zero_le _, fun i hi => by omega⟩
  · exact ⟨rfl, trivial⟩
  · rfl
  · rfl
  intro k hk
  refine bsplit_of (fun hlt => ?_) (fun hlt => ?_)
  · have hlt' : k < s.l.length := by simpa using hlt
    obtain ⟨ad, n, ha, hx, hat, hnok⟩ := hs.elem (fun _ => rfl) hlt'
    refine ⟨⟨by omega, by omega⟩, ad, ha, ?_⟩
    refine ⟨n.cells, rfl, hat, ?_⟩
    have hpl := hnok.2.len
    refine bsplit_of (fun (h : decide ((n.ports.l.length : Int) > 8) = true) => ?_) (fun (h : decide ((n.ports.l.length : Int) > 8) = false) => ?_)
    · have hne : nodeE (s.l.take k) n = 4 := by rw [nodeE, if_pos]; have := of_decide_eq_true h; omega
      have : E = (4, (k : Int)) := by rw [← hE, netE_hit h12 hk.2 hlt' (by rw [nE_at hx, hne]; decide), nE_at hx, hne]
      subst this
      exact ⟨[1], rfl, .inr (.inr ⟨by simp, rfl, rfl⟩)⟩
    have h8 : ¬ 8 < n.ports.l.length := by have := of_decide_eq_false h; omega
    refine (prioRight_c n.bridge g).call rfl rfl rfl ?_
    refine bsplit_of (fun (h : (!decide (bridgeP n.bridge)) = true) => ?_) (fun (h : (!decide (bridgeP n.bridge)) = false) => ?_)
    · have hne : nodeE (s.l.take k) n = 1 := by rw [nodeE, if_neg h8, if_pos]; intro hq; simp at h; exact h hq.1
      have : E = (1, (k : Int)) := by rw [← hE, netE_hit h12 hk.2 hlt' (by rw [nE_at hx, hne]; decide), nE_at hx, hne]
      subst this
      exact ⟨[1], rfl, .inr (.inr ⟨by simp, rfl, rfl⟩)⟩
    have hb : bridgeP n.bridge := by simpa using h
    refine (anyBad_c n.ports g hnok.2).callS [] 1 rfl rfl rfl rfl ?_
    rintro o L1 g' ⟨rfl, rfl, rfl⟩ _
    refine bsplit_of (fun (h : decide (∃ x ∈ n.ports.l, ¬ memP x) = true) => ?_) (fun (h : decide (∃ x ∈ n.ports.l, ¬ memP x) = false) => ?_)
    · have hne : nodeE (s.l.take k) n = 1 := by rw [nodeE, if_neg h8, if_pos]; intro hq; obtain ⟨x, h1, h2⟩ := of_decide_eq_true h; exact h2 (hq.2 x h1)
      have : E = (1, (k : Int)) := by rw [← hE, netE_hit h12 hk.2 hlt' (by rw [nE_at hx, hne]; decide), nE_at hx, hne]
      subst this
      exact ⟨[1], rfl, .inr (.inr ⟨by simp, rfl, rfl⟩)⟩
    have hok : okN n := ⟨hb, fun m hm => Classical.byContradiction fun hn => of_decide_eq_false h ⟨m, hm, hn⟩⟩
    have hcap : s.l.length ≤ s.c := hs.2.2.1
    refine ⟨⟨by omega, by omega⟩, ?_⟩
    have hc := twice_c (s.pre k) n g' (SliceV.ok.pre (f := NodeV.cells) (fun _ => rfl) hs hk.1) hnok
    rw [SliceV.pre_len hk.1] at hc
    refine hc.call rfl rfl rfl ?_
    refine bsplit_of (fun (h : decide (twP (s.pre k).l n) = true) => ?_) (fun (h : decide (twP (s.pre k).l n) = false) => ?_)
    · have hne : nodeE (s.l.take k) n = 9 := by rw [nodeE, if_neg h8, if_neg (not_not_intro hok), if_pos]; exact of_decide_eq_true h
      have : E = (9, (k : Int)) := by rw [← hE, netE_hit h12 hk.2 hlt' (by rw [nE_at hx, hne]; decide), nE_at hx, hne]
      subst this
      exact ⟨[1], rfl, .inr (.inr ⟨by simp, rfl, rfl⟩)⟩
    · refine ⟨k + 1, ⟨by omega, fun i hi => ?_⟩, by omega, [], rfl, ⟨vi (wrap_id (by omega) (by omega)), trivial⟩, rfl, rfl, rfl, rfl⟩
      by_cases hik : i = k
      · subst hik
        have h0 : ¬ twP (s.l.take i) n := of_decide_eq_false h
        rw [nE_at hx, nodeE, if_neg h8, if_neg (not_not_intro hok), if_neg h0]
      · exact hk.2 i (by omega)
  · have hge : s.l.length ≤ k := by simpa using hlt
    have : E = (0, -1) := by rw [← hE]; exact netE_none h12 fun i hi => hk.2 i (by omega)
    subst this
    exact ⟨[], rfl, .inl ⟨rfl, rfl, rfl⟩⟩

/-- What an error is: nil just where nothing is wrong. -/
def ErrNil (E : Int × Int) (v : Value) : Prop := (E = (0, -1) ∧ v = .nilIface) ∨ (E.1 ≠ 0 ∧ ∃ t x, v = .iface t x)
theorem checkPost_err {E : Int × Int} {o : Out} {L' : List Chunk} (h : CheckPost E o L') : (∃ v, (∀ g, ErrP g v E.1 E.2) ∧ ErrNil E v ∧ o = .ret (.v v) ∧ L' = []) ∨ (E.1 ≠ 0 ∧ o = .ret (.iface 191 (.ptr 0 0)) ∧ L' = [.cells 193 ([.int .i64 E.1, .int .i64 E.2].map .v)]) := by
  obtain ⟨e, p⟩ := E
  rcases h with ⟨h1, rfl, rfl⟩ | ⟨h1, h2, rfl, rfl⟩ | ⟨h2, rfl, rfl⟩
  · cases h1
    exact .inl ⟨_, fun _ => .nil, .inl ⟨rfl, rfl⟩, rfl, rfl⟩
  · dsimp only at h1
    subst h1
    exact .inl ⟨_, fun _ => .bare e, .inr ⟨h2, _, _, rfl⟩, rfl, rfl⟩
  · exact .inr ⟨h2, rfl, rfl⟩
theorem check_c2 (s : SliceV NodeV) (g : G) (hs : NodesOk g s) : Meets Tryd.prog 51 [.v (.slice s.a s.l.length s.c)] [] g (fun o L' g' => G.le g g' ∧ ∃ v, ErrP g' v (netE s.l).1 (netE s.l).2 ∧ ErrNil (netE s.l) v ∧ o = .ret (.v v) ∧ L' = []) := by
  refine Meets.freeze (check_b s g hs) fun o L' g' hk => ?_
  obtain ⟨rfl, hk⟩ := hk
  rcases checkPost_err hk with ⟨v, hv, hn, rfl, rfl⟩ | ⟨hn, rfl, rfl⟩
  · exact .inl ⟨fun _ _ h => h, v, hv _, hn, rfl, rfl⟩
  · exact .inr ⟨[], 193, [.int .i64 (netE s.l).1, .int .i64 (netE s.l).2], rfl, by simp, fun b g'' hl hb => ⟨hl, .iface 191 (.pointer (some ⟨b, 0, none⟩)), .at_ ⟨b, 0, none⟩ _ _ (at_frz hb), .inr ⟨hn, _, _, rfl⟩, rfl, rfl⟩⟩
theorem check_c (s : SliceV NodeV) (g : G) (hs : NodesOk g s) : Meets Tryd.prog 51 [.v (.slice s.a s.l.length s.c)] [] g (fun o L' g' => G.le g g' ∧ ∃ v, ErrP g' v (netE s.l).1 (netE s.l).2 ∧ o = .ret (.v v) ∧ L' = []) :=
  (check_c2 s g hs).mono fun _ _ _ ⟨h1, v, h2, _, h3, h4⟩ => ⟨h1, v, h2, h3, h4⟩
end Go.Proofs.YtedfohdgigbhiaaDoor
