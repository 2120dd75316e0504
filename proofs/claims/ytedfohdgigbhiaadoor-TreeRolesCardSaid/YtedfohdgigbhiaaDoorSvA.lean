/- tree.others, slices.Clone of vectors: what each returns. Conditions: the slices lie where they say; a net of at most 12 nodes with at most 8 ports each. -/
import Derived.Test.YtedfohdgigbhiaaDoorXsolv
import Derived.Test.YtedfohdgigbhiaaDoorTlC
import Derived.Test.YtedfohdgigbhiaaDoorTreeKD
import Derived.Test.YtedfohdgigbhiaaDoorBaseD
namespace Go.Proofs.YtedfohdgigbhiaaDoor
open Go.Sx Go.Lib
set_option maxRecDepth 100000
set_option maxHeartbeats 8000000
attribute [local irreducible] Meets
attribute [local instance] Classical.propDecidable

abbrev VecsOk (g : G) (s : SliceV VectorV) : Prop := s.ok 21 VectorV.cells (VectorV.ok g) g
theorem vec_one (v : VectorV) : ∀ u ∈ v.cells, u.oneCell' = true := by
  intro u hu
  simp only [VectorV.cells, BridgeV.cells, AddrV.cells, PortV.cells, List.append_nil, List.cons_append, List.nil_append, List.mem_cons, List.not_mem_nil, or_false] at hu
  rcases hu with rfl | rfl | rfl | rfl | rfl | rfl | rfl | rfl | rfl | rfl | rfl | rfl | rfl | rfl | rfl | rfl | rfl | rfl | rfl | rfl | rfl <;> rfl
theorem vec_len (v : VectorV) : v.cells.length = 21 := rfl
theorem zport_ok (g : G) : (⟨0, 0⟩ : PortV).ok g := ⟨by unfold iok; decide, by unfold iok; decide⟩
theorem zbridge_ok (g : G) : BridgeV.zero.ok g := by
  have hz : iok .u8 0 := by unfold iok; decide
  exact ⟨by unfold iok; decide, by unfold iok; decide, hz, hz, hz, hz, hz, hz⟩
theorem zvec_ok (g : G) : VectorV.zero.ok g := ⟨zbridge_ok g, by unfold iok; decide, zbridge_ok g, zport_ok g, zport_ok g⟩
theorem ziok : iok .i64 0 := by unfold iok; decide
theorem own_ok {g : G} {n : NodeV} (hn : n.ok g) : (VectorV.mk n.bridge 0 n.bridge ⟨0, 0⟩ ⟨0, 0⟩).ok g := ⟨hn.1, ziok, hn.1, zport_ok g, zport_ok g⟩
theorem leg_ok {g : G} {n : NodeV} (hn : n.ok g) {x : Int} {q : MemberV} (h : n.leg x = some q) : q.ok g := by
  unfold NodeV.leg at h
  split at h
  · exact hn.2.2.2.2.2 q (List.mem_of_getElem? h)
  · cases h
theorem tells_ok {g : G} {n : NodeV} {w : VectorV} (hn : n.ok g) (hw : w.ok g) (x : Int) : (n.tells w x).ok g := by
  unfold NodeV.tells
  split
  · rename_i q hq
    exact ⟨hw.1, hw.2.1, hn.1, (leg_ok hn hq).1, zport_ok g⟩
  · exact zvec_ok g
theorem wrap_iok (x : Int) : iok .i64 (IntKind.i64.wrap x) := by
  unfold iok
  simp only [IntKind.wrap, IntKind.signed, IntKind.bits]
  simp
  omega
theorem hears_ok {g : G} {n : NodeV} {w : VectorV} (hn : n.ok g) (hw : w.ok g) (x : Int) : (n.hears w x).ok g := by
  unfold NodeV.hears
  split
  · rename_i q hq
    exact ⟨hw.1, wrap_iok _, hw.2.2.1, hw.2.2.2.1, (leg_ok hn hq).1⟩
  · exact zvec_ok g

/-! ### What others tell -/
def othN (w : VectorV) (n : NodeV) (lan : Int) (ok : Nat → Bool) : Nat → List VectorV
  | 0 => []
  | x + 1 => othN w n lan ok x ++ (match n.ports.l[x]? with | some q => if q.lan = lan ∧ ok x = true then [n.tells w x] else [] | none => [])
def oth (l : List NodeV) (h : List VectorV) (lan : Int) (i k : Nat) : Nat → List VectorV
  | 0 => []
  | j + 1 => oth l h lan i k j ++ (match l[j]?, h[j]? with | some n, some w => othN w n lan (fun x => !(j == i && x == k)) n.ports.l.length | _, _ => [])
theorem othN_yes {w : VectorV} {n : NodeV} {lan : Int} {ok : Nat → Bool} {x : Nat} {q : MemberV} (hq : n.ports.l[x]? = some q) (h : q.lan = lan ∧ ok x = true) : othN w n lan ok (x + 1) = othN w n lan ok x ++ [n.tells w x] := by rw [othN, hq]; simp only [if_pos h]
theorem othN_no {w : VectorV} {n : NodeV} {lan : Int} {ok : Nat → Bool} {x : Nat} {q : MemberV} (hq : n.ports.l[x]? = some q) (h : ¬ (q.lan = lan ∧ ok x = true)) : othN w n lan ok (x + 1) = othN w n lan ok x := by rw [othN, hq]; simp only [if_neg h, List.append_nil]
theorem othN_len (w : VectorV) (n : NodeV) (lan : Int) (ok : Nat → Bool) : ∀ x, (othN w n lan ok x).length ≤ x
  | 0 => Nat.le_refl _
  | x + 1 => by
    rw [othN, List.length_append]
    have := othN_len w n lan ok x
    split
    · split <;> simp <;> omega
    · simp; omega
theorem oth_next {l : List NodeV} {h : List VectorV} {lan : Int} {i k j : Nat} {n : NodeV} {w : VectorV} (hn : l[j]? = some n) (hw : h[j]? = some w) : oth l h lan i k (j + 1) = oth l h lan i k j ++ othN w n lan (fun x => !(j == i && x == k)) n.ports.l.length := by rw [oth, hn, hw]
theorem oth_len {l : List NodeV} (hp : ∀ n ∈ l, n.ports.l.length ≤ 8) (h : List VectorV) (lan : Int) (i k : Nat) : ∀ j, (oth l h lan i k j).length ≤ 8 * j
  | 0 => Nat.le_refl _
  | j + 1 => by
    rw [oth, List.length_append]
    have := oth_len hp h lan i k j
    split
    · rename_i n w hn _
      have h1 := othN_len w n lan (fun x => !(j == i && x == k)) n.ports.l.length
      have h2 := hp n (List.mem_of_getElem? hn)
      omega
    · simp; omega
theorem othN_mem {w : VectorV} {n : NodeV} {lan : Int} {ok : Nat → Bool} {v : VectorV} : ∀ {x : Nat}, v ∈ othN w n lan ok x ↔ ∃ y q, y < x ∧ n.ports.l[y]? = some q ∧ q.lan = lan ∧ ok y = true ∧ v = n.tells w y
  | 0 => by simp [othN]
  | x + 1 => by
    rw [othN, List.mem_append, othN_mem]
    constructor
    · rintro (⟨y, q, h1, h2⟩ | h)
      · exact ⟨y, q, by omega, h2⟩
      · split at h
        · rename_i q hq
          split at h
          · rename_i hc
            rw [List.mem_singleton] at h
            exact ⟨x, q, by omega, hq, hc.1, hc.2, h⟩
          · simp at h
        · simp at h
    · rintro ⟨y, q, h1, h2, h3, h4, h5⟩
      by_cases hy : y = x
      · subst hy
        right
        rw [h2]
        simp only [if_pos (And.intro h3 h4)]
        simpa using h5
      · exact .inl ⟨y, q, by omega, h2, h3, h4, h5⟩
theorem oth_mem {l : List NodeV} {h : List VectorV} {lan : Int} {i k : Nat} {v : VectorV} : ∀ {j : Nat}, v ∈ oth l h lan i k j ↔ ∃ (m : Nat) (n : NodeV) (w : VectorV) (y : Nat) (q : MemberV), m < j ∧ l[m]? = some n ∧ h[m]? = some w ∧ n.ports.l[y]? = some q ∧ q.lan = lan ∧ (m ≠ i ∨ y ≠ k) ∧ v = n.tells w y
  | 0 => by simp [oth]
  | j + 1 => by
    rw [oth, List.mem_append, oth_mem]
    constructor
    · rintro (⟨m, n, w, y, q, h1, h2⟩ | h')
      · exact ⟨m, n, w, y, q, by omega, h2⟩
      · split at h'
        · rename_i n w hn hw
          obtain ⟨y, q, h1, h2, h3, h4, h5⟩ := othN_mem.1 h'
          refine ⟨j, n, w, y, q, by omega, hn, hw, h2, h3, ?_, h5⟩
          simp at h4
          exact h4
        · simp at h'
    · rintro ⟨m, n, w, y, q, h1, h2, h3, h4, h5, h6, h7⟩
      by_cases hm : m = j
      · subst hm
        right
        rw [h2, h3]
        refine othN_mem.2 ⟨y, q, (List.getElem?_eq_some_iff.1 h4).1, h4, h5, ?_, h7⟩
        simp
        exact h6
      · exact .inl ⟨m, n, w, y, q, by omega, h2, h3, h4, h5, h6, h7⟩

abbrev OthSt := List VectorV × Nat × List Value
theorem flatV_app (l : List VectorV) (x : VectorV) (sp : List Value) : (l ++ [x]).flatMap VectorV.cells ++ sp = l.flatMap VectorV.cells ++ (x.cells ++ sp) := by simp
theorem flatV_one (x : VectorV) : [x].flatMap VectorV.cells = x.cells := by simp
theorem two {c0 : Chunk} {ty : TypeId} {X Y : List Value} (h : X = Y) : [.vals ty X, c0] = [.vals ty Y, c0] := by rw [h]

theorem others_b (s : SliceV NodeV) (hs' : SliceV VectorV) (i k : Nat) (ni : NodeV) (pk : MemberV) (g : G) (hs : NodesOk g s) (hv : VecsOk g hs') (hlen : s.l.length = hs'.l.length) (h12 : s.l.length ≤ 12) (h8 : ∀ n ∈ s.l, n.ports.l.length ≤ 8) (hi : s.l[i]? = some ni) (hk : ni.ports.l[k]? = some pk) :
    Meets Tryd.prog 54 [.v (.slice s.a s.l.length s.c), .v (.slice hs'.a hs'.l.length hs'.c), .v (.int .i64 i), .v (.int .i64 k)] [] g (fun o L' g' => (∃ (ys : List VectorV) (cap : Nat) (sp : List Value), o = .ret (grS 0 ys.length cap) ∧ L' = grL 43 ys.length (ys.flatMap VectorV.cells) sp ∧ grOk 21 ys.length cap (ys.flatMap VectorV.cells) sp ∧ (ys = oth s.l hs'.l pk.lan i k s.l.length ∧ ∀ v ∈ ys, v.ok g) ∧ G.le g g') ∨ False) := by
  refine meets_of mixedS Tryd.func54 (by kernel_rfl) x54_ok none ?_
  have hl1 := hs.len
  have hil : i < s.l.length := (List.getElem?_eq_some_iff.1 hi).1
  obtain ⟨R, hR⟩ : ∃ R, oth s.l hs'.l pk.lan i k s.l.length = R := ⟨_, rfl⟩
  rw [hR]
  obtain ⟨adi, ni', hai, hni', hati, hniok⟩ := hs.elem (fun _ => rfl) hil
  rw [hi] at hni'; cases hni'
  have hkl : k < ni.ports.l.length := (List.getElem?_eq_some_iff.1 hk).1
  obtain ⟨adk, pk', hak, hpk', hatk, -⟩ := hniok.2.elem (fun _ => rfl) hkl
  rw [hk] at hpk'; cases hpk'
  have hnl := hniok.2.len
  change LoopW _ _ _ _ _ _ _ _ _ _
  refine loop_gone ?_
  apply loop_rule [0] (α := Nat × OthSt) (fun x => [(16, .v (.int .i64 x.1)), (9, grS 0 x.2.1.length x.2.2.1)]) (fun x => [grC 43 x.2.1.length (x.2.1.flatMap VectorV.cells) x.2.2.2]) (fun _ => g)
    (fun x => x.1 ≤ s.l.length ∧ x.2.1 = oth s.l hs'.l pk.lan i k x.1 ∧ grOk 21 x.2.1.length x.2.2.1 (x.2.1.flatMap VectorV.cells) x.2.2.2 ∧ ∀ v ∈ x.2.1, v.ok g) (fun x => s.l.length - x.1) (0, [], 0, [])
  · rintro ⟨j, ys, cap, sp⟩
    cases ys <;> kernel_rfl
  · exact ⟨Nat.zero_le _, rfl, grOk.zero 21, fun v hv => by simp at hv⟩
  · exact ⟨rfl, rfl, trivial⟩
  · rfl
  · rfl
  rintro ⟨j, ys, cap, sp⟩ ⟨hj, hys, hgr, hok⟩
  have hj : j ≤ s.l.length := hj
  have hys : ys = oth s.l hs'.l pk.lan i k j := hys
  have hgr : grOk 21 ys.length cap (ys.flatMap VectorV.cells) sp := hgr
  have hok : ∀ v ∈ ys, v.ok g := hok
  rcases ys with _ | ⟨y0, ys⟩
  · skip
    refine bsplit_of (fun hlt => ?_) (fun hlt => ?_)
    · have hjl : j < s.l.length := by have := of_decide_eq_true hlt; omega
      obtain ⟨ad, n, ha, hn, hat, hnok⟩ := hs.elem (fun _ => rfl) hjl
      obtain ⟨aw, w, haw, hw, hatw, hwok⟩ := hv.elem (fun _ => rfl) (show j < hs'.l.length by omega)
      refine ⟨⟨by omega, by omega⟩, ad, ha, ?_⟩
      refine ⟨n.cells, rfl, hat, ?_⟩
      have hpl := hnok.2.len
      have hp8 := h8 n (List.mem_of_getElem? hn)
      obtain ⟨ok, hokd⟩ : ∃ ok : Nat → Bool, (fun x => !(j == i && x == k)) = ok := ⟨_, rfl⟩
      have hnx := oth_next (lan := pk.lan) (i := i) (k := k) hn hw
      rw [hokd] at hnx
      have hyl : (oth s.l hs'.l pk.lan i k j).length ≤ 96 := Nat.le_trans (oth_len h8 _ _ _ _ j) (by omega)
      change LoopW _ _ _ _ _ _ _ _ _ _
      apply loop_rule [0] (α := Nat × OthSt) (fun x => [(24, .v (.int .i64 x.1)), (9, grS 0 x.2.1.length x.2.2.1)]) (fun x => [grC 43 x.2.1.length (x.2.1.flatMap VectorV.cells) x.2.2.2, .cells 148 (n.cells.map .v)]) (fun _ => g)
        (fun x => x.1 ≤ n.ports.l.length ∧ x.2.1 = oth s.l hs'.l pk.lan i k j ++ othN w n pk.lan ok x.1 ∧ grOk 21 x.2.1.length x.2.2.1 (x.2.1.flatMap VectorV.cells) x.2.2.2 ∧ ∀ v ∈ x.2.1, v.ok g) (fun x => n.ports.l.length - x.1) (0, [], cap, sp)
      · rintro ⟨j, ys, cap, sp⟩
        cases ys <;> kernel_rfl
      · exact ⟨Nat.zero_le _, by show ([] : List VectorV) = _ ++ []; rw [List.append_nil]; exact hys, hgr, hok⟩
      · exact ⟨rfl, rfl, trivial⟩
      · rfl
      · rfl
      rintro ⟨x, ys, cap, sp⟩ ⟨hx, hys, hgr, hok⟩
      have hx : x ≤ n.ports.l.length := hx
      have hys : ys = oth s.l hs'.l pk.lan i k j ++ othN w n pk.lan ok x := hys
      have hgr : grOk 21 ys.length cap (ys.flatMap VectorV.cells) sp := hgr
      have hok : ∀ v ∈ ys, v.ok g := hok
      have hyl2 : ys.length ≤ 104 := by rw [hys, List.length_append]; have := othN_len w n pk.lan ok x; omega
      rcases ys with _ | ⟨y0, ys⟩
      · skip
        refine bsplit_of (fun hlt => ?_) (fun hlt => ?_)
        · have hxl : x < n.ports.l.length := by have := of_decide_eq_true hlt; omega
          obtain ⟨aq, q, haq, hq, hatq, hqok⟩ := hnok.2.elem (fun _ => rfl) hxl
          refine ⟨⟨by omega, by omega⟩, aq, haq, ?_⟩
          refine ⟨q.cells, rfl, hatq, ?_⟩
          refine ⟨⟨by omega, by omega⟩, adi, hai, ?_⟩
          refine ⟨[.slice ni.ports.a ni.ports.l.length ni.ports.c], rfl, hati.sub 8 1 (Nat.le_of_ble_eq_true rfl), ?_⟩
          refine ⟨⟨by omega, by omega⟩, adk, hak, ?_⟩
          refine ⟨[.int .i64 pk.lan], rfl, hatk.sub 3 1 (Nat.le_of_ble_eq_true rfl), ?_⟩
          refine bsplit_of (fun (h1 : (q.lan == pk.lan) = true) => ?_) (fun (h1 : (q.lan == pk.lan) = false) => ?_)
          · have h1 : decide (q.lan = pk.lan) = true := by simpa using h1
            refine bsplit_of (fun (h2 : ((j : Int) != (i : Int)) = true) => ?_) (fun (h2 : ((j : Int) != (i : Int)) = false) => ?_)
            · skip
              have htv := tells_c n w (x : Int) g hnok
              have hnew : oth s.l hs'.l pk.lan i k j ++ othN w n pk.lan ok (x + 1) = ([] : List VectorV) ++ [n.tells w x] := by
                rw [othN_yes hq ⟨of_decide_eq_true h1, (by rw [← hokd]; simp at h2; simp; exact .inl (by omega))⟩, ← List.append_assoc, hys]
              have htok := tells_ok hnok hwok (x : Int)
              obtain ⟨tv, htve⟩ : ∃ tv, n.tells w (x : Int) = tv := ⟨_, rfl⟩
              rw [htve] at htv hnew htok
              refine ⟨⟨by omega, by omega⟩, aw, haw, ?_⟩
              refine ⟨w.cells, rfl, hatw, ?_⟩
              refine htv.call rfl rfl rfl ?_
              refine ⟨by show 0 + 1 * 21 ≤ 21; decide, fun u hu => vec_one tv u (List.mem_of_mem_drop (List.mem_of_mem_take hu)), ?_⟩
              refine ⟨by decide, fun cap2 sp2 k1 k2 k3 => ?_⟩
              refine ⟨(x + 1, [tv], cap2, sp2), ⟨hxl, hnew.symm, by rw [flatV_one]; exact gr_first rfl k1 k2 k3, fun v hv => by rw [List.mem_singleton.1 hv]; exact htok⟩, by show n.ports.l.length - (x + 1) < n.ports.l.length - x; omega, [4, 1], rfl, ⟨vi (show IntKind.i64.wrap ((x : Int) + 1) = ((x + 1 : Nat) : Int) from by rw [wrap_id (by omega) (by omega)]; omega), rfl, trivial⟩, rfl, rfl, rfl, rfl⟩
            · refine bsplit_of (fun (h3 : ((x : Int) != (k : Int)) = true) => ?_) (fun (h3 : ((x : Int) != (k : Int)) = false) => ?_)
              · skip
                have htv := tells_c n w (x : Int) g hnok
                have hnew : oth s.l hs'.l pk.lan i k j ++ othN w n pk.lan ok (x + 1) = ([] : List VectorV) ++ [n.tells w x] := by
                  rw [othN_yes hq ⟨of_decide_eq_true h1, (by rw [← hokd]; simp at h3; simp; exact .inr (by omega))⟩, ← List.append_assoc, hys]
                have htok := tells_ok hnok hwok (x : Int)
                obtain ⟨tv, htve⟩ : ∃ tv, n.tells w (x : Int) = tv := ⟨_, rfl⟩
                rw [htve] at htv hnew htok
                refine ⟨⟨by omega, by omega⟩, aw, haw, ?_⟩
                refine ⟨w.cells, rfl, hatw, ?_⟩
                refine htv.call rfl rfl rfl ?_
                refine ⟨by show 0 + 1 * 21 ≤ 21; decide, fun u hu => vec_one tv u (List.mem_of_mem_drop (List.mem_of_mem_take hu)), ?_⟩
                refine ⟨by decide, fun cap2 sp2 k1 k2 k3 => ?_⟩
                refine ⟨(x + 1, [tv], cap2, sp2), ⟨hxl, hnew.symm, by rw [flatV_one]; exact gr_first rfl k1 k2 k3, fun v hv => by rw [List.mem_singleton.1 hv]; exact htok⟩, by show n.ports.l.length - (x + 1) < n.ports.l.length - x; omega, [4, 1], rfl, ⟨vi (show IntKind.i64.wrap ((x : Int) + 1) = ((x + 1 : Nat) : Int) from by rw [wrap_id (by omega) (by omega)]; omega), rfl, trivial⟩, rfl, rfl, rfl, rfl⟩
              · skip
                exact ⟨(x + 1, [], cap, sp), ⟨hxl, by show ([] : List VectorV) = _ ++ othN w n pk.lan ok (x + 1); rw [othN_no hq (by rw [← hokd]; simp at h2 h3; rintro ⟨_, hh⟩; simp at hh; omega)]; exact hys, hgr, hok⟩, by show n.ports.l.length - (x + 1) < n.ports.l.length - x; omega, [0, 1], rfl, ⟨vi (show IntKind.i64.wrap ((x : Int) + 1) = ((x + 1 : Nat) : Int) from by rw [wrap_id (by omega) (by omega)]; omega), rfl, trivial⟩, rfl, rfl, rfl, rfl⟩
          · skip
            exact ⟨(x + 1, [], cap, sp), ⟨hxl, by show ([] : List VectorV) = _ ++ othN w n pk.lan ok (x + 1); rw [othN_no hq (by simp at h1; exact fun hh => h1 hh.1)]; exact hys, hgr, hok⟩, by show n.ports.l.length - (x + 1) < n.ports.l.length - x; omega, [0, 1], rfl, ⟨vi (show IntKind.i64.wrap ((x : Int) + 1) = ((x + 1 : Nat) : Int) from by rw [wrap_id (by omega) (by omega)]; omega), rfl, trivial⟩, rfl, rfl, rfl, rfl⟩
        · have hxe : x = n.ports.l.length := by have := of_decide_eq_false hlt; omega
          subst hxe
          exact ⟨(j + 1, [], cap, sp), ⟨hjl, by show ([] : List VectorV) = oth s.l hs'.l pk.lan i k (j + 1); rw [hnx]; exact hys, hgr, hok⟩, by show s.l.length - (j + 1) < s.l.length - j; omega, [0], rfl, ⟨vi (show IntKind.i64.wrap ((j : Int) + 1) = ((j + 1 : Nat) : Int) from by rw [wrap_id (by omega) (by omega)]; omega), rfl, trivial⟩, rfl, rfl, rfl, rfl⟩
      · skip
        refine bsplit_of (fun hlt => ?_) (fun hlt => ?_)
        · have hxl : x < n.ports.l.length := by have := of_decide_eq_true hlt; omega
          obtain ⟨aq, q, haq, hq, hatq, hqok⟩ := hnok.2.elem (fun _ => rfl) hxl
          refine ⟨⟨by omega, by omega⟩, aq, haq, ?_⟩
          refine ⟨q.cells, rfl, hatq, ?_⟩
          refine ⟨⟨by omega, by omega⟩, adi, hai, ?_⟩
          refine ⟨[.slice ni.ports.a ni.ports.l.length ni.ports.c], rfl, hati.sub 8 1 (Nat.le_of_ble_eq_true rfl), ?_⟩
          refine ⟨⟨by omega, by omega⟩, adk, hak, ?_⟩
          refine ⟨[.int .i64 pk.lan], rfl, hatk.sub 3 1 (Nat.le_of_ble_eq_true rfl), ?_⟩
          refine bsplit_of (fun (h1 : (q.lan == pk.lan) = true) => ?_) (fun (h1 : (q.lan == pk.lan) = false) => ?_)
          · have h1 : decide (q.lan = pk.lan) = true := by simpa using h1
            refine bsplit_of (fun (h2 : ((j : Int) != (i : Int)) = true) => ?_) (fun (h2 : ((j : Int) != (i : Int)) = false) => ?_)
            · skip
              have htv := tells_c n w (x : Int) g hnok
              have hnew : oth s.l hs'.l pk.lan i k j ++ othN w n pk.lan ok (x + 1) = (y0 :: ys) ++ [n.tells w x] := by
                rw [othN_yes hq ⟨of_decide_eq_true h1, (by rw [← hokd]; simp at h2; simp; exact .inl (by omega))⟩, ← List.append_assoc, hys]
              have htok := tells_ok hnok hwok (x : Int)
              obtain ⟨tv, htve⟩ : ∃ tv, n.tells w (x : Int) = tv := ⟨_, rfl⟩
              rw [htve] at htv hnew htok
              have hok2 : ∀ v ∈ (y0 :: ys) ++ [tv], v.ok g := fun v hv => by
                rcases List.mem_append.1 hv with hv | hv
                · exact hok v hv
                · rw [List.mem_singleton.1 hv]; exact htok
              refine ⟨⟨by omega, by omega⟩, aw, haw, ?_⟩
              refine ⟨w.cells, rfl, hatw, ?_⟩
              refine htv.call rfl rfl rfl ?_
              have g1 := gr_bounds hgr
              refine ⟨by show 0 + 1 * 21 ≤ 21; decide, fun u hu => vec_one tv u (List.mem_of_mem_drop (List.mem_of_mem_take hu)), ?_⟩
              refine ⟨(y0 :: ys).flatMap VectorV.cells, sp, rfl, g1.1, ⟨g1.2.1, g1.2.2.1, g1.2.2.2⟩, by simp at hyl2; omega, fun cap2 sp2 k1 k2 k3 => ?_⟩
              have hl2 : ((y0 :: ys) ++ [tv]).length = ys.length + 1 + 1 := by simp
              have hgr2 : grOk 21 ((y0 :: ys) ++ [tv]).length cap2 (((y0 :: ys) ++ [tv]).flatMap VectorV.cells) sp2 := by
                rw [hl2, List.flatMap_append, flatV_one]
                exact gr_next hgr rfl k1 k2 k3
              refine ⟨(x + 1, y0 :: (ys ++ [tv]), cap2, sp2), ⟨hxl, hnew.symm, hgr2, hok2⟩, by show n.ports.l.length - (x + 1) < n.ports.l.length - x; omega, [4, 1], rfl, ⟨vi (show IntKind.i64.wrap ((x : Int) + 1) = ((x + 1 : Nat) : Int) from by rw [wrap_id (by omega) (by omega)]; omega), (show SV.slc 4 0 (ys.length + 1 + 1) cap2 = SV.slc 4 0 ((ys ++ [tv]).length + 1) cap2 from by rw [List.length_append]; rfl), trivial⟩, two (show (y0 :: ys).flatMap VectorV.cells ++ (tv.cells ++ sp2) = (y0 :: (ys ++ [tv])).flatMap VectorV.cells ++ sp2 from by simp), rfl, rfl, rfl⟩
            · refine bsplit_of (fun (h3 : ((x : Int) != (k : Int)) = true) => ?_) (fun (h3 : ((x : Int) != (k : Int)) = false) => ?_)
              · skip
                have htv := tells_c n w (x : Int) g hnok
                have hnew : oth s.l hs'.l pk.lan i k j ++ othN w n pk.lan ok (x + 1) = (y0 :: ys) ++ [n.tells w x] := by
                  rw [othN_yes hq ⟨of_decide_eq_true h1, (by rw [← hokd]; simp at h3; simp; exact .inr (by omega))⟩, ← List.append_assoc, hys]
                have htok := tells_ok hnok hwok (x : Int)
                obtain ⟨tv, htve⟩ : ∃ tv, n.tells w (x : Int) = tv := ⟨_, rfl⟩
                rw [htve] at htv hnew htok
                have hok2 : ∀ v ∈ (y0 :: ys) ++ [tv], v.ok g := fun v hv => by
                  rcases List.mem_append.1 hv with hv | hv
                  · exact hok v hv
                  · rw [List.mem_singleton.1 hv]; exact htok
                refine ⟨⟨by omega, by omega⟩, aw, haw, ?_⟩
                refine ⟨w.cells, rfl, hatw, ?_⟩
                refine htv.call rfl rfl rfl ?_
                have g1 := gr_bounds hgr
                refine ⟨by show 0 + 1 * 21 ≤ 21; decide, fun u hu => vec_one tv u (List.mem_of_mem_drop (List.mem_of_mem_take hu)), ?_⟩
                refine ⟨(y0 :: ys).flatMap VectorV.cells, sp, rfl, g1.1, ⟨g1.2.1, g1.2.2.1, g1.2.2.2⟩, by simp at hyl2; omega, fun cap2 sp2 k1 k2 k3 => ?_⟩
                have hl2 : ((y0 :: ys) ++ [tv]).length = ys.length + 1 + 1 := by simp
                have hgr2 : grOk 21 ((y0 :: ys) ++ [tv]).length cap2 (((y0 :: ys) ++ [tv]).flatMap VectorV.cells) sp2 := by
                  rw [hl2, List.flatMap_append, flatV_one]
                  exact gr_next hgr rfl k1 k2 k3
                refine ⟨(x + 1, y0 :: (ys ++ [tv]), cap2, sp2), ⟨hxl, hnew.symm, hgr2, hok2⟩, by show n.ports.l.length - (x + 1) < n.ports.l.length - x; omega, [4, 1], rfl, ⟨vi (show IntKind.i64.wrap ((x : Int) + 1) = ((x + 1 : Nat) : Int) from by rw [wrap_id (by omega) (by omega)]; omega), (show SV.slc 4 0 (ys.length + 1 + 1) cap2 = SV.slc 4 0 ((ys ++ [tv]).length + 1) cap2 from by rw [List.length_append]; rfl), trivial⟩, two (show (y0 :: ys).flatMap VectorV.cells ++ (tv.cells ++ sp2) = (y0 :: (ys ++ [tv])).flatMap VectorV.cells ++ sp2 from by simp), rfl, rfl, rfl⟩
              · skip
                exact ⟨(x + 1, (y0 :: ys), cap, sp), ⟨hxl, by show ((y0 :: ys) : List VectorV) = _ ++ othN w n pk.lan ok (x + 1); rw [othN_no hq (by rw [← hokd]; simp at h2 h3; rintro ⟨_, hh⟩; simp at hh; omega)]; exact hys, hgr, hok⟩, by show n.ports.l.length - (x + 1) < n.ports.l.length - x; omega, [0, 1], rfl, ⟨vi (show IntKind.i64.wrap ((x : Int) + 1) = ((x + 1 : Nat) : Int) from by rw [wrap_id (by omega) (by omega)]; omega), rfl, trivial⟩, rfl, rfl, rfl, rfl⟩
          · skip
            exact ⟨(x + 1, (y0 :: ys), cap, sp), ⟨hxl, by show ((y0 :: ys) : List VectorV) = _ ++ othN w n pk.lan ok (x + 1); rw [othN_no hq (by simp at h1; exact fun hh => h1 hh.1)]; exact hys, hgr, hok⟩, by show n.ports.l.length - (x + 1) < n.ports.l.length - x; omega, [0, 1], rfl, ⟨vi (show IntKind.i64.wrap ((x : Int) + 1) = ((x + 1 : Nat) : Int) from by rw [wrap_id (by omega) (by omega)]; omega), rfl, trivial⟩, rfl, rfl, rfl, rfl⟩
        · have hxe : x = n.ports.l.length := by have := of_decide_eq_false hlt; omega
          subst hxe
          exact ⟨(j + 1, (y0 :: ys), cap, sp), ⟨hjl, by show ((y0 :: ys) : List VectorV) = oth s.l hs'.l pk.lan i k (j + 1); rw [hnx]; exact hys, hgr, hok⟩, by show s.l.length - (j + 1) < s.l.length - j; omega, [0], rfl, ⟨vi (show IntKind.i64.wrap ((j : Int) + 1) = ((j + 1 : Nat) : Int) from by rw [wrap_id (by omega) (by omega)]; omega), rfl, trivial⟩, rfl, rfl, rfl, rfl⟩
    · have hje : j = s.l.length := by have := of_decide_eq_false hlt; omega
      subst hje
      exact ⟨[], .inl ⟨[], 0, [], rfl, rfl, grOk.zero 21, ⟨hys.trans hR, fun v hv => by simp at hv⟩, fun _ _ h => h⟩⟩
  · skip
    refine bsplit_of (fun hlt => ?_) (fun hlt => ?_)
    · have hjl : j < s.l.length := by have := of_decide_eq_true hlt; omega
      obtain ⟨ad, n, ha, hn, hat, hnok⟩ := hs.elem (fun _ => rfl) hjl
      obtain ⟨aw, w, haw, hw, hatw, hwok⟩ := hv.elem (fun _ => rfl) (show j < hs'.l.length by omega)
      refine ⟨⟨by omega, by omega⟩, ad, ha, ?_⟩
      refine ⟨n.cells, rfl, hat, ?_⟩
      have hpl := hnok.2.len
      have hp8 := h8 n (List.mem_of_getElem? hn)
      obtain ⟨ok, hokd⟩ : ∃ ok : Nat → Bool, (fun x => !(j == i && x == k)) = ok := ⟨_, rfl⟩
      have hnx := oth_next (lan := pk.lan) (i := i) (k := k) hn hw
      rw [hokd] at hnx
      have hyl : (oth s.l hs'.l pk.lan i k j).length ≤ 96 := Nat.le_trans (oth_len h8 _ _ _ _ j) (by omega)
      change LoopW _ _ _ _ _ _ _ _ _ _
      apply loop_rule [0] (α := Nat × OthSt) (fun x => [(24, .v (.int .i64 x.1)), (9, grS 0 x.2.1.length x.2.2.1)]) (fun x => [grC 43 x.2.1.length (x.2.1.flatMap VectorV.cells) x.2.2.2, .cells 148 (n.cells.map .v)]) (fun _ => g)
        (fun x => x.1 ≤ n.ports.l.length ∧ x.2.1 = oth s.l hs'.l pk.lan i k j ++ othN w n pk.lan ok x.1 ∧ grOk 21 x.2.1.length x.2.2.1 (x.2.1.flatMap VectorV.cells) x.2.2.2 ∧ ∀ v ∈ x.2.1, v.ok g) (fun x => n.ports.l.length - x.1) (0, (y0 :: ys), cap, sp)
      · rintro ⟨j, ys, cap, sp⟩
        cases ys <;> kernel_rfl
      · exact ⟨Nat.zero_le _, by show ((y0 :: ys) : List VectorV) = _ ++ []; rw [List.append_nil]; exact hys, hgr, hok⟩
      · exact ⟨rfl, rfl, trivial⟩
      · rfl
      · rfl
      rintro ⟨x, ys, cap, sp⟩ ⟨hx, hys, hgr, hok⟩
      have hx : x ≤ n.ports.l.length := hx
      have hys : ys = oth s.l hs'.l pk.lan i k j ++ othN w n pk.lan ok x := hys
      have hgr : grOk 21 ys.length cap (ys.flatMap VectorV.cells) sp := hgr
      have hok : ∀ v ∈ ys, v.ok g := hok
      have hyl2 : ys.length ≤ 104 := by rw [hys, List.length_append]; have := othN_len w n pk.lan ok x; omega
      rcases ys with _ | ⟨y0, ys⟩
      · skip
        refine bsplit_of (fun hlt => ?_) (fun hlt => ?_)
        · have hxl : x < n.ports.l.length := by have := of_decide_eq_true hlt; omega
          obtain ⟨aq, q, haq, hq, hatq, hqok⟩ := hnok.2.elem (fun _ => rfl) hxl
          refine ⟨⟨by omega, by omega⟩, aq, haq, ?_⟩
          refine ⟨q.cells, rfl, hatq, ?_⟩
          refine ⟨⟨by omega, by omega⟩, adi, hai, ?_⟩
          refine ⟨[.slice ni.ports.a ni.ports.l.length ni.ports.c], rfl, hati.sub 8 1 (Nat.le_of_ble_eq_true rfl), ?_⟩
          refine ⟨⟨by omega, by omega⟩, adk, hak, ?_⟩
          refine ⟨[.int .i64 pk.lan], rfl, hatk.sub 3 1 (Nat.le_of_ble_eq_true rfl), ?_⟩
          refine bsplit_of (fun (h1 : (q.lan == pk.lan) = true) => ?_) (fun (h1 : (q.lan == pk.lan) = false) => ?_)
          · have h1 : decide (q.lan = pk.lan) = true := by simpa using h1
            refine bsplit_of (fun (h2 : ((j : Int) != (i : Int)) = true) => ?_) (fun (h2 : ((j : Int) != (i : Int)) = false) => ?_)
            · skip
              have htv := tells_c n w (x : Int) g hnok
              have hnew : oth s.l hs'.l pk.lan i k j ++ othN w n pk.lan ok (x + 1) = ([] : List VectorV) ++ [n.tells w x] := by
                rw [othN_yes hq ⟨of_decide_eq_true h1, (by rw [← hokd]; simp at h2; simp; exact .inl (by omega))⟩, ← List.append_assoc, hys]
              have htok := tells_ok hnok hwok (x : Int)
              obtain ⟨tv, htve⟩ : ∃ tv, n.tells w (x : Int) = tv := ⟨_, rfl⟩
              rw [htve] at htv hnew htok
              refine ⟨⟨by omega, by omega⟩, aw, haw, ?_⟩
              refine ⟨w.cells, rfl, hatw, ?_⟩
              refine htv.call rfl rfl rfl ?_
              refine ⟨by show 0 + 1 * 21 ≤ 21; decide, fun u hu => vec_one tv u (List.mem_of_mem_drop (List.mem_of_mem_take hu)), ?_⟩
              refine ⟨by decide, fun cap2 sp2 k1 k2 k3 => ?_⟩
              refine ⟨(x + 1, [tv], cap2, sp2), ⟨hxl, hnew.symm, by rw [flatV_one]; exact gr_first rfl k1 k2 k3, fun v hv => by rw [List.mem_singleton.1 hv]; exact htok⟩, by show n.ports.l.length - (x + 1) < n.ports.l.length - x; omega, [4, 1], rfl, ⟨vi (show IntKind.i64.wrap ((x : Int) + 1) = ((x + 1 : Nat) : Int) from by rw [wrap_id (by omega) (by omega)]; omega), rfl, trivial⟩, rfl, rfl, rfl, rfl⟩
            · refine bsplit_of (fun (h3 : ((x : Int) != (k : Int)) = true) => ?_) (fun (h3 : ((x : Int) != (k : Int)) = false) => ?_)
              · skip
                have htv := tells_c n w (x : Int) g hnok
                have hnew : oth s.l hs'.l pk.lan i k j ++ othN w n pk.lan ok (x + 1) = ([] : List VectorV) ++ [n.tells w x] := by
                  rw [othN_yes hq ⟨of_decide_eq_true h1, (by rw [← hokd]; simp at h3; simp; exact .inr (by omega))⟩, ← List.append_assoc, hys]
                have htok := tells_ok hnok hwok (x : Int)
                obtain ⟨tv, htve⟩ : ∃ tv, n.tells w (x : Int) = tv := ⟨_, rfl⟩
                rw [htve] at htv hnew htok
                refine ⟨⟨by omega, by omega⟩, aw, haw, ?_⟩
                refine ⟨w.cells, rfl, hatw, ?_⟩
                refine htv.call rfl rfl rfl ?_
                refine ⟨by show 0 + 1 * 21 ≤ 21; decide, fun u hu => vec_one tv u (List.mem_of_mem_drop (List.mem_of_mem_take hu)), ?_⟩
                refine ⟨by decide, fun cap2 sp2 k1 k2 k3 => ?_⟩
                refine ⟨(x + 1, [tv], cap2, sp2), ⟨hxl, hnew.symm, by rw [flatV_one]; exact gr_first rfl k1 k2 k3, fun v hv => by rw [List.mem_singleton.1 hv]; exact htok⟩, by show n.ports.l.length - (x + 1) < n.ports.l.length - x; omega, [4, 1], rfl, ⟨vi (show IntKind.i64.wrap ((x : Int) + 1) = ((x + 1 : Nat) : Int) from by rw [wrap_id (by omega) (by omega)]; omega), rfl, trivial⟩, rfl, rfl, rfl, rfl⟩
              · skip
                exact ⟨(x + 1, [], cap, sp), ⟨hxl, by show ([] : List VectorV) = _ ++ othN w n pk.lan ok (x + 1); rw [othN_no hq (by rw [← hokd]; simp at h2 h3; rintro ⟨_, hh⟩; simp at hh; omega)]; exact hys, hgr, hok⟩, by show n.ports.l.length - (x + 1) < n.ports.l.length - x; omega, [0, 1], rfl, ⟨vi (show IntKind.i64.wrap ((x : Int) + 1) = ((x + 1 : Nat) : Int) from by rw [wrap_id (by omega) (by omega)]; omega), rfl, trivial⟩, rfl, rfl, rfl, rfl⟩
          · skip
            exact ⟨(x + 1, [], cap, sp), ⟨hxl, by show ([] : List VectorV) = _ ++ othN w n pk.lan ok (x + 1); rw [othN_no hq (by simp at h1; exact fun hh => h1 hh.1)]; exact hys, hgr, hok⟩, by show n.ports.l.length - (x + 1) < n.ports.l.length - x; omega, [0, 1], rfl, ⟨vi (show IntKind.i64.wrap ((x : Int) + 1) = ((x + 1 : Nat) : Int) from by rw [wrap_id (by omega) (by omega)]; omega), rfl, trivial⟩, rfl, rfl, rfl, rfl⟩
        · have hxe : x = n.ports.l.length := by have := of_decide_eq_false hlt; omega
          subst hxe
          exact ⟨(j + 1, [], cap, sp), ⟨hjl, by show ([] : List VectorV) = oth s.l hs'.l pk.lan i k (j + 1); rw [hnx]; exact hys, hgr, hok⟩, by show s.l.length - (j + 1) < s.l.length - j; omega, [0], rfl, ⟨vi (show IntKind.i64.wrap ((j : Int) + 1) = ((j + 1 : Nat) : Int) from by rw [wrap_id (by omega) (by omega)]; omega), rfl, trivial⟩, rfl, rfl, rfl, rfl⟩
      · skip
        refine bsplit_of (fun hlt => ?_) (fun hlt => ?_)
        · have hxl : x < n.ports.l.length := by have := of_decide_eq_true hlt; omega
          obtain ⟨aq, q, haq, hq, hatq, hqok⟩ := hnok.2.elem (fun _ => rfl) hxl
          refine ⟨⟨by omega, by omega⟩, aq, haq, ?_⟩
          refine ⟨q.cells, rfl, hatq, ?_⟩
          refine ⟨⟨by omega, by omega⟩, adi, hai, ?_⟩
          refine ⟨[.slice ni.ports.a ni.ports.l.length ni.ports.c], rfl, hati.sub 8 1 (Nat.le_of_ble_eq_true rfl), ?_⟩
          refine ⟨⟨by omega, by omega⟩, adk, hak, ?_⟩
          refine ⟨[.int .i64 pk.lan], rfl, hatk.sub 3 1 (Nat.le_of_ble_eq_true rfl), ?_⟩
          refine bsplit_of (fun (h1 : (q.lan == pk.lan) = true) => ?_) (fun (h1 : (q.lan == pk.lan) = false) => ?_)
          · have h1 : decide (q.lan = pk.lan) = true := by simpa using h1
            refine bsplit_of (fun (h2 : ((j : Int) != (i : Int)) = true) => ?_) (fun (h2 : ((j : Int) != (i : Int)) = false) => ?_)
            · skip
              have htv := tells_c n w (x : Int) g hnok
              have hnew : oth s.l hs'.l pk.lan i k j ++ othN w n pk.lan ok (x + 1) = (y0 :: ys) ++ [n.tells w x] := by
                rw [othN_yes hq ⟨of_decide_eq_true h1, (by rw [← hokd]; simp at h2; simp; exact .inl (by omega))⟩, ← List.append_assoc, hys]
              have htok := tells_ok hnok hwok (x : Int)
              obtain ⟨tv, htve⟩ : ∃ tv, n.tells w (x : Int) = tv := ⟨_, rfl⟩
              rw [htve] at htv hnew htok
              have hok2 : ∀ v ∈ (y0 :: ys) ++ [tv], v.ok g := fun v hv => by
                rcases List.mem_append.1 hv with hv | hv
                · exact hok v hv
                · rw [List.mem_singleton.1 hv]; exact htok
              refine ⟨⟨by omega, by omega⟩, aw, haw, ?_⟩
              refine ⟨w.cells, rfl, hatw, ?_⟩
              refine htv.call rfl rfl rfl ?_
              have g1 := gr_bounds hgr
              refine ⟨by show 0 + 1 * 21 ≤ 21; decide, fun u hu => vec_one tv u (List.mem_of_mem_drop (List.mem_of_mem_take hu)), ?_⟩
              refine ⟨(y0 :: ys).flatMap VectorV.cells, sp, rfl, g1.1, ⟨g1.2.1, g1.2.2.1, g1.2.2.2⟩, by simp at hyl2; omega, fun cap2 sp2 k1 k2 k3 => ?_⟩
              have hl2 : ((y0 :: ys) ++ [tv]).length = ys.length + 1 + 1 := by simp
              have hgr2 : grOk 21 ((y0 :: ys) ++ [tv]).length cap2 (((y0 :: ys) ++ [tv]).flatMap VectorV.cells) sp2 := by
                rw [hl2, List.flatMap_append, flatV_one]
                exact gr_next hgr rfl k1 k2 k3
              refine ⟨(x + 1, y0 :: (ys ++ [tv]), cap2, sp2), ⟨hxl, hnew.symm, hgr2, hok2⟩, by show n.ports.l.length - (x + 1) < n.ports.l.length - x; omega, [4, 1], rfl, ⟨vi (show IntKind.i64.wrap ((x : Int) + 1) = ((x + 1 : Nat) : Int) from by rw [wrap_id (by omega) (by omega)]; omega), (show SV.slc 4 0 (ys.length + 1 + 1) cap2 = SV.slc 4 0 ((ys ++ [tv]).length + 1) cap2 from by rw [List.length_append]; rfl), trivial⟩, two (show (y0 :: ys).flatMap VectorV.cells ++ (tv.cells ++ sp2) = (y0 :: (ys ++ [tv])).flatMap VectorV.cells ++ sp2 from by simp), rfl, rfl, rfl⟩
            · refine bsplit_of (fun (h3 : ((x : Int) != (k : Int)) = true) => ?_) (fun (h3 : ((x : Int) != (k : Int)) = false) => ?_)
              · skip
                have htv := tells_c n w (x : Int) g hnok
                have hnew : oth s.l hs'.l pk.lan i k j ++ othN w n pk.lan ok (x + 1) = (y0 :: ys) ++ [n.tells w x] := by
                  rw [othN_yes hq ⟨of_decide_eq_true h1, (by rw [← hokd]; simp at h3; simp; exact .inr (by omega))⟩, ← List.append_assoc, hys]
                have htok := tells_ok hnok hwok (x : Int)
                obtain ⟨tv, htve⟩ : ∃ tv, n.tells w (x : Int) = tv := ⟨_, rfl⟩
                rw [htve] at htv hnew htok
                have hok2 : ∀ v ∈ (y0 :: ys) ++ [tv], v.ok g := fun v hv => by
                  rcases List.mem_append.1 hv with hv | hv
                  · exact hok v hv
                  · rw [List.mem_singleton.1 hv]; exact htok
                refine ⟨⟨by omega, by omega⟩, aw, haw, ?_⟩
                refine ⟨w.cells, rfl, hatw, ?_⟩
                refine htv.call rfl rfl rfl ?_
                have g1 := gr_bounds hgr
                refine ⟨by show 0 + 1 * 21 ≤ 21; decide, fun u hu => vec_one tv u (List.mem_of_mem_drop (List.mem_of_mem_take hu)), ?_⟩
                refine ⟨(y0 :: ys).flatMap VectorV.cells, sp, rfl, g1.1, ⟨g1.2.1, g1.2.2.1, g1.2.2.2⟩, by simp at hyl2; omega, fun cap2 sp2 k1 k2 k3 => ?_⟩
                have hl2 : ((y0 :: ys) ++ [tv]).length = ys.length + 1 + 1 := by simp
                have hgr2 : grOk 21 ((y0 :: ys) ++ [tv]).length cap2 (((y0 :: ys) ++ [tv]).flatMap VectorV.cells) sp2 := by
                  rw [hl2, List.flatMap_append, flatV_one]
                  exact gr_next hgr rfl k1 k2 k3
                refine ⟨(x + 1, y0 :: (ys ++ [tv]), cap2, sp2), ⟨hxl, hnew.symm, hgr2, hok2⟩, by show n.ports.l.length - (x + 1) < n.ports.l.length - x; omega, [4, 1], rfl, ⟨vi (show IntKind.i64.wrap ((x : Int) + 1) = ((x + 1 : Nat) : Int) from by rw [wrap_id (by omega) (by omega)]; omega), (show SV.slc 4 0 (ys.length + 1 + 1) cap2 = SV.slc 4 0 ((ys ++ [tv]).length + 1) cap2 from by rw [List.length_append]; rfl), trivial⟩, two (show (y0 :: ys).flatMap VectorV.cells ++ (tv.cells ++ sp2) = (y0 :: (ys ++ [tv])).flatMap VectorV.cells ++ sp2 from by simp), rfl, rfl, rfl⟩
              · skip
                exact ⟨(x + 1, (y0 :: ys), cap, sp), ⟨hxl, by show ((y0 :: ys) : List VectorV) = _ ++ othN w n pk.lan ok (x + 1); rw [othN_no hq (by rw [← hokd]; simp at h2 h3; rintro ⟨_, hh⟩; simp at hh; omega)]; exact hys, hgr, hok⟩, by show n.ports.l.length - (x + 1) < n.ports.l.length - x; omega, [0, 1], rfl, ⟨vi (show IntKind.i64.wrap ((x : Int) + 1) = ((x + 1 : Nat) : Int) from by rw [wrap_id (by omega) (by omega)]; omega), rfl, trivial⟩, rfl, rfl, rfl, rfl⟩
          · skip
            exact ⟨(x + 1, (y0 :: ys), cap, sp), ⟨hxl, by show ((y0 :: ys) : List VectorV) = _ ++ othN w n pk.lan ok (x + 1); rw [othN_no hq (by simp at h1; exact fun hh => h1 hh.1)]; exact hys, hgr, hok⟩, by show n.ports.l.length - (x + 1) < n.ports.l.length - x; omega, [0, 1], rfl, ⟨vi (show IntKind.i64.wrap ((x : Int) + 1) = ((x + 1 : Nat) : Int) from by rw [wrap_id (by omega) (by omega)]; omega), rfl, trivial⟩, rfl, rfl, rfl, rfl⟩
        · have hxe : x = n.ports.l.length := by have := of_decide_eq_false hlt; omega
          subst hxe
          exact ⟨(j + 1, (y0 :: ys), cap, sp), ⟨hjl, by show ((y0 :: ys) : List VectorV) = oth s.l hs'.l pk.lan i k (j + 1); rw [hnx]; exact hys, hgr, hok⟩, by show s.l.length - (j + 1) < s.l.length - j; omega, [0], rfl, ⟨vi (show IntKind.i64.wrap ((j : Int) + 1) = ((j + 1 : Nat) : Int) from by rw [wrap_id (by omega) (by omega)]; omega), rfl, trivial⟩, rfl, rfl, rfl, rfl⟩
    · have hje : j = s.l.length := by have := of_decide_eq_false hlt; omega
      subst hje
      exact ⟨[0], .inl ⟨y0 :: ys, cap, sp, rfl, rfl, hgr, ⟨hys.trans hR, hok⟩, fun _ _ h => h⟩⟩
end Go.Proofs.YtedfohdgigbhiaaDoor
