/- ref.NetCheck, law.wide; the law TreeChecks. Conditions: of the law: the variable errors.errorType is as laid. -/
import Derived.Test.YtedfohdgigbhiaaDoorTreeKC
import Derived.Test.YtedfohdgigbhiaaDoorXgdb
import Derived.Test.YtedfohdgigbhiaaDoorBaseD
namespace Go.Proofs.YtedfohdgigbhiaaDoor
open Go.Sx Go.Lib
set_option maxRecDepth 100000
set_option maxHeartbeats 8000000
attribute [local irreducible] Meets
attribute [local instance] Classical.propDecidable

def portK (p : PortV) : Value := .agg #[.int .i64 p.prio, .int .i64 p.no]
theorem portKL : KL Tryd.prog 41 portK :=
  KL_two (a := PortV.prio) (b := PortV.no) (f0 := ⟨"Prio", 3, 0, false, "", "", 0⟩) (f1 := ⟨"No", 3, 1, false, "", "", 8⟩) (k0 := .i64) (k1 := .i64) (fun _ => rfl) (fun x y h1 h2 => by cases x; cases y; simp_all) (by kernel_rfl) (by decide) (by decide) rfl rfl (by kernel_rfl) (by kernel_rfl) (by kernel_rfl)

/-- The map holds these, each once. -/
def MapI (m : List (PortV × Int)) (P : List PortV) : Prop := (m.map Prod.fst).Nodup ∧ ∀ x, x ∈ m.map Prod.fst ↔ x ∈ P
theorem setM_keys (m : List (PortV × Int)) (i : Nat) (v : Int) : (setM m i v).map Prod.fst = m.map Prod.fst := by
  apply List.ext_getElem?
  intro n
  rw [List.getElem?_map, List.getElem?_map, setM, List.getElem?_modify]
  by_cases h : i = n
  · subst h; cases m[i]? <;> simp
  · simp [h]
theorem addM_keys (m : List (PortV × Int)) (x : PortV) : (addM m x).map Prod.fst = m.map Prod.fst ∧ x ∈ m.map Prod.fst ∧ idxM m x < (addM m x).length ∨ (addM m x).map Prod.fst = m.map Prod.fst ++ [x] ∧ x ∉ m.map Prod.fst ∧ idxM m x < (addM m x).length := by
  unfold addM idxM
  cases h : findL x m 0 with
  | some p =>
    obtain ⟨j, v⟩ := p
    obtain ⟨-, hj⟩ := findL_some h
    rw [Nat.sub_zero] at hj
    exact .inl ⟨rfl, List.mem_map.2 ⟨_, List.mem_of_getElem? hj, rfl⟩, (List.getElem?_eq_some_iff.1 hj).1⟩
  | none => exact .inr ⟨by simp, findL_none h, by simp⟩
theorem idx_lt (m : List (PortV × Int)) (x : PortV) : idxM m x < (addM m x).length := by
  rcases addM_keys m x with h | h <;> exact h.2.2
theorem mapI_next {m : List (PortV × Int)} {P : List PortV} {x : PortV} (h : MapI m P) (i : Nat) (v : Int) : MapI (setM (addM m x) i v) (P ++ [x]) := by
  obtain ⟨h1, h2⟩ := h
  unfold MapI
  rw [setM_keys]
  rcases addM_keys m x with ⟨e, hx, -⟩ | ⟨e, hx, -⟩ <;> rw [e]
  · refine ⟨h1, fun y => ?_⟩
    rw [h2 y, List.mem_append, List.mem_singleton]
    exact ⟨.inl, fun h => h.elim id fun e => by rw [e]; exact (h2 x).1 hx⟩
  · refine ⟨nodup_snoc.2 ⟨h1, hx⟩, fun y => ?_⟩
    rw [List.mem_append, List.mem_append, List.mem_singleton, h2 y]

def okT (n : NodeV) (k : Nat) : Prop := bridgeP n.bridge ∧ ∀ m ∈ n.ports.l.take k, memP m
theorem okT_zero (n : NodeV) : okT n 0 ↔ bridgeP n.bridge := by simp [okT]
theorem okT_all {n : NodeV} {k : Nat} (h : n.ports.l.length ≤ k) : okT n k ↔ okN n := by rw [okT, okN, List.take_of_length_le h]
def faultC (a b : Int) : Chunk := .cells 31 [.v (.int .i64 a), .v (.int .i64 b)]
theorem bareF_c (e : Int) (g : G) : Tells Tryd.prog 57 [.v (.int .i64 e)] g (.agg [.v (.int .i64 e), .v (.int .i64 (-1))]) := by
  refine meets_of mixedS Tryd.func57 (by kernel_rfl) x57_ok (some []) ?_
  exact ⟨rfl, rfl, rfl⟩
theorem goodF_c (g : G) : Tells Tryd.prog 61 [] g (.agg [.v (.int .i64 0), .v (.int .i64 (-1))]) := by
  refine meets_of mixedS Tryd.func61 (by kernel_rfl) x61_ok (some []) ?_
  exact ⟨rfl, rfl, rfl⟩

theorem netCheck_c (s : SliceV NodeV) (g : G) (hs : NodesOk g s) : Tells Tryd.prog 12 [.v (.slice s.a s.l.length s.c)] g (.agg [.v (.int .i64 (netE s.l).1), .v (.int .i64 (netE s.l).2)]) := by
  refine meets_of mixedS Tryd.func12 (by kernel_rfl) x12_ok (some []) ?_
  have hlen := hs.len
  obtain ⟨E, hE⟩ : ∃ E, netE s.l = E := ⟨_, rfl⟩
  rw [hE]
  refine bsplit_of (fun (h : decide ((s.l.length : Int) > 12) = true) => ?_) (fun (h : decide ((s.l.length : Int) > 12) = false) => ?_)
  · have : E = (4, -1) := by rw [← hE]; exact netE_big (by have := of_decide_eq_true h; omega)
    subst this
    refine (bareF_c 4 g).call rfl rfl rfl ?_
    exact ⟨rfl, rfl, rfl⟩
  have h12 : ¬ 12 < s.l.length := by have := of_decide_eq_false h; omega
  change LoopW _ _ _ _ _ _ _ _ _ _
  apply loop_rule [] (α := Nat) (fun k => [(17, .v (.int .i64 k))]) (fun _ => [faultC 0 0]) (fun _ => g) (fun k => k ≤ s.l.length ∧ ∀ i, i < k → nE s.l i = 0) (fun k => s.l.length - k) 0
  · intro x; kernel_rfl
  · exact ⟨Nat.zero_le _, fun i hi => by omega⟩
  · exact ⟨rfl, trivial⟩
  · rfl
  · rfl
  intro k hk
  refine bsplit_of (fun hlt => ?_) (fun hlt => ?_)
  · have hlt' : k < s.l.length := by simpa using hlt
    obtain ⟨ad, n, ha, hx, hat, hnok⟩ := hs.elem (fun _ => rfl) hlt'
    refine ⟨⟨by omega, by omega⟩, ad, ha, ?_⟩
    refine ⟨n.cells, rfl, hat, ?_⟩
    have hp := hnok.2
    have hpl := hp.len
    refine bsplit_of (fun (h : decide ((n.ports.l.length : Int) > 8) = true) => ?_) (fun (h : decide ((n.ports.l.length : Int) > 8) = false) => ?_)
    · have hne : nodeE (s.l.take k) n = 4 := by rw [nodeE, if_pos]; have := of_decide_eq_true h; omega
      have : E = (4, (k : Int)) := by rw [← hE, netE_hit h12 hk.2 hlt' (by rw [nE_at hx, hne]; decide), nE_at hx, hne]
      subst this
      exact ⟨rfl, rfl, rfl⟩
    have h8 : ¬ 8 < n.ports.l.length := by have := of_decide_eq_false h; omega
    refine (bridgeRight_c n.bridge g).call rfl rfl rfl ?_
    refine prim_makeMap 2 rfl rfl ?_
    change LoopW _ _ _ _ _ _ _ _ _ _
    apply loop_rule [] (α := Nat × Bool × List (PortV × Int)) (fun y => [(35, .v (.int .i64 y.1)), (5, .v (.bool y.2.1))]) (fun y => [faultC 0 0, .cells 148 (n.cells.map .v), mapC portK y.2.2]) (fun _ => g)
      (fun y => y.1 ≤ n.ports.l.length ∧ y.2.1 = decide (okT n y.1) ∧ MapI y.2.2 ((n.ports.l.take y.1).map MemberV.port)) (fun y => n.ports.l.length - y.1) (0, decide (bridgeP n.bridge), [])
    · intro x; kernel_rfl
    · exact ⟨Nat.zero_le _, (decide_eq_decide.2 (okT_zero n)).symm, by simp, by simp⟩
    · exact ⟨rfl, rfl, trivial⟩
    · rfl
    · rfl
    rintro ⟨j, b, m⟩ ⟨hj, hb, hm⟩
    dsimp only at hj hb hm
    refine bsplit_of (fun hlt => ?_) (fun hlt => ?_)
    · have hjl : j < n.ports.l.length := by simpa using hlt
      obtain ⟨ap, p, hpa, hpx, hpat, hpok⟩ := hp.elem (fun _ => rfl) hjl
      refine ⟨⟨by omega, by omega⟩, ap, hpa, ?_⟩
      refine ⟨p.cells, rfl, hpat, ?_⟩
      have hsn := take_snoc hpx
      have bad : ¬ memP p → false = decide (okT n (j + 1)) := fun h => (decide_eq_false fun hq => h (hq.2 p (by rw [hsn]; simp))).symm
      refine bsplit_of (fun (hbt : b = true) => ?_) (fun (hbf : b = false) => ?_)
      · have hold := of_decide_eq_true (hb.symm.trans hbt)
        refine (portRight_c p.port g).call rfl rfl rfl ?_
        refine bsplit_of (fun (q1 : decide (portP p.port) = true) => ?_) (fun (q1 : decide (portP p.port) = false) => ?_)
        · refine (within_c p.cost 1 200000000 g).call rfl rfl rfl ?_
          refine bsplit_of (fun (q2 : decide (1 ≤ p.cost ∧ p.cost ≤ 200000000) = true) => ?_) (fun (q2 : decide (1 ≤ p.cost ∧ p.cost ≤ 200000000) = false) => ?_)
          · refine (within_c p.lan 0 63 g).call rfl rfl rfl ?_
            have q1 := of_decide_eq_true q1
            have q2 := of_decide_eq_true q2
            have new : decide (0 ≤ p.lan ∧ p.lan ≤ 63) = decide (okT n (j + 1)) := by
              rw [decide_eq_decide, okT, hsn]
              constructor
              · intro h
                refine ⟨hold.1, fun m hm => ?_⟩
                rcases List.mem_append.1 hm with hm | hm
                · exact hold.2 m hm
                · rw [List.mem_singleton.1 hm]; exact ⟨q1, q2.1, q2.2, h.1, h.2⟩
              · intro h
                exact (h.2 p (by simp)).2.2.2
            · refine And.intro ?_ ?_
              · refine prim_lookupK portKL (x := p.port) (et := 3) (i := Tryd.t3) (fun _ => rfl) (by kernel_rfl) (by kernel_rfl) (by kernel_rfl) rfl rfl ?_
                refine prim_mapEntryK portKL (x := p.port) (et := 3) (i := Tryd.t3) (fun _ => rfl) (by kernel_rfl) (by kernel_rfl) (by kernel_rfl) rfl rfl ?_
                refine prim_entryStoreK (f := portK) (m := addM m p.port) (idx_lt m p.port) rfl rfl ?_
                refine ⟨(j + 1, decide (0 ≤ p.lan ∧ p.lan ≤ 63), setM (addM m p.port) (idxM m p.port) _), ⟨hjl, new, ?_⟩, by show n.ports.l.length - (j + 1) < n.ports.l.length - j; omega, [0, 1, 2], rfl, ⟨vi (wrap_id (by omega) (by omega)), rfl, trivial⟩, rfl, rfl, rfl, rfl⟩
                show MapI _ ((n.ports.l.take (j + 1)).map MemberV.port)
                rw [hsn, List.map_append]
                exact mapI_next hm _ _
              · refine prim_mapEntryK portKL (x := p.port) (et := 3) (i := Tryd.t3) (fun _ => rfl) (by kernel_rfl) (by kernel_rfl) (by kernel_rfl) rfl rfl ?_
                refine prim_lookupK portKL (m := addM m p.port) (x := p.port) (et := 3) (i := Tryd.t3) (fun _ => rfl) (by kernel_rfl) (by kernel_rfl) (by kernel_rfl) rfl rfl ?_
                refine prim_entryStoreK (f := portK) (m := addM m p.port) (idx_lt m p.port) rfl rfl ?_
                refine ⟨(j + 1, decide (0 ≤ p.lan ∧ p.lan ≤ 63), setM (addM m p.port) (idxM m p.port) _), ⟨hjl, new, ?_⟩, by show n.ports.l.length - (j + 1) < n.ports.l.length - j; omega, [0, 1, 2], rfl, ⟨vi (wrap_id (by omega) (by omega)), rfl, trivial⟩, rfl, rfl, rfl, rfl⟩
                show MapI _ ((n.ports.l.take (j + 1)).map MemberV.port)
                rw [hsn, List.map_append]
                exact mapI_next hm _ _
          · have q2 := of_decide_eq_false q2
            · refine And.intro ?_ ?_
              · refine prim_lookupK portKL (x := p.port) (et := 3) (i := Tryd.t3) (fun _ => rfl) (by kernel_rfl) (by kernel_rfl) (by kernel_rfl) rfl rfl ?_
                refine prim_mapEntryK portKL (x := p.port) (et := 3) (i := Tryd.t3) (fun _ => rfl) (by kernel_rfl) (by kernel_rfl) (by kernel_rfl) rfl rfl ?_
                refine prim_entryStoreK (f := portK) (m := addM m p.port) (idx_lt m p.port) rfl rfl ?_
                refine ⟨(j + 1, false, setM (addM m p.port) (idxM m p.port) _), ⟨hjl, bad fun hq => q2 ⟨hq.2.1, hq.2.2.1⟩, ?_⟩, by show n.ports.l.length - (j + 1) < n.ports.l.length - j; omega, [0, 1, 2], rfl, ⟨vi (wrap_id (by omega) (by omega)), rfl, trivial⟩, rfl, rfl, rfl, rfl⟩
                show MapI _ ((n.ports.l.take (j + 1)).map MemberV.port)
                rw [hsn, List.map_append]
                exact mapI_next hm _ _
              · refine prim_mapEntryK portKL (x := p.port) (et := 3) (i := Tryd.t3) (fun _ => rfl) (by kernel_rfl) (by kernel_rfl) (by kernel_rfl) rfl rfl ?_
                refine prim_lookupK portKL (m := addM m p.port) (x := p.port) (et := 3) (i := Tryd.t3) (fun _ => rfl) (by kernel_rfl) (by kernel_rfl) (by kernel_rfl) rfl rfl ?_
                refine prim_entryStoreK (f := portK) (m := addM m p.port) (idx_lt m p.port) rfl rfl ?_
                refine ⟨(j + 1, false, setM (addM m p.port) (idxM m p.port) _), ⟨hjl, bad fun hq => q2 ⟨hq.2.1, hq.2.2.1⟩, ?_⟩, by show n.ports.l.length - (j + 1) < n.ports.l.length - j; omega, [0, 1, 2], rfl, ⟨vi (wrap_id (by omega) (by omega)), rfl, trivial⟩, rfl, rfl, rfl, rfl⟩
                show MapI _ ((n.ports.l.take (j + 1)).map MemberV.port)
                rw [hsn, List.map_append]
                exact mapI_next hm _ _
        · have q1 := of_decide_eq_false q1
          · refine And.intro ?_ ?_
            · refine prim_lookupK portKL (x := p.port) (et := 3) (i := Tryd.t3) (fun _ => rfl) (by kernel_rfl) (by kernel_rfl) (by kernel_rfl) rfl rfl ?_
              refine prim_mapEntryK portKL (x := p.port) (et := 3) (i := Tryd.t3) (fun _ => rfl) (by kernel_rfl) (by kernel_rfl) (by kernel_rfl) rfl rfl ?_
              refine prim_entryStoreK (f := portK) (m := addM m p.port) (idx_lt m p.port) rfl rfl ?_
              refine ⟨(j + 1, false, setM (addM m p.port) (idxM m p.port) _), ⟨hjl, bad fun hq => q1 hq.1, ?_⟩, by show n.ports.l.length - (j + 1) < n.ports.l.length - j; omega, [0, 1, 2], rfl, ⟨vi (wrap_id (by omega) (by omega)), rfl, trivial⟩, rfl, rfl, rfl, rfl⟩
              show MapI _ ((n.ports.l.take (j + 1)).map MemberV.port)
              rw [hsn, List.map_append]
              exact mapI_next hm _ _
            · refine prim_mapEntryK portKL (x := p.port) (et := 3) (i := Tryd.t3) (fun _ => rfl) (by kernel_rfl) (by kernel_rfl) (by kernel_rfl) rfl rfl ?_
              refine prim_lookupK portKL (m := addM m p.port) (x := p.port) (et := 3) (i := Tryd.t3) (fun _ => rfl) (by kernel_rfl) (by kernel_rfl) (by kernel_rfl) rfl rfl ?_
              refine prim_entryStoreK (f := portK) (m := addM m p.port) (idx_lt m p.port) rfl rfl ?_
              refine ⟨(j + 1, false, setM (addM m p.port) (idxM m p.port) _), ⟨hjl, bad fun hq => q1 hq.1, ?_⟩, by show n.ports.l.length - (j + 1) < n.ports.l.length - j; omega, [0, 1, 2], rfl, ⟨vi (wrap_id (by omega) (by omega)), rfl, trivial⟩, rfl, rfl, rfl, rfl⟩
              show MapI _ ((n.ports.l.take (j + 1)).map MemberV.port)
              rw [hsn, List.map_append]
              exact mapI_next hm _ _
      · have new : false = decide (okT n (j + 1)) := by
          refine (decide_eq_false fun hq => of_decide_eq_false (hb.symm.trans hbf) ⟨hq.1, fun m hm => hq.2 m ?_⟩).symm
          rw [hsn]; exact List.mem_append_left _ hm
        · refine And.intro ?_ ?_
          · refine prim_lookupK portKL (x := p.port) (et := 3) (i := Tryd.t3) (fun _ => rfl) (by kernel_rfl) (by kernel_rfl) (by kernel_rfl) rfl rfl ?_
            refine prim_mapEntryK portKL (x := p.port) (et := 3) (i := Tryd.t3) (fun _ => rfl) (by kernel_rfl) (by kernel_rfl) (by kernel_rfl) rfl rfl ?_
            refine prim_entryStoreK (f := portK) (m := addM m p.port) (idx_lt m p.port) rfl rfl ?_
            refine ⟨(j + 1, false, setM (addM m p.port) (idxM m p.port) _), ⟨hjl, new, ?_⟩, by show n.ports.l.length - (j + 1) < n.ports.l.length - j; omega, [0, 1, 2], rfl, ⟨vi (wrap_id (by omega) (by omega)), rfl, trivial⟩, rfl, rfl, rfl, rfl⟩
            show MapI _ ((n.ports.l.take (j + 1)).map MemberV.port)
            rw [hsn, List.map_append]
            exact mapI_next hm _ _
          · refine prim_mapEntryK portKL (x := p.port) (et := 3) (i := Tryd.t3) (fun _ => rfl) (by kernel_rfl) (by kernel_rfl) (by kernel_rfl) rfl rfl ?_
            refine prim_lookupK portKL (m := addM m p.port) (x := p.port) (et := 3) (i := Tryd.t3) (fun _ => rfl) (by kernel_rfl) (by kernel_rfl) (by kernel_rfl) rfl rfl ?_
            refine prim_entryStoreK (f := portK) (m := addM m p.port) (idx_lt m p.port) rfl rfl ?_
            refine ⟨(j + 1, false, setM (addM m p.port) (idxM m p.port) _), ⟨hjl, new, ?_⟩, by show n.ports.l.length - (j + 1) < n.ports.l.length - j; omega, [0, 1, 2], rfl, ⟨vi (wrap_id (by omega) (by omega)), rfl, trivial⟩, rfl, rfl, rfl, rfl⟩
            show MapI _ ((n.ports.l.take (j + 1)).map MemberV.port)
            rw [hsn, List.map_append]
            exact mapI_next hm _ _
    · have hge : n.ports.l.length ≤ j := by simpa using hlt
      rw [decide_eq_decide.2 (okT_all hge)] at hb
      rw [List.take_of_length_le hge] at hm
      refine bsplit_of (fun (h : (!b) = true) => ?_) (fun (h : (!b) = false) => ?_)
      · have hne : nodeE (s.l.take k) n = 1 := by rw [nodeE, if_neg h8, if_pos]; intro hq; rw [hb.trans (decide_eq_true hq)] at h; cases h
        have : E = (1, (k : Int)) := by rw [← hE, netE_hit h12 hk.2 hlt' (by rw [nE_at hx, hne]; decide), nE_at hx, hne]
        subst this
        exact ⟨rfl, rfl, rfl⟩
      have hok : okN n := by
        have hb' : b = true := by simpa using h
        exact of_decide_eq_true (hb.symm.trans hb')
      have hcap : s.l.length ≤ s.c := hs.2.2.1
      refine ⟨⟨by omega, by omega⟩, ?_⟩
      have hpre := SliceV.ok.pre (f := NodeV.cells) (fun _ => rfl) hs hk.1
      have hprel := SliceV.pre_len hk.1
      change LoopW _ _ _ _ _ _ _ _ _ _
      apply loop_rule [] (α := Nat) (fun y => [(71, .v (.int .i64 y))]) (fun _ => [faultC 0 0, .cells 148 (n.cells.map .v), mapC portK m]) (fun _ => g)
        (fun y => y ≤ k ∧ ∀ (i : Nat) q, i < y → s.l[i]? = some q → q.bridge ≠ n.bridge) (fun y => k - y) 0
      · intro x; kernel_rfl
      · exact ⟨Nat.zero_le _, fun i t hi => by omega⟩
      · exact ⟨rfl, trivial⟩
      · rfl
      · rfl
      intro i hi
      refine bsplit_of (fun hlt => ?_) (fun hlt => ?_)
      · have hik : i < k := by have := of_decide_eq_true hlt; omega
        obtain ⟨aq, q, hqa, hqx, hqat, -⟩ := hpre.elem (fun _ => rfl) (i := i) (by omega)
        have hqx' : s.l[i]? = some q := by
          have : (s.l.take k)[i]? = some q := hqx
          rw [List.getElem?_take, if_pos hik] at this
          exact this
        refine ⟨⟨by omega, by omega⟩, aq, hqa, ?_⟩
        refine ⟨q.cells, rfl, hqat, ?_⟩
        refine bsplit_of (fun (h : (false ^^ q.bridge.eq n.bridge) = true) => ?_) (fun (h : (false ^^ q.bridge.eq n.bridge) = false) => ?_)
        · have hne : nodeE (s.l.take k) n = 9 := by rw [nodeE, if_neg h8, if_neg (not_not_intro hok), if_pos]; rw [Bool.false_xor, bridge_eq] at h; exact .inr ⟨q, List.mem_of_getElem? hqx, h⟩
          have : E = (9, (k : Int)) := by rw [← hE, netE_hit h12 hk.2 hlt' (by rw [nE_at hx, hne]; decide), nE_at hx, hne]
          subst this
          exact ⟨rfl, rfl, rfl⟩
        refine ⟨i + 1, ⟨by omega, fun i2 q2 h2 h3 => ?_⟩, by omega, [0, 1, 2], rfl, ⟨vi (wrap_id (by omega) (by omega)), trivial⟩, rfl, rfl, rfl, rfl⟩
        by_cases hii : i2 = i
        · subst hii
          rw [hqx'] at h3
          cases h3
          intro e
          rw [Bool.false_xor, bridge_eq.2 e] at h
          cases h
        · exact hi.2 i2 q2 (by omega) h3
      · have hki : k ≤ i := by have := of_decide_eq_false hlt; omega
        have hnb : ¬ ∃ q ∈ s.l.take k, q.bridge = n.bridge := by
          rintro ⟨q, hq, he⟩
          obtain ⟨i2, h2, h3⟩ := mem_take_lt hq
          exact hi.2 i2 q (by omega) h3 he
        refine prim_lenK (f := portK) (m := m) (kt := 41) (et := 3) rfl rfl rfl (by kernel_rfl) rfl rfl ?_
        have hd := distinct_lt hm.1 hm.2
        rw [List.length_map, List.length_map] at hd
        refine bsplit_of (fun (h : decide ((m.length : Int) < (n.ports.l.length : Int)) = true) => ?_) (fun (h : decide ((m.length : Int) < (n.ports.l.length : Int)) = false) => ?_)
        · have hne : nodeE (s.l.take k) n = 9 := by rw [nodeE, if_neg h8, if_neg (not_not_intro hok), if_pos]; exact .inl (hd.1 (by have := of_decide_eq_true h; omega))
          have : E = (9, (k : Int)) := by rw [← hE, netE_hit h12 hk.2 hlt' (by rw [nE_at hx, hne]; decide), nE_at hx, hne]
          subst this
          exact ⟨rfl, rfl, rfl⟩
        refine ⟨k + 1, ⟨by omega, fun i2 h2 => ?_⟩, by omega, [0], rfl, ⟨vi (wrap_id (by omega) (by omega)), trivial⟩, rfl, rfl, rfl, rfl⟩
        by_cases hik : i2 = k
        · subst hik
          rw [nE_at hx, nodeE, if_neg h8, if_neg (not_not_intro hok), if_neg]
          rintro (h1 | h1)
          · have := hd.2 h1; have := of_decide_eq_false h; omega
          · exact hnb h1
        · exact hk.2 i2 (by omega)
  · have hge : s.l.length ≤ k := by simpa using hlt
    have : E = (0, -1) := by rw [← hE]; exact netE_none h12 fun i hi => hk.2 i (by omega)
    subst this
    refine (goodF_c g).call rfl rfl rfl ?_
    exact ⟨rfl, rfl, rfl⟩

def wideP (l : List NodeV) : Prop := 20 < l.length ∨ ∃ n ∈ l, 20 < n.ports.l.length
theorem wide_c (s : SliceV NodeV) (g : G) (hs : NodesOk g s) : Tells Tryd.prog 10 [.v (.slice s.a s.l.length s.c)] g (.v (.bool (decide (wideP s.l)))) := by
  refine meets_of mixedS Tryd.func10 (by kernel_rfl) x10_ok (some []) ?_
  have hlen := hs.len
  refine bsplit_of (fun (h : decide ((s.l.length : Int) > 20) = true) => ?_) (fun (h : decide ((s.l.length : Int) > 20) = false) => ?_)
  · exact ⟨rb (decide_eq_true (.inl (by have := of_decide_eq_true h; omega))), rfl, rfl⟩
  have h20 : ¬ 20 < s.l.length := by have := of_decide_eq_false h; omega
  change LoopW _ _ _ _ _ _ _ _ _ _
  apply loop_rule [] (α := Nat) (fun k => [(10, .v (.int .i64 k))]) (fun _ => []) (fun _ => g) (fun k => k ≤ s.l.length ∧ ∀ (i : Nat) n, i < k → s.l[i]? = some n → ¬ 20 < n.ports.l.length) (fun k => s.l.length - k) 0
  · intro x; kernel_rfl
  · exact ⟨Nat.zero_le _, fun i t hi => by omega⟩
  · exact ⟨rfl, trivial⟩
  · rfl
  · rfl
  intro k hk
  refine bsplit_of (fun hlt => ?_) (fun hlt => ?_)
  · have hlt' : k < s.l.length := by simpa using hlt
    obtain ⟨ad, n, ha, hx, hat, hnok⟩ := hs.elem (fun _ => rfl) hlt'
    refine ⟨⟨by omega, by omega⟩, ad, ha, ?_⟩
    refine ⟨n.cells, rfl, hat, ?_⟩
    refine bsplit_of (fun (h : decide ((n.ports.l.length : Int) > 20) = true) => ?_) (fun (h : decide ((n.ports.l.length : Int) > 20) = false) => ?_)
    · exact ⟨rb (decide_eq_true (.inr ⟨n, List.mem_of_getElem? hx, by have := of_decide_eq_true h; omega⟩)), rfl, rfl⟩
    · exact ⟨k + 1, ⟨by omega, seen_next (p := fun n => 20 < n.ports.l.length) hk.2 hx (by have := of_decide_eq_false h; omega)⟩, by omega, [], rfl, ⟨vi (wrap_id (by omega) (by omega)), trivial⟩, rfl, rfl, rfl, rfl⟩
  · have hge : s.l.length ≤ k := by simpa using hlt
    refine ⟨rb (decide_eq_false ?_), rfl, rfl⟩
    rintro (h1 | ⟨n, hn, h1⟩)
    · exact h20 h1
    · obtain ⟨i, hi, rfl⟩ := List.getElem_of_mem hn
      exact hk.2 i _ (by omega) (List.getElem?_eq_getElem hi) h1

theorem NodesOk.up {g g' : G} {s : SliceV NodeV} (h : NodesOk g s) (hl : G.le g g') : NodesOk g' s :=
  SliceV.ok.mono h hl fun _ hn => ⟨hn.1, SliceV.ok.mono hn.2 hl fun _ hm => hm⟩

end Go.Proofs.YtedfohdgigbhiaaDoor
