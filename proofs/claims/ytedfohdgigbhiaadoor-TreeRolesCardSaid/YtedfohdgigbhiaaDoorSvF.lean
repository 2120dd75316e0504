/- ref.Solve: what it returns. Conditions: the slices lie where they say; nothing is wrong with the net. -/
import Derived.Test.YtedfohdgigbhiaaDoorSvE
namespace Go.Proofs.YtedfohdgigbhiaaDoor
open Go.Sx Go.Lib
set_option maxRecDepth 100000
set_option maxHeartbeats 8000000
attribute [local irreducible] Meets
attribute [local instance] Classical.propDecidable

/-! ### Plain -/
theorem Ways.weak {ps : Nat → List MemberV} {n m : Nat} {B B' : Int} {d : Nat → Nat → Int} (h : Ways ps n m B d) (hB : B ≤ B') : Ways ps n m B' d :=
  ⟨h.diag, h.pos, h.le, fun i k hi hk hf => Int.le_trans (h.bnd i k hi hk hf) hB, h.edge, h.step, h.tri⟩
theorem net_ways {l : List NodeV} (N : NetOk l) : Ways (psL l) l.length l.length 819200000000 (fw (eM l) l.length) := by
  refine ((eM_ways N).all (by decide) l.length (Nat.le_refl _)).weak ?_
  have h := dbl_mono (B := 200000000) (by decide) (12 - l.length) l.length
  rw [show l.length + (12 - l.length) = 12 by have := N.few; omega, dbl12] at h
  exact h
theorem net_inj {l : List NodeV} (N : NetOk l) {i j : Nat} (hi : i < l.length) (hj : j < l.length) (h : brL l i = brL l j) : i = j := by
  have key : ∀ {i j : Nat}, i < j → j < l.length → brL l i ≠ brL l j := fun {i j} hij hj e => by
    obtain ⟨n, hn⟩ := lt_some hj
    obtain ⟨m, hm⟩ := lt_some (show i < l.length by omega)
    rw [brL_at hm, brL_at hn] at e
    refine N.names j n hn m ?_ e
    exact List.mem_of_getElem? (by rw [List.getElem?_take_of_lt hij]; exact hm)
  rcases Nat.lt_trichotomy i j with h1 | h1 | h1
  · exact absurd h (key h1 hj)
  · exact h1
  · exact absurd h.symm (key h1 hi)
/-- The least that is reached below k. -/
def RootTo (d : Nat → Nat → Int) (br : Nat → BridgeV) (n i k r : Nat) : Prop := r < n ∧ d i r < farC ∧ bless (br i) (br r) = false ∧ ∀ k', k' < k → d i k' < farC → bless (br k') (br r) = false
theorem RootTo.keep {d : Nat → Nat → Int} {br : Nat → BridgeV} {n i k r : Nat} (h : RootTo d br n i k r) (hn : d i k < farC → bless (br k) (br r) = false) : RootTo d br n i (k + 1) r := by
  refine ⟨h.1, h.2.1, h.2.2.1, fun k' hk' hf => ?_⟩
  by_cases hkk : k' = k
  · subst hkk; exact hn hf
  · exact h.2.2.2 k' (by omega) hf
theorem RootTo.turn {d : Nat → Nat → Int} {br : Nat → BridgeV} {n i k r : Nat} (h : RootTo d br n i k r) (hk : k < n) (hf : d i k < farC) (hb : bless (br k) (br r) = true) : RootTo d br n i (k + 1) k := by
  have no : ∀ x, bless x (br r) = false → bless x (br k) = false := fun x hx => by
    cases hq : bless x (br k) with
    | false => rfl
    | true =>
      have h1 : fst x.row (br k).row < 0 := by unfold bless at hq; exact of_decide_eq_true hq
      have h2 : fst (br k).row (br r).row < 0 := by unfold bless at hb; exact of_decide_eq_true hb
      have h3 := fst_trans x.row (br k).row (br r).row rfl rfl h1 (by omega)
      unfold bless at hx
      exact absurd h3 (of_decide_eq_false hx)
  refine ⟨hk, hf, no _ h.2.2.1, fun k' hk' hf' => ?_⟩
  by_cases hkk : k' = k
  · subst hkk; exact bless_irr _
  · exact no _ (h.2.2.2 k' (by omega) hf')
theorem net_of {l : List NodeV} (N : NetOk l) {rt : Nat → Nat} (hr : ∀ i, i < l.length → RootTo (fw (eM l) l.length) (brL l) l.length i l.length (rt i)) : NetW l.length (brL l) (psL l) (fw (eM l) l.length) rt :=
  ⟨N.few, net_ways N, fun i p hp => ⟨(memP_of N hp).2.1, (memP_of N hp).2.2.1⟩, fun i j hi hj h => net_inj N hi hj h, fun i hi => ⟨(hr i hi).1, (hr i hi).2.1, fun k hk hf => (hr i hi).2.2.2 k hk hf⟩⟩

def candX (R : BridgeV) (dk : Int) (m : BridgeV) (q : MemberV) (ps : List MemberV) : List VectorV := ps.flatMap fun p => if p.lan = q.lan then [⟨R, IntKind.i64.wrap (dk + p.cost), m, q.port, p.port⟩] else []
def candQ (R : BridgeV) (dk : Int) (m : BridgeV) (qs ps : List MemberV) : List VectorV := qs.flatMap fun q => candX R dk m q ps
def candZ (l : List NodeV) (d : Nat → Nat → Int) (rt : Nat → Nat) (R : BridgeV) (i : Nat) : Nat → List VectorV
  | 0 => []
  | k + 1 => candZ l d rt R i k ++ (if k = i then [] else candQ R (dist d rt k) (brL l k) (psL l k) (psL l i))
theorem candX_snoc (R : BridgeV) (dk : Int) (m : BridgeV) (q : MemberV) (ps : List MemberV) (p : MemberV) : candX R dk m q (ps ++ [p]) = candX R dk m q ps ++ (if p.lan = q.lan then [⟨R, IntKind.i64.wrap (dk + p.cost), m, q.port, p.port⟩] else []) := by simp [candX]
theorem candQ_snoc (R : BridgeV) (dk : Int) (m : BridgeV) (qs : List MemberV) (q : MemberV) (ps : List MemberV) : candQ R dk m (qs ++ [q]) ps = candQ R dk m qs ps ++ candX R dk m q ps := by simp [candQ]
theorem candZ_mem {l : List NodeV} {d : Nat → Nat → Int} {rt : Nat → Nat} {R : BridgeV} {i : Nat} {x : VectorV} : ∀ {k : Nat}, x ∈ candZ l d rt R i k ↔ ∃ j p q, j < k ∧ j ≠ i ∧ p ∈ psL l i ∧ q ∈ psL l j ∧ q.lan = p.lan ∧ x = ⟨R, IntKind.i64.wrap (dist d rt j + p.cost), brL l j, q.port, p.port⟩
  | 0 => by simp [candZ]
  | k + 1 => by
    rw [candZ, List.mem_append, candZ_mem]
    constructor
    · rintro (⟨j, p, q, h1, h2⟩ | h)
      · exact ⟨j, p, q, by omega, h2⟩
      · by_cases hki : k = i
        · rw [if_pos hki] at h; simp at h
        · rw [if_neg hki] at h
          obtain ⟨q, hq, h⟩ := List.mem_flatMap.1 h
          obtain ⟨p, hp, h⟩ := List.mem_flatMap.1 h
          by_cases hl : p.lan = q.lan
          · rw [if_pos hl, List.mem_singleton] at h
            exact ⟨k, p, q, by omega, hki, hp, hq, hl.symm, h⟩
          · rw [if_neg hl] at h; simp at h
    · rintro ⟨j, p, q, h1, h2, h3, h4, h5, h6⟩
      by_cases hjk : j = k
      · subst hjk
        right
        rw [if_neg h2]
        exact List.mem_flatMap.2 ⟨q, h4, List.mem_flatMap.2 ⟨p, h3, by rw [if_pos h5.symm]; simpa using h6⟩⟩
      · exact .inl ⟨j, p, q, by omega, h2, h3, h4, h5, h6⟩
theorem net_fin {l : List NodeV} (N : NetOk l) {rt : Nat → Nat} (W : NetW l.length (brL l) (psL l) (fw (eM l) l.length) rt) {i : Nat} (hi : i < l.length) {v v0 : VectorV} (h0 : v0.root = brL l (rt i) ∧ v0.cost = farC)
    (hne : rt i ≠ i) (hL : Least (v0 :: candZ l (fw (eM l) l.length) rt (brL l (rt i)) i l.length) v) : Fin1 l.length (brL l) (psL l) (fw (eM l) l.length) rt i v := by
  refine W.fin_of hi (fun h => absurd h hne) h0 (fun _ => hL) fun _ x => ?_
  rw [candZ_mem]
  have wr : ∀ {j : Nat} {p : MemberV}, j < l.length → p ∈ psL l i → IntKind.i64.wrap (dist (fw (eM l) l.length) rt j + p.cost) = dist (fw (eM l) l.length) rt j + p.cost := fun hj hp => by
    have h1 := W.dist_pos hj
    have h2 := (W.root _ hj).2.1
    have h3 := W.cost i _ hp
    unfold dist farC at *
    exact wrap_id (by omega) (by omega)
  constructor
  · rintro ⟨j, p, q, h1, h2, h3, h4, h5, h6⟩
    exact ⟨j, p, q, h1, h2, h3, h4, h5, by rw [h6, wr h1 h3]⟩
  · rintro ⟨j, p, q, h1, h2, h3, h4, h5, h6⟩
    exact ⟨j, p, q, h1, h2, h3, h4, h5, by rw [h6, wr h1 h3]⟩
theorem net_own {l : List NodeV} {rt : Nat → Nat} (W : NetW l.length (brL l) (psL l) (fw (eM l) l.length) rt) {i : Nat} (hi : i < l.length) (h : rt i = i) : Fin1 l.length (brL l) (psL l) (fw (eM l) l.length) rt i (ownB (brL l i)) :=
  ⟨fun _ => rfl, fun hh => absurd h hh, fun hh => absurd h hh⟩

/-! ### The walk -/
def rtI (rt : Nat → Nat) : Nat → Int := fun j => (rt j : Int)
theorem rtI_upd (rt : Nat → Nat) (i x : Nat) : updF (rtI rt) i (x : Int) = rtI (updA rt i x) := by
  funext j
  unfold updF rtI updA
  split <;> rfl
theorem rt_cell {n i : Nat} {rt : Nat → Nat} (h : i < n) : (rowI n (rtI rt))[0 + ((i : Nat) : Int).toNat * 1]? = some (.int .i64 (rt i)) := by rw [off1, rowI_get h]; rfl
def FinR (l : List NodeV) (rt : Nat → Nat) (g : G) (ys : List VectorV) : Prop := (∀ i v, ys[i]? = some v → Fin1 l.length (brL l) (psL l) (fw (eM l) l.length) rt i v) ∧ ∀ v ∈ ys, v.ok g
theorem FinR.snoc {l : List NodeV} {rt : Nat → Nat} {g : G} {ys : List VectorV} (h : FinR l rt g ys) {v : VectorV} {i : Nat} (hi : ys.length = i) (hv : Fin1 l.length (brL l) (psL l) (fw (eM l) l.length) rt i v) (hok : v.ok g) : FinR l rt g (ys ++ [v]) := by
  refine ⟨fun j x hx => ?_, fun x hx => ?_⟩
  · by_cases hj : j < ys.length
    · rw [List.getElem?_append_left hj] at hx; exact h.1 j x hx
    · have hjl := (List.getElem?_eq_some_iff.1 hx).1
      simp at hjl
      have : j = ys.length := by omega
      subst this
      simp at hx
      rw [← hx, hi]; exact hv
  · rcases List.mem_append.1 hx with hx | hx
    · exact h.2 x hx
    · rw [List.mem_singleton.1 hx]; exact hok

theorem solveR_b (s : SliceV NodeV) (g : G) (hs : NodesOk g s) (N : NetOk s.l) : Meets Tryd.prog 15 [.v (.slice s.a s.l.length s.c)] [] g (fun o L' g' => (∃ (ys : List VectorV) (cap : Nat) (sp : List Value), o = .ret (grS 0 ys.length cap) ∧ L' = grL 43 ys.length (ys.flatMap VectorV.cells) sp ∧ grOk 21 ys.length cap (ys.flatMap VectorV.cells) sp ∧ (ys.length = s.l.length ∧ ∃ rt, NetW s.l.length (brL s.l) (psL s.l) (fw (eM s.l) s.l.length) rt ∧ FinR s.l rt g ys) ∧ G.le g g') ∨ False) := by
  refine meets_ofF mixedS Tryd.func15 (by kernel_rfl) x15_ok none ?_
  have hfew := N.few
  have W := net_ways N
  refine (costs_c s g hs N).call0 rfl rfl 0 rfl ?_
  rintro o L1 g1 ⟨aa, H, rfl, rfl, hR, rfl⟩
  obtain ⟨d, hd⟩ : ∃ d, fw (eM s.l) s.l.length = d := ⟨_, rfl⟩
  have hcell : ∀ {j : Nat}, j < s.l.length → (outC s.l.length aa s.l.length)[0 + ((j : Nat) : Int).toNat * 1]? = some (.slice (some ⟨aa j, 0, none⟩) s.l.length s.l.length) := fun hj => by rw [off1, outC_get hj hj]
  rw [hd] at W hR
  refine prim_makeC (t := 137) (e := 3) (i := Tryd.t3) (z := .int .i64 0) (zv := .int .i64 0) 2 rfl (by kernel_rfl) (by kernel_rfl) (by kernel_rfl) rfl rfl rfl ⟨by omega, by omega, (show (8 : Int) * (s.l.length : Int) ≤ 281474976710656 from by omega), by omega⟩ (rowI s.l.length (rtI fun _ => 0)) (rowI_zero _) ?_
  change LoopW _ _ _ _ _ _ _ _ _ _
  apply loop_rule [] (α := Nat × (Nat → Nat)) (fun y => [(25, .v (.int .i64 y.1))]) (fun y => [.vals 137 (outC s.l.length aa s.l.length), .fam H, .vals 3 (rowI s.l.length (rtI y.2))]) (fun _ => g1)
    (fun y => y.1 ≤ s.l.length ∧ ∀ i, i < y.1 → RootTo d (brL s.l) s.l.length i s.l.length (y.2 i)) (fun y => s.l.length - y.1) (0, fun _ => 0)
  · intro x; kernel_rfl
  · exact ⟨Nat.zero_le _, fun i hi => by omega⟩
  · exact ⟨rfl, trivial⟩
  · rfl
  · rfl
  rintro ⟨i, rt⟩ ⟨hi, hrt⟩
  have hi : i ≤ s.l.length := hi
  have hrt : ∀ i', i' < i → RootTo d (brL s.l) s.l.length i' s.l.length (rt i') := hrt
  refine bsplit_of (fun hlt => ?_) (fun hlt => ?_)
  · have hil : i < s.l.length := by have := of_decide_eq_true hlt; omega
    refine ⟨⟨by omega, by omega⟩, ?_⟩
    refine ⟨rfl, fun u hu => by simp [Value.cells] at hu; subst hu; rfl, by rw [off1, rowI_len]; omega, ?_⟩
    change LoopW _ _ _ _ _ _ _ _ _ _
    apply loop_rule [] (α := Nat × Nat) (fun y => [(34, .v (.int .i64 y.1))]) (fun y => [.vals 137 (outC s.l.length aa s.l.length), .fam H, .vals 3 (rowI s.l.length (rtI (updA rt i y.2)))]) (fun _ => g1)
      (fun y => y.1 ≤ s.l.length ∧ RootTo d (brL s.l) s.l.length i y.1 y.2) (fun y => s.l.length - y.1) (0, i)
    · intro x; kernel_rfl
    · exact ⟨Nat.zero_le _, hil, by rw [W.diag i hil]; decide, bless_irr _, fun k hk => by omega⟩
    · exact ⟨rfl, trivial⟩
    · have e := rowI_set (n := s.l.length) (k := i) (f := rtI rt) (i : Int) hil
      rw [rtI_upd] at e
      exact congrArg (fun c => [Chunk.vals 137 (outC s.l.length aa s.l.length), .fam H, .vals 3 c]) (by rw [off1]; exact e)
    · rfl
    rintro ⟨k, r⟩ ⟨hk, hr⟩
    have hk : k ≤ s.l.length := hk
    have hr : RootTo d (brL s.l) s.l.length i k r := hr
    refine bsplit_of (fun hlt2 => ?_) (fun hlt2 => ?_)
    · have hkl : k < s.l.length := by have := of_decide_eq_true hlt2; omega
      obtain ⟨adk, nk, hak, hnk, hatk, hnkok⟩ := hs.elem (fun _ => rfl) hkl
      obtain ⟨adr, nr, har, hnr, hatr, hnrok⟩ := hs.elem (fun _ => rfl) hr.1
      have hw1 : IntKind.i64.wrap ((k : Int) + 1) = ((k + 1 : Nat) : Int) := by rw [wrap_id (by omega) (by omega)]; omega
      refine ⟨⟨by omega, by omega⟩, ?_⟩
      refine load1_at (hcell hil) ?_
      refine ⟨⟨by omega, by omega⟩, ⟨aa i, 0, none⟩, rfl, ?_⟩
      refine ⟨[.int .i64 (d i k)], rfl, .inr ⟨1, _, rfl, fam1 (hR.row i hil) hkl⟩, ?_⟩
      refine bsplit_of (fun (h1 : decide (d i k < 1099511627776) = true) => ?_) (fun (h1 : decide (d i k < 1099511627776) = false) => ?_)
      · have h1 : d i k < farC := of_decide_eq_true h1
        refine ⟨⟨by omega, by omega⟩, adk, hak, ?_⟩
        refine ⟨nk.bridge.cells, rfl, .inl (hatk.sub 0 8 (Nat.le_of_ble_eq_true rfl)), ?_⟩
        refine ⟨⟨by omega, by omega⟩, ?_⟩
        have hri : (updA rt i r) i = r := if_pos rfl
        refine load1_at (rt_cell (rt := updA rt i r) hil) ?_
        rw [hri]
        refine ⟨⟨by omega, by have := hr.1; omega⟩, adr, har, ?_⟩
        refine ⟨nr.bridge.cells, rfl, .inl (hatr.sub 0 8 (Nat.le_of_ble_eq_true rfl)), ?_⟩
        refine (blessR_c nk.bridge nr.bridge g1 hnkok.1 hnrok.1).call rfl rfl rfl ?_
        refine bsplit_of (fun (h2 : bless nk.bridge nr.bridge = true) => ?_) (fun (h2 : bless nk.bridge nr.bridge = false) => ?_)
        · rw [← brL_at hnk, ← brL_at hnr] at h2
          refine ⟨⟨by omega, by omega⟩, ?_⟩
          refine ⟨rfl, fun u hu => by simp [Value.cells] at hu; subst hu; rfl, by rw [off1, rowI_len]; omega, ?_⟩
          refine ⟨(k + 1, k), ⟨hkl, hr.turn hkl h1 h2⟩, by show s.l.length - (k + 1) < s.l.length - k; omega, [0, 1, 2], rfl, ⟨vi hw1, trivial⟩, ?_, rfl, rfl, rfl⟩
          have e := rowI_set (n := s.l.length) (k := i) (f := rtI (updA rt i r)) (k : Int) hil
          rw [rtI_upd, show updA (updA rt i r) i k = updA rt i k from by funext j; unfold updA; split <;> rfl] at e
          exact congrArg (fun c => [Chunk.vals 137 (outC s.l.length aa s.l.length), .fam H, .vals 3 c]) (by rw [off1]; exact e)
        · rw [← brL_at hnk, ← brL_at hnr] at h2
          exact ⟨(k + 1, r), ⟨hkl, hr.keep fun _ => h2⟩, by show s.l.length - (k + 1) < s.l.length - k; omega, [0, 1, 2], rfl, ⟨vi hw1, trivial⟩, rfl, rfl, rfl, rfl⟩
      · have h1 : ¬ d i k < farC := of_decide_eq_false h1
        exact ⟨(k + 1, r), ⟨hkl, hr.keep fun h => absurd h h1⟩, by show s.l.length - (k + 1) < s.l.length - k; omega, [0, 1, 2], rfl, ⟨vi hw1, trivial⟩, rfl, rfl, rfl, rfl⟩
    · have hkl : k = s.l.length := by have := of_decide_eq_false hlt2; omega
      subst hkl
      refine ⟨(i + 1, updA rt i r), ⟨hil, fun i' hi' => ?_⟩, by show s.l.length - (i + 1) < s.l.length - i; omega, [0, 1, 2], rfl, ⟨vi (show IntKind.i64.wrap ((i : Int) + 1) = ((i + 1 : Nat) : Int) from by rw [wrap_id (by omega) (by omega)]; omega), trivial⟩, rfl, rfl, rfl, rfl⟩
      show RootTo d (brL s.l) s.l.length i' s.l.length (updA rt i r i')
      by_cases hii : i' = i
      · subst hii; rw [updA, if_pos rfl]; exact hr
      · rw [updA, if_neg hii]; exact hrt i' (by omega)
  · have hil : i = s.l.length := by have := of_decide_eq_false hlt; omega
    subst hil
    rw [← hd] at hrt
    have NW := net_of N hrt
    change LoopW _ _ _ _ _ _ _ _ _ _
    refine loop_gone ?_
    apply loop_rule [3] (α := Nat × OthSt) (fun y => [(69, .v (.int .i64 y.1)), (7, grS 3 y.2.1.length y.2.2.1)]) (fun y => [.vals 137 (outC s.l.length aa s.l.length), .fam H, .vals 3 (rowI s.l.length (rtI rt)), grC 43 y.2.1.length (y.2.1.flatMap VectorV.cells) y.2.2.2]) (fun _ => g1)
      (fun y => y.1 ≤ s.l.length ∧ y.2.1.length = y.1 ∧ grOk 21 y.2.1.length y.2.2.1 (y.2.1.flatMap VectorV.cells) y.2.2.2 ∧ FinR s.l rt g1 y.2.1) (fun y => s.l.length - y.1) (0, [], 0, [])
    · rintro ⟨j, ys, cap, sp⟩
      cases ys <;> kernel_rfl
    · exact ⟨Nat.zero_le _, rfl, grOk.zero 21, fun i v h => by simp at h, fun v hv => by simp at hv⟩
    · exact ⟨rfl, rfl, trivial⟩
    · rfl
    · rfl
    rintro ⟨i, ys, cap, sp⟩ ⟨hi, hyl, hgr, hFR⟩
    have hi : i ≤ s.l.length := hi
    have hyl : ys.length = i := hyl
    have hgr : grOk 21 ys.length cap (ys.flatMap VectorV.cells) sp := hgr
    have hFR : FinR s.l rt g1 ys := hFR
    rcases ys with _ | ⟨y0, ys⟩
    · skip
      refine bsplit_of (fun hlt => ?_) (fun hlt => ?_)
      rotate_left
      · have hil : i = s.l.length := by have := of_decide_eq_false hlt; omega
        subst hil
        exact ⟨[], .inl ⟨[], 0, [], rfl, rfl, grOk.zero 21, ⟨hyl, rt, NW, hFR⟩, fun _ _ h => h⟩⟩
      have hil : i < s.l.length := by have := of_decide_eq_true hlt; omega
      obtain ⟨adi, ni, hai, hni, hati, hniok⟩ := hs.elem (fun _ => rfl) hil
      have hpi := N.ports ni (List.mem_of_getElem? hni)
      refine ⟨⟨by omega, by omega⟩, adi, hai, ?_⟩
      refine ⟨ni.cells, rfl, .inl hati, ?_⟩
      refine ⟨⟨by omega, by omega⟩, ?_⟩
      refine load1_at (rt_cell hil) ?_
      have hri := (hrt i hil).1
      refine bsplit_of (fun (h1 : ((rt i : Int) != (i : Int)) = true) => ?_) (fun (h1 : ((rt i : Int) != (i : Int)) = false) => ?_)
      rotate_left
      · have hr0 : rt i = i := by simp at h1; omega
        have hfin := net_own NW hil hr0
        rw [brL_at hni] at hfin
        have hfr : FinR s.l rt g1 ([] ++ [(ownB ni.bridge)]) := hFR.snoc hyl hfin (own_ok hniok)
        refine ⟨by show 0 + 1 * 21 ≤ 21; decide, fun u hu => vec_one (ownB ni.bridge) u (List.mem_of_mem_drop (List.mem_of_mem_take hu)), ?_⟩
        refine ⟨by decide, fun cap2 sp2 k1 k2 k3 => ?_⟩
        exact ⟨(i + 1, [(ownB ni.bridge)], cap2, sp2), ⟨hil, by simp at hyl ⊢; omega, by rw [flatV_one]; exact gr_first rfl k1 k2 k3, hfr⟩, by show s.l.length - (i + 1) < s.l.length - i; omega, [0, 1, 2, 7], rfl, ⟨vi (show IntKind.i64.wrap ((i : Int) + 1) = ((i + 1 : Nat) : Int) from by rw [wrap_id (by omega) (by omega)]; omega), rfl, trivial⟩, rfl, rfl, rfl, rfl⟩
      have hr0 : rt i ≠ i := by simp at h1; omega
      obtain ⟨adr, nr, har, hnr, hatr, hnrok⟩ := hs.elem (fun _ => rfl) hri
      refine ⟨⟨by omega, by omega⟩, ?_⟩
      refine load1_at (rt_cell hil) ?_
      refine ⟨⟨by show (0 : Int) ≤ (rt i : Int); omega, by show (rt i : Int) < (s.l.length : Int); omega⟩, adr, har, ?_⟩
      refine ⟨nr.bridge.cells, rfl, .inl (hatr.sub 0 8 (Nat.le_of_ble_eq_true rfl)), ?_⟩
      obtain ⟨R, hRb⟩ : ∃ R, nr.bridge = R := ⟨_, rfl⟩
      have hRok : R.ok g1 := hRb ▸ hnrok.1
      have hRr : brL s.l (rt i) = R := (brL_at hnr).trans hRb
      rw [hRb]
      have hfarok : iok .i64 1099511627776 := by unfold iok; decide
      obtain ⟨v0, hv0⟩ : ∃ v0 : VectorV, v0 = ⟨R, 1099511627776, BridgeV.zero, ⟨0, 0⟩, ⟨0, 0⟩⟩ := ⟨_, rfl⟩
      have hv0ok : v0.ok g1 := by rw [hv0]; exact ⟨hRok, hfarok, zbridge_ok g1, zport_ok g1, zport_ok g1⟩
      change LoopW _ _ _ _ _ _ _ _ _ _
      apply loop_rule [] (α := Nat × VectorV) (fun y => [(96, .v (.int .i64 y.1))]) (fun y => [.vals 137 (outC s.l.length aa s.l.length), .fam H, .vals 3 (rowI s.l.length (rtI rt)), .gone, .cells 148 (ni.cells.map .v), .cells 43 (y.2.cells.map .v)]) (fun _ => g1)
        (fun y => y.1 ≤ s.l.length ∧ y.2.root = R ∧ y.2.ok g1 ∧ Least (v0 :: candZ s.l d rt R i y.1) y.2) (fun y => s.l.length - y.1) (0, v0)
      · intro x; kernel_rfl
      · exact ⟨Nat.zero_le _, by rw [hv0], hv0ok, .one v0⟩
      · exact ⟨rfl, trivial⟩
      · rw [hv0]; rfl
      · rfl
      rintro ⟨k, b⟩ ⟨hk, hbR, hbok, hL⟩
      have hk : k ≤ s.l.length := hk
      have hbR : b.root = R := hbR
      have hbok : b.ok g1 := hbok
      have hL : Least (v0 :: candZ s.l d rt R i k) b := hL
      refine bsplit_of (fun hlt2 => ?_) (fun hlt2 => ?_)
      rotate_left
      · have hkl : k = s.l.length := by have := of_decide_eq_false hlt2; omega
        subst hkl
        rw [← hd, ← hRr] at hL
        have hfin := net_fin N NW hil (v0 := v0) ⟨by rw [hv0, hRr], by rw [hv0]; rfl⟩ hr0 hL
        have hfr : FinR s.l rt g1 ([] ++ [b]) := hFR.snoc hyl hfin hbok
        refine ⟨by show 0 + 1 * 21 ≤ 21; decide, fun u hu => vec_one b u (List.mem_of_mem_drop (List.mem_of_mem_take hu)), ?_⟩
        refine ⟨by decide, fun cap2 sp2 k1 k2 k3 => ?_⟩
        exact ⟨(i + 1, [b], cap2, sp2), ⟨hil, by simp at hyl ⊢; omega, by rw [flatV_one]; exact gr_first rfl k1 k2 k3, hfr⟩, by show s.l.length - (i + 1) < s.l.length - i; omega, [0, 1, 2, 7], rfl, ⟨vi (show IntKind.i64.wrap ((i : Int) + 1) = ((i + 1 : Nat) : Int) from by rw [wrap_id (by omega) (by omega)]; omega), rfl, trivial⟩, rfl, rfl, rfl, rfl⟩
      have hkl : k < s.l.length := by have := of_decide_eq_true hlt2; omega
      obtain ⟨adk, nk, hak, hnk, hatk, hnkok⟩ := hs.elem (fun _ => rfl) hkl
      have hpk := N.ports nk (List.mem_of_getElem? hnk)
      refine ⟨⟨by omega, by omega⟩, adk, hak, ?_⟩
      refine ⟨nk.cells, rfl, .inl hatk, ?_⟩
      have hrk := (hrt k hkl).1
      have hdk : d k (rt k) = dist d rt k := rfl
      obtain ⟨Q, hQ⟩ : ∃ Q : Nat → List VectorV, Q = fun y => if k = i then [] else candQ R (dist d rt k) nk.bridge (nk.ports.l.take y) ni.ports.l := ⟨_, rfl⟩
      change LoopW _ _ _ _ _ _ _ _ _ _
      apply loop_rule [] (α := Nat × VectorV) (fun y => [(104, .v (.int .i64 y.1))]) (fun y => [.vals 137 (outC s.l.length aa s.l.length), .fam H, .vals 3 (rowI s.l.length (rtI rt)), .gone, .cells 148 (ni.cells.map .v), .cells 43 (y.2.cells.map .v), .cells 148 (nk.cells.map .v)]) (fun _ => g1)
        (fun y => y.1 ≤ nk.ports.l.length ∧ y.2.root = R ∧ y.2.ok g1 ∧ Least (v0 :: (candZ s.l d rt R i k ++ Q y.1)) y.2) (fun y => nk.ports.l.length - y.1) (0, b)
      · intro x; kernel_rfl
      · refine ⟨Nat.zero_le _, hbR, hbok, ?_⟩
        have : Q 0 = [] := by rw [hQ]; simp [candQ]
        show Least (v0 :: (candZ s.l d rt R i k ++ Q 0)) b
        rw [this, List.append_nil]; exact hL
      · exact ⟨rfl, trivial⟩
      · rfl
      · rfl
      rintro ⟨y, b⟩ ⟨hy, hbR, hbok, hL⟩
      have hy : y ≤ nk.ports.l.length := hy
      have hbR : b.root = R := hbR
      have hbok : b.ok g1 := hbok
      have hL : Least (v0 :: (candZ s.l d rt R i k ++ Q y)) b := hL
      refine bsplit_of (fun hlt3 => ?_) (fun hlt3 => ?_)
      rotate_left
      · have hyl2 : y = nk.ports.l.length := by have := of_decide_eq_false hlt3; omega
        subst hyl2
        have hZ : candZ s.l d rt R i (k + 1) = candZ s.l d rt R i k ++ Q nk.ports.l.length := by
          rw [candZ, hQ, psL_at hnk, psL_at hni, brL_at hnk]
          show _ = _ ++ (if k = i then [] else candQ R (dist d rt k) nk.bridge (List.take nk.ports.l.length nk.ports.l) ni.ports.l)
          rw [List.take_length]
        rw [← hZ] at hL
        exact ⟨(k + 1, b), ⟨hkl, hbR, hbok, hL⟩, by show s.l.length - (k + 1) < s.l.length - k; omega, [0, 1, 2, 3, 4, 5], rfl, ⟨vi (show IntKind.i64.wrap ((k : Int) + 1) = ((k + 1 : Nat) : Int) from by rw [wrap_id (by omega) (by omega)]; omega), trivial⟩, rfl, rfl, rfl, rfl⟩
      have hyl2 : y < nk.ports.l.length := by have := of_decide_eq_true hlt3; omega
      obtain ⟨aq, q, haq, hq, hatq, hqok⟩ := hnkok.2.elem (fun _ => rfl) hyl2
      refine ⟨⟨by omega, by omega⟩, aq, haq, ?_⟩
      refine ⟨q.cells, rfl, .inl hatq, ?_⟩
      obtain ⟨X, hX⟩ : ∃ X : Nat → List VectorV, X = fun x => if k = i then [] else candX R (dist d rt k) nk.bridge q (ni.ports.l.take x) := ⟨_, rfl⟩
      change LoopW _ _ _ _ _ _ _ _ _ _
      apply loop_rule [] (α := Nat × VectorV) (fun y => [(111, .v (.int .i64 y.1))]) (fun y => [.vals 137 (outC s.l.length aa s.l.length), .fam H, .vals 3 (rowI s.l.length (rtI rt)), .gone, .cells 148 (ni.cells.map .v), .cells 43 (y.2.cells.map .v), .cells 148 (nk.cells.map .v), .cells 159 (q.cells.map .v)]) (fun _ => g1)
        (fun z => z.1 ≤ ni.ports.l.length ∧ z.2.root = R ∧ z.2.ok g1 ∧ Least (v0 :: (candZ s.l d rt R i k ++ (Q y ++ X z.1))) z.2) (fun z => ni.ports.l.length - z.1) (0, b)
      · intro x; kernel_rfl
      · refine ⟨Nat.zero_le _, hbR, hbok, ?_⟩
        have : X 0 = [] := by rw [hX]; simp [candX]
        show Least (v0 :: (candZ s.l d rt R i k ++ (Q y ++ X 0))) b
        rw [this, List.append_nil]; exact hL
      · exact ⟨rfl, trivial⟩
      · rfl
      · rfl
      rintro ⟨x, b⟩ ⟨hx, hbR, hbok, hL⟩
      have hx : x ≤ ni.ports.l.length := hx
      have hbR : b.root = R := hbR
      have hbok : b.ok g1 := hbok
      have hL : Least (v0 :: (candZ s.l d rt R i k ++ (Q y ++ X x))) b := hL
      refine bsplit_of (fun hlt4 => ?_) (fun hlt4 => ?_)
      rotate_left
      · have hxl : x = ni.ports.l.length := by have := of_decide_eq_false hlt4; omega
        subst hxl
        have hQX : Q y ++ X ni.ports.l.length = Q (y + 1) := by
          rw [hQ, hX]
          by_cases hki : k = i
          · simp only [if_pos hki, List.append_nil]
          · simp only [if_neg hki]; rw [take_snoc hq, candQ_snoc, List.take_length]
        rw [hQX] at hL
        exact ⟨(y + 1, b), ⟨hyl2, hbR, hbok, hL⟩, by show nk.ports.l.length - (y + 1) < nk.ports.l.length - y; omega, [0, 1, 2, 3, 4, 5, 6], rfl, ⟨vi (show IntKind.i64.wrap ((y : Int) + 1) = ((y + 1 : Nat) : Int) from by rw [wrap_id (by omega) (by omega)]; omega), trivial⟩, rfl, rfl, rfl, rfl⟩
      have hxl : x < ni.ports.l.length := by have := of_decide_eq_true hlt4; omega
      obtain ⟨ap, p, hap, hp, hatp, hpok⟩ := hniok.2.elem (fun _ => rfl) hxl
      refine ⟨⟨by omega, by omega⟩, ap, hap, ?_⟩
      refine ⟨p.cells, rfl, .inl hatp, ?_⟩
      refine ⟨⟨by omega, by omega⟩, ?_⟩
      refine load1_at (hcell hkl) ?_
      refine ⟨⟨by omega, by omega⟩, ?_⟩
      refine load1_at (rt_cell hkl) ?_
      refine ⟨⟨by show (0 : Int) ≤ (rt k : Int); omega, by show (rt k : Int) < (s.l.length : Int); omega⟩, ⟨aa k, 0, none⟩, rfl, ?_⟩
      refine ⟨[.int .i64 (d k (rt k))], rfl, .inr ⟨1, _, rfl, fam1 (hR.row k hkl) hrk⟩, ?_⟩
      obtain ⟨v, hv⟩ : ∃ v : VectorV, v = ⟨R, IntKind.i64.wrap (dist d rt k + p.cost), nk.bridge, q.port, p.port⟩ := ⟨_, rfl⟩
      have hvok : v.ok g1 := by rw [hv]; exact ⟨hRok, wrap_iok _, hnkok.1, hqok.1, hpok.1⟩
      have hXn : X (x + 1) = X x ++ (if k = i then [] else if p.lan = q.lan then [v] else []) := by
        rw [hX]
        by_cases hki : k = i
        · simp only [if_pos hki, List.append_nil]
        · simp only [if_neg hki]; rw [take_snoc hp, candX_snoc, hv]
      have hw1 : IntKind.i64.wrap ((x : Int) + 1) = ((x + 1 : Nat) : Int) := by rw [wrap_id (by omega) (by omega)]; omega
      have same : X (x + 1) = X x → Least (v0 :: (candZ s.l d rt R i k ++ (Q y ++ X (x + 1)))) b := fun h => by rw [h]; exact hL
      refine bsplit_of (fun (h2 : ((k : Int) != (i : Int)) = true) => ?_) (fun (h2 : ((k : Int) != (i : Int)) = false) => ?_)
      rotate_left
      · have hki : k = i := by simp at h2; omega
        rw [if_pos hki, List.append_nil] at hXn
        exact ⟨(x + 1, b), ⟨hxl, hbR, hbok, same hXn⟩, by show ni.ports.l.length - (x + 1) < ni.ports.l.length - x; omega, [0, 1, 2, 3, 4, 5, 6, 7], rfl, ⟨vi hw1, trivial⟩, rfl, rfl, rfl, rfl⟩
      have hki : k ≠ i := by simp at h2; omega
      rw [if_neg hki] at hXn
      refine bsplit_of (fun (h3 : (p.lan == q.lan) = true) => ?_) (fun (h3 : (p.lan == q.lan) = false) => ?_)
      rotate_left
      · have h3 : ¬ p.lan = q.lan := by simpa using h3
        rw [if_neg h3, List.append_nil] at hXn
        exact ⟨(x + 1, b), ⟨hxl, hbR, hbok, same hXn⟩, by show ni.ports.l.length - (x + 1) < ni.ports.l.length - x; omega, [0, 1, 2, 3, 4, 5, 6, 7], rfl, ⟨vi hw1, trivial⟩, rfl, rfl, rfl, rfl⟩
      have h3 : p.lan = q.lan := by simpa using h3
      rw [if_pos h3] at hXn
      have hLn := hL.next v
      have hcs : (v0 :: (candZ s.l d rt R i k ++ (Q y ++ X x))) ++ [v] = v0 :: (candZ s.l d rt R i k ++ (Q y ++ X (x + 1))) := by rw [hXn]; simp
      rw [hcs] at hLn
      have hvb : (⟨b.root, IntKind.i64.wrap (d k (rt k) + p.cost), nk.bridge, q.port, p.port⟩ : VectorV) = v := by rw [hv, hbR]; rfl
      have hcall := betterR_c ⟨b.root, IntKind.i64.wrap (d k (rt k) + p.cost), nk.bridge, q.port, p.port⟩ b g1 (by rw [hvb]; exact hvok) hbok
      refine hcall.call rfl rfl rfl ?_
      rw [hvb]
      refine bsplit_of (fun (h4 : vless v b = true) => ?_) (fun (h4 : vless v b = false) => ?_)
      · have hbet : bet b v = v := by unfold bet; rw [if_pos h4]
        rw [hbet] at hLn
        refine ⟨(x + 1, v), ⟨hxl, by rw [hv], hvok, hLn⟩, by show ni.ports.l.length - (x + 1) < ni.ports.l.length - x; omega, [0, 1, 2, 3, 4, 5, 6, 7], rfl, ⟨vi hw1, trivial⟩, ?_, rfl, rfl, rfl⟩
        rw [← hvb]
        rfl
      · have hbet : bet b v = b := by unfold bet; rw [if_neg (by rw [h4]; decide)]
        rw [hbet] at hLn
        exact ⟨(x + 1, b), ⟨hxl, hbR, hbok, hLn⟩, by show ni.ports.l.length - (x + 1) < ni.ports.l.length - x; omega, [0, 1, 2, 3, 4, 5, 6, 7], rfl, ⟨vi hw1, trivial⟩, rfl, rfl, rfl, rfl⟩
    · skip
      refine bsplit_of (fun hlt => ?_) (fun hlt => ?_)
      rotate_left
      · have hil : i = s.l.length := by have := of_decide_eq_false hlt; omega
        subst hil
        exact ⟨[3], .inl ⟨y0 :: ys, cap, sp, rfl, rfl, hgr, ⟨hyl, rt, NW, hFR⟩, fun _ _ h => h⟩⟩
      have hil : i < s.l.length := by have := of_decide_eq_true hlt; omega
      obtain ⟨adi, ni, hai, hni, hati, hniok⟩ := hs.elem (fun _ => rfl) hil
      have hpi := N.ports ni (List.mem_of_getElem? hni)
      refine ⟨⟨by omega, by omega⟩, adi, hai, ?_⟩
      refine ⟨ni.cells, rfl, .inl hati, ?_⟩
      refine ⟨⟨by omega, by omega⟩, ?_⟩
      refine load1_at (rt_cell hil) ?_
      have hri := (hrt i hil).1
      refine bsplit_of (fun (h1 : ((rt i : Int) != (i : Int)) = true) => ?_) (fun (h1 : ((rt i : Int) != (i : Int)) = false) => ?_)
      rotate_left
      · have hr0 : rt i = i := by simp at h1; omega
        have hfin := net_own NW hil hr0
        rw [brL_at hni] at hfin
        have hfr : FinR s.l rt g1 ((y0 :: ys) ++ [(ownB ni.bridge)]) := hFR.snoc hyl hfin (own_ok hniok)
        have g1' := gr_bounds hgr
        refine ⟨by show 0 + 1 * 21 ≤ 21; decide, fun u hu => vec_one (ownB ni.bridge) u (List.mem_of_mem_drop (List.mem_of_mem_take hu)), ?_⟩
        refine ⟨(y0 :: ys).flatMap VectorV.cells, sp, rfl, g1'.1, ⟨g1'.2.1, g1'.2.2.1, g1'.2.2.2⟩, by simp at hyl; omega, fun cap2 sp2 k1 k2 k3 => ?_⟩
        have hl2 : ((y0 :: ys) ++ [(ownB ni.bridge)]).length = ys.length + 1 + 1 := by simp
        have hgr2 : grOk 21 ((y0 :: ys) ++ [(ownB ni.bridge)]).length cap2 (((y0 :: ys) ++ [(ownB ni.bridge)]).flatMap VectorV.cells) sp2 := by
          rw [hl2, List.flatMap_append, flatV_one]
          exact gr_next hgr rfl k1 k2 k3
        refine ⟨(i + 1, y0 :: (ys ++ [(ownB ni.bridge)]), cap2, sp2), ⟨hil, by simp at hyl ⊢; omega, hgr2, hfr⟩, by show s.l.length - (i + 1) < s.l.length - i; omega, [0, 1, 2, 7], rfl, ⟨vi (show IntKind.i64.wrap ((i : Int) + 1) = ((i + 1 : Nat) : Int) from by rw [wrap_id (by omega) (by omega)]; omega), (show SV.slc 7 0 (ys.length + 1 + 1) cap2 = SV.slc 7 0 ((ys ++ [(ownB ni.bridge)]).length + 1) cap2 from by rw [List.length_append]; rfl), trivial⟩, ?_, rfl, rfl, rfl⟩
        exact congrArg (fun c => [Chunk.vals 137 (outC s.l.length aa s.l.length), .fam H, .vals 3 (rowI s.l.length (rtI rt)), .vals 43 c]) (show (y0 :: ys).flatMap VectorV.cells ++ (((ownB ni.bridge) : VectorV).cells ++ sp2) = (y0 :: (ys ++ [(ownB ni.bridge)])).flatMap VectorV.cells ++ sp2 from by simp)
      have hr0 : rt i ≠ i := by simp at h1; omega
      obtain ⟨adr, nr, har, hnr, hatr, hnrok⟩ := hs.elem (fun _ => rfl) hri
      refine ⟨⟨by omega, by omega⟩, ?_⟩
      refine load1_at (rt_cell hil) ?_
      refine ⟨⟨by show (0 : Int) ≤ (rt i : Int); omega, by show (rt i : Int) < (s.l.length : Int); omega⟩, adr, har, ?_⟩
      refine ⟨nr.bridge.cells, rfl, .inl (hatr.sub 0 8 (Nat.le_of_ble_eq_true rfl)), ?_⟩
      obtain ⟨R, hRb⟩ : ∃ R, nr.bridge = R := ⟨_, rfl⟩
      have hRok : R.ok g1 := hRb ▸ hnrok.1
      have hRr : brL s.l (rt i) = R := (brL_at hnr).trans hRb
      rw [hRb]
      have hfarok : iok .i64 1099511627776 := by unfold iok; decide
      obtain ⟨v0, hv0⟩ : ∃ v0 : VectorV, v0 = ⟨R, 1099511627776, BridgeV.zero, ⟨0, 0⟩, ⟨0, 0⟩⟩ := ⟨_, rfl⟩
      have hv0ok : v0.ok g1 := by rw [hv0]; exact ⟨hRok, hfarok, zbridge_ok g1, zport_ok g1, zport_ok g1⟩
      change LoopW _ _ _ _ _ _ _ _ _ _
      apply loop_rule [] (α := Nat × VectorV) (fun y => [(96, .v (.int .i64 y.1))]) (fun y => [.vals 137 (outC s.l.length aa s.l.length), .fam H, .vals 3 (rowI s.l.length (rtI rt)), .vals 43 ((y0 :: ys).flatMap VectorV.cells ++ sp), .cells 148 (ni.cells.map .v), .cells 43 (y.2.cells.map .v)]) (fun _ => g1)
        (fun y => y.1 ≤ s.l.length ∧ y.2.root = R ∧ y.2.ok g1 ∧ Least (v0 :: candZ s.l d rt R i y.1) y.2) (fun y => s.l.length - y.1) (0, v0)
      · intro x; kernel_rfl
      · exact ⟨Nat.zero_le _, by rw [hv0], hv0ok, .one v0⟩
      · exact ⟨rfl, trivial⟩
      · rw [hv0]; rfl
      · rfl
      rintro ⟨k, b⟩ ⟨hk, hbR, hbok, hL⟩
      have hk : k ≤ s.l.length := hk
      have hbR : b.root = R := hbR
      have hbok : b.ok g1 := hbok
      have hL : Least (v0 :: candZ s.l d rt R i k) b := hL
      refine bsplit_of (fun hlt2 => ?_) (fun hlt2 => ?_)
      rotate_left
      · have hkl : k = s.l.length := by have := of_decide_eq_false hlt2; omega
        subst hkl
        rw [← hd, ← hRr] at hL
        have hfin := net_fin N NW hil (v0 := v0) ⟨by rw [hv0, hRr], by rw [hv0]; rfl⟩ hr0 hL
        have hfr : FinR s.l rt g1 ((y0 :: ys) ++ [b]) := hFR.snoc hyl hfin hbok
        have g1' := gr_bounds hgr
        refine ⟨by show 0 + 1 * 21 ≤ 21; decide, fun u hu => vec_one b u (List.mem_of_mem_drop (List.mem_of_mem_take hu)), ?_⟩
        refine ⟨(y0 :: ys).flatMap VectorV.cells, sp, rfl, g1'.1, ⟨g1'.2.1, g1'.2.2.1, g1'.2.2.2⟩, by simp at hyl; omega, fun cap2 sp2 k1 k2 k3 => ?_⟩
        have hl2 : ((y0 :: ys) ++ [b]).length = ys.length + 1 + 1 := by simp
        have hgr2 : grOk 21 ((y0 :: ys) ++ [b]).length cap2 (((y0 :: ys) ++ [b]).flatMap VectorV.cells) sp2 := by
          rw [hl2, List.flatMap_append, flatV_one]
          exact gr_next hgr rfl k1 k2 k3
        refine ⟨(i + 1, y0 :: (ys ++ [b]), cap2, sp2), ⟨hil, by simp at hyl ⊢; omega, hgr2, hfr⟩, by show s.l.length - (i + 1) < s.l.length - i; omega, [0, 1, 2, 7], rfl, ⟨vi (show IntKind.i64.wrap ((i : Int) + 1) = ((i + 1 : Nat) : Int) from by rw [wrap_id (by omega) (by omega)]; omega), (show SV.slc 7 0 (ys.length + 1 + 1) cap2 = SV.slc 7 0 ((ys ++ [b]).length + 1) cap2 from by rw [List.length_append]; rfl), trivial⟩, ?_, rfl, rfl, rfl⟩
        exact congrArg (fun c => [Chunk.vals 137 (outC s.l.length aa s.l.length), .fam H, .vals 3 (rowI s.l.length (rtI rt)), .vals 43 c]) (show (y0 :: ys).flatMap VectorV.cells ++ ((b : VectorV).cells ++ sp2) = (y0 :: (ys ++ [b])).flatMap VectorV.cells ++ sp2 from by simp)
      have hkl : k < s.l.length := by have := of_decide_eq_true hlt2; omega
      obtain ⟨adk, nk, hak, hnk, hatk, hnkok⟩ := hs.elem (fun _ => rfl) hkl
      have hpk := N.ports nk (List.mem_of_getElem? hnk)
      refine ⟨⟨by omega, by omega⟩, adk, hak, ?_⟩
      refine ⟨nk.cells, rfl, .inl hatk, ?_⟩
      have hrk := (hrt k hkl).1
      have hdk : d k (rt k) = dist d rt k := rfl
      obtain ⟨Q, hQ⟩ : ∃ Q : Nat → List VectorV, Q = fun y => if k = i then [] else candQ R (dist d rt k) nk.bridge (nk.ports.l.take y) ni.ports.l := ⟨_, rfl⟩
      change LoopW _ _ _ _ _ _ _ _ _ _
      apply loop_rule [] (α := Nat × VectorV) (fun y => [(104, .v (.int .i64 y.1))]) (fun y => [.vals 137 (outC s.l.length aa s.l.length), .fam H, .vals 3 (rowI s.l.length (rtI rt)), .vals 43 ((y0 :: ys).flatMap VectorV.cells ++ sp), .cells 148 (ni.cells.map .v), .cells 43 (y.2.cells.map .v), .cells 148 (nk.cells.map .v)]) (fun _ => g1)
        (fun y => y.1 ≤ nk.ports.l.length ∧ y.2.root = R ∧ y.2.ok g1 ∧ Least (v0 :: (candZ s.l d rt R i k ++ Q y.1)) y.2) (fun y => nk.ports.l.length - y.1) (0, b)
      · intro x; kernel_rfl
      · refine ⟨Nat.zero_le _, hbR, hbok, ?_⟩
        have : Q 0 = [] := by rw [hQ]; simp [candQ]
        show Least (v0 :: (candZ s.l d rt R i k ++ Q 0)) b
        rw [this, List.append_nil]; exact hL
      · exact ⟨rfl, trivial⟩
      · rfl
      · rfl
      rintro ⟨y, b⟩ ⟨hy, hbR, hbok, hL⟩
      have hy : y ≤ nk.ports.l.length := hy
      have hbR : b.root = R := hbR
      have hbok : b.ok g1 := hbok
      have hL : Least (v0 :: (candZ s.l d rt R i k ++ Q y)) b := hL
      refine bsplit_of (fun hlt3 => ?_) (fun hlt3 => ?_)
      rotate_left
      · have hyl2 : y = nk.ports.l.length := by have := of_decide_eq_false hlt3; omega
        subst hyl2
        have hZ : candZ s.l d rt R i (k + 1) = candZ s.l d rt R i k ++ Q nk.ports.l.length := by
          rw [candZ, hQ, psL_at hnk, psL_at hni, brL_at hnk]
          show _ = _ ++ (if k = i then [] else candQ R (dist d rt k) nk.bridge (List.take nk.ports.l.length nk.ports.l) ni.ports.l)
          rw [List.take_length]
        rw [← hZ] at hL
        exact ⟨(k + 1, b), ⟨hkl, hbR, hbok, hL⟩, by show s.l.length - (k + 1) < s.l.length - k; omega, [0, 1, 2, 3, 4, 5], rfl, ⟨vi (show IntKind.i64.wrap ((k : Int) + 1) = ((k + 1 : Nat) : Int) from by rw [wrap_id (by omega) (by omega)]; omega), trivial⟩, rfl, rfl, rfl, rfl⟩
      have hyl2 : y < nk.ports.l.length := by have := of_decide_eq_true hlt3; omega
      obtain ⟨aq, q, haq, hq, hatq, hqok⟩ := hnkok.2.elem (fun _ => rfl) hyl2
      refine ⟨⟨by omega, by omega⟩, aq, haq, ?_⟩
      refine ⟨q.cells, rfl, .inl hatq, ?_⟩
      obtain ⟨X, hX⟩ : ∃ X : Nat → List VectorV, X = fun x => if k = i then [] else candX R (dist d rt k) nk.bridge q (ni.ports.l.take x) := ⟨_, rfl⟩
      change LoopW _ _ _ _ _ _ _ _ _ _
      apply loop_rule [] (α := Nat × VectorV) (fun y => [(111, .v (.int .i64 y.1))]) (fun y => [.vals 137 (outC s.l.length aa s.l.length), .fam H, .vals 3 (rowI s.l.length (rtI rt)), .vals 43 ((y0 :: ys).flatMap VectorV.cells ++ sp), .cells 148 (ni.cells.map .v), .cells 43 (y.2.cells.map .v), .cells 148 (nk.cells.map .v), .cells 159 (q.cells.map .v)]) (fun _ => g1)
        (fun z => z.1 ≤ ni.ports.l.length ∧ z.2.root = R ∧ z.2.ok g1 ∧ Least (v0 :: (candZ s.l d rt R i k ++ (Q y ++ X z.1))) z.2) (fun z => ni.ports.l.length - z.1) (0, b)
      · intro x; kernel_rfl
      · refine ⟨Nat.zero_le _, hbR, hbok, ?_⟩
        have : X 0 = [] := by rw [hX]; simp [candX]
        show Least (v0 :: (candZ s.l d rt R i k ++ (Q y ++ X 0))) b
        rw [this, List.append_nil]; exact hL
      · exact ⟨rfl, trivial⟩
      · rfl
      · rfl
      rintro ⟨x, b⟩ ⟨hx, hbR, hbok, hL⟩
      have hx : x ≤ ni.ports.l.length := hx
      have hbR : b.root = R := hbR
      have hbok : b.ok g1 := hbok
      have hL : Least (v0 :: (candZ s.l d rt R i k ++ (Q y ++ X x))) b := hL
      refine bsplit_of (fun hlt4 => ?_) (fun hlt4 => ?_)
      rotate_left
      · have hxl : x = ni.ports.l.length := by have := of_decide_eq_false hlt4; omega
        subst hxl
        have hQX : Q y ++ X ni.ports.l.length = Q (y + 1) := by
          rw [hQ, hX]
          by_cases hki : k = i
          · simp only [if_pos hki, List.append_nil]
          · simp only [if_neg hki]; rw [take_snoc hq, candQ_snoc, List.take_length]
        rw [hQX] at hL
        exact ⟨(y + 1, b), ⟨hyl2, hbR, hbok, hL⟩, by show nk.ports.l.length - (y + 1) < nk.ports.l.length - y; omega, [0, 1, 2, 3, 4, 5, 6], rfl, ⟨vi (show IntKind.i64.wrap ((y : Int) + 1) = ((y + 1 : Nat) : Int) from by rw [wrap_id (by omega) (by omega)]; omega), trivial⟩, rfl, rfl, rfl, rfl⟩
      have hxl : x < ni.ports.l.length := by have := of_decide_eq_true hlt4; omega
      obtain ⟨ap, p, hap, hp, hatp, hpok⟩ := hniok.2.elem (fun _ => rfl) hxl
      refine ⟨⟨by omega, by omega⟩, ap, hap, ?_⟩
      refine ⟨p.cells, rfl, .inl hatp, ?_⟩
      refine ⟨⟨by omega, by omega⟩, ?_⟩
      refine load1_at (hcell hkl) ?_
      refine ⟨⟨by omega, by omega⟩, ?_⟩
      refine load1_at (rt_cell hkl) ?_
      refine ⟨⟨by show (0 : Int) ≤ (rt k : Int); omega, by show (rt k : Int) < (s.l.length : Int); omega⟩, ⟨aa k, 0, none⟩, rfl, ?_⟩
      refine ⟨[.int .i64 (d k (rt k))], rfl, .inr ⟨1, _, rfl, fam1 (hR.row k hkl) hrk⟩, ?_⟩
      obtain ⟨v, hv⟩ : ∃ v : VectorV, v = ⟨R, IntKind.i64.wrap (dist d rt k + p.cost), nk.bridge, q.port, p.port⟩ := ⟨_, rfl⟩
      have hvok : v.ok g1 := by rw [hv]; exact ⟨hRok, wrap_iok _, hnkok.1, hqok.1, hpok.1⟩
      have hXn : X (x + 1) = X x ++ (if k = i then [] else if p.lan = q.lan then [v] else []) := by
        rw [hX]
        by_cases hki : k = i
        · simp only [if_pos hki, List.append_nil]
        · simp only [if_neg hki]; rw [take_snoc hp, candX_snoc, hv]
      have hw1 : IntKind.i64.wrap ((x : Int) + 1) = ((x + 1 : Nat) : Int) := by rw [wrap_id (by omega) (by omega)]; omega
      have same : X (x + 1) = X x → Least (v0 :: (candZ s.l d rt R i k ++ (Q y ++ X (x + 1)))) b := fun h => by rw [h]; exact hL
      refine bsplit_of (fun (h2 : ((k : Int) != (i : Int)) = true) => ?_) (fun (h2 : ((k : Int) != (i : Int)) = false) => ?_)
      rotate_left
      · have hki : k = i := by simp at h2; omega
        rw [if_pos hki, List.append_nil] at hXn
        exact ⟨(x + 1, b), ⟨hxl, hbR, hbok, same hXn⟩, by show ni.ports.l.length - (x + 1) < ni.ports.l.length - x; omega, [0, 1, 2, 3, 4, 5, 6, 7], rfl, ⟨vi hw1, trivial⟩, rfl, rfl, rfl, rfl⟩
      have hki : k ≠ i := by simp at h2; omega
      rw [if_neg hki] at hXn
      refine bsplit_of (fun (h3 : (p.lan == q.lan) = true) => ?_) (fun (h3 : (p.lan == q.lan) = false) => ?_)
      rotate_left
      · have h3 : ¬ p.lan = q.lan := by simpa using h3
        rw [if_neg h3, List.append_nil] at hXn
        exact ⟨(x + 1, b), ⟨hxl, hbR, hbok, same hXn⟩, by show ni.ports.l.length - (x + 1) < ni.ports.l.length - x; omega, [0, 1, 2, 3, 4, 5, 6, 7], rfl, ⟨vi hw1, trivial⟩, rfl, rfl, rfl, rfl⟩
      have h3 : p.lan = q.lan := by simpa using h3
      rw [if_pos h3] at hXn
      have hLn := hL.next v
      have hcs : (v0 :: (candZ s.l d rt R i k ++ (Q y ++ X x))) ++ [v] = v0 :: (candZ s.l d rt R i k ++ (Q y ++ X (x + 1))) := by rw [hXn]; simp
      rw [hcs] at hLn
      have hvb : (⟨b.root, IntKind.i64.wrap (d k (rt k) + p.cost), nk.bridge, q.port, p.port⟩ : VectorV) = v := by rw [hv, hbR]; rfl
      have hcall := betterR_c ⟨b.root, IntKind.i64.wrap (d k (rt k) + p.cost), nk.bridge, q.port, p.port⟩ b g1 (by rw [hvb]; exact hvok) hbok
      refine hcall.call rfl rfl rfl ?_
      rw [hvb]
      refine bsplit_of (fun (h4 : vless v b = true) => ?_) (fun (h4 : vless v b = false) => ?_)
      · have hbet : bet b v = v := by unfold bet; rw [if_pos h4]
        rw [hbet] at hLn
        refine ⟨(x + 1, v), ⟨hxl, by rw [hv], hvok, hLn⟩, by show ni.ports.l.length - (x + 1) < ni.ports.l.length - x; omega, [0, 1, 2, 3, 4, 5, 6, 7], rfl, ⟨vi hw1, trivial⟩, ?_, rfl, rfl, rfl⟩
        rw [← hvb]
        rfl
      · have hbet : bet b v = b := by unfold bet; rw [if_neg (by rw [h4]; decide)]
        rw [hbet] at hLn
        exact ⟨(x + 1, b), ⟨hxl, hbR, hbok, hLn⟩, by show ni.ports.l.length - (x + 1) < ni.ports.l.length - x; omega, [0, 1, 2, 3, 4, 5, 6, 7], rfl, ⟨vi hw1, trivial⟩, rfl, rfl, rfl, rfl⟩
end Go.Proofs.YtedfohdgigbhiaaDoor
