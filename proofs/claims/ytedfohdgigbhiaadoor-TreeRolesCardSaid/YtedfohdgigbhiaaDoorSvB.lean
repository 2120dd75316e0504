/- tree.Solve: what it returns. Conditions: the slices lie where they say. -/
import Derived.Test.YtedfohdgigbhiaaDoorSvA
import Derived.Test.YtedfohdgigbhiaaDoorSvL
namespace Go.Proofs.YtedfohdgigbhiaaDoor
open Go.Sx Go.Lib
set_option maxRecDepth 100000
set_option maxHeartbeats 8000000
attribute [local irreducible] Meets
attribute [local instance] Classical.propDecidable

/-- A net of which nothing is wrong. -/
structure NetOk (l : List NodeV) : Prop where
  few : l.length ≤ 12
  ports : ∀ n ∈ l, n.ports.l.length ≤ 8
  right : ∀ n ∈ l, okN n
  names : ∀ i n, l[i]? = some n → ∀ m ∈ l.take i, m.bridge ≠ n.bridge
theorem netOk_of {l : List NodeV} (h : netE l = (0, -1)) : NetOk l := by
  have h12 : ¬ 12 < l.length := fun hh => by rw [netE_big hh] at h; cases h
  have hz : ∀ i, i < l.length → nE l i = 0 := by
    have : (List.range l.length).find? (fun i => decide (nE l i ≠ 0)) = none := by
      cases hf : (List.range l.length).find? (fun i => decide (nE l i ≠ 0)) with
      | none => rfl
      | some i =>
        rw [netE, if_neg h12, hf] at h
        have h2 := (Prod.mk.inj h).2
        omega
    rw [List.find?_eq_none] at this
    intro i hi
    simpa using this i (by simpa using hi)
  have node : ∀ i n, l[i]? = some n → ¬ 8 < n.ports.l.length ∧ okN n ∧ ¬ twP (l.take i) n := fun i n hn => by
    have h0 := hz i (List.getElem?_eq_some_iff.1 hn).1
    rw [nE_at hn, nodeE] at h0
    by_cases h8 : 8 < n.ports.l.length
    · rw [if_pos h8] at h0; cases h0
    · rw [if_neg h8] at h0
      by_cases hok : okN n
      · rw [if_neg (not_not_intro hok)] at h0
        by_cases ht : twP (l.take i) n
        · rw [if_pos ht] at h0; cases h0
        · exact ⟨h8, hok, ht⟩
      · rw [if_pos hok] at h0; cases h0
  have mem : ∀ n ∈ l, ∃ i, l[i]? = some n := fun n hn => by
    obtain ⟨i, hi, rfl⟩ := List.getElem_of_mem hn
    exact ⟨i, List.getElem?_eq_getElem hi⟩
  refine ⟨by omega, fun n hn => ?_, fun n hn => ?_, fun i n hn m hm e => ?_⟩
  · obtain ⟨i, hi⟩ := mem n hn
    have := (node i n hi).1; omega
  · obtain ⟨i, hi⟩ := mem n hn
    exact (node i n hi).2.1
  · exact (node i n hn).2.2 (.inr ⟨m, hm, e⟩)

theorem others_c (s : SliceV NodeV) (hs' : SliceV VectorV) (i k : Nat) (ni : NodeV) (pk : MemberV) (g : G) (hs : NodesOk g s) (hv : VecsOk g hs') (hlen : s.l.length = hs'.l.length) (N : NetOk s.l) (hi : s.l[i]? = some ni) (hk : ni.ports.l[k]? = some pk) :
    Meets Tryd.prog 54 [.v (.slice s.a s.l.length s.c), .v (.slice hs'.a hs'.l.length hs'.c), .v (.int .i64 i), .v (.int .i64 k)] [] g (fun o L' g' => ∃ t : SliceV VectorV, t.l = oth s.l hs'.l pk.lan i k s.l.length ∧ o = .ret (.v (.slice t.a t.l.length t.c)) ∧ L' = [] ∧ VecsOk g' t ∧ G.le g g') := by
  refine (Meets.freezeSl 21 VectorV.cells 43 (fun x => x) (VectorV.ok g) (fun ys => ys = oth s.l hs'.l pk.lan i k s.l.length ∧ ∀ v ∈ ys, v.ok g) (fun _ _ _ => False) (fun b n cap => by simp [SV.frz]) (fun l h x hx => h.2 x hx) (others_b s hs' i k ni pk g hs hv hlen N.few N.ports hi hk)).mono ?_
  rintro o L' g' (⟨t, ⟨h1, h2⟩, h3, h4, h5, h6⟩ | h)
  · exact ⟨t, h1, h3, h4, h5, h6⟩
  · exact h.elim

theorem vecs_len (l : List VectorV) : (l.flatMap VectorV.cells).length = l.length * 21 := flat_len (f := VectorV.cells) (sz := 21) (fun _ => rfl) l
theorem vecs_one (l : List VectorV) : ∀ u ∈ l.flatMap VectorV.cells, u.oneCell' = true := by
  intro u hu
  obtain ⟨x, -, hx⟩ := List.mem_flatMap.1 hu
  exact vec_one x u hx
theorem cloneV_c (s : SliceV VectorV) (g : G) (hs : VecsOk g s) (h0 : 0 < s.l.length) (hmax : s.l.length ≤ 1000000) : Meets Tryd.prog 53 [.v (.slice s.a s.l.length s.c)] [] g (fun o L' g' =>
    ∃ cap sp, o = .ret (.slc 0 0 s.l.length cap) ∧ L' = [.vals 43 (s.l.flatMap VectorV.cells ++ sp)] ∧ s.l.length ≤ cap ∧ cap ≤ 9223372036854775807 ∧ sp.length = (cap - s.l.length) * 21 ∧ g' = g) := by
  refine meets_of mixedS Tryd.func53 (by kernel_rfl) x53_ok none ?_
  obtain ⟨ad, ha, hat⟩ := hs.1.2 h0
  refine prim_eqNilS (e := 43) (by kernel_rfl) rfl ?_
  refine bsplit_of (fun (h : s.a.isNone = true) => by rw [ha] at h; cases h) (fun (h : s.a.isNone = false) => ?_)
  refine prim_bslice0 (e := 43) (i := Tryd.t43) 0 rfl (by kernel_rfl) (by kernel_rfl) rfl ?_
  refine ⟨s.l.flatMap VectorV.cells, ⟨vecs_len _, fun h0 => ⟨ad, ha, hat⟩⟩, vecs_one _, ?_⟩
  refine ⟨[], [], rfl, by show 0 = 0 * 21; omega, ⟨by show 0 = 0 * 21; omega, Nat.le_refl _, by decide⟩, by omega, fun cap sp h1 h2 h3 => ?_⟩
  refine ⟨[1], ⟨cap, sp, ?_, rfl, by omega, h2, by rw [h3, Nat.zero_add], rfl⟩⟩
  show Out.ret (.slc 0 0 (0 + s.l.length) cap) = _
  rw [Nat.zero_add]

/-! ### Rounds -/
/-- What a node hears by its ports below k. -/
def candP (l : List NodeV) (h : List VectorV) (n : NodeV) (i : Nat) : Nat → List VectorV
  | 0 => []
  | k + 1 => candP l h n i k ++ (match n.ports.l[k]? with | some p => (oth l h p.lan i k l.length).map (fun v => n.hears v k) | none => [])
theorem candP_next {l : List NodeV} {h : List VectorV} {n : NodeV} {i k : Nat} {p : MemberV} (hp : n.ports.l[k]? = some p) : candP l h n i (k + 1) = candP l h n i k ++ (oth l h p.lan i k l.length).map (fun v => n.hears v k) := by rw [candP, hp]
structure RoundTo (l : List NodeV) (h : List VectorV) (i : Nat) (h' : List VectorV) : Prop where
  len : h'.length = l.length
  done : ∀ m n, m < i → l[m]? = some n → ∃ w b, h[m]? = some w ∧ h'[m]? = some b ∧ Least (w :: candP l h n m n.ports.l.length) b
  rest : ∀ m, i ≤ m → h'[m]? = h[m]?
theorem RoundTo.zero {l : List NodeV} {h : List VectorV} (hl : h.length = l.length) : RoundTo l h 0 h := ⟨hl, fun m n hm => by omega, fun _ _ => rfl⟩
theorem RoundTo.next {l : List NodeV} {h : List VectorV} {i : Nat} {h' : List VectorV} {n : NodeV} {w b : VectorV} (R : RoundTo l h i h') (hn : l[i]? = some n) (hw : h[i]? = some w) (hb : Least (w :: candP l h n i n.ports.l.length) b) : RoundTo l h (i + 1) (h'.set i b) := by
  have hil : i < h'.length := by rw [R.len]; exact (List.getElem?_eq_some_iff.1 hn).1
  refine ⟨by rw [List.length_set]; exact R.len, fun m n' hm hn' => ?_, fun m hm => ?_⟩
  · by_cases hmi : m = i
    · subst hmi
      rw [hn] at hn'; cases hn'
      exact ⟨w, b, hw, List.getElem?_set_self hil, hb⟩
    · obtain ⟨w', b', h1, h2, h3⟩ := R.done m n' (by omega) hn'
      exact ⟨w', b', h1, by rw [List.getElem?_set_ne (fun e => hmi e.symm)]; exact h2, h3⟩
  · rw [List.getElem?_set_ne (by omega)]; exact R.rest m (by omega)
def ownV (n : NodeV) : VectorV := ⟨n.bridge, 0, n.bridge, ⟨0, 0⟩, ⟨0, 0⟩⟩
def Rnd (l : List NodeV) : Nat → List VectorV → Prop
  | 0, h => h = l.map ownV
  | t + 1, h' => ∃ h, Rnd l t h ∧ h.length = l.length ∧ RoundTo l h l.length h'
end Go.Proofs.YtedfohdgigbhiaaDoor
