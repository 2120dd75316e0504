/- slices.Clone, learn.New, bridge.New and its reference; the law BridgeRights. Conditions: the slices lie where they say; of the law: the variable errors.errorType is as laid. -/
import Derived.Test.YtidbblgahmjakaaDoorBridgeC
import Derived.Test.YtidbblgahmjakaaDoorErrB
namespace Go.Proofs.YtidbblgahmjakaaDoor
open Go.Sx Go.Lib
set_option maxRecDepth 100000
set_option maxHeartbeats 8000000
attribute [local irreducible] Meets
attribute [local instance] Classical.propDecidable

theorem ints_len (l : List Int) : (l.flatMap (intC .i64)).length = l.length := by
  induction l with
  | nil => rfl
  | cons x l ih => rw [List.flatMap_cons, List.length_append, ih]; simp [intC]; omega
theorem ints_one (l : List Int) : ∀ u ∈ l.flatMap (intC .i64), u.oneCell' = true := by
  intro u hu
  obtain ⟨x, -, hx⟩ := List.mem_flatMap.1 hu
  simp [intC] at hx
  subst hx
  rfl

theorem clone_b (s : SliceV Int) (g : G) (hs : IntsOk g s) (hmax : s.l.length ≤ 1000000) : Meets Tryd.prog 79 [.v (.slice s.a s.l.length s.c)] [] g (fun o L' g' => (s.a = none ∧ o = .ret (.v (.slice none 0 0)) ∧ L' = [] ∧ g' = g) ∨
    ∃ cap sp, o = .ret (.slc 0 0 s.l.length cap) ∧ L' = [.vals 3 (s.l.flatMap (intC .i64) ++ sp)] ∧ s.l.length ≤ cap ∧ cap ≤ 9223372036854775807 ∧ sp.length = (cap - s.l.length) * 1 ∧ g' = g) := by
  refine meets_of mixedS Tryd.func79 (by kernel_rfl) x79_ok none ?_
  refine prim_eqNilS (e := 3) (by kernel_rfl) rfl ?_
  refine bsplit_of (fun (h : s.a.isNone = true) => ?_) (fun (h : s.a.isNone = false) => ?_)
  · exact ⟨[], .inl ⟨by simpa using h, rfl, rfl, rfl⟩⟩
  · refine prim_bslice0 (e := 3) (i := Tryd.t3) 0 rfl (by kernel_rfl) (by kernel_rfl) rfl ?_
    refine ⟨s.l.flatMap (intC .i64), ⟨by rw [ints_len, Nat.mul_one], fun h0 => ?_⟩, ints_one _, ?_⟩
    · obtain ⟨ad, ha, hat⟩ := hs.1.2 h0
      exact ⟨ad, ha, hat⟩
    refine ⟨[], [], rfl, rfl, ⟨rfl, Nat.le_refl _, by decide⟩, by omega, fun cap sp h1 h2 h3 => ?_⟩
    refine ⟨[1], .inr ⟨cap, sp, ?_, rfl, by omega, h2, by rw [h3, Nat.zero_add], rfl⟩⟩
    show Out.ret (.slc 0 0 (0 + s.l.length) cap) = _
    rw [Nat.zero_add]
theorem clone_c (s : SliceV Int) (g : G) (hs : IntsOk g s) (hmax : s.l.length ≤ 1000000) : Meets Tryd.prog 79 [.v (.slice s.a s.l.length s.c)] [] g (fun o L' g' => ∃ t : SliceV Int, t.l = s.l ∧ o = .ret (.v (.slice t.a t.l.length t.c)) ∧ L' = [] ∧ IntsOk g' t ∧ G.le g g') := by
  refine Meets.freezeV (clone_b s g hs hmax) fun o L' g' hk => ?_
  rcases hk with ⟨ha, rfl, rfl, rfl⟩ | ⟨cap, sp, rfl, rfl, h1, h2, h3, rfl⟩
  · have hl : s.l = [] := by
      cases hl : s.l with
      | nil => rfl
      | cons x l =>
        obtain ⟨ad, had, -⟩ := hs.1.2 (by rw [hl]; simp)
        rw [ha] at had
        cases had
    exact .inl ⟨⟨none, [], 0⟩, hl.symm, rfl, rfl, sliceV_nil _ _ _ _, fun _ _ h => h⟩
  · refine .inr ⟨[], 3, s.l.flatMap (intC .i64) ++ sp, rfl, Nat.le_refl _, fun b g'' hle hb => ⟨⟨some ⟨b, 0, none⟩, s.l, cap⟩, rfl, rfl, rfl, ?_, hle⟩⟩
    refine sliceV_frz (sp := sp) (ty := 3) ⟨by rw [ints_len, Nat.mul_one], h1, h2, fun _ => by rw [ints_len, h3]; omega⟩ hb hs.2.2.2.2

theorem newT_good (age : Int) (g : G) (h : 1 ≤ age ∧ age ≤ 300) : Meets Tryd.prog 34 [.v (.int .i64 age)] [] g (fun o L' g' => o = .ret (.tup [.ptr 0 0, .v .nilIface]) ∧ L' = [.cells 189 [.v (.int .i64 age), .v (.int .i64 0), .v (.slice none 0 0)]] ∧ g' = g) := by
  refine meets_of mixedS Tryd.func34 (by kernel_rfl) x34_ok none ?_
  refine bsplit_of (fun (h1 : decide (age < 1) = true) => absurd (of_decide_eq_true h1) (by omega)) (fun _ => ?_)
  refine bsplit_of (fun (h1 : decide (age > 300) = true) => absurd (of_decide_eq_true h1) (by omega)) (fun _ => ?_)
  exact ⟨[0], rfl, rfl, rfl⟩
theorem newT_bad (age : Int) (g : G) (h : ¬ (1 ≤ age ∧ age ≤ 300)) : Tells Tryd.prog 34 [.v (.int .i64 age)] g (.tup [.v (.pointer none), .v (.iface 40 (.int .i64 2))]) := by
  refine meets_of mixedS Tryd.func34 (by kernel_rfl) x34_ok (some []) ?_
  refine bsplit_of (fun h1 => ⟨rfl, rfl, rfl⟩) (fun (h1 : decide (age < 1) = false) => ?_)
  refine bsplit_of (fun h1 => ⟨rfl, rfl, rfl⟩) (fun (h2 : decide (age > 300) = false) => ?_)
  have := of_decide_eq_false h1
  have := of_decide_eq_false h2
  exact absurd ⟨by omega, by omega⟩ h

abbrev SetsOk (g : G) (s : SliceV PortSetV) : Prop := s.ok 4 PortSetV.cells (PortSetV.ok g) g
noncomputable def badI (l : List PortSetV) : Int := firstI (fun p => ¬ setP p) l
noncomputable def brE (l : List PortSetV) (age : Int) : Int × Int := if 8 < l.length then (4, -1) else if badI l = -1 then (if 1 ≤ age ∧ age ≤ 300 then (0, -1) else (2, -1)) else (1, badI l)
theorem badI_hit {l : List PortSetV} {k : Nat} {p : PortSetV} {age : Int} (h8 : ¬ 8 < l.length) (hb : ∀ (i : Nat) y, i < k → l[i]? = some y → ¬ ¬ setP y) (hx : l[k]? = some p) (hp : ¬ setP p) : brE l age = (1, (k : Int)) := by
  have e : badI l = k := firstI_hit hb hx hp
  rw [brE, if_neg h8, e, if_neg (by omega)]
theorem badI_none {l : List PortSetV} {age : Int} (h8 : ¬ 8 < l.length) (hb : ∀ (i : Nat) y, l[i]? = some y → ¬ ¬ setP y) : brE l age = if 1 ≤ age ∧ age ≤ 300 then (0, -1) else (2, -1) := by
  have e : badI l = -1 := firstI_none hb
  rw [brE, if_neg h8, e, if_pos rfl]
theorem sets_one (l : List PortSetV) : ∀ u ∈ l.flatMap PortSetV.cells, u.oneCell' = true := by
  intro u hu
  obtain ⟨x, -, hx⟩ := List.mem_flatMap.1 hu
  simp [PortSetV.cells, SliceV.cells] at hx
  rcases hx with rfl | rfl | rfl | rfl <;> rfl

theorem vids_ge {l : List Int} (h : vidsP l) : ∀ (i : Nat) v, l[i]? = some v → ((i : Int) + 1) ≤ v
  | 0, v, hv => by have := (h 0 v hv).1; omega
  | i + 1, v, hv => by
    obtain ⟨u, hu⟩ := lt_some (l := l) (k := i) (by have := (List.getElem?_eq_some_iff.1 hv).1; omega)
    have h1 := vids_ge h i u hu
    have h2 := (h (i + 1) v hv).2.2 (by omega) u hu
    push_cast
    omega
theorem vids_len {l : List Int} (h : vidsP l) : l.length ≤ 4094 := by
  rcases Nat.eq_zero_or_pos l.length with h0 | h0
  · omega
  · obtain ⟨u, hu⟩ := lt_some (l := l) (k := l.length - 1) (by omega)
    have h1 := vids_ge h _ u hu
    have h2 := (h _ u hu).2.1
    omega

theorem bare_r (e : Int) (g : G) : Tells Tryd.prog 68 [.v (.int .i64 e)] g (.agg [.v (.int .i64 e), .v (.int .i64 (-1))]) := by
  refine meets_of mixedS Tryd.func68 (by kernel_rfl) x68_ok (some []) ?_
  exact ⟨rfl, rfl, rfl⟩
theorem good_r (g : G) : Tells Tryd.prog 72 [] g (.agg [.v (.int .i64 0), .v (.int .i64 (-1))]) := by
  refine meets_of mixedS Tryd.func72 (by kernel_rfl) x72_ok (some []) ?_
  exact ⟨rfl, rfl, rfl⟩
theorem is_r (e p : Int) (g : G) : Tells Tryd.prog 27 [.agg [.v (.int .i64 e), .v (.int .i64 p)]] g (.v (.bool (e == 0))) := by
  refine meets_of mixedS Tryd.func27 (by kernel_rfl) x27_ok (some []) ?_
  exact ⟨rfl, rfl, rfl⟩

def tabR (age : Int) : Chunk := .cells 115 [.v (.int .i64 age), .v (.int .i64 0), .v (.slice none 0 0)]
def tabP (age : Int) : Chunk := .cells 189 [.v (.int .i64 age), .v (.int .i64 0), .v (.slice none 0 0)]
/-- The reference's new bridge. -/
theorem newR_c (s : SliceV PortSetV) (age : Int) (g : G) (hs : SetsOk g s) : Meets Tryd.prog 25 [.v (.slice s.a s.l.length s.c), .v (.int .i64 age)] [] g (fun o L' g' => g' = g ∧
    (((brE s.l age).1 ≠ 0 ∧ o = .ret (.tup [.v (.pointer none), .agg [.v (.int .i64 (brE s.l age).1), .v (.int .i64 (brE s.l age).2)]]) ∧ L' = []) ∨
     (brE s.l age = (0, -1) ∧ ((o = .ret (.tup [.ptr 1 0, .agg [.v (.int .i64 0), .v (.int .i64 (-1))]]) ∧ L' = [tabR age, .cells 168 [.v (.slice none 0 0), .ptr 0 0]]) ∨ (∃ n cap ys, o = .ret (.tup [.ptr 2 0, .agg [.v (.int .i64 0), .v (.int .i64 (-1))]]) ∧ L' = [.vals 48 ys, tabR age, .cells 168 [.slc 0 0 n cap, .ptr 1 0]]))))) := by
  refine meets_of mixedS Tryd.func25 (by kernel_rfl) x25_ok none ?_
  have hlen := hs.len
  obtain ⟨E, hE⟩ : ∃ E, brE s.l age = E := ⟨_, rfl⟩
  rw [hE]
  refine bsplit_of (fun (h8 : decide ((s.l.length : Int) > 8) = true) => ?_) (fun (h8 : decide ((s.l.length : Int) > 8) = false) => ?_)
  · have h8 := of_decide_eq_true h8
    have : E = (4, -1) := by rw [← hE, brE, if_pos (by omega)]
    subst this
    refine (bare_r 4 g).call rfl rfl rfl ?_
    exact ⟨[], rfl, .inl ⟨by decide, rfl, rfl⟩⟩
  have h8 : ¬ 8 < s.l.length := by have := of_decide_eq_false h8; omega
  change LoopW _ _ _ _ _ _ _
  apply loop_rule [] (α := Nat) (fun k => [(14, .v (.int .i64 k))]) (fun _ => [.cells 42 [.v (.int .i64 0), .v (.int .i64 0)]]) (fun _ => g) (fun k => k ≤ s.l.length ∧ ∀ (i : Nat) y, i < k → s.l[i]? = some y → ¬ ¬ setP y) (fun k => s.l.length - k) 0
  · intro x; kernel_rfl
  · exact ⟨Nat.zero_le _, fun i t hi => by omega⟩
  · exact ⟨rfl, trivial⟩
  · rfl
  · rfl
  intro k hk
  refine bsplit_of (fun hlt => ?_) (fun hlt => ?_)
  · have hlt' : k < s.l.length := by simpa using hlt
    obtain ⟨ad, p, ha, hx, hat, hpok⟩ := hs.elem (fun _ => rfl) hlt'
    refine ⟨⟨by omega, by omega⟩, ad, ha, ?_⟩
    refine ⟨p.cells, rfl, hat, ?_⟩
    refine (setRightR_c p g hpok).call rfl rfl rfl ?_
    refine bsplit_of (fun (h : (!decide (setP p)) = true) => ?_) (fun (h : (!decide (setP p)) = false) => ?_)
    · have : E = (1, (k : Int)) := by rw [← hE]; exact badI_hit h8 hk.2 hx (by simpa using h)
      subst this
      exact ⟨[], rfl, .inl ⟨by show (1 : Int) ≠ 0; decide, rfl, rfl⟩⟩
    · exact ⟨k + 1, ⟨by omega, seen_next hk.2 hx (by simpa using h)⟩, by omega, [0], rfl, ⟨vi (wrap_id (by omega) (by omega)), trivial⟩, rfl, rfl, rfl, rfl⟩
  · have hge : s.l.length ≤ k := by simpa using hlt
    have hall := badI_none (age := age) h8 fun i y hy => hk.2 i y (by have := (List.getElem?_eq_some_iff.1 hy).1; omega) hy
    rw [hE] at hall
    refine (within_c age 1 300 g).call rfl rfl rfl ?_
    refine bsplit_of (fun (h : (!decide (1 ≤ age ∧ age ≤ 300)) = true) => ?_) (fun (h : (!decide (1 ≤ age ∧ age ≤ 300)) = false) => ?_)
    · rw [if_neg (by simp at h; omega)] at hall
      subst hall
      refine (bare_r 2 g).call rfl rfl rfl ?_
      exact ⟨[], rfl, .inl ⟨by decide, rfl, rfl⟩⟩
    · rw [if_pos (by simp at h; omega)] at hall
      subst hall
      refine ⟨s.l.flatMap PortSetV.cells, ⟨hs.1.1, hs.1.2⟩, sets_one _, ?_⟩
      refine ⟨by omega, ?_⟩
      obtain ⟨sa, sl, sc⟩ := s
      cases sl with
      | nil =>
        refine (good_r g).call rfl rfl rfl ?_
        exact ⟨[1, 2], rfl, .inr ⟨rfl, .inl ⟨rfl, rfl⟩⟩⟩
      | cons p0 rest =>
        intro cap sp k1 k2 k3
        refine (good_r g).call rfl rfl rfl ?_
        exact ⟨[1, 2, 3], rfl, .inr ⟨rfl, .inr ⟨_, _, _, rfl, rfl⟩⟩⟩

def brS (n cap : Nat) : List SV := [grS 1 n cap, .v (.pointer none)]
/-- The new bridge. -/
theorem newB_b (s : SliceV PortSetV) (age : Int) (g : G) (hs : SetsOk g s) : Meets Tryd.prog 26 [.v (.slice s.a s.l.length s.c), .v (.int .i64 age)] [] g (fun o L' g' => G.le g g' ∧
    (((brE s.l age).1 ≠ 0 ∧ (brE s.l age).2 = -1 ∧ o = .ret (.tup [.v (.pointer none), .v (.iface 40 (.int .i64 (brE s.l age).1))]) ∧ L' = []) ∨
     (∃ k : Nat, brE s.l age = (1, (k : Int)) ∧ o = .ret (.tup [.v (.pointer none), .iface 156 (.ptr 0 0)]) ∧ L' = [.cells 158 [.v (.int .i64 1), .v (.int .i64 k)]]) ∨
     (brE s.l age = (0, -1) ∧ o = .ret (.tup [.ptr 0 0, .v .nilIface]) ∧ (L' = [.cells 170 [.v (.slice none 0 0), .ptr 2 0], .gone, tabP age] ∨ ∃ n cap ys, L' = [.cells 170 [.slc 1 0 n cap, .ptr 2 0], .vals 48 ys, tabP age])))) := by
  refine meets_of mixedS Tryd.func26 (by kernel_rfl) x26_ok none ?_
  have hlen := hs.len
  obtain ⟨E, hE⟩ : ∃ E, brE s.l age = E := ⟨_, rfl⟩
  rw [hE]
  refine bsplit_of (fun (h8 : decide ((s.l.length : Int) > 8) = true) => ?_) (fun (h8 : decide ((s.l.length : Int) > 8) = false) => ?_)
  · have h8 := of_decide_eq_true h8
    have : E = (4, -1) := by rw [← hE, brE, if_pos (by omega)]
    subst this
    exact ⟨[], fun _ _ h => h, .inl ⟨by decide, rfl, rfl, rfl⟩⟩
  have h8 : ¬ 8 < s.l.length := by have := of_decide_eq_false h8; omega
  change LoopW _ _ _ _ _ _ _
  refine loop_gone ?_
  apply loop_rule [1] (α := Nat × Nat × List Value × List Value × G) (fun y => [(19, .v (.int .i64 y.1))]) (fun y => match y with
      | ⟨0, _, _, _, _⟩ => [.cells 170 [.v (.slice none 0 0), .v (.pointer none)], .gone]
      | ⟨k + 1, cap, xs, sp, _⟩ => [.cells 170 [.slc 1 0 (k + 1) cap, .v (.pointer none)], .vals 48 (xs ++ sp)]) (fun y => y.2.2.2.2)
    (fun y => y.1 ≤ s.l.length ∧ (∀ (i : Nat) q, i < y.1 → s.l[i]? = some q → ¬ ¬ setP q) ∧ G.le g y.2.2.2.2 ∧ (0 < y.1 → grOk 4 y.1 y.2.1 y.2.2.1 y.2.2.2.1)) (fun y => s.l.length - y.1) (0, 0, [], [], g)
  · intro x
    obtain ⟨k, cap, xs, sp, g1⟩ := x
    cases k <;> kernel_rfl
  · exact ⟨Nat.zero_le _, fun i t hi => by simp at hi, fun _ _ h => h, fun h => absurd h (Nat.lt_irrefl 0)⟩
  · exact ⟨rfl, trivial⟩
  · rfl
  · rfl
  intro y hy
  obtain ⟨k, cap, xs, sp, g1⟩ := y
  obtain ⟨hle, hall, hgl, hok⟩ := hy
  dsimp only at hle hall hgl hok
  have hs1 : SetsOk g1 s := hs.mono hgl fun q hq => ⟨hq.1, hq.2.1.mono hgl fun _ h => h, hq.2.2.1.mono hgl fun _ h => h, hq.2.2.2⟩
  rcases k with _ | k
  · refine bsplit_of (fun hlt => ?_) (fun hlt => ?_)
    ·
      have hlt' : 0 < s.l.length := by have := of_decide_eq_true hlt; omega
      obtain ⟨ad, p, ha, hx, hat, hpok⟩ := hs1.elem (fun _ => rfl) hlt'
      refine ⟨⟨by omega, by omega⟩, ad, ha, ?_⟩
      refine ⟨p.cells, rfl, hat, ?_⟩
      refine (setRight_c p g1 hpok).call rfl rfl rfl ?_
      refine bsplit_of (fun (h : (!decide (setP p)) = true) => ?_) (fun (h : (!decide (setP p)) = false) => ?_)
      · have : E = (1, ((0 : Nat) : Int)) := by rw [← hE]; exact badI_hit h8 hall hx (by simpa using h)
        subst this
        exact ⟨[3], hgl, .inr (.inl ⟨0, rfl, rfl, rfl⟩)⟩
      have hset : ¬ ¬ setP p := by simpa using h
      have hsp := Classical.not_not.1 hset
      have big1 : p.in_.l.length ≤ 1000000 := by have := hsp.2.2.2.2.1; omega
      have big2 : p.bare.l.length ≤ 1000000 := by have := vids_len hsp.2.2.2.2.2.2.1; omega
      refine (clone_c p.in_ g1 hpok.2.1 big1).call0 rfl rfl 3 rfl ?_
      rintro o L1 g2 ⟨t1, ht1, rfl, rfl, hok1, hle1⟩
      refine (clone_c p.bare g2 (hpok.2.2.1.mono hle1 fun _ h => h) big2).call0 rfl rfl 3 rfl ?_
      rintro o L1 g3 ⟨t2, ht2, rfl, rfl, hok2, hle2⟩
      have hgl3 : G.le g g3 := fun b o hb => hle2 b o (hle1 b o (hgl b o hb))
      refine ⟨by show 0 + 1 * 4 ≤ 4; decide, fun u hu => by simp at hu; rcases hu with rfl | rfl | rfl | rfl <;> rfl, ?_⟩
      refine ⟨by decide, fun cap2 sp2 k1 k2 k3 => ?_⟩
      refine ⟨(1, cap2, [.int .i64 p.pvid, .slice t1.a t1.l.length t1.c, .slice t2.a t2.l.length t2.c, .int .i64 p.state], sp2, g3), ⟨by show 1 ≤ _; omega, seen_next hall hx hset, hgl3, fun _ => gr_first rfl k1 k2 k3⟩, by show s.l.length - 1 < s.l.length - 0; omega, [0, 4], rfl, ⟨vi (wrap_id (by show (-9223372036854775808 : Int) ≤ ((0 : Nat) : Int) + 1; omega) (by show ((0 : Nat) : Int) + 1 ≤ 9223372036854775807; omega)), trivial⟩, rfl, rfl, rfl, rfl⟩
    ·
      have hge : s.l.length ≤ 0 := by have := of_decide_eq_false hlt; omega
      have hE2 := badI_none (age := age) h8 fun i y hy => hall i y (by have := (List.getElem?_eq_some_iff.1 hy).1; omega) hy
      rw [hE] at hE2
      by_cases ha : 1 ≤ age ∧ age ≤ 300
      · rw [if_pos ha] at hE2
        subst hE2
        refine (newT_good age g1 ha).call0 rfl rfl 2 rfl ?_
        rintro o L1 g2 ⟨rfl, rfl, rfl⟩
        exact ⟨[0, 1, 2], hgl, .inr (.inr ⟨rfl, rfl, .inl rfl⟩)⟩
      · rw [if_neg ha] at hE2
        subst hE2
        refine (newT_bad age g1 ha).call rfl rfl rfl ?_
        exact ⟨[], hgl, .inl ⟨by decide, rfl, rfl, rfl⟩⟩
  · refine bsplit_of (fun hlt => ?_) (fun hlt => ?_)
    ·
      have hlt' : k + 1 < s.l.length := by have := of_decide_eq_true hlt; omega
      obtain ⟨ad, p, ha, hx, hat, hpok⟩ := hs1.elem (fun _ => rfl) hlt'
      refine ⟨⟨by omega, by omega⟩, ad, ha, ?_⟩
      refine ⟨p.cells, rfl, hat, ?_⟩
      refine (setRight_c p g1 hpok).call rfl rfl rfl ?_
      refine bsplit_of (fun (h : (!decide (setP p)) = true) => ?_) (fun (h : (!decide (setP p)) = false) => ?_)
      · have : E = (1, ((k + 1 : Nat) : Int)) := by rw [← hE]; exact badI_hit h8 hall hx (by simpa using h)
        subst this
        exact ⟨[3], hgl, .inr (.inl ⟨k + 1, rfl, rfl, rfl⟩)⟩
      have hset : ¬ ¬ setP p := by simpa using h
      have hsp := Classical.not_not.1 hset
      have big1 : p.in_.l.length ≤ 1000000 := by have := hsp.2.2.2.2.1; omega
      have big2 : p.bare.l.length ≤ 1000000 := by have := vids_len hsp.2.2.2.2.2.2.1; omega
      refine (clone_c p.in_ g1 hpok.2.1 big1).call0 rfl rfl 3 rfl ?_
      rintro o L1 g2 ⟨t1, ht1, rfl, rfl, hok1, hle1⟩
      refine (clone_c p.bare g2 (hpok.2.2.1.mono hle1 fun _ h => h) big2).call0 rfl rfl 3 rfl ?_
      rintro o L1 g3 ⟨t2, ht2, rfl, rfl, hok2, hle2⟩
      have hgl3 : G.le g g3 := fun b o hb => hle2 b o (hle1 b o (hgl b o hb))
      have hok := hok (by omega)
      have gb := gr_bounds hok
      refine ⟨by show 0 + 1 * 4 ≤ 4; decide, fun u hu => by simp at hu; rcases hu with rfl | rfl | rfl | rfl <;> rfl, ?_⟩
      refine ⟨xs, sp, rfl, gb.1, ⟨gb.2.1, gb.2.2.1, gb.2.2.2⟩, by omega, fun cap2 sp2 k1 k2 k3 => ?_⟩
      refine ⟨(k + 1 + 1, cap2, xs ++ [.int .i64 p.pvid, .slice t1.a t1.l.length t1.c, .slice t2.a t2.l.length t2.c, .int .i64 p.state], sp2, g3), ⟨by show k + 1 + 1 ≤ _; omega, seen_next hall hx hset, hgl3, fun _ => gr_next hok rfl k1 k2 k3⟩, by show s.l.length - (k + 1 + 1) < s.l.length - (k + 1); omega, [0, 4], rfl, ⟨vi (wrap_id (by omega) (by omega)), trivial⟩, ?_, rfl, rfl, rfl⟩
      show _ = ([.cells 170 [.slc 4 0 (k + 1 + 1) cap2, .v (.pointer none)], .vals 48 ((xs ++ [.int .i64 p.pvid, .slice t1.a t1.l.length t1.c, .slice t2.a t2.l.length t2.c, .int .i64 p.state]) ++ sp2)] : List Chunk)
      rw [List.append_assoc]
      rfl
    ·
      have hge : s.l.length ≤ k + 1 := by have := of_decide_eq_false hlt; omega
      have hE2 := badI_none (age := age) h8 fun i y hy => hall i y (by have := (List.getElem?_eq_some_iff.1 hy).1; omega) hy
      rw [hE] at hE2
      by_cases ha : 1 ≤ age ∧ age ≤ 300
      · rw [if_pos ha] at hE2
        subst hE2
        refine (newT_good age g1 ha).call0 rfl rfl 2 rfl ?_
        rintro o L1 g2 ⟨rfl, rfl, rfl⟩
        exact ⟨[0, 1, 2], hgl, .inr (.inr ⟨rfl, rfl, .inr ⟨_, _, _, rfl⟩⟩)⟩
      · rw [if_neg ha] at hE2
        subst hE2
        refine (newT_bad age g1 ha).call rfl rfl rfl ?_
        exact ⟨[], hgl, .inl ⟨by decide, rfl, rfl, rfl⟩⟩

theorem newB_c (s : SliceV PortSetV) (age : Int) (g : G) (hs : SetsOk g s) : Meets Tryd.prog 26 [.v (.slice s.a s.l.length s.c), .v (.int .i64 age)] [] g (fun o L' g' => G.le g g' ∧ ∃ v, ErrP g' v (brE s.l age).1 (brE s.l age).2 ∧
    (((brE s.l age).1 ≠ 0 ∧ o = .ret (.tup [.v (.pointer none), .v v]) ∧ L' = []) ∨
     (brE s.l age = (0, -1) ∧ v = .nilIface ∧ o = .ret (.tup [.ptr 0 0, .v .nilIface]) ∧ (L' = [.cells 170 [.v (.slice none 0 0), .ptr 2 0], .gone, tabP age] ∨ ∃ n cap ys, L' = [.cells 170 [.slc 1 0 n cap, .ptr 2 0], .vals 48 ys, tabP age])))) := by
  refine Meets.freeze (newB_b s age g hs) fun o L' g' hk => ?_
  obtain ⟨hle, hk⟩ := hk
  obtain ⟨E, hE⟩ : ∃ E, brE s.l age = E := ⟨_, rfl⟩
  rw [hE] at hk ⊢
  rcases hk with ⟨h1, h2, rfl, rfl⟩ | ⟨k, rfl, rfl, rfl⟩ | ⟨rfl, rfl, hL⟩
  · refine .inl ⟨hle, _, ?_, .inl ⟨h1, rfl, rfl⟩⟩
    rw [h2]
    exact .bare _
  · exact .inr ⟨[], 158, [.int .i64 1, .int .i64 k], rfl, by simp, fun b g'' hl hb => ⟨fun a o ha => hl a o (hle a o ha), .iface 156 (.pointer (some ⟨b, 0, none⟩)), .at_ ⟨b, 0, none⟩ 1 k (at_frz hb), .inl ⟨by show (1 : Int) ≠ 0; decide, rfl, rfl⟩⟩⟩
  · exact .inl ⟨hle, _, .nil, .inr ⟨rfl, rfl, rfl, hL⟩⟩

/-- The law BridgeRights. -/
theorem bridgeRights_c (s : SliceV PortSetV) (age : Int) (g : G) (hs : SetsOk g s) (_ : iok .i64 age) (hE : ErrVar g) : Meets Tryd.prog 5 [.v (.slice s.a s.l.length s.c), .v (.int .i64 age)] [] g (fun o _ _ => o = .ret (.v (.bool true))) := by
  refine meets_of mixedS Tryd.func5 (by kernel_rfl) x5_ok none ?_
  have hlen := hs.len
  refine bsplit_of (fun _ => ⟨[], rfl⟩) (fun (h12 : decide ((s.l.length : Int) > 12) = false) => ?_)
  have h12 := of_decide_eq_false h12
  change LoopW _ _ _ _ _ _ _
  apply loop_rule [] (α := Nat) (fun k => [(16, .v (.int .i64 k))]) (fun _ => []) (fun _ => g) (fun k => k ≤ s.l.length) (fun k => s.l.length - k) 0
  · intro x; kernel_rfl
  · exact Nat.zero_le _
  · exact ⟨rfl, trivial⟩
  · rfl
  · rfl
  intro k hk
  refine bsplit_of (fun hlt => ?_) (fun hlt => ?_)
  · have hlt' : k < s.l.length := by simpa using hlt
    obtain ⟨ad, p, ha, hx, hat, hpok⟩ := hs.elem (fun _ => rfl) hlt'
    refine ⟨⟨by omega, by omega⟩, ad, ha, ?_⟩
    refine ⟨p.cells, rfl, hat, ?_⟩
    refine bsplit_of (fun _ => ⟨[], rfl⟩) (fun _ => ?_)
    refine (setRight_c p g hpok).call rfl rfl rfl ?_
    refine (setRightR_c p g hpok).call rfl rfl rfl ?_
    refine bsplit_of (fun (h : (true ^^ (decide (setP p) == decide (setP p))) = true) => absurd h (by simp)) (fun _ => ?_)
    exact ⟨k + 1, by omega, by omega, [], rfl, ⟨vi (wrap_id (by omega) (by omega)), trivial⟩, rfl, rfl, rfl, rfl⟩
  · have hge : s.l.length ≤ k := by simpa using hlt
    have hnew := newB_c s age g hs
    have hnewR := newR_c s age g hs
    obtain ⟨E, hEE⟩ : ∃ E, brE s.l age = E := ⟨_, rfl⟩
    rw [hEE] at hnew hnewR
    obtain ⟨e, pl⟩ := E
    refine hnewR.call0 rfl rfl 0 rfl ?_
    rintro o L1 g1 ⟨rfl, ⟨hne, rfl, rfl⟩ | ⟨hok, ⟨rfl, rfl⟩ | ⟨rn, rcap, rys, rfl, rfl⟩⟩⟩
    · dsimp only at hne
      refine hnew.call0 rfl rfl 1 rfl ?_
      rintro o L1 g2 ⟨hle, v, hv, ⟨-, rfl, rfl⟩ | ⟨hok, -⟩⟩
      · refine (placed_c v e pl e pl g2 (G.at.mono hle hE) hv).call rfl rfl rfl ?_
        refine bsplit_of (fun _ => ?_) (fun h => absurd h (by simp))
        refine (is_r e pl g2).call rfl rfl rfl ?_
        exact ⟨[], rb (by simp [hne])⟩
      · cases hok; exact absurd rfl hne
    all_goals
      cases hok
    · refine hnew.call0 rfl rfl 3 rfl ?_
      rintro o L1 g2 ⟨hle, v, hv, ⟨hne, -, -⟩ | ⟨-, rfl, rfl, rfl | ⟨n, cap, ys, rfl⟩⟩⟩
      · exact absurd rfl hne
      all_goals
        refine (placed_c .nilIface 0 (-1) 0 (-1) g2 (G.at.mono hle hE) .nil).call rfl rfl rfl ?_
        refine (is_r 0 (-1) g2).call rfl rfl rfl ?_
        exact ⟨[], rb (by simp)⟩
    · refine hnew.call0 rfl rfl 4 rfl ?_
      rintro o L1 g2 ⟨hle, v, hv, ⟨hne, -, -⟩ | ⟨-, rfl, rfl, rfl | ⟨n, cap, ys, rfl⟩⟩⟩
      · exact absurd rfl hne
      all_goals
        refine (placed_c .nilIface 0 (-1) 0 (-1) g2 (G.at.mono hle hE) .nil).call rfl rfl rfl ?_
        refine (is_r 0 (-1) g2).call rfl rfl rfl ?_
        exact ⟨[], rb (by simp)⟩
end Go.Proofs.YtidbblgahmjakaaDoor
