/- Both Bests: what each returns. Conditions: none. -/
import Derived.Test.YtflnpoahceebbaaPrioD
namespace Go.Proofs.Ytflnpoahceebbaa
open Go.Sx
set_option maxRecDepth 100000
set_option maxHeartbeats 8000000
attribute [local irreducible] Meets

abbrev VecsOk (g : G) (s : SliceV VectorV) : Prop := s.ok 21 VectorV.cells (VectorV.ok g) g

/-- prio.Best -/
theorem best_c (s : SliceV VectorV) (g : G) (hs : VecsOk g s) : Meets Try.prog 42 [.v (.slice s.a s.l.length s.c)] [] g (fun o L' g' => ∃ b, o = .ret (.v (.int .i64 b)) ∧ L' = [] ∧ IsBest s.l b ∧ g' = g) := by
  refine meets_of mixed Try.func42 (by kernel_rfl) x42_ok (some []) ?_
  have hlen := hs.len
  change LoopW _ _ _ _ _ _ _
  apply loop_rule [] (α := Nat × Int) (fun x => [(7, .v (.int .i64 x.1)), (3, .v (.int .i64 x.2))]) (fun _ => []) (fun _ => g) (fun x => x.1 ≤ s.l.length ∧ BestTo s.l x.1 x.2) (fun x => s.l.length - x.1) (0, -1)
  · intro x; kernel_rfl
  · exact ⟨Nat.zero_le _, .inl ⟨rfl, rfl⟩⟩
  · exact ⟨rfl, rfl, trivial⟩
  · rfl
  · rfl
  rintro ⟨k, b⟩ ⟨hk, hb⟩
  simp only at hk hb
  refine bsplit_of (fun hlt => ?_) (fun hlt => ?_)
  · have hlt' : k < s.l.length := by simpa using hlt
    obtain ⟨ad, y, ha, hy, haty, hyok⟩ := hs.elem (fun _ => rfl) hlt'
    refine bsplit_of (fun hneg => ?_) (fun hneg => ?_)
    · have hk0 : k = 0 := by
        have hneg : b < 0 := by simpa using hneg
        rcases hb with ⟨_, h⟩ | ⟨m, _, _, _, h, _⟩
        · exact h
        · omega
      subst hk0
      refine ⟨(1, 0), ⟨by simp; omega, BestTo.first hy⟩, by simp; omega, [], rfl, ⟨vi rfl, rfl, trivial⟩, rfl, rfl, rfl, rfl⟩
    · have hneg : ¬ b < 0 := by simpa using hneg
      obtain ⟨m, x, hm, hx, rfl⟩ : ∃ (m : Nat) (x : VectorV), m < k ∧ s.l[m]? = some x ∧ b = m := by
        rcases hb with ⟨h, _⟩ | ⟨m, x, h1, h2, h3, _⟩
        · omega
        · exact ⟨m, x, h1, h2, h3⟩
      obtain ⟨ad', x', ha', hx', hatx, hxok⟩ := hs.elem (fun _ => rfl) (show m < s.l.length by omega)
      rw [hx] at hx'
      cases hx'
      refine ⟨⟨by simp, by simpa using hlt'⟩, ad, ha, ?_⟩
      refine ⟨y.cells, rfl, haty, ?_⟩
      refine ⟨⟨by simp, by simp; omega⟩, ad', ha', ?_⟩
      refine ⟨x.cells, rfl, hatx, ?_⟩
      refine (better_c y x g hyok hxok).call rfl rfl rfl ?_
      refine bsplit_of (fun hbt => ?_) (fun hbt => ?_)
      · refine ⟨(k + 1, (k : Int)), ⟨by simp; omega, hb.turn hx hy hbt⟩, by simp; omega, [], rfl, ⟨vi (wrap_id (by omega) (by omega)), rfl, trivial⟩, rfl, rfl, rfl, rfl⟩
      · refine ⟨(k + 1, (m : Int)), ⟨by simp; omega, hb.keep hx hy hbt⟩, by simp; omega, [], rfl, ⟨vi (wrap_id (by omega) (by omega)), rfl, trivial⟩, rfl, rfl, rfl, rfl⟩
  · have : k = s.l.length := by simp at hlt; omega
    subst this
    exact ⟨b, rfl, rfl, hb.end, rfl⟩

/-- switchyardref.Best -/
theorem bestR_c (s : SliceV VectorV) (g : G) (hs : VecsOk g s) : Meets Try.prog 43 [.v (.slice s.a s.l.length s.c)] [] g (fun o L' g' => ∃ b, o = .ret (.v (.int .i64 b)) ∧ L' = [] ∧ IsBest s.l b ∧ g' = g) := by
  refine meets_of mixed Try.func43 (by kernel_rfl) x43_ok (some []) ?_
  have hlen := hs.len
  change LoopW _ _ _ _ _ _ _
  apply loop_rule [] (α := Nat) (fun x => [(8, .v (.int .i64 x))]) (fun _ => []) (fun _ => g) (fun x => x ≤ s.l.length ∧ ∀ (j : Nat) z, j < x → s.l[j]? = some z → ∃ (i : Nat) (y : VectorV), s.l[i]? = some y ∧ vless y z = true) (fun x => s.l.length - x) 0
  · intro x; kernel_rfl
  · exact ⟨Nat.zero_le _, fun j z hj => by omega⟩
  · exact ⟨rfl, trivial⟩
  · rfl
  · rfl
  intro k hk
  refine bsplit_of (fun hlt => ?_) (fun hlt => ?_)
  · have hlt' : k < s.l.length := by simpa using hlt
    obtain ⟨ad, x, ha, hx, hatx, hxok⟩ := hs.elem (fun _ => rfl) hlt'
    change LoopW _ _ _ _ _ _ _
    apply loop_rule [] (α := Nat × Bool) (fun y => [(13, .v (.int .i64 y.1)), (4, .v (.bool y.2))]) (fun _ => []) (fun _ => g) (fun y => y.1 ≤ s.l.length ∧ (y.2 = true → ∀ (i : Nat) z, i < y.1 → s.l[i]? = some z → vless z x = false) ∧ (y.2 = false → ∃ (i : Nat) (z : VectorV), s.l[i]? = some z ∧ vless z x = true)) (fun y => s.l.length - y.1) (0, true)
    · intro x; kernel_rfl
    · exact ⟨Nat.zero_le _, fun _ i z hi => by simp at hi, nofun⟩
    · exact ⟨rfl, rfl, trivial⟩
    · rfl
    · rfl
    rintro ⟨j, c⟩ ⟨hj, hc1, hc2⟩
    simp only at hj hc1 hc2
    refine bsplit_of (fun hlt2 => ?_) (fun hlt2 => ?_)
    · have hlt2' : j < s.l.length := by simpa using hlt2
      obtain ⟨ad', y, ha', hy, haty, hyok⟩ := hs.elem (fun _ => rfl) hlt2'
      refine bsplit_of (fun hc => ?_) (fun hc => ?_)
      · refine ⟨⟨by simp, by simpa using hlt2'⟩, ad', ha', ?_⟩
        refine ⟨y.cells, rfl, haty, ?_⟩
        refine ⟨⟨by simp, by simpa using hlt'⟩, ad, ha, ?_⟩
        refine ⟨x.cells, rfl, hatx, ?_⟩
        refine (betterR_c y x g hyok hxok).call rfl rfl rfl ?_
        refine ⟨(j + 1, !(vless y x)), ⟨by simp; omega, fun hn i z hi hz => ?_, fun hn => ⟨j, y, hy, by simpa using hn⟩⟩, by simp; omega, [], rfl, ⟨vi (wrap_id (by omega) (by omega)), rfl, trivial⟩, rfl, rfl, rfl, rfl⟩
        by_cases hij : i = j
        · subst hij; rw [hy] at hz; cases hz; simpa using hn
        · exact hc1 hc i z (by simp at hi; omega) hz
      · refine ⟨(j + 1, false), ⟨by simp; omega, nofun, fun _ => hc2 hc⟩, by simp; omega, [], rfl, ⟨vi (wrap_id (by omega) (by omega)), rfl, trivial⟩, rfl, rfl, rfl, rfl⟩
    · have : j = s.l.length := by simp at hlt2; omega
      subst this
      refine bsplit_of (fun hc => ?_) (fun hc => ?_)
      · exact ⟨k, rfl, rfl, .inr ⟨k, x, hx, rfl, fun i y hy => hc1 hc i y (List.getElem?_eq_some_iff.1 hy).1 hy, hk.2⟩, rfl⟩
      · refine ⟨k + 1, ⟨by omega, fun j z hj' hz => ?_⟩, by omega, [], rfl, ⟨vi (wrap_id (by omega) (by omega)), trivial⟩, rfl, rfl, rfl, rfl⟩
        by_cases hjk : j = k
        · subst hjk; rw [hx] at hz; cases hz; exact hc2 hc
        · exact hk.2 j z (by omega) hz
  · have : k = s.l.length := by simp at hlt; omega
    subst this
    exact ⟨-1, rfl, rfl, .inl ⟨rfl, fun j z hz => hk.2 j z (List.getElem?_eq_some_iff.1 hz).1 hz⟩, rfl⟩

/-- The law PrioOrders. -/
theorem prioOrders_c (a b : BridgeV) (v w : VectorV) (g : G) (ha : a.ok g) (hb : b.ok g) (hv : v.ok g) (hw : w.ok g) : Meets Try.prog 10 [.agg (a.cells.map .v), .agg (b.cells.map .v), .agg (v.cells.map .v), .agg (w.cells.map .v)] [] g (fun o _ _ => o = .ret (.v (.bool true))) := by
  refine meets_of mixed Try.func10 (by kernel_rfl) x10_ok (some []) ?_
  refine (less_c a b g ha hb).call rfl rfl rfl ?_
  refine (blessR_c a b g ha hb).call rfl rfl rfl ?_
  refine bsplit_of (fun h1 => ?_) (fun h1 => absurd h1 (by simp))
  refine (better_c v w g hv hw).call rfl rfl rfl ?_
  refine (betterR_c v w g hv hw).call rfl rfl rfl ?_
  exact rb (by simp)

/-- The law PrioBest. -/
theorem prioBest_c (s : SliceV VectorV) (g : G) (hs : VecsOk g s) : Meets Try.prog 11 [.v (.slice s.a s.l.length s.c)] [] g (fun o _ _ => o = .ret (.v (.bool true))) := by
  refine meets_of mixed Try.func11 (by kernel_rfl) x11_ok (some []) ?_
  refine bsplit_of (fun h1 => ?_) (fun h1 => ?_)
  · exact rfl
  · refine (best_c s g hs).call0 rfl rfl 0 rfl ?_
    rintro o L1 g' ⟨b1, rfl, rfl, k1, rfl⟩
    refine (bestR_c s g' hs).call0 rfl rfl 0 rfl ?_
    rintro o L1 g'' ⟨b2, rfl, rfl, k2, rfl⟩
    have := best_one k1 k2
    exact rb (by simp [this])
end Go.Proofs.Ytflnpoahceebbaa
