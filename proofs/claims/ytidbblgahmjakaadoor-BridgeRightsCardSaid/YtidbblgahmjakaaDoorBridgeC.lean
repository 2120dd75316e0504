/- bridge.Right and its reference, slices of numbers searched: what each returns. Conditions: the slices lie where they say. -/
import Derived.Test.YtidbblgahmjakaaDoorXbrr
import Derived.Test.YtidbblgahmjakaaDoorTagRC
import Derived.Test.YtidbblgahmjakaaDoorBaseD
namespace Go.Proofs.YtidbblgahmjakaaDoor
open Go.Sx Go.Lib
set_option maxRecDepth 100000
set_option maxHeartbeats 8000000
attribute [local irreducible] Meets
attribute [local instance] Classical.propDecidable

/-- Where the first is. -/
noncomputable def firstI {α : Type} (p : α → Prop) (l : List α) : Int := match l.findIdx? (fun x => decide (p x)) with | some i => (i : Int) | none => -1
theorem firstI_hit {α : Type} {p : α → Prop} {l : List α} {k : Nat} {x : α} (hb : ∀ (i : Nat) y, i < k → l[i]? = some y → ¬ p y) (hx : l[k]? = some x) (hp : p x) : firstI p l = k := by
  obtain ⟨hk, rfl⟩ := List.getElem?_eq_some_iff.1 hx
  have : l.findIdx? (fun x => decide (p x)) = some k := by
    rw [List.findIdx?_eq_some_iff_getElem]
    exact ⟨hk, by simpa using hp, fun j hj => by simpa using hb j _ hj (List.getElem?_eq_getElem (by omega))⟩
  rw [firstI, this]
theorem firstI_none {α : Type} {p : α → Prop} {l : List α} (hb : ∀ (i : Nat) y, l[i]? = some y → ¬ p y) : firstI p l = -1 := by
  have : l.findIdx? (fun x => decide (p x)) = none := by
    rw [List.findIdx?_eq_none_iff]
    intro t ht
    obtain ⟨i, hi, rfl⟩ := List.getElem_of_mem ht
    simpa using hb i _ (List.getElem?_eq_getElem hi)
  rw [firstI, this]
theorem firstI_ge {α : Type} (p : α → Prop) (l : List α) : decide (firstI p l ≥ 0) = decide (∃ x ∈ l, p x) := by
  rw [decide_eq_decide, firstI]
  cases h : l.findIdx? (fun x => decide (p x)) with
  | none =>
    rw [List.findIdx?_eq_none_iff] at h
    constructor
    · intro hh; simp at hh
    · rintro ⟨x, hx, hp⟩
      have := h x hx
      simp [hp] at this
  | some i =>
    rw [List.findIdx?_eq_some_iff_getElem] at h
    obtain ⟨h1, h2, -⟩ := h
    constructor
    · intro _; exact ⟨l[i], List.getElem_mem h1, by simpa using h2⟩
    · intro _; show (i : Int) ≥ 0; omega
/-- One more looked at. -/
theorem seen_next {α : Type} {p : α → Prop} {l : List α} {k : Nat} {x : α} (hb : ∀ (i : Nat) y, i < k → l[i]? = some y → ¬ p y) (hx : l[k]? = some x) (hp : ¬ p x) : ∀ (i : Nat) y, i < k + 1 → l[i]? = some y → ¬ p y := by
  intro i y hi hy
  by_cases hik : i = k
  · subst hik; rw [hx] at hy; cases hy; exact hp
  · exact hb i y (by omega) hy

abbrev IntsOk (g : G) (s : SliceV Int) : Prop := s.ok 1 (intC .i64) (iok .i64) g

theorem index_c (s : SliceV Int) (v : Int) (g : G) (hs : IntsOk g s) : Tells Tryd.prog 140 [.v (.slice s.a s.l.length s.c), .v (.int .i64 v)] g (.v (.int .i64 (firstI (fun x => v = x) s.l))) := by
  refine meets_of mixedS Tryd.func140 (by kernel_rfl) x140_ok (some []) ?_
  have hlen := hs.len
  change LoopW _ _ _ _ _ _ _
  apply loop_rule [] (α := Nat) (fun k => [(8, .v (.int .i64 k))]) (fun _ => []) (fun _ => g) (fun k => k ≤ s.l.length ∧ ∀ (i : Nat) y, i < k → s.l[i]? = some y → ¬ v = y) (fun k => s.l.length - k) 0
  · intro x; kernel_rfl
  · exact ⟨Nat.zero_le _, fun i t hi => by omega⟩
  · exact ⟨rfl, trivial⟩
  · rfl
  · rfl
  intro k hk
  refine bsplit_of (fun hlt => ?_) (fun hlt => ?_)
  · have hlt' : k < s.l.length := by simpa using hlt
    obtain ⟨ad, x, ha, hx, hat, -⟩ := hs.elem (fun _ => rfl) hlt'
    refine ⟨⟨by omega, by omega⟩, ad, ha, ?_⟩
    refine ⟨[.int .i64 x], rfl, hat, ?_⟩
    refine bsplit_of (fun (h : (v == x) = true) => ?_) (fun (h : (v == x) = false) => ?_)
    · exact ⟨ri (firstI_hit hk.2 hx (by simpa using h)).symm, rfl, rfl⟩
    · exact ⟨k + 1, ⟨by omega, seen_next hk.2 hx (by simpa using h)⟩, by omega, [], rfl, ⟨vi (wrap_id (by omega) (by omega)), trivial⟩, rfl, rfl, rfl, rfl⟩
  · have : s.l.length ≤ k := by simpa using hlt
    exact ⟨ri (firstI_none fun i y hy => hk.2 i y (by have := (List.getElem?_eq_some_iff.1 hy).1; omega) hy).symm, rfl, rfl⟩

theorem contains_c (s : SliceV Int) (v : Int) (g : G) (hs : IntsOk g s) : Tells Tryd.prog 76 [.v (.slice s.a s.l.length s.c), .v (.int .i64 v)] g (.v (.bool (decide (v ∈ s.l)))) := by
  refine meets_of mixedS Tryd.func76 (by kernel_rfl) x76_ok (some []) ?_
  refine (index_c s v g hs).call rfl rfl rfl ?_
  refine ⟨rb ?_, rfl, rfl⟩
  rw [firstI_ge, decide_eq_decide]
  simp

theorem has_c (s : SliceV Int) (v : Int) (g : G) (hs : IntsOk g s) : Tells Tryd.prog 77 [.v (.slice s.a s.l.length s.c), .v (.int .i64 v)] g (.v (.bool (decide (v ∈ s.l)))) := by
  refine meets_of mixedS Tryd.func77 (by kernel_rfl) x77_ok (some []) ?_
  have hlen := hs.len
  change LoopW _ _ _ _ _ _ _
  apply loop_rule [] (α := Nat) (fun k => [(9, .v (.int .i64 k))]) (fun _ => []) (fun _ => g) (fun k => k ≤ s.l.length ∧ ∀ (i : Nat) y, i < k → s.l[i]? = some y → ¬ y = v) (fun k => s.l.length - k) 0
  · intro x; kernel_rfl
  · exact ⟨Nat.zero_le _, fun i t hi => by omega⟩
  · exact ⟨rfl, trivial⟩
  · rfl
  · rfl
  intro k hk
  refine bsplit_of (fun hlt => ?_) (fun hlt => ?_)
  · have hlt' : k < s.l.length := by simpa using hlt
    obtain ⟨ad, x, ha, hx, hat, -⟩ := hs.elem (fun _ => rfl) hlt'
    refine ⟨⟨by omega, by omega⟩, ad, ha, ?_⟩
    refine ⟨[.int .i64 x], rfl, hat, ?_⟩
    refine bsplit_of (fun (h : (x == v) = true) => ?_) (fun (h : (x == v) = false) => ?_)
    · have e : x = v := by simpa using h
      exact ⟨rb (decide_eq_true (e ▸ List.mem_of_getElem? hx)), rfl, rfl⟩
    · exact ⟨k + 1, ⟨by omega, seen_next hk.2 hx (by simpa using h)⟩, by omega, [], rfl, ⟨vi (wrap_id (by omega) (by omega)), trivial⟩, rfl, rfl, rfl, rfl⟩
  · have : s.l.length ≤ k := by simpa using hlt
    refine ⟨rb (decide_eq_false fun hm => ?_), rfl, rfl⟩
    obtain ⟨i, hi, he⟩ := List.getElem_of_mem hm
    exact hk.2 i v (by omega) (by rw [← he]; exact List.getElem?_eq_getElem hi) rfl

/-- VIDs that rise. -/
def vidAt (l : List Int) (i : Nat) (v : Int) : Prop := 1 ≤ v ∧ v ≤ 4094 ∧ (0 < i → ∀ u, l[i - 1]? = some u → u < v)
def vidsP (l : List Int) : Prop := ∀ (i : Nat) v, l[i]? = some v → vidAt l i v
theorem vid_next {l : List Int} {k : Nat} {x : Int} (hb : ∀ (i : Nat) y, i < k → l[i]? = some y → vidAt l i y) (hx : l[k]? = some x) (hp : vidAt l k x) : ∀ (i : Nat) y, i < k + 1 → l[i]? = some y → vidAt l i y := by
  intro i y hi hy
  by_cases hik : i = k
  · subst hik; rw [hx] at hy; cases hy; exact hp
  · exact hb i y (by omega) hy

theorem vids_c (s : SliceV Int) (g : G) (hs : IntsOk g s) : Tells Tryd.prog 73 [.v (.slice s.a s.l.length s.c)] g (.v (.bool (decide (vidsP s.l)))) := by
  refine meets_of mixedS Tryd.func73 (by kernel_rfl) x73_ok (some []) ?_
  have hlen := hs.len
  change LoopW _ _ _ _ _ _ _
  apply loop_rule [] (α := Nat) (fun k => [(7, .v (.int .i64 k))]) (fun _ => []) (fun _ => g) (fun k => k ≤ s.l.length ∧ ∀ (i : Nat) y, i < k → s.l[i]? = some y → vidAt s.l i y) (fun k => s.l.length - k) 0
  · intro x; kernel_rfl
  · exact ⟨Nat.zero_le _, fun i t hi => by omega⟩
  · exact ⟨rfl, trivial⟩
  · rfl
  · rfl
  intro k hk
  refine bsplit_of (fun hlt => ?_) (fun hlt => ?_)
  · have hlt' : k < s.l.length := by simpa using hlt
    obtain ⟨ad, x, ha, hx, hat, -⟩ := hs.elem (fun _ => rfl) hlt'
    have bad : ¬ vidAt s.l k x → decide (vidsP s.l) = false := fun h => decide_eq_false fun hp => h (hp k x hx)
    refine ⟨⟨by omega, by omega⟩, ad, ha, ?_⟩
    refine ⟨[.int .i64 x], rfl, hat, ?_⟩
    refine bsplit_of (fun (h : decide (x < 1) = true) => ⟨rb (bad fun hv => by have := hv.1; have := of_decide_eq_true h; omega), rfl, rfl⟩) (fun (h1 : decide (x < 1) = false) => ?_)
    refine bsplit_of (fun (h : decide (x > 4094) = true) => ⟨rb (bad fun hv => by have := hv.2.1; have := of_decide_eq_true h; omega), rfl, rfl⟩) (fun (h2 : decide (x > 4094) = false) => ?_)
    have h1' := of_decide_eq_false h1
    have h2' := of_decide_eq_false h2
    refine bsplit_of (fun (h : decide ((k : Int) > 0) = true) => ?_) (fun (h : decide ((k : Int) > 0) = false) => ?_)
    · have hk0 : 0 < k := by have := of_decide_eq_true h; omega
      obtain ⟨bd, u, hb, hu, hbt, -⟩ := hs.elem (i := k - 1) (fun _ => rfl) (by omega)
      have w : IntKind.i64.wrap ((k : Int) - 1) = ((k - 1 : Nat) : Int) := by rw [wrap_id (by omega) (by omega)]; omega
      refine ⟨⟨by rw [w]; omega, by rw [w]; omega⟩, bd, hb, ?_⟩
      refine ⟨[.int .i64 u], rfl, by rw [w]; exact hbt, ?_⟩
      refine bsplit_of (fun (h3 : decide (x ≤ u) = true) => ⟨rb (bad fun hv => by have := hv.2.2 hk0 u hu; have := of_decide_eq_true h3; omega), rfl, rfl⟩) (fun (h3 : decide (x ≤ u) = false) => ?_)
      have h3' := of_decide_eq_false h3
      refine ⟨k + 1, ⟨by omega, vid_next hk.2 hx ⟨by omega, by omega, fun _ u' hu' => ?_⟩⟩, by omega, [], rfl, ⟨vi (wrap_id (by omega) (by omega)), trivial⟩, rfl, rfl, rfl, rfl⟩
      rw [hu] at hu'; cases hu'; omega
    · have hk0 : k = 0 := by have := of_decide_eq_false h; omega
      exact ⟨k + 1, ⟨by omega, vid_next hk.2 hx ⟨by omega, by omega, fun h0 => by omega⟩⟩, by omega, [], rfl, ⟨vi (wrap_id (by omega) (by omega)), trivial⟩, rfl, rfl, rfl, rfl⟩
  · have : s.l.length ≤ k := by simpa using hlt
    exact ⟨rb (decide_eq_true fun i y hy => hk.2 i y (by have := (List.getElem?_eq_some_iff.1 hy).1; omega) hy), rfl, rfl⟩

theorem rises_c (s : SliceV Int) (g : G) (hs : IntsOk g s) : Tells Tryd.prog 78 [.v (.slice s.a s.l.length s.c)] g (.v (.bool (decide (vidsP s.l)))) := by
  refine meets_of mixedS Tryd.func78 (by kernel_rfl) x78_ok (some []) ?_
  have hlen := hs.len
  change LoopW _ _ _ _ _ _ _
  apply loop_rule [] (α := Nat) (fun k => [(7, .v (.int .i64 k))]) (fun _ => []) (fun _ => g) (fun k => k ≤ s.l.length ∧ ∀ (i : Nat) y, i < k → s.l[i]? = some y → vidAt s.l i y) (fun k => s.l.length - k) 0
  · intro x; kernel_rfl
  · exact ⟨Nat.zero_le _, fun i t hi => by omega⟩
  · exact ⟨rfl, trivial⟩
  · rfl
  · rfl
  intro k hk
  refine bsplit_of (fun hlt => ?_) (fun hlt => ?_)
  · have hlt' : k < s.l.length := by simpa using hlt
    obtain ⟨ad, x, ha, hx, hat, -⟩ := hs.elem (fun _ => rfl) hlt'
    have bad : ¬ vidAt s.l k x → decide (vidsP s.l) = false := fun h => decide_eq_false fun hp => h (hp k x hx)
    refine ⟨⟨by omega, by omega⟩, ad, ha, ?_⟩
    refine ⟨[.int .i64 x], rfl, hat, ?_⟩
    refine (within_c x 1 4094 g).call rfl rfl rfl ?_
    refine bsplit_of (fun (h : (!decide (1 ≤ x ∧ x ≤ 4094)) = true) => ⟨rb (bad fun hv => by have := hv.1; have := hv.2.1; simp at h; omega), rfl, rfl⟩) (fun (h1 : (!decide (1 ≤ x ∧ x ≤ 4094)) = false) => ?_)
    have h1' : 1 ≤ x ∧ x ≤ 4094 := by simpa using h1
    refine bsplit_of (fun (h : decide ((k : Int) > 0) = true) => ?_) (fun (h : decide ((k : Int) > 0) = false) => ?_)
    · have hk0 : 0 < k := by have := of_decide_eq_true h; omega
      obtain ⟨bd, u, hb, hu, hbt, -⟩ := hs.elem (i := k - 1) (fun _ => rfl) (by omega)
      have w : IntKind.i64.wrap ((k : Int) - 1) = ((k - 1 : Nat) : Int) := by rw [wrap_id (by omega) (by omega)]; omega
      refine ⟨⟨by rw [w]; omega, by rw [w]; omega⟩, bd, hb, ?_⟩
      refine ⟨[.int .i64 u], rfl, by rw [w]; exact hbt, ?_⟩
      refine bsplit_of (fun (h3 : decide (x ≤ u) = true) => ⟨rb (bad fun hv => by have := hv.2.2 hk0 u hu; have := of_decide_eq_true h3; omega), rfl, rfl⟩) (fun (h3 : decide (x ≤ u) = false) => ?_)
      have h3' := of_decide_eq_false h3
      refine ⟨k + 1, ⟨by omega, vid_next hk.2 hx ⟨by omega, by omega, fun _ u' hu' => ?_⟩⟩, by omega, [], rfl, ⟨vi (wrap_id (by omega) (by omega)), trivial⟩, rfl, rfl, rfl, rfl⟩
      rw [hu] at hu'; cases hu'; omega
    · have hk0 : k = 0 := by have := of_decide_eq_false h; omega
      exact ⟨k + 1, ⟨by omega, vid_next hk.2 hx ⟨by omega, by omega, fun h0 => by omega⟩⟩, by omega, [], rfl, ⟨vi (wrap_id (by omega) (by omega)), trivial⟩, rfl, rfl, rfl, rfl⟩
  · have : s.l.length ≤ k := by simpa using hlt
    exact ⟨rb (decide_eq_true fun i y hy => hk.2 i y (by have := (List.getElem?_eq_some_iff.1 hy).1; omega) hy), rfl, rfl⟩

/-! ### A port's set -/
def setP (p : PortSetV) : Prop := 1 ≤ p.pvid ∧ p.pvid ≤ 4094 ∧ 1 ≤ p.state ∧ p.state ≤ 3 ∧ p.in_.l.length ≤ 64 ∧ vidsP p.in_.l ∧ vidsP p.bare.l ∧ ∀ v ∈ p.bare.l, v ∈ p.in_.l

theorem notIn_c (p : PortSetV) (v : Int) (g : G) (hp : p.ok g) : Meets Tryd.prog 75 [.v (.int .i64 v), .ptr 0 0] [.cells 48 (p.cells.map .v)] g (fun o L' g' => o = .ret (.v (.bool (!decide (v ∈ p.in_.l)))) ∧ L' = [.cells 48 (p.cells.map .v)] ∧ g' = g) := by
  refine meets_of mixedS Tryd.func75 (by kernel_rfl) x75_ok (some []) ?_
  refine (contains_c p.in_ v g hp.2.1).call rfl rfl rfl ?_
  exact ⟨rfl, rfl, rfl⟩
theorem idxNot_c (p : PortSetV) (s : SliceV Int) (g : G) (hp : p.ok g) (hs : IntsOk g s) : Meets Tryd.prog 139 [.v (.slice s.a s.l.length s.c), .fn 75 [] [.ptr 0 0]] [.cells 48 (p.cells.map .v)] g (fun o L' g' => o = .ret (.v (.int .i64 (firstI (fun v => ¬ v ∈ p.in_.l) s.l))) ∧ L' = [.cells 48 (p.cells.map .v)] ∧ g' = g) := by
  refine meets_of mixedS Tryd.func139 (by kernel_rfl) x139_ok (some []) ?_
  have hlen := hs.len
  change LoopW _ _ _ _ _ _ _
  apply loop_rule [] (α := Nat) (fun k => [(8, .v (.int .i64 k))]) (fun _ => [.cells 48 (p.cells.map .v)]) (fun _ => g) (fun k => k ≤ s.l.length ∧ ∀ (i : Nat) y, i < k → s.l[i]? = some y → ¬ ¬ y ∈ p.in_.l) (fun k => s.l.length - k) 0
  · intro x; kernel_rfl
  · exact ⟨Nat.zero_le _, fun i t hi => by omega⟩
  · exact ⟨rfl, trivial⟩
  · rfl
  · rfl
  intro k hk
  refine bsplit_of (fun hlt => ?_) (fun hlt => ?_)
  · have hlt' : k < s.l.length := by simpa using hlt
    obtain ⟨ad, x, ha, hx, hat, -⟩ := hs.elem (fun _ => rfl) hlt'
    refine ⟨⟨by omega, by omega⟩, ad, ha, ?_⟩
    refine ⟨[.int .i64 x], rfl, hat, ?_⟩
    refine (notIn_c p x g hp).callS [0] 1 rfl rfl rfl rfl ?_
    rintro o L1 g' ⟨rfl, rfl, rfl⟩ _
    refine bsplit_of (fun (h : (!decide (x ∈ p.in_.l)) = true) => ?_) (fun (h : (!decide (x ∈ p.in_.l)) = false) => ?_)
    · exact ⟨ri (firstI_hit hk.2 hx (by simpa using h)).symm, rfl, rfl⟩
    · exact ⟨k + 1, ⟨by omega, seen_next hk.2 hx (by simpa using h)⟩, by omega, [0], rfl, ⟨vi (wrap_id (by omega) (by omega)), trivial⟩, rfl, rfl, rfl, rfl⟩
  · have : s.l.length ≤ k := by simpa using hlt
    exact ⟨ri (firstI_none fun i y hy => hk.2 i y (by have := (List.getElem?_eq_some_iff.1 hy).1; omega) hy).symm, rfl, rfl⟩
theorem anyNot_c (p : PortSetV) (s : SliceV Int) (g : G) (hp : p.ok g) (hs : IntsOk g s) : Meets Tryd.prog 74 [.v (.slice s.a s.l.length s.c), .fn 75 [] [.ptr 0 0]] [.cells 48 (p.cells.map .v)] g (fun o L' g' => o = .ret (.v (.bool (decide (∃ v ∈ s.l, ¬ v ∈ p.in_.l)))) ∧ L' = [.cells 48 (p.cells.map .v)] ∧ g' = g) := by
  refine meets_of mixedS Tryd.func74 (by kernel_rfl) x74_ok (some []) ?_
  refine (idxNot_c p s g hp hs).callS [0] 1 rfl rfl rfl rfl ?_
  rintro o L1 g' ⟨rfl, rfl, rfl⟩ _
  have e := firstI_ge (fun v => ¬ v ∈ p.in_.l) s.l
  rw [decide_eq_decide] at e
  exact ⟨rb (decide_eq_decide.2 e.symm), rfl, rfl⟩

theorem setRight_c (p : PortSetV) (g : G) (hp : p.ok g) : Tells Tryd.prog 23 [.agg (p.cells.map .v)] g (.v (.bool (decide (setP p)))) := by
  have no : ∀ {c : Bool}, c = false → ¬ setP p → Out.ret (.v (.bool c)) = .ret (.v (.bool (decide (setP p)))) := fun h1 h2 => by rw [h1, decide_eq_false h2]
  refine meets_of mixedS Tryd.func23 (by kernel_rfl) x23_ok (some []) ?_
  refine bsplit_of (fun (h1 : decide (p.pvid ≥ 1) = true) => ?_) (fun (h : decide (p.pvid ≥ 1) = false) => ⟨no rfl fun hq => by have := hq.1; have := of_decide_eq_false h; omega, rfl, rfl⟩)
  refine bsplit_of (fun (h2 : decide (p.pvid ≤ 4094) = true) => ?_) (fun (h : decide (p.pvid ≤ 4094) = false) => ⟨no rfl fun hq => by have := hq.2.1; have := of_decide_eq_false h; omega, rfl, rfl⟩)
  refine bsplit_of (fun (h3 : decide (p.state ≥ 1) = true) => ?_) (fun (h : decide (p.state ≥ 1) = false) => ⟨no rfl fun hq => by have := hq.2.2.1; have := of_decide_eq_false h; omega, rfl, rfl⟩)
  refine bsplit_of (fun (h4 : decide (p.state ≤ 3) = true) => ?_) (fun (h : decide (p.state ≤ 3) = false) => ⟨no rfl fun hq => by have := hq.2.2.2.1; have := of_decide_eq_false h; omega, rfl, rfl⟩)
  refine bsplit_of (fun (h5 : decide ((p.in_.l.length : Int) ≤ 64) = true) => ?_) (fun (h : decide ((p.in_.l.length : Int) ≤ 64) = false) => ⟨no rfl fun hq => by have := hq.2.2.2.2.1; have := of_decide_eq_false h; omega, rfl, rfl⟩)
  refine (vids_c p.in_ g hp.2.1).call rfl rfl rfl ?_
  refine bsplit_of (fun (h6 : decide (vidsP p.in_.l) = true) => ?_) (fun (h : decide (vidsP p.in_.l) = false) => ⟨no rfl fun hq => of_decide_eq_false h hq.2.2.2.2.2.1, rfl, rfl⟩)
  refine (vids_c p.bare g hp.2.2.1).call rfl rfl rfl ?_
  refine bsplit_of (fun (h7 : decide (vidsP p.bare.l) = true) => ?_) (fun (h : decide (vidsP p.bare.l) = false) => ⟨no rfl fun hq => of_decide_eq_false h hq.2.2.2.2.2.2.1, rfl, rfl⟩)
  refine (anyNot_c p p.bare g hp hp.2.2.1).callS [0] 1 rfl rfl rfl rfl ?_
  rintro o L1 g' ⟨rfl, rfl, rfl⟩ _
  refine ⟨rb ?_, rfl, rfl⟩
  have h1 := of_decide_eq_true h1; have h2 := of_decide_eq_true h2; have h3 := of_decide_eq_true h3; have h4 := of_decide_eq_true h4; have h5 := of_decide_eq_true h5; have h6 := of_decide_eq_true h6; have h7 := of_decide_eq_true h7
  rw [← decide_not, decide_eq_decide]
  constructor
  · rintro ⟨-, -, -, -, -, -, -, h⟩ ⟨v, hv, hn⟩
    exact hn (h v hv)
  · intro h
    exact ⟨h1, h2, h3, h4, by omega, h6, h7, fun v hv => Classical.byContradiction fun hn => h ⟨v, hv, hn⟩⟩

theorem setRightR_c (p : PortSetV) (g : G) (hp : p.ok g) : Tells Tryd.prog 24 [.agg (p.cells.map .v)] g (.v (.bool (decide (setP p)))) := by
  have no : ∀ {c : Bool}, c = false → ¬ setP p → Out.ret (.v (.bool c)) = .ret (.v (.bool (decide (setP p)))) := fun h1 h2 => by rw [h1, decide_eq_false h2]
  refine meets_of mixedS Tryd.func24 (by kernel_rfl) x24_ok (some []) ?_
  have hs := hp.2.2.1
  have hlen := hs.len
  change LoopW _ _ _ _ _ _ _
  apply loop_rule [] (α := Nat) (fun k => [(8, .v (.int .i64 k))]) (fun _ => [.cells 48 (p.cells.map .v)]) (fun _ => g) (fun k => k ≤ p.bare.l.length ∧ ∀ (i : Nat) y, i < k → p.bare.l[i]? = some y → ¬ ¬ y ∈ p.in_.l) (fun k => p.bare.l.length - k) 0
  · intro x; kernel_rfl
  · exact ⟨Nat.zero_le _, fun i t hi => by omega⟩
  · exact ⟨rfl, trivial⟩
  · rfl
  · rfl
  intro k hk
  refine bsplit_of (fun hlt => ?_) (fun hlt => ?_)
  · have hlt' : k < p.bare.l.length := by simpa using hlt
    obtain ⟨ad, x, ha, hx, hat, -⟩ := hs.elem (fun _ => rfl) hlt'
    refine ⟨⟨by omega, by omega⟩, ad, ha, ?_⟩
    refine ⟨[.int .i64 x], rfl, hat, ?_⟩
    refine (has_c p.in_ x g hp.2.1).call rfl rfl rfl ?_
    refine bsplit_of (fun (h : (!decide (x ∈ p.in_.l)) = true) => ?_) (fun (h : (!decide (x ∈ p.in_.l)) = false) => ?_)
    · exact ⟨no rfl fun hq => by simp at h; exact h (hq.2.2.2.2.2.2.2 x (List.mem_of_getElem? hx)), rfl, rfl⟩
    · exact ⟨k + 1, ⟨by omega, seen_next hk.2 hx (by simpa using h)⟩, by omega, [0], rfl, ⟨vi (wrap_id (by omega) (by omega)), trivial⟩, rfl, rfl, rfl, rfl⟩
  · have hge : p.bare.l.length ≤ k := by simpa using hlt
    have h8 : ∀ v ∈ p.bare.l, v ∈ p.in_.l := fun v hv => by
      obtain ⟨i, hi, he⟩ := List.getElem_of_mem hv
      exact Classical.byContradiction fun hn => hk.2 i v (by omega) (by rw [← he]; exact List.getElem?_eq_getElem hi) hn
    refine (within_c p.pvid 1 4094 g).call rfl rfl rfl ?_
    refine bsplit_of (fun (h1 : decide (1 ≤ p.pvid ∧ p.pvid ≤ 4094) = true) => ?_) (fun (h : decide (1 ≤ p.pvid ∧ p.pvid ≤ 4094) = false) => ⟨no rfl fun hq => of_decide_eq_false h ⟨hq.1, hq.2.1⟩, rfl, rfl⟩)
    refine (within_c p.state 1 3 g).call rfl rfl rfl ?_
    refine bsplit_of (fun (h3 : decide (1 ≤ p.state ∧ p.state ≤ 3) = true) => ?_) (fun (h : decide (1 ≤ p.state ∧ p.state ≤ 3) = false) => ⟨no rfl fun hq => of_decide_eq_false h ⟨hq.2.2.1, hq.2.2.2.1⟩, rfl, rfl⟩)
    refine bsplit_of (fun (h5 : decide ((p.in_.l.length : Int) ≤ 64) = true) => ?_) (fun (h : decide ((p.in_.l.length : Int) ≤ 64) = false) => ⟨no rfl fun hq => by have := hq.2.2.2.2.1; have := of_decide_eq_false h; omega, rfl, rfl⟩)
    refine (rises_c p.in_ g hp.2.1).call rfl rfl rfl ?_
    refine bsplit_of (fun (h6 : decide (vidsP p.in_.l) = true) => ?_) (fun (h : decide (vidsP p.in_.l) = false) => ⟨no rfl fun hq => of_decide_eq_false h hq.2.2.2.2.2.1, rfl, rfl⟩)
    refine (rises_c p.bare g hs).call rfl rfl rfl ?_
    refine ⟨rb ?_, rfl, rfl⟩
    have h1 := of_decide_eq_true h1; have h3 := of_decide_eq_true h3; have h5 := of_decide_eq_true h5; have h6 := of_decide_eq_true h6
    rw [decide_eq_decide]
    exact ⟨fun hq => hq.2.2.2.2.2.2.1, fun h => ⟨h1.1, h1.2, h3.1, h3.2, by omega, h6, h, h8⟩⟩
end Go.Proofs.YtidbblgahmjakaaDoor
