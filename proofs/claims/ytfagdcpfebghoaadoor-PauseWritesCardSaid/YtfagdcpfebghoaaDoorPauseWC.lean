/- pause.Right, pause.Write and their references: what each returns; the law PauseWrites. Conditions: the variable errors.errorType holds its handle. -/
import Derived.Test.YtfagdcpfebghoaaDoorXpausew
import Derived.Test.YtfagdcpfebghoaaDoorWireC
import Derived.Test.YtfagdcpfebghoaaDoorTagRC
import Derived.Test.YtfagdcpfebghoaaDoorTy23
namespace Go.Proofs.YtfagdcpfebghoaaDoor
open Go.Sx
set_option maxRecDepth 100000
set_option maxHeartbeats 8000000
attribute [local irreducible] Meets
attribute [local instance] Classical.propDecidable

def A8xi64V.l (x : A8xi64V) : List Int := [x.e0, x.e1, x.e2, x.e3, x.e4, x.e5, x.e6, x.e7]
def timeP (p : PauseV) (i : Nat) (x : Int) : Prop := 0 ≤ x ∧ x ≤ 65535 ∧ (p.pfc = false → 0 < i → x = 0)
def pauseP (p : PauseV) : Prop := (∀ (i : Nat) x, p.times.l[i]? = some x → timeP p i x) ∧ 0 ≤ p.enable ∧ p.enable ≤ 255 ∧ (p.pfc = true ∨ p.enable = 0)

theorem pause_bad {p : PauseV} {k : Nat} {x : Int} (hx : p.times.l[k]? = some x) (h : ¬ timeP p k x) : decide (pauseP p) = false := by
  rw [decide_eq_false_iff_not]
  exact fun hp => h (hp.1 k x hx)
theorem pause_next {p : PauseV} {k : Nat} {x : Int} (hx : p.times.l[k]? = some x) (hk : k < 8) (hp : ∀ (i : Nat) x, i < k → p.times.l[i]? = some x → timeP p i x) (h : timeP p k x) : k + 1 ≤ 8 ∧ ∀ (i : Nat) x, i < k + 1 → p.times.l[i]? = some x → timeP p i x := by
  refine ⟨by omega, fun i u hi hu => ?_⟩
  by_cases hik : i = k
  · subst hik; rw [hx] at hu; cases hu; exact h
  · exact hp i u (by omega) hu
theorem pause_all {p : PauseV} (h : ∀ (i : Nat) x, i < 8 → p.times.l[i]? = some x → timeP p i x) : ∀ (i : Nat) x, p.times.l[i]? = some x → timeP p i x :=
  fun i x hx => h i x (by have := (List.getElem?_eq_some_iff.1 hx).1; simpa [A8xi64V.l] using this) hx
theorem times_at (p : PauseV) {k : Nat} (h : k < 8) : ∃ x, p.times.l[k]? = some x := lt_some (by simpa [A8xi64V.l] using h)

theorem pauseRight_c (p : PauseV) (g : G) : Tells Tryd.prog 48 [.agg (p.cells.map .v)] g (.v (.bool (decide (pauseP p)))) := by
  refine meets_of mixedW Tryd.func48 (by kernel_rfl) x48_ok (some []) ?_
  change LoopW _ _ _ _ _ _ _
  apply loop_rule [] (α := Nat) (fun x => [(7, .v (.int .i64 x))]) (fun _ => [Chunk.cells 78 (p.cells.map .v)]) (fun _ => g) (fun k => k ≤ 8 ∧ ∀ (i : Nat) x, i < k → p.times.l[i]? = some x → timeP p i x) (fun x => 8 - x) 0
  · intro x; kernel_rfl
  · exact ⟨Nat.zero_le _, fun i t hi => by omega⟩
  · exact ⟨rfl, trivial⟩
  · rfl
  · rfl
  intro k hk
  refine bsplit_of (fun hlt => ?_) (fun hlt => ?_)
  · have hlt' : k < 8 := by simp at hlt; omega
    obtain ⟨x, hx⟩ := times_at p hlt'
    refine ⟨⟨by omega, by omega⟩, idxI (k := .i64) (xs := p.times.l) rfl (by simpa using hx) ?_⟩
    have go : timeP p k x → k + 1 ≤ 8 ∧ ∀ (i : Nat) x, i < k + 1 → p.times.l[i]? = some x → timeP p i x := pause_next hx hlt' hk.2
    have hw : IntKind.i64.wrap ((k : Int) + 1) = ((k + 1 : Nat) : Int) := wrap_id (by omega) (by omega)
    refine bsplit_of (fun h1 => ⟨rb (pause_bad hx (fun h => by have := h.1; simp at h1; omega)), rfl, rfl⟩) (fun h1 => ?_)
    refine bsplit_of (fun h2 => ⟨rb (pause_bad hx (fun h => by have := h.2.1; simp at h2; omega)), rfl, rfl⟩) (fun h2 => ?_)
    have hr : 0 ≤ x ∧ x ≤ 65535 := by simp at h1 h2; omega
    refine bsplit_of (fun h3 => ?_) (fun h3 => ?_)
    · refine bsplit_of (fun h4 => ?_) (fun h4 => ?_)
      · refine bsplit_of (fun h5 => ⟨rb (pause_bad hx (fun h => by have := h.2.2 (by simpa using h3) (by simp at h4; omega); simp [this] at h5)), rfl, rfl⟩) (fun h5 => ?_)
        exact ⟨k + 1, go ⟨hr.1, hr.2, fun _ _ => by simpa using h5⟩, by omega, [0], rfl, ⟨vi hw, trivial⟩, rfl, rfl, rfl, rfl⟩
      · exact ⟨k + 1, go ⟨hr.1, hr.2, fun _ h0 => by simp at h4; omega⟩, by omega, [0], rfl, ⟨vi hw, trivial⟩, rfl, rfl, rfl, rfl⟩
    · exact ⟨k + 1, go ⟨hr.1, hr.2, fun h0 _ => by simp [h0] at h3⟩, by omega, [0], rfl, ⟨vi hw, trivial⟩, rfl, rfl, rfl, rfl⟩
  · have : k = 8 := by simp at hlt; omega
    subst this
    have ha := pause_all hk.2
    refine bsplit_of (fun h1 => ?_) (fun h1 => ⟨rbd (by simp at h1; simp [pauseP]; intros; omega), rfl, rfl⟩)
    refine bsplit_of (fun h2 => ?_) (fun h2 => ⟨rbd (by simp at h2; simp [pauseP]; intros; omega), rfl, rfl⟩)
    have hr : 0 ≤ p.enable ∧ p.enable ≤ 255 := by simp at h1 h2; omega
    refine bsplit_of (fun h3 => ⟨rbd (by simp only [true_iff]; exact ⟨ha, hr.1, hr.2, .inl h3⟩), rfl, rfl⟩) (fun h3 => ?_)
    exact ⟨rbd (by
      simp only [beq_iff_eq]
      exact ⟨fun e => ⟨ha, hr.1, hr.2, .inr e⟩, fun h => h.2.2.2.resolve_left (by simp [h3])⟩), rfl, rfl⟩

theorem pauseRightR_c (p : PauseV) (g : G) : Tells Tryd.prog 49 [.agg (p.cells.map .v)] g (.v (.bool (decide (pauseP p)))) := by
  refine meets_of mixedW Tryd.func49 (by kernel_rfl) x49_ok (some []) ?_
  change LoopW _ _ _ _ _ _ _
  apply loop_rule [] (α := Nat) (fun x => [(7, .v (.int .i64 x))]) (fun _ => [Chunk.cells 78 (p.cells.map .v)]) (fun _ => g) (fun k => k ≤ 8 ∧ ∀ (i : Nat) x, i < k → p.times.l[i]? = some x → timeP p i x) (fun x => 8 - x) 0
  · intro x; kernel_rfl
  · exact ⟨Nat.zero_le _, fun i t hi => by omega⟩
  · exact ⟨rfl, trivial⟩
  · rfl
  · rfl
  intro k hk
  refine bsplit_of (fun hlt => ?_) (fun hlt => ?_)
  · have hlt' : k < 8 := by simp at hlt; omega
    obtain ⟨x, hx⟩ := times_at p hlt'
    refine ⟨⟨by omega, by omega⟩, idxI (k := .i64) (xs := p.times.l) rfl (by simpa using hx) ?_⟩
    have go : timeP p k x → k + 1 ≤ 8 ∧ ∀ (i : Nat) x, i < k + 1 → p.times.l[i]? = some x → timeP p i x := pause_next hx hlt' hk.2
    have hw : IntKind.i64.wrap ((k : Int) + 1) = ((k + 1 : Nat) : Int) := wrap_id (by omega) (by omega)
    refine (within_c x 0 65535 g).call rfl rfl rfl ?_
    refine bsplit_of (fun h1 => ⟨rb (pause_bad hx (fun h => by have := h.1; have := h.2.1; simp at h1; omega)), rfl, rfl⟩) (fun h1 => ?_)
    have hr : 0 ≤ x ∧ x ≤ 65535 := by simpa using h1
    refine bsplit_of (fun h4 => ?_) (fun h4 => ?_)
    · refine bsplit_of (fun h5 => ?_) (fun h5 => ?_)
      · refine bsplit_of (fun h3 => ⟨rb (pause_bad hx (fun h => by have := h.2.2 (by simpa using h3) (by simp at h4; omega); simp [this] at h5)), rfl, rfl⟩) (fun h3 => ?_)
        exact ⟨k + 1, go ⟨hr.1, hr.2, fun h0 _ => by simp [h0] at h3⟩, by omega, [0], rfl, ⟨vi hw, trivial⟩, rfl, rfl, rfl, rfl⟩
      · exact ⟨k + 1, go ⟨hr.1, hr.2, fun _ _ => by simpa using h5⟩, by omega, [0], rfl, ⟨vi hw, trivial⟩, rfl, rfl, rfl, rfl⟩
    · exact ⟨k + 1, go ⟨hr.1, hr.2, fun _ h0 => by simp at h4; omega⟩, by omega, [0], rfl, ⟨vi hw, trivial⟩, rfl, rfl, rfl, rfl⟩
  · have : k = 8 := by simp at hlt; omega
    subst this
    have ha := pause_all hk.2
    refine (within_c p.enable 0 255 g).call rfl rfl rfl ?_
    refine bsplit_of (fun h1 => ?_) (fun h1 => ⟨rbd (by simp at h1; simp [pauseP]; intros; omega), rfl, rfl⟩)
    have hr : 0 ≤ p.enable ∧ p.enable ≤ 255 := by simpa using h1
    refine bsplit_of (fun h3 => ⟨rbd (by simp only [true_iff]; exact ⟨ha, hr.1, hr.2, .inr (by simpa using h3)⟩), rfl, rfl⟩) (fun h3 => ?_)
    exact ⟨rbd (by exact ⟨fun e => ⟨ha, hr.1, hr.2, .inl e⟩, fun h => h.2.2.2.resolve_right (by simpa using h3)⟩), rfl, rfl⟩

def pauseS (p : PauseV) : ByteArray := packS 2 (match p.pfc with | true => 257 :: p.enable :: p.times.l | false => [1, p.times.e0])

theorem pause_rng {p : PauseV} (h : pauseP p) {k : Nat} {x : Int} (hx : p.times.l[k]? = some x) : 0 ≤ x ∧ x ≤ 65535 := ⟨(h.1 k x hx).1, (h.1 k x hx).2.1⟩

theorem pauseWrite_bad (p : PauseV) (g : G) (h : ¬ pauseP p) : Tells Tryd.prog 47 [.agg (p.cells.map .v)] g (.tup [.v (.string emp), .v (errW 1)]) := by
  refine meets_of mixedW Tryd.func47 (by kernel_rfl) x47_ok (some []) ?_
  refine (pauseRight_c p g).call rfl rfl rfl ?_
  refine bsplit_of (fun h1 => ⟨rfl, rfl, rfl⟩) (fun h1 => absurd h1 (by simp [h]))
theorem pauseWrite_good (p : PauseV) (g : G) (h : pauseP p) : Tells Tryd.prog 47 [.agg (p.cells.map .v)] g (.tup [.v (.string (pauseS p)), .v .nilIface]) := by
  have r0 := pause_rng h (k := 0) (x := p.times.e0) rfl
  have re : 0 ≤ p.enable ∧ p.enable ≤ 255 := ⟨h.2.1, h.2.2.1⟩
  refine meets_of mixedW Tryd.func47 (by kernel_rfl) x47_ok (some []) ?_
  refine (pauseRight_c p g).call rfl rfl rfl ?_
  refine bsplit_of (fun h1 => absurd h1 (by simp [h])) (fun h1 => ?_)
  refine bsplit_of (fun h2 => ?_) (fun h2 => ?_)
  · have hp : p.pfc = false := by simpa using h2
    refine ⟨⟨by decide, by decide⟩, ?_⟩
    refine (mustG 1 2 g (by decide) (by decide) (by decide) (by decide) (by decide)).call rfl rfl rfl ?_
    refine (mustG p.times.e0 2 g (by decide) (by decide) (by omega) (by omega) (by omega)).call rfl rfl rfl ?_
    refine ⟨by simp [beS_size], ?_⟩
    refine ⟨?_, rfl, rfl⟩
    rw [pauseS, hp]
    exact congrArg (fun s => Out.ret (.tup [.v (.string s), .v .nilIface])) (by rw [packS_one, packS_one, packS_app]; rfl)
  · have hp : p.pfc = true := by simpa using h2
    refine (mustG 257 2 g (by decide) (by decide) (by decide) (by decide) (by decide)).call rfl rfl rfl ?_
    refine (mustG p.enable 2 g (by decide) (by decide) (by omega) (by omega) (by omega)).call rfl rfl rfl ?_
    refine ⟨by simp [beS_size], ?_⟩
    change LoopW _ _ _ _ _ _ _
    apply loop_rule [] (α := Nat) (fun k => [(27, .v (.int .i64 k)), (4, .v (.string (packS 2 (257 :: p.enable :: p.times.l.take k))))]) (fun _ => [Chunk.cells 78 (p.cells.map .v)]) (fun _ => g) (fun k => k ≤ 8) (fun x => 8 - x) 0
    · intro x; kernel_rfl
    · exact Nat.zero_le _
    · exact ⟨rfl, vs (by rw [packS_one, packS_one, packS_app]; rfl), trivial⟩
    · rfl
    · rfl
    intro k hk
    refine bsplit_of (fun hlt => ?_) (fun hlt => ?_)
    · have hlt' : k < 8 := by simp at hlt; omega
      obtain ⟨x, hx⟩ := times_at p hlt'
      have rx := pause_rng h hx
      refine ⟨⟨by omega, by omega⟩, idxI (k := .i64) (xs := p.times.l) rfl (by simpa using hx) ?_⟩
      refine (mustG x 2 g (by decide) (by decide) (by omega) (by omega) (by omega)).call rfl rfl rfl ?_
      have hl : (List.take k p.times.l).length ≤ 8 := by simp [A8xi64V.l]; omega
      refine ⟨by rw [packS_size, beS_size]; simp only [List.length_cons]; omega, ?_⟩
      refine ⟨k + 1, hlt', by omega, [0], rfl, ⟨vi (wrap_id (by omega) (by omega)), vs ?_, trivial⟩, rfl, rfl, rfl, rfl⟩
      exact packS_take (xs := 257 :: p.enable :: p.times.l) (k := k + 2) (by simpa using hx)
    · have : k = 8 := by simp at hlt; omega
      subst this
      refine ⟨?_, rfl, rfl⟩
      rw [pauseS, hp]
      rfl

theorem pauseWriteR_bad (p : PauseV) (g : G) (h : ¬ pauseP p) : Tells Tryd.prog 46 [.agg (p.cells.map .v)] g (.tup [.v (.string emp), .v (.int .i64 1)]) := by
  refine meets_of mixedW Tryd.func46 (by kernel_rfl) x46_ok (some []) ?_
  refine (pauseRightR_c p g).call rfl rfl rfl ?_
  refine bsplit_of (fun h1 => ⟨rfl, rfl, rfl⟩) (fun h1 => absurd h1 (by simp [h]))
theorem pauseWriteR_good (p : PauseV) (g : G) (h : pauseP p) : Tells Tryd.prog 46 [.agg (p.cells.map .v)] g (.tup [.v (.string (pauseS p)), .v (.int .i64 0)]) := by
  have r0 := pause_rng h (k := 0) (x := p.times.e0) rfl
  have re : 0 ≤ p.enable ∧ p.enable ≤ 255 := ⟨h.2.1, h.2.2.1⟩
  refine meets_of mixedW Tryd.func46 (by kernel_rfl) x46_ok (some []) ?_
  refine (pauseRightR_c p g).call rfl rfl rfl ?_
  refine bsplit_of (fun h1 => absurd h1 (by simp [h])) (fun h1 => ?_)
  refine ⟨⟨by decide, by decide⟩, ?_⟩
  refine bsplit_of (fun h2 => ?_) (fun h2 => ?_)
  · have hp : p.pfc = true := h2
    refine ⟨by simp [moved], ?_⟩
    refine ⟨fun u hu => by
      have hu : u ∈ p.times.l.map (Value.int .i64) := hu
      obtain ⟨n, _, rfl⟩ := List.mem_map.1 hu
      rfl, ?_⟩
    refine ⟨[.int .i64 257, .int .i64 p.enable], [], rfl, rfl, ⟨by simp, by omega, by omega⟩, by simp, fun cap spare k1 k2 k3 => ?_⟩
    have rows : ∀ (k : Nat) x, (257 :: p.enable :: p.times.l)[k]? = some x → 0 ≤ x ∧ x ≤ 65535 := by
      intro k x hx
      match k, hx with
      | 0, hx => cases hx; omega
      | 1, hx => cases hx; omega
      | k + 2, hx => exact pause_rng h (k := k) (by simpa using hx)
    change LoopW _ _ _ _ _ _ _
    apply loop_rule [] (α := Nat) (fun k => [(25, .v (.int .i64 k)), (5, .v (.string (packS 2 ((257 :: p.enable :: p.times.l).take k))))]) (fun _ => [Chunk.cells 78 (p.cells.map .v), .cells 3 [.v (.int .i64 1), .v (.int .i64 p.times.e0)], .gone, .vals 3 ((257 :: p.enable :: p.times.l).map (Value.int .i64) ++ spare)]) (fun _ => g) (fun k => k ≤ 10) (fun x => 10 - x) 0
    · intro x; kernel_rfl
    · exact Nat.zero_le _
    · exact ⟨rfl, rfl, trivial⟩
    · rfl
    · rfl
    intro k hk
    refine bsplit_of (fun hlt => ?_) (fun hlt => ?_)
    · have hlt' : k < 10 := by simp at hlt; omega
      obtain ⟨x, hx⟩ : ∃ x, (257 :: p.enable :: p.times.l)[k]? = some x := lt_some (by simpa [A8xi64V.l] using hlt')
      have rx := rows k x hx
      refine ⟨⟨by omega, by simp; omega⟩, ?_⟩
      refine load1_at (x := .int .i64 x) ?_ ?_
      · rw [List.getElem?_append_left (by simp [A8xi64V.l]; omega), List.getElem?_map]
        simpa using hx
      refine (beG x 2 g (by decide) (by omega) (by omega)).call rfl rfl rfl ?_
      have hl : (List.take k (257 :: p.enable :: p.times.l)).length ≤ 10 := by simp [A8xi64V.l]; omega
      refine ⟨by rw [packS_size, beS_size]; omega, ?_⟩
      refine ⟨k + 1, hlt', by omega, [0, 1, 2, 3], rfl, ⟨vi (wrap_id (by omega) (by omega)), vs (packS_take hx), trivial⟩, rfl, rfl, rfl, rfl⟩
    · have : k = 10 := by simp at hlt; omega
      subst this
      refine ⟨?_, rfl, rfl⟩
      rw [pauseS, hp]
      rfl
  · have hp : p.pfc = false := h2
    change LoopW _ _ _ _ _ _ _
    apply loop_rule [] (α := Nat) (fun k => [(25, .v (.int .i64 k)), (5, .v (.string (packS 2 ([1, p.times.e0].take k))))]) (fun _ => [Chunk.cells 78 (p.cells.map .v), .cells 3 [.v (.int .i64 1), .v (.int .i64 p.times.e0)]]) (fun _ => g) (fun k => k ≤ 2) (fun x => 2 - x) 0
    · intro x; kernel_rfl
    · exact Nat.zero_le _
    · exact ⟨rfl, rfl, trivial⟩
    · rfl
    · rfl
    intro k hk
    refine bsplit_of (fun hlt => ?_) (fun hlt => ?_)
    · have hlt' : k < 2 := by simp at hlt; omega
      obtain ⟨x, hx⟩ : ∃ x, [1, p.times.e0][k]? = some x := lt_some (by simpa using hlt')
      have rx : 0 ≤ x ∧ x ≤ 65535 := by
        match k, hx with
        | 0, hx => cases hx; omega
        | 1, hx => cases hx; omega
      refine ⟨⟨by omega, by simp; omega⟩, ?_⟩
      refine idxI (k := .i64) (xs := [1, p.times.e0]) rfl (by simpa using hx) ?_
      refine (beG x 2 g (by decide) (by omega) (by omega)).call rfl rfl rfl ?_
      have hl : (List.take k [1, p.times.e0]).length ≤ 2 := by simp; omega
      refine ⟨by rw [packS_size, beS_size]; omega, ?_⟩
      refine ⟨k + 1, hlt', by omega, [0, 1], rfl, ⟨vi (wrap_id (by omega) (by omega)), vs (packS_take hx), trivial⟩, rfl, rfl, rfl, rfl⟩
    · have : k = 2 := by simp at hlt; omega
      subst this
      refine ⟨?_, rfl, rfl⟩
      rw [pauseS, hp]
      rfl

noncomputable def pauseW (p : PauseV) : ByteArray := if pauseP p then pauseS p else emp
noncomputable def pauseE (p : PauseV) : Int := if pauseP p then 0 else 1
theorem pauseWrite_c (p : PauseV) (g : G) : Tells Tryd.prog 47 [.agg (p.cells.map .v)] g (.tup [.v (.string (pauseW p)), .v (nilOr (pauseE p))]) := by
  by_cases h : pauseP p
  · rw [pauseW, pauseE, if_pos h, if_pos h]; exact pauseWrite_good p g h
  · rw [pauseW, pauseE, if_neg h, if_neg h]; exact pauseWrite_bad p g h
theorem pauseWriteR_c (p : PauseV) (g : G) : Tells Tryd.prog 46 [.agg (p.cells.map .v)] g (.tup [.v (.string (pauseW p)), .v (.int .i64 (pauseE p))]) := by
  by_cases h : pauseP p
  · rw [pauseW, pauseE, if_pos h, if_pos h]; exact pauseWriteR_good p g h
  · rw [pauseW, pauseE, if_neg h, if_neg h]; exact pauseWriteR_bad p g h

/-- The law PauseWrites. -/
theorem pauseWrites_c (p : PauseV) (g : G) (_ : p.ok g) (hE : ErrVar g) : Meets Tryd.prog 8 [.agg (p.cells.map .v)] [] g (fun o _ _ => o = .ret (.v (.bool true))) := by
  refine meets_of mixedW Tryd.func8 (by kernel_rfl) x8_ok (some []) ?_
  refine (pauseWriteR_c p g).call rfl rfl rfl ?_
  refine (pauseWrite_c p g).call rfl rfl rfl ?_
  refine (bare_c _ _ _ (pauseE p) g hE (errP_nilOr (pauseE p))).call rfl rfl rfl ?_
  refine bsplit_of (fun h1 => ?_) (fun h1 => absurd h1 (by simp))
  refine bsplit_of (fun h1 => ?_) (fun h1 => absurd h1 (by simp))
  refine (pauseRight_c p g).call rfl rfl rfl ?_
  refine (pauseRightR_c p g).call rfl rfl rfl ?_
  exact rb (by simp)
end Go.Proofs.YtfagdcpfebghoaaDoor
