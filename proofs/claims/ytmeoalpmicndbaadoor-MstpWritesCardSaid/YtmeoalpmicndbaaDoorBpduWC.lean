/- bpdu.Right, Body, Write, their references, the law BpduWrites: what each returns. Conditions: of the law: the variable errors.errorType is as laid. -/
import Derived.Test.YtmeoalpmicndbaaDoorXbpduw
import Derived.Test.YtmeoalpmicndbaaDoorFlagsC
import Derived.Test.YtmeoalpmicndbaaDoorBpduHC
import Derived.Test.YtmeoalpmicndbaaDoorPrioRC
import Derived.Test.YtmeoalpmicndbaaDoorBaseC
namespace Go.Proofs.YtmeoalpmicndbaaDoor
open Go.Sx
set_option maxRecDepth 100000
set_option maxHeartbeats 8000000
attribute [local irreducible] Meets
attribute [local instance] Classical.propDecidable

def tmP (t : Int) : Prop := 0 ≤ t ∧ t ≤ 65535
def bpduT (b : BpduV) : Prop := tmP b.age ∧ tmP b.max ∧ tmP b.hello ∧ tmP b.wait
def bpduR (b : BpduV) : Prop := bridgeP b.root ∧ bridgeP b.sender ∧ portP b.port ∧ (0 ≤ b.cost ∧ b.cost ≤ 4294967295) ∧ bpduT b
def noticeB (b : BpduV) : Bool := BpduV.eq ⟨2, b.flags, b.root, b.cost, b.sender, b.port, b.age, b.max, b.hello, b.wait⟩ ⟨2, FlagsV.zero, BridgeV.zero, 0, BridgeV.zero, PortV.zero, 0, 0, 0, 0⟩
def confB (f : FlagsV) : Bool := FlagsV.eq ⟨false, f.proposal, f.role, f.learn, f.pass, f.agree, false⟩ FlagsV.zero
noncomputable def bpduB (b : BpduV) : Bool :=
  if b.kind = 2 then noticeB b else if b.kind = 1 then confB b.flags && decide (bpduR b) else if b.kind = 3 then flagsOk b.flags && decide (bpduR b) else false

/-! ### Times -/
theorem times_key (a b c d : Int) : (tmP a ∧ tmP b ∧ tmP c ∧ tmP d) ↔ ∀ (i : Nat) x, [a, b, c, d][i]? = some x → tmP x := by
  constructor
  · rintro ⟨h1, h2, h3, h4⟩ i x hx
    match i, hx with
    | 0, hx => cases hx; exact h1
    | 1, hx => cases hx; exact h2
    | 2, hx => cases hx; exact h3
    | 3, hx => cases hx; exact h4
  · exact fun h => ⟨h 0 a rfl, h 1 b rfl, h 2 c rfl, h 3 d rfl⟩
theorem times_c (a b c d : Int) (g : G) : Meets Tryd.prog 156 [.slc 0 0 4 4] [.cells 3 [.v (.int .i64 a), .v (.int .i64 b), .v (.int .i64 c), .v (.int .i64 d)]] g (fun o L' g' => o = .ret (.v (.bool (decide (tmP a ∧ tmP b ∧ tmP c ∧ tmP d)))) ∧ L' = [.cells 3 [.v (.int .i64 a), .v (.int .i64 b), .v (.int .i64 c), .v (.int .i64 d)]] ∧ g' = g) := by
  refine meets_of mixedW Tryd.func156 (by kernel_rfl) x156_ok (some []) ?_
  obtain ⟨xs, hxs⟩ : ∃ xs, xs = [a, b, c, d] := ⟨_, rfl⟩
  have key : (tmP a ∧ tmP b ∧ tmP c ∧ tmP d) ↔ ∀ (i : Nat) x, xs[i]? = some x → tmP x := by rw [hxs]; exact times_key a b c d
  have hlen : xs.length = 4 := by rw [hxs]; rfl
  have hcell : [SV.v (.int .i64 a), .v (.int .i64 b), .v (.int .i64 c), .v (.int .i64 d)] = xs.map fun n => SV.v (.int .i64 n) := by rw [hxs]; rfl
  change LoopW _ _ _ _ _ _ _ _ _
  apply loop_rule [] (α := Nat) (fun x => [(7, .v (.int .i64 x))]) (fun _ => [.cells 3 [.v (.int .i64 a), .v (.int .i64 b), .v (.int .i64 c), .v (.int .i64 d)]]) (fun _ => g) (fun k => k ≤ 4 ∧ ∀ (i : Nat) x, i < k → xs[i]? = some x → tmP x) (fun x => 4 - x) 0
  · intro x; kernel_rfl
  · exact ⟨Nat.zero_le _, fun i t hi => by omega⟩
  · exact ⟨rfl, trivial⟩
  · rfl
  · rfl
  intro k hk
  refine bsplit_of (fun hlt => ?_) (fun hlt => ?_)
  · have hlt' : k < 4 := by have := of_decide_eq_true hlt; omega
    obtain ⟨x, hx⟩ : ∃ x, xs[k]? = some x := lt_some (by omega)
    refine ⟨⟨by omega, by omega⟩, idxI (k := .i64) (xs := xs) hcell (by simpa using hx) ?_⟩
    have bad : ¬ tmP x → decide (tmP a ∧ tmP b ∧ tmP c ∧ tmP d) = false := fun h => by
      rw [decide_eq_false_iff_not, key]; exact fun hp => h (hp k x hx)
    refine bsplit_of (fun h1 => ⟨rb (bad (fun h => by have := h.1; simp at h1; omega)), rfl, rfl⟩) (fun h1 => ?_)
    refine bsplit_of (fun h2 => ⟨rb (bad (fun h => by have := h.2; simp at h2; omega)), rfl, rfl⟩) (fun h2 => ?_)
    have hp : tmP x := by simp at h1 h2; exact ⟨h1, h2⟩
    refine ⟨k + 1, ⟨by omega, fun i u hi hu => ?_⟩, by omega, [0], rfl, ⟨vi (wrap_id (by omega) (by omega)), trivial⟩, rfl, rfl, rfl, rfl⟩
    by_cases hik : i = k
    · subst hik; rw [hx] at hu; cases hu; exact hp
    · exact hk.2 i u (by omega) hu
  · have : k = 4 := by have := of_decide_eq_false hlt; omega
    subst this
    refine ⟨rb ?_, rfl, rfl⟩
    rw [decide_eq_true_iff, key]
    exact fun i x hx => hk.2 i x (by have := (List.getElem?_eq_some_iff.1 hx).1; omega) hx

theorem bpduFlags_b (f : FlagsV) (g : G) : Tells Tryd.prog 154 [.agg (f.cells.map .v)] g (.v (.bool (flagsOk f))) := by
  refine meets_of mixedW Tryd.func154 (by kernel_rfl) x154_ok (some []) ?_
  refine bsplit_of (fun h1 => ⟨rb (by simp [flagsOk, h1]), rfl, rfl⟩) (fun h1 => ⟨rb (by simp [flagsOk, h1]), rfl, rfl⟩)

/-! ### Right -/
theorem bpduRight_c (b : BpduV) (g : G) : Tells Tryd.prog 104 [.agg (b.cells.map .v)] g (.v (.bool (bpduB b))) := by
  obtain ⟨kind, flags, root, cost, sender, port, age, max, hello, wait⟩ := b
  refine meets_of mixedW Tryd.func104 (by kernel_rfl) x104_ok (some []) ?_
  refine bsplit_of (fun k2 => ?_) (fun k2 => ?_)
  · obtain rfl : kind = 2 := by simpa using k2
    exact ⟨rb (show bpduB ⟨2, flags, root, cost, sender, port, age, max, hello, wait⟩ = (false ^^ noticeB ⟨2, flags, root, cost, sender, port, age, max, hello, wait⟩) by rw [Bool.false_xor]; exact if_pos rfl), rfl, rfl⟩
  refine bsplit_of (fun k1 => ?_) (fun k1 => ?_)
  · obtain rfl : kind = 1 := by simpa using k1
    refine bsplit_of (fun hf => ?_) (fun hf => ?_)
    · have hc : confB flags = false := by
        rw [← Bool.not_eq_true]
        intro hc
        simp [confB, FlagsV.eq, FlagsV.zero] at hc
        simp [hc] at hf
      exact ⟨rb (by simp [bpduB, hc]), rfl, rfl⟩
    · have hc : confB flags = true := by simpa [confB, FlagsV.eq, FlagsV.zero] using hf
      have no : ¬ bpduR ⟨1, flags, root, cost, sender, port, age, max, hello, wait⟩ → bpduB ⟨1, flags, root, cost, sender, port, age, max, hello, wait⟩ = false := fun h => by simp [bpduB, h]
      have yes : ∀ x, decide (bpduR ⟨1, flags, root, cost, sender, port, age, max, hello, wait⟩) = x → bpduB ⟨1, flags, root, cost, sender, port, age, max, hello, wait⟩ = x := fun x h => by simp [bpduB, hc, h]
      refine (prioRight_c root g).call rfl rfl rfl ?_
      refine bsplit_of (fun h1 => ?_) (fun h1 => ⟨rb (no fun h => by simp [h.1] at h1), rfl, rfl⟩)
      refine (prioRight_c sender g).call rfl rfl rfl ?_
      refine bsplit_of (fun h2 => ?_) (fun h2 => ⟨rb (no fun h => by simp [h.2.1] at h2), rfl, rfl⟩)
      refine (prioPort_c port g).call rfl rfl rfl ?_
      refine bsplit_of (fun h3 => ?_) (fun h3 => ⟨rb (no fun h => by simp [h.2.2.1] at h3), rfl, rfl⟩)
      refine bsplit_of (fun h4 => ?_) (fun h4 => ⟨rb (no fun h => by have := h.2.2.2.1.1; simp at h4; dsimp only at this; omega), rfl, rfl⟩)
      refine bsplit_of (fun h5 => ?_) (fun h5 => ⟨rb (no fun h => by have := h.2.2.2.1.2; simp at h5; dsimp only at this; omega), rfl, rfl⟩)
      refine (times_c age max hello wait g).callS [2] 3 rfl rfl rfl rfl ?_
      rintro o L1 g' ⟨rfl, rfl, rfl⟩ _
      refine ⟨rb ?_, rfl, rfl⟩
      refine yes _ ?_
      refine decide_eq_decide.2 ⟨fun h => h.2.2.2.2, fun h => ⟨?_, ?_, ?_, ?_, h⟩⟩
      · simpa using h1
      · simpa using h2
      · simpa using h3
      · simp at h4 h5; exact ⟨h4, by show cost ≤ _; omega⟩
  refine bsplit_of (fun k3 => ?_) (fun k3 => ?_)
  · obtain rfl : kind = 3 := by simpa using k3
    refine (bpduFlags_b flags g).call rfl rfl rfl ?_
    refine bsplit_of (fun hf => ⟨rb (by simp at hf; simp [bpduB, hf]), rfl, rfl⟩) (fun hf => ?_)
    have hf : flagsOk flags = true := by simpa using hf
    have no : ¬ bpduR ⟨3, flags, root, cost, sender, port, age, max, hello, wait⟩ → bpduB ⟨3, flags, root, cost, sender, port, age, max, hello, wait⟩ = false := fun h => by simp [bpduB, h]
    have yes : ∀ x, decide (bpduR ⟨3, flags, root, cost, sender, port, age, max, hello, wait⟩) = x → bpduB ⟨3, flags, root, cost, sender, port, age, max, hello, wait⟩ = x := fun x h => by simp [bpduB, hf, h]
    refine (prioRight_c root g).call rfl rfl rfl ?_
    refine bsplit_of (fun h1 => ?_) (fun h1 => ⟨rb (no fun h => by simp [h.1] at h1), rfl, rfl⟩)
    refine (prioRight_c sender g).call rfl rfl rfl ?_
    refine bsplit_of (fun h2 => ?_) (fun h2 => ⟨rb (no fun h => by simp [h.2.1] at h2), rfl, rfl⟩)
    refine (prioPort_c port g).call rfl rfl rfl ?_
    refine bsplit_of (fun h3 => ?_) (fun h3 => ⟨rb (no fun h => by simp [h.2.2.1] at h3), rfl, rfl⟩)
    refine bsplit_of (fun h4 => ?_) (fun h4 => ⟨rb (no fun h => by have := h.2.2.2.1.1; simp at h4; dsimp only at this; omega), rfl, rfl⟩)
    refine bsplit_of (fun h5 => ?_) (fun h5 => ⟨rb (no fun h => by have := h.2.2.2.1.2; simp at h5; dsimp only at this; omega), rfl, rfl⟩)
    refine (times_c age max hello wait g).callS [2] 3 rfl rfl rfl rfl ?_
    rintro o L1 g' ⟨rfl, rfl, rfl⟩ _
    refine ⟨rb ?_, rfl, rfl⟩
    refine yes _ ?_
    refine decide_eq_decide.2 ⟨fun h => h.2.2.2.2, fun h => ⟨?_, ?_, ?_, ?_, h⟩⟩
    · simpa using h1
    · simpa using h2
    · simpa using h3
    · simp at h4 h5; exact ⟨h4, by show cost ≤ _; omega⟩
  · exact ⟨rb (by simp at k1 k2 k3; simp [bpduB, k1, k2, k3]), rfl, rfl⟩

theorem bpduRightR_c (b : BpduV) (g : G) : Tells Tryd.prog 110 [.agg (b.cells.map .v)] g (.v (.bool (bpduB b))) := by
  obtain ⟨kind, flags, root, cost, sender, port, age, max, hello, wait⟩ := b
  refine meets_of mixedW Tryd.func110 (by kernel_rfl) x110_ok (some []) ?_
  refine bsplit_of (fun k2 => ?_) (fun k2 => ?_)
  · obtain rfl : kind = 2 := by simpa using k2
    exact ⟨rb (show bpduB ⟨2, flags, root, cost, sender, port, age, max, hello, wait⟩ = (false ^^ noticeB ⟨2, flags, root, cost, sender, port, age, max, hello, wait⟩) by rw [Bool.false_xor]; exact if_pos rfl), rfl, rfl⟩
  refine bsplit_of (fun k1 => ?_) (fun k1 => ?_)
  · obtain rfl : kind = 1 := by simpa using k1
    refine bsplit_of (fun hf => ?_) (fun hf => ?_)
    · have hc : confB flags = false := by
        rw [← Bool.not_eq_true]
        intro hc
        simp [confB, FlagsV.eq, FlagsV.zero] at hc
        simp [hc] at hf
      exact ⟨rb (by simp [bpduB, hc]), rfl, rfl⟩
    · have hc : confB flags = true := by simpa [confB, FlagsV.eq, FlagsV.zero] using hf
      have no : ¬ bpduR ⟨1, flags, root, cost, sender, port, age, max, hello, wait⟩ → bpduB ⟨1, flags, root, cost, sender, port, age, max, hello, wait⟩ = false := fun h => by simp [bpduB, h]
      have yes : ∀ x, decide (bpduR ⟨1, flags, root, cost, sender, port, age, max, hello, wait⟩) = x → bpduB ⟨1, flags, root, cost, sender, port, age, max, hello, wait⟩ = x := fun x h => by simp [bpduB, hc, h]
      obtain ⟨xs, hxs⟩ : ∃ xs, xs = [age, max, hello, wait] := ⟨_, rfl⟩
      have key : (tmP age ∧ tmP max ∧ tmP hello ∧ tmP wait) ↔ ∀ (i : Nat) x, xs[i]? = some x → tmP x := by rw [hxs]; exact times_key age max hello wait
      have hlen : xs.length = 4 := by rw [hxs]; rfl
      have hcell : [SV.v (.int .i64 age), .v (.int .i64 max), .v (.int .i64 hello), .v (.int .i64 wait)] = xs.map fun n => SV.v (.int .i64 n) := by rw [hxs]; rfl
      clear hxs
      change LoopW _ _ _ _ _ _ _ _ _
      apply loop_rule [] (α := Nat) (fun x => [(39, .v (.int .i64 x))]) (fun _ => [.cells 65 ((BpduV.mk 1 flags root cost sender port age max hello wait).cells.map .v), .cells 59 ((FlagsV.mk false flags.proposal flags.role flags.learn flags.pass flags.agree false).cells.map .v), .cells 3 [.v (.int .i64 age), .v (.int .i64 max), .v (.int .i64 hello), .v (.int .i64 wait)]]) (fun _ => g) (fun k => k ≤ 4 ∧ ∀ (i : Nat) x, i < k → xs[i]? = some x → tmP x) (fun x => 4 - x) 0
      · intro x; kernel_rfl
      · exact ⟨Nat.zero_le _, fun i t hi => by omega⟩
      · exact ⟨rfl, trivial⟩
      · rfl
      · rfl
      intro k hk
      refine bsplit_of (fun hlt => ?_) (fun hlt => ?_)
      · have hlt' : k < 4 := by have := of_decide_eq_true hlt; omega
        obtain ⟨x, hx⟩ : ∃ x, xs[k]? = some x := lt_some (by omega)
        refine ⟨⟨by omega, by omega⟩, idxI (k := .i64) (xs := xs) hcell (by simpa using hx) ?_⟩
        refine (within_c x 0 65535 g).call rfl rfl rfl ?_
        refine bsplit_of (fun h1 => ⟨rb (no fun h => by
          have := (key.1 h.2.2.2.2) k x hx
          simp at h1; have h2 := this.1; have h3 := this.2; omega), rfl, rfl⟩) (fun h1 => ?_)
        have hp : tmP x := by simp at h1; exact h1
        refine ⟨k + 1, ⟨by omega, fun i u hi hu => ?_⟩, by omega, [0, 1, 2], rfl, ⟨vi (wrap_id (by omega) (by omega)), trivial⟩, rfl, rfl, rfl, rfl⟩
        by_cases hik : i = k
        · subst hik; rw [hx] at hu; cases hu; exact hp
        · exact hk.2 i u (by omega) hu
      · have h4 : k = 4 := by have := of_decide_eq_false hlt; omega
        have ht : tmP age ∧ tmP max ∧ tmP hello ∧ tmP wait := key.2 fun i x hx => hk.2 i x (by have := (List.getElem?_eq_some_iff.1 hx).1; omega) hx
        refine (bridgeRight_c root g).call rfl rfl rfl ?_
        refine bsplit_of (fun h1 => ?_) (fun h1 => ⟨rb (no fun h => by simp [h.1] at h1), rfl, rfl⟩)
        refine (bridgeRight_c sender g).call rfl rfl rfl ?_
        refine bsplit_of (fun h2 => ?_) (fun h2 => ⟨rb (no fun h => by simp [h.2.1] at h2), rfl, rfl⟩)
        refine (portRight_c port g).call rfl rfl rfl ?_
        refine bsplit_of (fun h3 => ?_) (fun h3 => ⟨rb (no fun h => by simp [h.2.2.1] at h3), rfl, rfl⟩)
        refine (within_c cost 0 4294967295 g).call rfl rfl rfl ?_
        refine ⟨rb ?_, rfl, rfl⟩
        refine yes _ ?_
        refine decide_eq_decide.2 ⟨fun h => h.2.2.2.1, fun h => ⟨?_, ?_, ?_, h, ht⟩⟩
        · simpa using h1
        · simpa using h2
        · simpa using h3
  refine bsplit_of (fun k3 => ?_) (fun k3 => ?_)
  · obtain rfl : kind = 3 := by simpa using k3
    refine (within_c flags.role 0 3 g).call rfl rfl rfl ?_
    refine bsplit_of (fun hf => ⟨rb (by simp at hf; simp [bpduB, flagsOk]; omega), rfl, rfl⟩) (fun hf => ?_)
    have hf : flagsOk flags = true := by simpa [flagsOk] using hf
    have no : ¬ bpduR ⟨3, flags, root, cost, sender, port, age, max, hello, wait⟩ → bpduB ⟨3, flags, root, cost, sender, port, age, max, hello, wait⟩ = false := fun h => by simp [bpduB, h]
    have yes : ∀ x, decide (bpduR ⟨3, flags, root, cost, sender, port, age, max, hello, wait⟩) = x → bpduB ⟨3, flags, root, cost, sender, port, age, max, hello, wait⟩ = x := fun x h => by simp [bpduB, hf, h]
    obtain ⟨xs, hxs⟩ : ∃ xs, xs = [age, max, hello, wait] := ⟨_, rfl⟩
    have key : (tmP age ∧ tmP max ∧ tmP hello ∧ tmP wait) ↔ ∀ (i : Nat) x, xs[i]? = some x → tmP x := by rw [hxs]; exact times_key age max hello wait
    have hlen : xs.length = 4 := by rw [hxs]; rfl
    have hcell : [SV.v (.int .i64 age), .v (.int .i64 max), .v (.int .i64 hello), .v (.int .i64 wait)] = xs.map fun n => SV.v (.int .i64 n) := by rw [hxs]; rfl
    clear hxs
    change LoopW _ _ _ _ _ _ _ _ _
    apply loop_rule [] (α := Nat) (fun x => [(39, .v (.int .i64 x))]) (fun _ => [.cells 65 ((BpduV.mk 3 flags root cost sender port age max hello wait).cells.map .v), .cells 59 (flags.cells.map .v), .cells 3 [.v (.int .i64 age), .v (.int .i64 max), .v (.int .i64 hello), .v (.int .i64 wait)]]) (fun _ => g) (fun k => k ≤ 4 ∧ ∀ (i : Nat) x, i < k → xs[i]? = some x → tmP x) (fun x => 4 - x) 0
    · intro x; kernel_rfl
    · exact ⟨Nat.zero_le _, fun i t hi => by omega⟩
    · exact ⟨rfl, trivial⟩
    · rfl
    · rfl
    intro k hk
    refine bsplit_of (fun hlt => ?_) (fun hlt => ?_)
    · have hlt' : k < 4 := by have := of_decide_eq_true hlt; omega
      obtain ⟨x, hx⟩ : ∃ x, xs[k]? = some x := lt_some (by omega)
      refine ⟨⟨by omega, by omega⟩, idxI (k := .i64) (xs := xs) hcell (by simpa using hx) ?_⟩
      refine (within_c x 0 65535 g).call rfl rfl rfl ?_
      refine bsplit_of (fun h1 => ⟨rb (no fun h => by
        have := (key.1 h.2.2.2.2) k x hx
        simp at h1; have h2 := this.1; have h3 := this.2; omega), rfl, rfl⟩) (fun h1 => ?_)
      have hp : tmP x := by simp at h1; exact h1
      refine ⟨k + 1, ⟨by omega, fun i u hi hu => ?_⟩, by omega, [0, 1, 2], rfl, ⟨vi (wrap_id (by omega) (by omega)), trivial⟩, rfl, rfl, rfl, rfl⟩
      by_cases hik : i = k
      · subst hik; rw [hx] at hu; cases hu; exact hp
      · exact hk.2 i u (by omega) hu
    · have h4 : k = 4 := by have := of_decide_eq_false hlt; omega
      have ht : tmP age ∧ tmP max ∧ tmP hello ∧ tmP wait := key.2 fun i x hx => hk.2 i x (by have := (List.getElem?_eq_some_iff.1 hx).1; omega) hx
      refine (bridgeRight_c root g).call rfl rfl rfl ?_
      refine bsplit_of (fun h1 => ?_) (fun h1 => ⟨rb (no fun h => by simp [h.1] at h1), rfl, rfl⟩)
      refine (bridgeRight_c sender g).call rfl rfl rfl ?_
      refine bsplit_of (fun h2 => ?_) (fun h2 => ⟨rb (no fun h => by simp [h.2.1] at h2), rfl, rfl⟩)
      refine (portRight_c port g).call rfl rfl rfl ?_
      refine bsplit_of (fun h3 => ?_) (fun h3 => ⟨rb (no fun h => by simp [h.2.2.1] at h3), rfl, rfl⟩)
      refine (within_c cost 0 4294967295 g).call rfl rfl rfl ?_
      refine ⟨rb ?_, rfl, rfl⟩
      refine yes _ ?_
      refine decide_eq_decide.2 ⟨fun h => h.2.2.2.1, fun h => ⟨?_, ?_, ?_, h, ht⟩⟩
      · simpa using h1
      · simpa using h2
      · simpa using h3
  · exact ⟨rb (by simp at k1 k2 k3; simp [bpduB, k1, k2, k3]), rfl, rfl⟩

/-! ### Bytes -/
theorem bridgeS_size (b : BridgeV) : (bridgeS b).size = 8 := by rw [bridgeS, ByteArray.size_append, beS_size, bytesOfInts_size]; rfl
theorem portS_size (p : PortV) : (portS p).size = 2 := by rw [portS, beS_size]
def bodyS (b : BpduV) : ByteArray := beS 1 (byteR b.flags).toNat ++ bridgeS b.root ++ beS 4 b.cost.toNat ++ bridgeS b.sender ++ portS b.port ++ beS 2 b.age.toNat ++ beS 2 b.max.toNat ++ beS 2 b.hello.toNat ++ beS 2 b.wait.toNat
theorem bodyS_size (b : BpduV) : (bodyS b).size = 31 := by simp only [bodyS, ByteArray.size_append, beS_size, bridgeS_size, portS_size]
theorem byteR_rng (f : FlagsV) (h0 : 0 ≤ f.role) (h3 : f.role ≤ 3) : 0 ≤ byteR f ∧ byteR f < 256 := by
  have := (sumR_bounds f allB h0 h3).1
  refine ⟨this, ?_⟩
  have a := (wt_le (allB 0) f.change (w := 1) (by decide)).2
  have b := (wt_le (allB 1) f.proposal (w := 2) (by decide)).2
  have c := (wt_le (allB 2) f.learn (w := 16) (by decide)).2
  have d := (wt_le (allB 3) f.pass (w := 32) (by decide)).2
  have e := (wt_le (allB 4) f.agree (w := 64) (by decide)).2
  have g := (wt_le (allB 5) f.ack (w := 128) (by decide)).2
  rw [byteR, sumR]
  omega
theorem body_c (b : BpduV) (g : G) (hf : b.flags.ok g) (h0 : 0 ≤ b.flags.role) (h3 : b.flags.role ≤ 3) (hr : bpduR b) : Tells Tryd.prog 101 [.agg (b.cells.map .v)] g (.v (.string (bodyS b))) := by
  obtain ⟨kind, flags, root, cost, sender, port, age, max, hello, wait⟩ := b
  dsimp only at hf h0 h3
  obtain ⟨r1, r2, r3, ⟨c0, c1⟩, ⟨a0, a1⟩, ⟨m0, m1⟩, ⟨l0, l1⟩, ⟨w0, w1⟩⟩ := hr
  dsimp only at r1 r2 r3 c0 c1 a0 a1 m0 m1 l0 l1 w0 w1
  have hb := byte_eq flags h0 h3
  have hbr := byteR_rng flags h0 h3
  refine meets_of mixedW Tryd.func101 (by kernel_rfl) x101_ok (some []) ?_
  refine (prioPack_good root g r1).call rfl rfl rfl ?_
  refine (prioPack_good sender g r2).call rfl rfl rfl ?_
  refine (prioPackPort_good port g r3).call rfl rfl rfl ?_
  refine (byte_c flags g hf).call rfl rfl rfl ?_
  refine (mustG (byteP flags) 1 g (by decide) (by decide) (by omega) (by omega) (by omega)).call rfl rfl rfl ?_
  refine ⟨by simp only [ByteArray.size_append, beS_size, bridgeS_size, portS_size]; omega, ?_⟩
  refine (mustG cost 4 g (by decide) (by decide) (by omega) (by omega) (by omega)).call rfl rfl rfl ?_
  refine ⟨by simp only [ByteArray.size_append, beS_size, bridgeS_size, portS_size]; omega, ?_⟩
  refine ⟨by simp only [ByteArray.size_append, beS_size, bridgeS_size, portS_size]; omega, ?_⟩
  refine ⟨by simp only [ByteArray.size_append, beS_size, bridgeS_size, portS_size]; omega, ?_⟩
  refine (mustG age 2 g (by decide) (by decide) (by omega) (by omega) (by omega)).call rfl rfl rfl ?_
  refine ⟨by simp only [ByteArray.size_append, beS_size, bridgeS_size, portS_size]; omega, ?_⟩
  refine (mustG max 2 g (by decide) (by decide) (by omega) (by omega) (by omega)).call rfl rfl rfl ?_
  refine ⟨by simp only [ByteArray.size_append, beS_size, bridgeS_size, portS_size]; omega, ?_⟩
  refine (mustG hello 2 g (by decide) (by decide) (by omega) (by omega) (by omega)).call rfl rfl rfl ?_
  refine ⟨by simp only [ByteArray.size_append, beS_size, bridgeS_size, portS_size]; omega, ?_⟩
  refine (mustG wait 2 g (by decide) (by decide) (by omega) (by omega) (by omega)).call rfl rfl rfl ?_
  refine ⟨by simp only [ByteArray.size_append, beS_size, bridgeS_size, portS_size]; omega, ?_⟩
  exact ⟨rs (by rw [hb]; rfl), rfl, rfl⟩
theorem bodyR_c (b : BpduV) (g : G) (h0 : 0 ≤ b.flags.role) (h3 : b.flags.role ≤ 3) (hr : bpduR b) : Meets Tryd.prog 98 [.agg (b.cells.map .v)] [] g (fun o L' g' => o = .ret (.v (.string (bodyS b))) ∧ L' = [] ∧ G.le g g') := by
  obtain ⟨kind, flags, root, cost, sender, port, age, max, hello, wait⟩ := b
  dsimp only at h0 h3
  obtain ⟨r1, r2, r3, ⟨c0, c1⟩, ⟨a0, a1⟩, ⟨m0, m1⟩, ⟨l0, l1⟩, ⟨w0, w1⟩⟩ := hr
  dsimp only at r1 r2 r3 c0 c1 a0 a1 m0 m1 l0 l1 w0 w1
  have hbr := byteR_rng flags h0 h3
  refine meets_of mixedW Tryd.func98 (by kernel_rfl) x98_ok (some []) ?_
  refine (bridgePack_good root g r1).call rfl rfl rfl ?_
  refine (bridgePack_good sender g r2).call rfl rfl rfl ?_
  refine (portPack_good port g r3).call rfl rfl rfl ?_
  refine (byteR_c flags g h0 h3).call0 rfl rfl 1 rfl ?_
  rintro o L1 g' ⟨rfl, rfl, hle⟩
  refine (beG (byteR flags) 1 g' (by decide) (by omega) (by omega)).call rfl rfl rfl ?_
  refine ⟨by simp only [ByteArray.size_append, beS_size, bridgeS_size, portS_size]; omega, ?_⟩
  refine (beG cost 4 g' (by decide) (by omega) (by omega)).call rfl rfl rfl ?_
  refine ⟨by simp only [ByteArray.size_append, beS_size, bridgeS_size, portS_size]; omega, ?_⟩
  refine ⟨by simp only [ByteArray.size_append, beS_size, bridgeS_size, portS_size]; omega, ?_⟩
  refine ⟨by simp only [ByteArray.size_append, beS_size, bridgeS_size, portS_size]; omega, ?_⟩
  refine (beG age 2 g' (by decide) (by omega) (by omega)).call rfl rfl rfl ?_
  refine ⟨by simp only [ByteArray.size_append, beS_size, bridgeS_size, portS_size]; omega, ?_⟩
  refine (beG max 2 g' (by decide) (by omega) (by omega)).call rfl rfl rfl ?_
  refine ⟨by simp only [ByteArray.size_append, beS_size, bridgeS_size, portS_size]; omega, ?_⟩
  refine (beG hello 2 g' (by decide) (by omega) (by omega)).call rfl rfl rfl ?_
  refine ⟨by simp only [ByteArray.size_append, beS_size, bridgeS_size, portS_size]; omega, ?_⟩
  refine (beG wait 2 g' (by decide) (by omega) (by omega)).call rfl rfl rfl ?_
  refine ⟨by simp only [ByteArray.size_append, beS_size, bridgeS_size, portS_size]; omega, ?_⟩
  exact ⟨rfl, rfl, hle⟩
end Go.Proofs.YtmeoalpmicndbaaDoor
