/- mac.Parse and its reference: what each returns; the law MacTexts. Conditions: one entry of a table of math/bits is as laid; internal/bytealg.MaxLen holds a number; of the law: the variable errors.errorType is as laid. -/
import Derived.Test.YtmbbhodikiikeaaGreatDoorMtA
namespace Go.Proofs.YtmbbhodikiikeaaGreatDoor
open Go.Sx Go.Lib Go.RowKit
set_option maxRecDepth 100000
set_option maxHeartbeats 8000000
attribute [local irreducible] Meets
attribute [local instance] Classical.propDecidable

def nilM (e : Int) : Value := if e = 0 then .nilIface else .iface 26 (.int .i64 e)
def nibX (h l : Int) : Int := IntKind.u8.wrap (IntKind.i64.wrap ((BitVec.ofInt IntKind.i64.bits (IntKind.i64.wrap (h * 2 ^ (min (4 : Int).toNat IntKind.i64.bits))) ||| BitVec.ofInt IntKind.i64.bits l).toNat : Int))
theorem nibX_nat : ∀ h : Nat, h < 16 → ∀ l : Nat, l < 16 → nibX h l = 16 * h + l := by decide +kernel
theorem nibX_eq {h l : Int} (h0 : 0 ≤ h) (h1 : h ≤ 15) (l0 : 0 ≤ l) (l1 : l ≤ 15) : nibX h l = 16 * h + l := by
  obtain ⟨i, rfl⟩ := Int.eq_ofNat_of_zero_le h0
  obtain ⟨j, rfl⟩ := Int.eq_ofNat_of_zero_le l0
  exact nibX_nat i (by omega) j (by omega)
def xP (p : ByteArray) : Int := nibX (ix (b0 p)) (ix (b1 p))
theorem xP_eq {p : ByteArray} (h : goodP p) : xP p = numP p := by
  have r0 := ix_rng (b0 p)
  have r1 := ix_rng (b1 p)
  exact nibX_eq h.2.1 r0.2 h.2.2 r1.2
/-- The address while it is read. -/
def adrK (x0 x1 x2 x3 x4 x5 : Int) (k : Nat) : Chunk := match k with
  | 0 => .cells 23 ([Value.int .u8 0, .int .u8 0, .int .u8 0, .int .u8 0, .int .u8 0, .int .u8 0].map .v)
  | 1 => .cells 23 ([Value.int .u8 x0, .int .u8 0, .int .u8 0, .int .u8 0, .int .u8 0, .int .u8 0].map .v)
  | 2 => .cells 23 ([Value.int .u8 x0, .int .u8 x1, .int .u8 0, .int .u8 0, .int .u8 0, .int .u8 0].map .v)
  | 3 => .cells 23 ([Value.int .u8 x0, .int .u8 x1, .int .u8 x2, .int .u8 0, .int .u8 0, .int .u8 0].map .v)
  | 4 => .cells 23 ([Value.int .u8 x0, .int .u8 x1, .int .u8 x2, .int .u8 x3, .int .u8 0, .int .u8 0].map .v)
  | 5 => .cells 23 ([Value.int .u8 x0, .int .u8 x1, .int .u8 x2, .int .u8 x3, .int .u8 x4, .int .u8 0].map .v)
  | _ => .cells 23 ([Value.int .u8 x0, .int .u8 x1, .int .u8 x2, .int .u8 x3, .int .u8 x4, .int .u8 x5].map .v)

attribute [local irreducible] partsB ix
theorem six_of {l : List ByteArray} (h : l.length = 6) : ∃ p0 p1 p2 p3 p4 p5, l = [p0, p1, p2, p3, p4, p5] := by
  match l, h with
  | [p0, p1, p2, p3, p4, p5], _ => exact ⟨p0, p1, p2, p3, p4, p5, rfl⟩

theorem macParse_c (s : ByteArray) (hs : s.size ≤ 1000000) (g : G) (hM : MaxVar g) : Tells Tryz.prog 18 [.v (.string s)] g (.tup [.agg ((parA s).1.cells.map .v), .v (nilM (parA s).2)]) := by
  obtain ⟨A, E, hAE⟩ : ∃ A E, parA s = (A, E) := ⟨_, _, rfl⟩
  rw [hAE]
  dsimp only
  have bad : parA s = (AddrV.zero, 3) → A = AddrV.zero ∧ E = 3 := fun h => by rw [h] at hAE; cases hAE; exact ⟨rfl, rfl⟩
  refine meets_of mixedM Tryz.func18 (by kernel_rfl) x18_ok (some []) ?_
  refine (split_c s hs g hM).call0 rfl rfl 2 rfl ?_
  rintro o L1 g' ⟨rfl, rfl, rfl⟩
  refine bsplit_of (fun (h : (((partsB 58 s).length : Int) != 6) = true) => ?_) (fun (h : (((partsB 58 s).length : Int) != 6) = false) => ?_)
  · obtain ⟨rfl, rfl⟩ := bad (parA_len (by simp at h; omega))
    exact ⟨rfl, rfl, rfl⟩
  have h6 : (partsB 58 s).length = 6 := by simp at h; omega
  obtain ⟨p0, p1, p2, p3, p4, p5, hP⟩ := six_of h6
  clear h h6
  have hbad : ∀ p, p ∈ [p0, p1, p2, p3, p4, p5] → ¬ goodP p → A = AddrV.zero ∧ E = 3 := fun p hp hn => bad (parA_bad (by rw [hP]; exact hp) hn)
  have hgood : goodP p0 → goodP p1 → goodP p2 → goodP p3 → goodP p4 → goodP p5 → A = ⟨xP p0, xP p1, xP p2, xP p3, xP p4, xP p5⟩ ∧ E = 0 := fun q0 q1 q2 q3 q4 q5 => by
    rw [xP_eq q0, xP_eq q1, xP_eq q2, xP_eq q3, xP_eq q4, xP_eq q5]
    have v0 := goodP_val q0; have v1 := goodP_val q1; have v2 := goodP_val q2; have v3 := goodP_val q3; have v4 := goodP_val q4; have v5 := goodP_val q5
    have := parA_hit (a := ⟨numP p0, numP p1, numP p2, numP p3, numP p4, numP p5⟩) ⟨v0.1, v1.1, v2.1, v3.1, v4.1, v5.1⟩ (addr_of_parts hP v0.2 v1.2 v2.2 v3.2 v4.2 v5.2)
    rw [this] at hAE
    cases hAE
    exact ⟨rfl, rfl⟩
  rw [hP]
  clear hP hAE bad
  change LoopW _ _ _ _ _ _ _
  apply loop_rule [] (α := Nat) (fun k => [(19, .v (.int .i64 k))]) (fun k => [.cells 23 (AddrV.zero.cells.map .v), adrK (xP p0) (xP p1) (xP p2) (xP p3) (xP p4) (xP p5) k, .vals 9 [.string p0, .string p1, .string p2, .string p3, .string p4, .string p5]]) (fun _ => g') (fun k => k ≤ 6 ∧ (0 < k → goodP p0) ∧ (1 < k → goodP p1) ∧ (2 < k → goodP p2) ∧ (3 < k → goodP p3) ∧ (4 < k → goodP p4) ∧ (5 < k → goodP p5)) (fun k => 6 - k) 0
  · intro x
    rcases x with _ | _ | _ | _ | _ | _ | x <;> kernel_rfl
  · exact ⟨by decide, fun h => absurd h (by decide), fun h => absurd h (by decide), fun h => absurd h (by decide), fun h => absurd h (by decide), fun h => absurd h (by decide), fun h => absurd h (by decide)⟩
  · exact ⟨rfl, trivial⟩
  · rfl
  · rfl
  rintro k ⟨hk, q0, q1, q2, q3, q4, q5⟩
  rcases (by omega : k = 0 ∨ k = 1 ∨ k = 2 ∨ k = 3 ∨ k = 4 ∨ k = 5 ∨ k = 6) with rfl | rfl | rfl | rfl | rfl | rfl | rfl
  ·
    refine ⟨⟨by show (0 : Int) ≤ ((0 : Nat) : Int); decide, by show ((0 : Nat) : Int) < ((6 : Nat) : Int); decide⟩, ?_⟩
    refine ⟨by show 0 + (((0 : Nat) : Int)).toNat * 1 + 1 ≤ 6; decide, ?_⟩
    refine bsplit_of (fun (h : ((p0.size : Int) != 2) = true) => ?_) (fun (h : ((p0.size : Int) != 2) = false) => ?_)
    · obtain ⟨rfl, rfl⟩ := hbad p0 (by simp) (fun hg => by rw [hg.1] at h; exact absurd h (by decide))
      exact ⟨rfl, rfl, rfl⟩
    have hz : p0.size = 2 := by simp at h; omega
    refine ⟨⟨by decide, by rw [hz]; decide⟩, ?_⟩
    refine ⟨⟨by decide, by rw [hz]; decide⟩, ?_⟩
    refine (ib_c (b0 p0) g').call rfl rfl rfl ?_
    refine (ib_c (b1 p0) g').call rfl rfl rfl ?_
    refine bsplit_of (fun (h1 : decide (ix (b0 p0) < 0) = true) => ?_) (fun (h1 : decide (ix (b0 p0) < 0) = false) => ?_)
    · obtain ⟨rfl, rfl⟩ := hbad p0 (by simp) (fun hg => by have := of_decide_eq_true h1; have := hg.2.1; omega)
      exact ⟨rfl, rfl, rfl⟩
    refine bsplit_of (fun (h2 : decide (ix (b1 p0) < 0) = true) => ?_) (fun (h2 : decide (ix (b1 p0) < 0) = false) => ?_)
    · obtain ⟨rfl, rfl⟩ := hbad p0 (by simp) (fun hg => by have := of_decide_eq_true h2; have := hg.2.2; omega)
      exact ⟨rfl, rfl, rfl⟩
    have hgd : goodP p0 := ⟨hz, by have := of_decide_eq_false h1; omega, by have := of_decide_eq_false h2; omega⟩
    refine ⟨by decide, ?_⟩
    refine ⟨⟨by show (0 : Int) ≤ ((0 : Nat) : Int); decide, by show ((0 : Nat) : Int) < ((6 : Nat) : Int); decide⟩, ?_⟩
    exact ⟨0 + 1, ⟨by decide, fun _ => hgd, fun h => absurd h (by decide), fun h => absurd h (by decide), fun h => absurd h (by decide), fun h => absurd h (by decide), fun h => absurd h (by decide)⟩, by decide, [0, 1, 2], rfl, ⟨vi (by decide), trivial⟩, rfl, rfl, rfl, rfl⟩
  ·
    refine ⟨⟨by show (0 : Int) ≤ ((1 : Nat) : Int); decide, by show ((1 : Nat) : Int) < ((6 : Nat) : Int); decide⟩, ?_⟩
    refine ⟨by show 0 + (((1 : Nat) : Int)).toNat * 1 + 1 ≤ 6; decide, ?_⟩
    refine bsplit_of (fun (h : ((p1.size : Int) != 2) = true) => ?_) (fun (h : ((p1.size : Int) != 2) = false) => ?_)
    · obtain ⟨rfl, rfl⟩ := hbad p1 (by simp) (fun hg => by rw [hg.1] at h; exact absurd h (by decide))
      exact ⟨rfl, rfl, rfl⟩
    have hz : p1.size = 2 := by simp at h; omega
    refine ⟨⟨by decide, by rw [hz]; decide⟩, ?_⟩
    refine ⟨⟨by decide, by rw [hz]; decide⟩, ?_⟩
    refine (ib_c (b0 p1) g').call rfl rfl rfl ?_
    refine (ib_c (b1 p1) g').call rfl rfl rfl ?_
    refine bsplit_of (fun (h1 : decide (ix (b0 p1) < 0) = true) => ?_) (fun (h1 : decide (ix (b0 p1) < 0) = false) => ?_)
    · obtain ⟨rfl, rfl⟩ := hbad p1 (by simp) (fun hg => by have := of_decide_eq_true h1; have := hg.2.1; omega)
      exact ⟨rfl, rfl, rfl⟩
    refine bsplit_of (fun (h2 : decide (ix (b1 p1) < 0) = true) => ?_) (fun (h2 : decide (ix (b1 p1) < 0) = false) => ?_)
    · obtain ⟨rfl, rfl⟩ := hbad p1 (by simp) (fun hg => by have := of_decide_eq_true h2; have := hg.2.2; omega)
      exact ⟨rfl, rfl, rfl⟩
    have hgd : goodP p1 := ⟨hz, by have := of_decide_eq_false h1; omega, by have := of_decide_eq_false h2; omega⟩
    refine ⟨by decide, ?_⟩
    refine ⟨⟨by show (0 : Int) ≤ ((1 : Nat) : Int); decide, by show ((1 : Nat) : Int) < ((6 : Nat) : Int); decide⟩, ?_⟩
    exact ⟨1 + 1, ⟨by decide, fun _ => q0 (by decide), fun _ => hgd, fun h => absurd h (by decide), fun h => absurd h (by decide), fun h => absurd h (by decide), fun h => absurd h (by decide)⟩, by decide, [0, 1, 2], rfl, ⟨vi (by decide), trivial⟩, rfl, rfl, rfl, rfl⟩
  ·
    refine ⟨⟨by show (0 : Int) ≤ ((2 : Nat) : Int); decide, by show ((2 : Nat) : Int) < ((6 : Nat) : Int); decide⟩, ?_⟩
    refine ⟨by show 0 + (((2 : Nat) : Int)).toNat * 1 + 1 ≤ 6; decide, ?_⟩
    refine bsplit_of (fun (h : ((p2.size : Int) != 2) = true) => ?_) (fun (h : ((p2.size : Int) != 2) = false) => ?_)
    · obtain ⟨rfl, rfl⟩ := hbad p2 (by simp) (fun hg => by rw [hg.1] at h; exact absurd h (by decide))
      exact ⟨rfl, rfl, rfl⟩
    have hz : p2.size = 2 := by simp at h; omega
    refine ⟨⟨by decide, by rw [hz]; decide⟩, ?_⟩
    refine ⟨⟨by decide, by rw [hz]; decide⟩, ?_⟩
    refine (ib_c (b0 p2) g').call rfl rfl rfl ?_
    refine (ib_c (b1 p2) g').call rfl rfl rfl ?_
    refine bsplit_of (fun (h1 : decide (ix (b0 p2) < 0) = true) => ?_) (fun (h1 : decide (ix (b0 p2) < 0) = false) => ?_)
    · obtain ⟨rfl, rfl⟩ := hbad p2 (by simp) (fun hg => by have := of_decide_eq_true h1; have := hg.2.1; omega)
      exact ⟨rfl, rfl, rfl⟩
    refine bsplit_of (fun (h2 : decide (ix (b1 p2) < 0) = true) => ?_) (fun (h2 : decide (ix (b1 p2) < 0) = false) => ?_)
    · obtain ⟨rfl, rfl⟩ := hbad p2 (by simp) (fun hg => by have := of_decide_eq_true h2; have := hg.2.2; omega)
      exact ⟨rfl, rfl, rfl⟩
    have hgd : goodP p2 := ⟨hz, by have := of_decide_eq_false h1; omega, by have := of_decide_eq_false h2; omega⟩
    refine ⟨by decide, ?_⟩
    refine ⟨⟨by show (0 : Int) ≤ ((2 : Nat) : Int); decide, by show ((2 : Nat) : Int) < ((6 : Nat) : Int); decide⟩, ?_⟩
    exact ⟨2 + 1, ⟨by decide, fun _ => q0 (by decide), fun _ => q1 (by decide), fun _ => hgd, fun h => absurd h (by decide), fun h => absurd h (by decide), fun h => absurd h (by decide)⟩, by decide, [0, 1, 2], rfl, ⟨vi (by decide), trivial⟩, rfl, rfl, rfl, rfl⟩
  ·
    refine ⟨⟨by show (0 : Int) ≤ ((3 : Nat) : Int); decide, by show ((3 : Nat) : Int) < ((6 : Nat) : Int); decide⟩, ?_⟩
    refine ⟨by show 0 + (((3 : Nat) : Int)).toNat * 1 + 1 ≤ 6; decide, ?_⟩
    refine bsplit_of (fun (h : ((p3.size : Int) != 2) = true) => ?_) (fun (h : ((p3.size : Int) != 2) = false) => ?_)
    · obtain ⟨rfl, rfl⟩ := hbad p3 (by simp) (fun hg => by rw [hg.1] at h; exact absurd h (by decide))
      exact ⟨rfl, rfl, rfl⟩
    have hz : p3.size = 2 := by simp at h; omega
    refine ⟨⟨by decide, by rw [hz]; decide⟩, ?_⟩
    refine ⟨⟨by decide, by rw [hz]; decide⟩, ?_⟩
    refine (ib_c (b0 p3) g').call rfl rfl rfl ?_
    refine (ib_c (b1 p3) g').call rfl rfl rfl ?_
    refine bsplit_of (fun (h1 : decide (ix (b0 p3) < 0) = true) => ?_) (fun (h1 : decide (ix (b0 p3) < 0) = false) => ?_)
    · obtain ⟨rfl, rfl⟩ := hbad p3 (by simp) (fun hg => by have := of_decide_eq_true h1; have := hg.2.1; omega)
      exact ⟨rfl, rfl, rfl⟩
    refine bsplit_of (fun (h2 : decide (ix (b1 p3) < 0) = true) => ?_) (fun (h2 : decide (ix (b1 p3) < 0) = false) => ?_)
    · obtain ⟨rfl, rfl⟩ := hbad p3 (by simp) (fun hg => by have := of_decide_eq_true h2; have := hg.2.2; omega)
      exact ⟨rfl, rfl, rfl⟩
    have hgd : goodP p3 := ⟨hz, by have := of_decide_eq_false h1; omega, by have := of_decide_eq_false h2; omega⟩
    refine ⟨by decide, ?_⟩
    refine ⟨⟨by show (0 : Int) ≤ ((3 : Nat) : Int); decide, by show ((3 : Nat) : Int) < ((6 : Nat) : Int); decide⟩, ?_⟩
    exact ⟨3 + 1, ⟨by decide, fun _ => q0 (by decide), fun _ => q1 (by decide), fun _ => q2 (by decide), fun _ => hgd, fun h => absurd h (by decide), fun h => absurd h (by decide)⟩, by decide, [0, 1, 2], rfl, ⟨vi (by decide), trivial⟩, rfl, rfl, rfl, rfl⟩
  ·
    refine ⟨⟨by show (0 : Int) ≤ ((4 : Nat) : Int); decide, by show ((4 : Nat) : Int) < ((6 : Nat) : Int); decide⟩, ?_⟩
    refine ⟨by show 0 + (((4 : Nat) : Int)).toNat * 1 + 1 ≤ 6; decide, ?_⟩
    refine bsplit_of (fun (h : ((p4.size : Int) != 2) = true) => ?_) (fun (h : ((p4.size : Int) != 2) = false) => ?_)
    · obtain ⟨rfl, rfl⟩ := hbad p4 (by simp) (fun hg => by rw [hg.1] at h; exact absurd h (by decide))
      exact ⟨rfl, rfl, rfl⟩
    have hz : p4.size = 2 := by simp at h; omega
    refine ⟨⟨by decide, by rw [hz]; decide⟩, ?_⟩
    refine ⟨⟨by decide, by rw [hz]; decide⟩, ?_⟩
    refine (ib_c (b0 p4) g').call rfl rfl rfl ?_
    refine (ib_c (b1 p4) g').call rfl rfl rfl ?_
    refine bsplit_of (fun (h1 : decide (ix (b0 p4) < 0) = true) => ?_) (fun (h1 : decide (ix (b0 p4) < 0) = false) => ?_)
    · obtain ⟨rfl, rfl⟩ := hbad p4 (by simp) (fun hg => by have := of_decide_eq_true h1; have := hg.2.1; omega)
      exact ⟨rfl, rfl, rfl⟩
    refine bsplit_of (fun (h2 : decide (ix (b1 p4) < 0) = true) => ?_) (fun (h2 : decide (ix (b1 p4) < 0) = false) => ?_)
    · obtain ⟨rfl, rfl⟩ := hbad p4 (by simp) (fun hg => by have := of_decide_eq_true h2; have := hg.2.2; omega)
      exact ⟨rfl, rfl, rfl⟩
    have hgd : goodP p4 := ⟨hz, by have := of_decide_eq_false h1; omega, by have := of_decide_eq_false h2; omega⟩
    refine ⟨by decide, ?_⟩
    refine ⟨⟨by show (0 : Int) ≤ ((4 : Nat) : Int); decide, by show ((4 : Nat) : Int) < ((6 : Nat) : Int); decide⟩, ?_⟩
    exact ⟨4 + 1, ⟨by decide, fun _ => q0 (by decide), fun _ => q1 (by decide), fun _ => q2 (by decide), fun _ => q3 (by decide), fun _ => hgd, fun h => absurd h (by decide)⟩, by decide, [0, 1, 2], rfl, ⟨vi (by decide), trivial⟩, rfl, rfl, rfl, rfl⟩
  ·
    refine ⟨⟨by show (0 : Int) ≤ ((5 : Nat) : Int); decide, by show ((5 : Nat) : Int) < ((6 : Nat) : Int); decide⟩, ?_⟩
    refine ⟨by show 0 + (((5 : Nat) : Int)).toNat * 1 + 1 ≤ 6; decide, ?_⟩
    refine bsplit_of (fun (h : ((p5.size : Int) != 2) = true) => ?_) (fun (h : ((p5.size : Int) != 2) = false) => ?_)
    · obtain ⟨rfl, rfl⟩ := hbad p5 (by simp) (fun hg => by rw [hg.1] at h; exact absurd h (by decide))
      exact ⟨rfl, rfl, rfl⟩
    have hz : p5.size = 2 := by simp at h; omega
    refine ⟨⟨by decide, by rw [hz]; decide⟩, ?_⟩
    refine ⟨⟨by decide, by rw [hz]; decide⟩, ?_⟩
    refine (ib_c (b0 p5) g').call rfl rfl rfl ?_
    refine (ib_c (b1 p5) g').call rfl rfl rfl ?_
    refine bsplit_of (fun (h1 : decide (ix (b0 p5) < 0) = true) => ?_) (fun (h1 : decide (ix (b0 p5) < 0) = false) => ?_)
    · obtain ⟨rfl, rfl⟩ := hbad p5 (by simp) (fun hg => by have := of_decide_eq_true h1; have := hg.2.1; omega)
      exact ⟨rfl, rfl, rfl⟩
    refine bsplit_of (fun (h2 : decide (ix (b1 p5) < 0) = true) => ?_) (fun (h2 : decide (ix (b1 p5) < 0) = false) => ?_)
    · obtain ⟨rfl, rfl⟩ := hbad p5 (by simp) (fun hg => by have := of_decide_eq_true h2; have := hg.2.2; omega)
      exact ⟨rfl, rfl, rfl⟩
    have hgd : goodP p5 := ⟨hz, by have := of_decide_eq_false h1; omega, by have := of_decide_eq_false h2; omega⟩
    refine ⟨by decide, ?_⟩
    refine ⟨⟨by show (0 : Int) ≤ ((5 : Nat) : Int); decide, by show ((5 : Nat) : Int) < ((6 : Nat) : Int); decide⟩, ?_⟩
    exact ⟨5 + 1, ⟨by decide, fun _ => q0 (by decide), fun _ => q1 (by decide), fun _ => q2 (by decide), fun _ => q3 (by decide), fun _ => q4 (by decide), fun _ => hgd⟩, by decide, [0, 1, 2], rfl, ⟨vi (by decide), trivial⟩, rfl, rfl, rfl, rfl⟩
  · obtain ⟨rfl, rfl⟩ := hgood (q0 (by decide)) (q1 (by decide)) (q2 (by decide)) (q3 (by decide)) (q4 (by decide)) (q5 (by decide))
    exact ⟨rfl, rfl, rfl⟩

/-! ### The reference -/
def nibR (h l : Int) : Int := IntKind.u8.wrap (IntKind.i64.wrap (IntKind.i64.wrap (h * 16) + l))
theorem nibR_nat : ∀ h : Nat, h < 16 → ∀ l : Nat, l < 16 → nibR h l = 16 * h + l := by decide +kernel
theorem nibR_eq {h l : Int} (h0 : 0 ≤ h) (h1 : h ≤ 15) (l0 : 0 ≤ l) (l1 : l ≤ 15) : nibR h l = 16 * h + l := by
  obtain ⟨i, rfl⟩ := Int.eq_ofNat_of_zero_le h0
  obtain ⟨j, rfl⟩ := Int.eq_ofNat_of_zero_le l0
  exact nibR_nat i (by omega) j (by omega)
theorem wrap8 (n : Int) : 0 ≤ IntKind.u8.wrap n ∧ IntKind.u8.wrap n ≤ 255 := by
  simp only [IntKind.wrap, IntKind.signed, IntKind.bits]
  simp
  omega
/-- The k-th sign of a text. -/
def bk (s : ByteArray) (k : Nat) : UInt8 := s.data.toList.getD k 0
def yR (s : ByteArray) (k : Nat) : Int := nibR (ix (bk s (3 * k))) (ix (bk s (3 * k + 1)))
def adrR (s : ByteArray) : AddrV := ⟨yR s 0, yR s 1, yR s 2, yR s 3, yR s 4, yR s 5⟩
theorem adrR_ok (s : ByteArray) : okA (adrR s) := ⟨wrap8 _, wrap8 _, wrap8 _, wrap8 _, wrap8 _, wrap8 _⟩
theorem adrR_addr {a : AddrV} (h : okA a) : adrR (addrT a) = a := by
  obtain ⟨⟨a0, b0⟩, ⟨a1, b1⟩, ⟨a2, b2⟩, ⟨a3, b3⟩, ⟨a4, b4⟩, ⟨a5, b5⟩⟩ := h
  have key : ∀ (k : Nat) (n : Int), 0 ≤ n → n ≤ 255 → bk (addrT a) (3 * k) = hu (n / 16) → bk (addrT a) (3 * k + 1) = hu (n % 16) → yR (addrT a) k = n := fun k n n0 n1 e0 e1 => by
    rw [yR, e0, e1, ix_hu (by omega) (by omega), ix_hu (by omega) (by omega), nibR_eq (by omega) (by omega) (by omega) (by omega)]
    omega
  have e := addrT_two a
  have k0 := key 0 a.e0 a0 b0 (by rw [bk, e]; rfl) (by rw [bk, e]; rfl)
  have k1 := key 1 a.e1 a1 b1 (by rw [bk, e]; rfl) (by rw [bk, e]; rfl)
  have k2 := key 2 a.e2 a2 b2 (by rw [bk, e]; rfl) (by rw [bk, e]; rfl)
  have k3 := key 3 a.e3 a3 b3 (by rw [bk, e]; rfl) (by rw [bk, e]; rfl)
  have k4 := key 4 a.e4 a4 b4 (by rw [bk, e]; rfl) (by rw [bk, e]; rfl)
  have k5 := key 5 a.e5 a5 b5 (by rw [bk, e]; rfl) (by rw [bk, e]; rfl)
  rw [adrR, k0, k1, k2, k3, k4, k5]
theorem parA_ref (s : ByteArray) : parA s = if addrT (adrR s) = s then (adrR s, 0) else (AddrV.zero, 3) := by
  split
  · rename_i h
    exact parA_hit (adrR_ok s) h
  · rename_i h
    refine parA_miss fun a ha hs => h ?_
    rw [← hs, adrR_addr ha]
theorem parA_size {s : ByteArray} (h : s.size ≠ 17) : parA s = (AddrV.zero, 3) := parA_miss fun a _ hs => h (by rw [← hs, addrT_size])

attribute [local irreducible] addrT
theorem addrParse_c (s : ByteArray) (hs : s.size ≤ 1000000) (g : G) (hB : BitVar g) : Tells Tryz.prog 14 [.v (.string s)] g (.tup [.agg ((parA s).1.cells.map .v), .v (.int .i64 (parA s).2)]) := by
  obtain ⟨A, E, hAE⟩ : ∃ A E, parA s = (A, E) := ⟨_, _, rfl⟩
  rw [hAE]
  dsimp only
  refine meets_of mixedM Tryz.func14 (by kernel_rfl) x14_ok (some []) ?_
  refine bsplit_of (fun (h : ((s.size : Int) != 17) = true) => ?_) (fun (h : ((s.size : Int) != 17) = false) => ?_)
  · rw [parA_size (by simp at h; omega)] at hAE
    cases hAE
    exact ⟨rfl, rfl, rfl⟩
  have hz : s.size = 17 := by simp at h; omega
  rw [parA_ref] at hAE
  change LoopW _ _ _ _ _ _ _
  apply loop_rule [] (α := Nat) (fun k => [(10, .v (.int .i64 k))]) (fun k => [.cells 23 (AddrV.zero.cells.map .v), adrK (yR s 0) (yR s 1) (yR s 2) (yR s 3) (yR s 4) (yR s 5) k]) (fun _ => g) (fun k => k ≤ 6) (fun k => 6 - k) 0
  · intro x
    rcases x with _ | _ | _ | _ | _ | _ | x <;> kernel_rfl
  · decide
  · exact ⟨rfl, trivial⟩
  · rfl
  · rfl
  intro k hk
  rcases (by omega : k = 0 ∨ k = 1 ∨ k = 2 ∨ k = 3 ∨ k = 4 ∨ k = 5 ∨ k = 6) with rfl | rfl | rfl | rfl | rfl | rfl | rfl
  ·
    refine ⟨⟨by show (0 : Int) ≤ IntKind.i64.wrap (3 * ((0 : Nat) : Int)); decide, by rw [hz]; show IntKind.i64.wrap (3 * ((0 : Nat) : Int)) < ((17 : Nat) : Int); decide⟩, ?_⟩
    refine ⟨⟨by show (0 : Int) ≤ IntKind.i64.wrap (IntKind.i64.wrap (3 * ((0 : Nat) : Int)) + 1); decide, by rw [hz]; show IntKind.i64.wrap (IntKind.i64.wrap (3 * ((0 : Nat) : Int)) + 1) < ((17 : Nat) : Int); decide⟩, ?_⟩
    refine (ib_c (bk s (3 * 0)) g).call rfl rfl rfl ?_
    refine (ib_c (bk s (3 * 0 + 1)) g).call rfl rfl rfl ?_
    refine ⟨⟨by show (0 : Int) ≤ ((0 : Nat) : Int); decide, by show ((0 : Nat) : Int) < ((6 : Nat) : Int); decide⟩, ?_⟩
    exact ⟨0 + 1, by decide, by decide, [0, 1], rfl, ⟨vi (by decide), trivial⟩, rfl, rfl, rfl, rfl⟩
  ·
    refine ⟨⟨by show (0 : Int) ≤ IntKind.i64.wrap (3 * ((1 : Nat) : Int)); decide, by rw [hz]; show IntKind.i64.wrap (3 * ((1 : Nat) : Int)) < ((17 : Nat) : Int); decide⟩, ?_⟩
    refine ⟨⟨by show (0 : Int) ≤ IntKind.i64.wrap (IntKind.i64.wrap (3 * ((1 : Nat) : Int)) + 1); decide, by rw [hz]; show IntKind.i64.wrap (IntKind.i64.wrap (3 * ((1 : Nat) : Int)) + 1) < ((17 : Nat) : Int); decide⟩, ?_⟩
    refine (ib_c (bk s (3 * 1)) g).call rfl rfl rfl ?_
    refine (ib_c (bk s (3 * 1 + 1)) g).call rfl rfl rfl ?_
    refine ⟨⟨by show (0 : Int) ≤ ((1 : Nat) : Int); decide, by show ((1 : Nat) : Int) < ((6 : Nat) : Int); decide⟩, ?_⟩
    exact ⟨1 + 1, by decide, by decide, [0, 1], rfl, ⟨vi (by decide), trivial⟩, rfl, rfl, rfl, rfl⟩
  ·
    refine ⟨⟨by show (0 : Int) ≤ IntKind.i64.wrap (3 * ((2 : Nat) : Int)); decide, by rw [hz]; show IntKind.i64.wrap (3 * ((2 : Nat) : Int)) < ((17 : Nat) : Int); decide⟩, ?_⟩
    refine ⟨⟨by show (0 : Int) ≤ IntKind.i64.wrap (IntKind.i64.wrap (3 * ((2 : Nat) : Int)) + 1); decide, by rw [hz]; show IntKind.i64.wrap (IntKind.i64.wrap (3 * ((2 : Nat) : Int)) + 1) < ((17 : Nat) : Int); decide⟩, ?_⟩
    refine (ib_c (bk s (3 * 2)) g).call rfl rfl rfl ?_
    refine (ib_c (bk s (3 * 2 + 1)) g).call rfl rfl rfl ?_
    refine ⟨⟨by show (0 : Int) ≤ ((2 : Nat) : Int); decide, by show ((2 : Nat) : Int) < ((6 : Nat) : Int); decide⟩, ?_⟩
    exact ⟨2 + 1, by decide, by decide, [0, 1], rfl, ⟨vi (by decide), trivial⟩, rfl, rfl, rfl, rfl⟩
  ·
    refine ⟨⟨by show (0 : Int) ≤ IntKind.i64.wrap (3 * ((3 : Nat) : Int)); decide, by rw [hz]; show IntKind.i64.wrap (3 * ((3 : Nat) : Int)) < ((17 : Nat) : Int); decide⟩, ?_⟩
    refine ⟨⟨by show (0 : Int) ≤ IntKind.i64.wrap (IntKind.i64.wrap (3 * ((3 : Nat) : Int)) + 1); decide, by rw [hz]; show IntKind.i64.wrap (IntKind.i64.wrap (3 * ((3 : Nat) : Int)) + 1) < ((17 : Nat) : Int); decide⟩, ?_⟩
    refine (ib_c (bk s (3 * 3)) g).call rfl rfl rfl ?_
    refine (ib_c (bk s (3 * 3 + 1)) g).call rfl rfl rfl ?_
    refine ⟨⟨by show (0 : Int) ≤ ((3 : Nat) : Int); decide, by show ((3 : Nat) : Int) < ((6 : Nat) : Int); decide⟩, ?_⟩
    exact ⟨3 + 1, by decide, by decide, [0, 1], rfl, ⟨vi (by decide), trivial⟩, rfl, rfl, rfl, rfl⟩
  ·
    refine ⟨⟨by show (0 : Int) ≤ IntKind.i64.wrap (3 * ((4 : Nat) : Int)); decide, by rw [hz]; show IntKind.i64.wrap (3 * ((4 : Nat) : Int)) < ((17 : Nat) : Int); decide⟩, ?_⟩
    refine ⟨⟨by show (0 : Int) ≤ IntKind.i64.wrap (IntKind.i64.wrap (3 * ((4 : Nat) : Int)) + 1); decide, by rw [hz]; show IntKind.i64.wrap (IntKind.i64.wrap (3 * ((4 : Nat) : Int)) + 1) < ((17 : Nat) : Int); decide⟩, ?_⟩
    refine (ib_c (bk s (3 * 4)) g).call rfl rfl rfl ?_
    refine (ib_c (bk s (3 * 4 + 1)) g).call rfl rfl rfl ?_
    refine ⟨⟨by show (0 : Int) ≤ ((4 : Nat) : Int); decide, by show ((4 : Nat) : Int) < ((6 : Nat) : Int); decide⟩, ?_⟩
    exact ⟨4 + 1, by decide, by decide, [0, 1], rfl, ⟨vi (by decide), trivial⟩, rfl, rfl, rfl, rfl⟩
  ·
    refine ⟨⟨by show (0 : Int) ≤ IntKind.i64.wrap (3 * ((5 : Nat) : Int)); decide, by rw [hz]; show IntKind.i64.wrap (3 * ((5 : Nat) : Int)) < ((17 : Nat) : Int); decide⟩, ?_⟩
    refine ⟨⟨by show (0 : Int) ≤ IntKind.i64.wrap (IntKind.i64.wrap (3 * ((5 : Nat) : Int)) + 1); decide, by rw [hz]; show IntKind.i64.wrap (IntKind.i64.wrap (3 * ((5 : Nat) : Int)) + 1) < ((17 : Nat) : Int); decide⟩, ?_⟩
    refine (ib_c (bk s (3 * 5)) g).call rfl rfl rfl ?_
    refine (ib_c (bk s (3 * 5 + 1)) g).call rfl rfl rfl ?_
    refine ⟨⟨by show (0 : Int) ≤ ((5 : Nat) : Int); decide, by show ((5 : Nat) : Int) < ((6 : Nat) : Int); decide⟩, ?_⟩
    exact ⟨5 + 1, by decide, by decide, [0, 1], rfl, ⟨vi (by decide), trivial⟩, rfl, rfl, rfl, rfl⟩
  · refine (text_c (adrR s) g (adrR_ok s) hB).call rfl rfl rfl ?_
    refine bsplit_of (fun (h : (!((addrT (adrR s)).toList == s.toList)) = true) => ?_) (fun (h : (!((addrT (adrR s)).toList == s.toList)) = false) => ?_)
    · rw [if_neg (by rw [str_beq] at h; simpa using h)] at hAE
      cases hAE
      exact ⟨rfl, rfl, rfl⟩
    · rw [if_pos (by rw [str_beq] at h; simpa using h)] at hAE
      cases hAE
      exact ⟨rfl, rfl, rfl⟩
end Go.Proofs.YtmbbhodikiikeaaGreatDoor
