/- lacp.Right, side, Write and the references: what each returns; the law LacpWrites. Conditions: of the law: the variable errors.errorType is as laid. -/
import Derived.Test.YtpdngikdpepekaaDoorXlacpw
import Derived.Test.YtpdngikdpepekaaDoorXmarks
import Derived.Test.YtpdngikdpepekaaDoorShelfR
import Derived.Test.YtpdngikdpepekaaDoorWireC
import Derived.Test.YtpdngikdpepekaaDoorTagRC
import Derived.Test.YtpdngikdpepekaaDoorBaseD
namespace Go.Proofs.YtpdngikdpepekaaDoor
open Go.Sx Go.Lib Go.RowKit
set_option maxRecDepth 100000
set_option maxHeartbeats 8000000
attribute [local irreducible] Meets
attribute [local instance] Classical.propDecidable

/-! ### Numbers of 16 bits -/
def shortP (l : List Int) : Prop := ∀ x ∈ l, 0 ≤ x ∧ x ≤ 65535
abbrev IntsOk (g : G) (s : SliceV Int) : Prop := s.ok 1 (intC .i64) (iok .i64) g
theorem short_all {l : List Int} (h : ∀ (i : Nat) y, l[i]? = some y → 0 ≤ y ∧ y ≤ 65535) : shortP l := fun x hx => by
  obtain ⟨i, hi, he⟩ := List.getElem_of_mem hx
  exact h i x (by rw [← he]; exact List.getElem?_eq_getElem hi)
theorem short_s (s : SliceV Int) (g : G) (hs : IntsOk g s) : Tells Tryd.prog 34 [.v (.slice s.a s.l.length s.c)] g (.v (.bool (decide (shortP s.l)))) := by
  refine meets_of mixedW Tryd.func34 (by kernel_rfl) x34_ok (some []) ?_
  have hlen := hs.len
  change LoopW _ _ _ _ _ _ _
  apply loop_rule [] (α := Nat) (fun k => [(7, .v (.int .i64 k))]) (fun _ => []) (fun _ => g) (fun k => k ≤ s.l.length ∧ ∀ (i : Nat) y, i < k → s.l[i]? = some y → 0 ≤ y ∧ y ≤ 65535) (fun k => s.l.length - k) 0
  · intro x; kernel_rfl
  · exact ⟨Nat.zero_le _, fun i t hi => by omega⟩
  · exact ⟨rfl, trivial⟩
  · rfl
  · rfl
  intro k hk
  refine bsplit_of (fun hlt => ?_) (fun hlt => ?_)
  · have hlt' : k < s.l.length := by simpa using hlt
    obtain ⟨ad, x, ha, hx, hat, -⟩ := hs.elem (fun _ => rfl) hlt'
    have bad : ¬ (0 ≤ x ∧ x ≤ 65535) → decide (shortP s.l) = false := fun h => decide_eq_false fun hp => h (hp x (List.mem_of_getElem? hx))
    have good : (0 ≤ x ∧ x ≤ 65535) → ∀ (i : Nat) y, i < k + 1 → s.l[i]? = some y → 0 ≤ y ∧ y ≤ 65535 := fun h i y hi hy => by
      by_cases hik : i = k
      · subst hik; rw [hx] at hy; cases hy; exact h
      · exact hk.2 i y (by omega) hy
    refine ⟨⟨by omega, by omega⟩, ad, ha, ?_⟩
    refine ⟨[.int .i64 x], rfl, hat, ?_⟩
    refine bsplit_of (fun (h : decide (x < 0) = true) => ⟨rb (bad fun hh => by have := of_decide_eq_true h; omega), rfl, rfl⟩) (fun (h1 : decide (x < 0) = false) => ?_)
    refine bsplit_of (fun (h : decide (x > 65535) = true) => ⟨rb (bad fun hh => by have := of_decide_eq_true h; omega), rfl, rfl⟩) (fun (h2 : decide (x > 65535) = false) => ?_)
    have h1' := of_decide_eq_false h1
    have h2' := of_decide_eq_false h2
    exact ⟨k + 1, ⟨by omega, good ⟨by omega, by omega⟩⟩, by omega, [], rfl, ⟨vi (wrap_id (by omega) (by omega)), trivial⟩, rfl, rfl, rfl, rfl⟩
  · have : s.l.length ≤ k := by simpa using hlt
    exact ⟨rb (decide_eq_true (short_all fun i y hy => hk.2 i y (by have := (List.getElem?_eq_some_iff.1 hy).1; omega) hy)), rfl, rfl⟩
theorem shorts_s (s : SliceV Int) (g : G) (hs : IntsOk g s) : Tells Tryd.prog 35 [.v (.slice s.a s.l.length s.c)] g (.v (.bool (decide (shortP s.l)))) := by
  refine meets_of mixedW Tryd.func35 (by kernel_rfl) x35_ok (some []) ?_
  have hlen := hs.len
  change LoopW _ _ _ _ _ _ _
  apply loop_rule [] (α := Nat) (fun k => [(7, .v (.int .i64 k))]) (fun _ => []) (fun _ => g) (fun k => k ≤ s.l.length ∧ ∀ (i : Nat) y, i < k → s.l[i]? = some y → 0 ≤ y ∧ y ≤ 65535) (fun k => s.l.length - k) 0
  · intro x; kernel_rfl
  · exact ⟨Nat.zero_le _, fun i t hi => by omega⟩
  · exact ⟨rfl, trivial⟩
  · rfl
  · rfl
  intro k hk
  refine bsplit_of (fun hlt => ?_) (fun hlt => ?_)
  · have hlt' : k < s.l.length := by simpa using hlt
    obtain ⟨ad, x, ha, hx, hat, -⟩ := hs.elem (fun _ => rfl) hlt'
    have bad : ¬ (0 ≤ x ∧ x ≤ 65535) → decide (shortP s.l) = false := fun h => decide_eq_false fun hp => h (hp x (List.mem_of_getElem? hx))
    have good : (0 ≤ x ∧ x ≤ 65535) → ∀ (i : Nat) y, i < k + 1 → s.l[i]? = some y → 0 ≤ y ∧ y ≤ 65535 := fun h i y hi hy => by
      by_cases hik : i = k
      · subst hik; rw [hx] at hy; cases hy; exact h
      · exact hk.2 i y (by omega) hy
    refine ⟨⟨by omega, by omega⟩, ad, ha, ?_⟩
    refine ⟨[.int .i64 x], rfl, hat, ?_⟩
    refine (within_c x 0 65535 g).call rfl rfl rfl ?_
    refine bsplit_of (fun (h : (!decide (0 ≤ x ∧ x ≤ 65535)) = true) => ⟨rb (bad fun hh => by simp at h; omega), rfl, rfl⟩) (fun (h1 : (!decide (0 ≤ x ∧ x ≤ 65535)) = false) => ?_)
    exact ⟨k + 1, ⟨by omega, good (by simpa using h1)⟩, by omega, [], rfl, ⟨vi (wrap_id (by omega) (by omega)), trivial⟩, rfl, rfl, rfl, rfl⟩
  · have : s.l.length ≤ k := by simpa using hlt
    exact ⟨rb (decide_eq_true (short_all fun i y hy => hk.2 i y (by have := (List.getElem?_eq_some_iff.1 hy).1; omega) hy)), rfl, rfl⟩

theorem ints_len (l : List Int) : (l.flatMap (intC .i64)).length = l.length := by
  induction l with
  | nil => rfl
  | cons x l ih => rw [List.flatMap_cons, List.length_append, ih]; simp [intC]; omega
theorem ints_cells (σ : Nat → Nat) (l : List Int) : reL σ (l.map fun x => SV.v (.int .i64 x)) = l.flatMap (intC .i64) := by
  induction l with
  | nil => rfl
  | cons x l ih => rw [List.map_cons, reL, ih, List.flatMap_cons]; rfl
/-- The same of a slice that the caller owns. -/
theorem lent {f : FuncId} (hc : callable Tryd.prog f = true) (hf : ∀ (s : SliceV Int) (g : G), IntsOk g s → Tells Tryd.prog f [.v (.slice s.a s.l.length s.c)] g (.v (.bool (decide (shortP s.l))))) (l : List Int) (n : Nat) (hn : n = l.length) (h9 : n ≤ 9) (hl : ∀ x ∈ l, iok .i64 x) (g : G) :
    Meets Tryd.prog f [.slc 0 0 n n] [.cells 3 (l.map fun x => .v (.int .i64 x))] g (fun o L' g' => o = .ret (.v (.bool (decide (shortP l)))) ∧ L' = [.cells 3 (l.map fun x => .v (.int .i64 x))] ∧ g' = g) := by
  subst hn
  refine Meets.lendT rfl hc fun σ g' _ hb => ?_
  have hb0 := hb 0 _ _ rfl rfl
  rw [ints_cells] at hb0
  refine ⟨[.v (.slice (some ⟨σ 0, 0, none⟩) l.length l.length)], fun τ => rfl, rfl, ?_⟩
  exact hf ⟨some ⟨σ 0, 0, none⟩, l, l.length⟩ g' (sliceV_frz (sp := []) (ty := 3) ⟨by rw [ints_len, Nat.mul_one], Nat.le_refl _, by omega, fun _ => by rw [ints_len, Nat.mul_one]; rfl⟩ (by rw [List.append_nil]; exact hb0) hl)

/-! ### A side -/
def partyP (p : PartyV) : Prop := shortP [p.sysPrio, p.key, p.portPrio, p.port] ∧ 0 ≤ p.state ∧ p.state ≤ 255
theorem party_ok {p : PartyV} {g : G} (h : p.ok g) : ∀ x ∈ [p.sysPrio, p.key, p.portPrio, p.port], iok .i64 x := by
  obtain ⟨h1, -, h2, h3, h4, -⟩ := h
  intro x hx
  simp only [List.mem_cons, List.not_mem_nil, or_false] at hx
  rcases hx with rfl | rfl | rfl | rfl <;> assumption
theorem party_c (p : PartyV) (g : G) (hp : p.ok g) : Tells Tryd.prog 33 [.agg (p.cells.map .v)] g (.v (.bool (decide (partyP p)))) := by
  refine meets_of mixedW Tryd.func33 (by kernel_rfl) x33_ok (some []) ?_
  refine (lent (by kernel_rfl) short_s [p.sysPrio, p.key, p.portPrio, p.port] 4 rfl (by decide) (party_ok hp) g).callS [1] 2 rfl rfl rfl rfl ?_
  rintro o L1 g' ⟨rfl, rfl, rfl⟩ _
  refine bsplit_of (fun (h1 : decide (shortP [p.sysPrio, p.key, p.portPrio, p.port]) = true) => ?_) (fun (h1 : decide (shortP [p.sysPrio, p.key, p.portPrio, p.port]) = false) => ⟨rbd (iff_of_false (by simp) fun hq => of_decide_eq_false h1 hq.1), rfl, rfl⟩)
  have h1 := of_decide_eq_true h1
  refine bsplit_of (fun (h2 : decide (p.state ≥ 0) = true) => ?_) (fun (h2 : decide (p.state ≥ 0) = false) => ⟨rbd (iff_of_false (by simp) fun hq => of_decide_eq_false h2 hq.2.1), rfl, rfl⟩)
  have h2 := of_decide_eq_true h2
  exact ⟨rbd (by rw [decide_eq_true_eq]; exact ⟨fun h => ⟨h1, h2, h⟩, fun h => h.2.2⟩), rfl, rfl⟩

def lacpP (l : LacpV) : Prop := partyP l.actor ∧ partyP l.partner ∧ shortP [l.delay]
theorem lacpRight_c (l : LacpV) (g : G) (hl : l.ok g) : Tells Tryd.prog 11 [.agg (l.cells.map .v)] g (.v (.bool (decide (lacpP l)))) := by
  refine meets_of mixedW Tryd.func11 (by kernel_rfl) x11_ok (some []) ?_
  refine (party_c l.actor g hl.1).call rfl rfl rfl ?_
  refine bsplit_of (fun (h1 : decide (partyP l.actor) = true) => ?_) (fun (h1 : decide (partyP l.actor) = false) => ⟨rbd (iff_of_false (by simp) fun hq => of_decide_eq_false h1 hq.1), rfl, rfl⟩)
  refine (party_c l.partner g hl.2.1).call rfl rfl rfl ?_
  refine bsplit_of (fun (h2 : decide (partyP l.partner) = true) => ?_) (fun (h2 : decide (partyP l.partner) = false) => ⟨rbd (iff_of_false (by simp) fun hq => of_decide_eq_false h2 hq.2.1), rfl, rfl⟩)
  refine (lent (by kernel_rfl) short_s [l.delay] 1 rfl (by decide) (fun x hx => by rw [List.mem_singleton.1 hx]; exact hl.2.2) g).callS [1] 2 rfl rfl rfl rfl ?_
  rintro o L1 g' ⟨rfl, rfl, rfl⟩ _
  have h1 := of_decide_eq_true h1
  have h2 := of_decide_eq_true h2
  exact ⟨rbd (by rw [decide_eq_true_eq]; exact ⟨fun h => ⟨h1, h2, h⟩, fun h => h.2.2⟩), rfl, rfl⟩

def pAt (l : LacpV) : Nat → PartyV | 0 => l.actor | _ => l.partner
theorem lacpRightR_c (l : LacpV) (g : G) (hl : l.ok g) : Tells Tryd.prog 12 [.agg (l.cells.map .v)] g (.v (.bool (decide (lacpP l)))) := by
  refine meets_of mixedW Tryd.func12 (by kernel_rfl) x12_ok (some []) ?_
  change LoopW _ _ _ _ _ _ _
  apply loop_rule [] (α := Nat) (fun k => [(11, .v (.int .i64 k))]) (fun _ => [.cells 27 (l.cells.map .v), .cells 25 ((l.actor.cells ++ l.partner.cells).map .v)]) (fun _ => g) (fun k => k ≤ 2 ∧ ∀ i, i < k → partyP (pAt l i)) (fun k => 2 - k) 0
  · intro x; kernel_rfl
  · exact ⟨Nat.zero_le _, fun i hi => by omega⟩
  · exact ⟨rfl, trivial⟩
  · rfl
  · rfl
  intro k hk
  obtain rfl | rfl | rfl : k = 0 ∨ k = 1 ∨ k = 2 := by have := hk.1; omega
  · refine ⟨⟨by decide, by decide⟩, ?_⟩
    refine (lent (by kernel_rfl) shorts_s [l.actor.sysPrio, l.actor.key, l.actor.portPrio, l.actor.port] 4 rfl (by decide) (party_ok hl.1) g).callS [3] 4 rfl rfl rfl rfl ?_
    rintro o L1 g' ⟨rfl, rfl, rfl⟩ _
    have bad : ¬ partyP l.actor → decide (lacpP l) = false := fun h => decide_eq_false fun hq => h hq.1
    refine bsplit_of (fun (h : (!decide (shortP [l.actor.sysPrio, l.actor.key, l.actor.portPrio, l.actor.port])) = true) => ⟨rb (bad fun hq => by have := hq.1; simp at h; exact h this), rfl, rfl⟩) (fun (h : (!decide (shortP [l.actor.sysPrio, l.actor.key, l.actor.portPrio, l.actor.port])) = false) => ?_)
    refine (within_c l.actor.state 0 255 g').call rfl rfl rfl ?_
    refine bsplit_of (fun (q : (!decide (0 ≤ l.actor.state ∧ l.actor.state ≤ 255)) = true) => ⟨rb (bad fun hq => by have := hq.2; simp at q; omega), rfl, rfl⟩) (fun (q : (!decide (0 ≤ l.actor.state ∧ l.actor.state ≤ 255)) = false) => ?_)
    have hs : partyP l.actor := ⟨by simpa using h, by simpa using q⟩
    refine ⟨0 + 1, ⟨by decide, fun i hi => ?_⟩, by decide, [0, 1], rfl, ⟨vi (by decide), trivial⟩, rfl, rfl, rfl, rfl⟩
    by_cases hik : i = 0
    · rw [hik]; exact hs
    · exact hk.2 i (by omega)
  · refine ⟨⟨by decide, by decide⟩, ?_⟩
    refine (lent (by kernel_rfl) shorts_s [l.partner.sysPrio, l.partner.key, l.partner.portPrio, l.partner.port] 4 rfl (by decide) (party_ok hl.2.1) g).callS [3] 4 rfl rfl rfl rfl ?_
    rintro o L1 g' ⟨rfl, rfl, rfl⟩ _
    have bad : ¬ partyP l.partner → decide (lacpP l) = false := fun h => decide_eq_false fun hq => h hq.2.1
    refine bsplit_of (fun (h : (!decide (shortP [l.partner.sysPrio, l.partner.key, l.partner.portPrio, l.partner.port])) = true) => ⟨rb (bad fun hq => by have := hq.1; simp at h; exact h this), rfl, rfl⟩) (fun (h : (!decide (shortP [l.partner.sysPrio, l.partner.key, l.partner.portPrio, l.partner.port])) = false) => ?_)
    refine (within_c l.partner.state 0 255 g').call rfl rfl rfl ?_
    refine bsplit_of (fun (q : (!decide (0 ≤ l.partner.state ∧ l.partner.state ≤ 255)) = true) => ⟨rb (bad fun hq => by have := hq.2; simp at q; omega), rfl, rfl⟩) (fun (q : (!decide (0 ≤ l.partner.state ∧ l.partner.state ≤ 255)) = false) => ?_)
    have hs : partyP l.partner := ⟨by simpa using h, by simpa using q⟩
    refine ⟨1 + 1, ⟨by decide, fun i hi => ?_⟩, by decide, [0, 1], rfl, ⟨vi (by decide), trivial⟩, rfl, rfl, rfl, rfl⟩
    by_cases hik : i = 1
    · rw [hik]; exact hs
    · exact hk.2 i (by omega)
  · refine (lent (by kernel_rfl) shorts_s [l.delay] 1 rfl (by decide) (fun x hx => by rw [List.mem_singleton.1 hx]; exact hl.2.2) g).callS [2] 3 rfl rfl rfl rfl ?_
    rintro o L1 g' ⟨rfl, rfl, rfl⟩ _
    have h1 := hk.2 0 (by decide)
    have h2 := hk.2 1 (by decide)
    exact ⟨rbd (by rw [decide_eq_true_eq]; exact ⟨fun h => ⟨h1, h2, h⟩, fun h => h.2.2⟩), rfl, rfl⟩

/-! ### As bytes -/
theorem sz1 (a : UInt8) : (⟨#[a]⟩ : ByteArray).size = 1 := rfl
theorem sz2 (a b : UInt8) : (⟨#[a, b]⟩ : ByteArray).size = 2 := rfl
theorem sz3 (a b c : UInt8) : (⟨#[a, b, c]⟩ : ByteArray).size = 3 := rfl
theorem szA (a b c d e f : Int) : (bytesOfInts [a, b, c, d, e, f]).size = 6 := rfl
def sideS (k : Nat) (p : PartyV) : ByteArray := beS 1 k ++ ⟨#[20]⟩ ++ beS 2 p.sysPrio.toNat ++ bytesOfInts [p.sys.e0, p.sys.e1, p.sys.e2, p.sys.e3, p.sys.e4, p.sys.e5] ++ beS 2 p.key.toNat ++ beS 2 p.portPrio.toNat ++ beS 2 p.port.toNat ++ beS 1 p.state.toNat ++ ⟨#[0, 0, 0]⟩
theorem sideS_size (k : Nat) (p : PartyV) : (sideS k p).size = 20 := by simp only [sideS, ByteArray.size_append, beS_size, sz1, sz3, szA]
theorem short_in {l : List Int} (h : shortP l) {x : Int} (hx : x ∈ l) : 0 ≤ x ∧ x < ((256 ^ 2 : Nat) : Int) ∧ x ≤ 9223372036854775807 := by
  have := h x hx
  exact ⟨this.1, by show x < 65536; omega, by omega⟩
theorem side_c (k : Nat) (hk : k ≤ 2) (p : PartyV) (g : G) (hp : partyP p) : Tells Tryd.prog 30 [.v (.int .i64 k), .agg (p.cells.map .v)] g (.v (.string (sideS k p))) := by
  obtain ⟨h1, h2, h3⟩ := hp
  have a1 := short_in h1 (x := p.sysPrio) (by simp)
  have a2 := short_in h1 (x := p.key) (by simp)
  have a3 := short_in h1 (x := p.portPrio) (by simp)
  have a4 := short_in h1 (x := p.port) (by simp)
  refine meets_of mixedW Tryd.func30 (by kernel_rfl) x30_ok (some []) ?_
  have m0 := mustG (k : Int) 1 g (by decide) (by decide) (by omega) (by show (k : Int) < 256; omega) (by omega)
  rw [Int.toNat_natCast] at m0
  refine m0.call rfl rfl rfl ?_
  refine ⟨by show _ ≤ 9223372036854775807; simp only [ByteArray.size_append, beS_size, sz1, sz3, szA]; decide, ?_⟩
  refine (mustG p.sysPrio 2 g (by decide) (by decide) a1.1 a1.2.1 a1.2.2).call rfl rfl rfl ?_
  refine ⟨by show _ ≤ 9223372036854775807; simp only [ByteArray.size_append, beS_size, sz1, sz3, szA]; decide, ?_⟩
  refine ⟨by show _ ≤ 9223372036854775807; simp only [ByteArray.size_append, beS_size, sz1, sz3, szA]; decide, ?_⟩
  refine (mustG p.key 2 g (by decide) (by decide) a2.1 a2.2.1 a2.2.2).call rfl rfl rfl ?_
  refine ⟨by show _ ≤ 9223372036854775807; simp only [ByteArray.size_append, beS_size, sz1, sz3, szA]; decide, ?_⟩
  refine (mustG p.portPrio 2 g (by decide) (by decide) a3.1 a3.2.1 a3.2.2).call rfl rfl rfl ?_
  refine ⟨by show _ ≤ 9223372036854775807; simp only [ByteArray.size_append, beS_size, sz1, sz3, szA]; decide, ?_⟩
  refine (mustG p.port 2 g (by decide) (by decide) a4.1 a4.2.1 a4.2.2).call rfl rfl rfl ?_
  refine ⟨by show _ ≤ 9223372036854775807; simp only [ByteArray.size_append, beS_size, sz1, sz3, szA]; decide, ?_⟩
  refine (mustG p.state 1 g (by decide) (by decide) h2 (by show p.state < 256; omega) (by omega)).call rfl rfl rfl ?_
  refine ⟨by show _ ≤ 9223372036854775807; simp only [ByteArray.size_append, beS_size, sz1, sz3, szA]; decide, ?_⟩
  refine ⟨by show _ ≤ 9223372036854775807; simp only [ByteArray.size_append, beS_size, sz1, sz3, szA]; decide, ?_⟩
  exact ⟨rfl, rfl, rfl⟩
end Go.Proofs.YtpdngikdpepekaaDoor
