/- lacp.short and ref.shorts; rows of noughts. Conditions: those that stand at each. -/
import Derived.Test.YtdfpbmchkfmfdaaDoorXmarks
import Derived.Test.YtdfpbmchkfmfdaaDoorShelfR
import Derived.Test.YtdfpbmchkfmfdaaDoorWireC
import Derived.Test.YtdfpbmchkfmfdaaDoorTagRC
import Derived.Test.YtdfpbmchkfmfdaaDoorBaseD
namespace Go.Proofs.YtdfpbmchkfmfdaaDoor
open Go.Sx Go.Lib Go.RowKit
set_option maxRecDepth 100000
set_option maxHeartbeats 8000000
attribute [local irreducible] Meets
attribute [local instance] Classical.propDecidable

/-! ### Numbers of 16 bits -/
def shortP (l : List Int) : Prop := ∀ x ∈ l, 0 ≤ x ∧ x ≤ 65535
abbrev IntsOk (g : G) (s : SliceV Int) : Prop := s.ok 1 (intC .i64) (iok .i64) g
theorem short_all {l : List Int} (h : ∀ (i : Nat) y, l[i]? = some y → 0 ≤ y ∧ y ≤ 65535) : shortP l := fun x hx => by
  obtain ⟨i, hi, he⟩ := List.getElem_of_mem hx
  exact h i x (by rw [← he]; exact List.getElem?_eq_getElem hi)
theorem short_s (s : SliceV Int) (g : G) (hs : IntsOk g s) : Tells Tryd.prog 104 [.v (.slice s.a s.l.length s.c)] g (.v (.bool (decide (shortP s.l)))) := by
  refine meets_of mixedW Tryd.func104 (by kernel_rfl) x104_ok (some []) ?_
  have hlen := hs.len
  change LoopW _ _ _ _ _ _ _
  apply loop_rule [] (α := Nat) (fun k => [(7, .v (.int .i64 k))]) (fun _ => []) (fun _ => g) (fun k => k ≤ s.l.length ∧ ∀ (i : Nat) y, i < k → s.l[i]? = some y → 0 ≤ y ∧ y ≤ 65535) (fun k => s.l.length - k) 0
  · intro x; kernel_rfl
  · exact ⟨Nat.zero_le _, fun i t hi => by omega⟩
  · exact ⟨rfl, trivial⟩
  · rfl
  · rfl
  intro k hk
  refine bsplit_of (fun hlt => ?_) (fun hlt => ?_)
  · have hlt' : k < s.l.length := by simpa using hlt
    obtain ⟨ad, x, ha, hx, hat, -⟩ := hs.elem (fun _ => rfl) hlt'
    have bad : ¬ (0 ≤ x ∧ x ≤ 65535) → decide (shortP s.l) = false := fun h => decide_eq_false fun hp => h (hp x (List.mem_of_getElem? hx))
    have good : (0 ≤ x ∧ x ≤ 65535) → ∀ (i : Nat) y, i < k + 1 → s.l[i]? = some y → 0 ≤ y ∧ y ≤ 65535 := fun h i y hi hy => by
      by_cases hik : i = k
      · subst hik; rw [hx] at hy; cases hy; exact h
      · exact hk.2 i y (by omega) hy
    refine ⟨⟨by omega, by omega⟩, ad, ha, ?_⟩
    refine ⟨[.int .i64 x], rfl, hat, ?_⟩
    refine bsplit_of (fun (h : decide (x < 0) = true) => ⟨rb (bad fun hh => by have := of_decide_eq_true h; omega), rfl, rfl⟩) (fun (h1 : decide (x < 0) = false) => ?_)
    refine bsplit_of (fun (h : decide (x > 65535) = true) => ⟨rb (bad fun hh => by have := of_decide_eq_true h; omega), rfl, rfl⟩) (fun (h2 : decide (x > 65535) = false) => ?_)
    have h1' := of_decide_eq_false h1
    have h2' := of_decide_eq_false h2
    exact ⟨k + 1, ⟨by omega, good ⟨by omega, by omega⟩⟩, by omega, [], rfl, ⟨vi (wrap_id (by omega) (by omega)), trivial⟩, rfl, rfl, rfl, rfl⟩
  · have : s.l.length ≤ k := by simpa using hlt
    exact ⟨rb (decide_eq_true (short_all fun i y hy => hk.2 i y (by have := (List.getElem?_eq_some_iff.1 hy).1; omega) hy)), rfl, rfl⟩
theorem shorts_s (s : SliceV Int) (g : G) (hs : IntsOk g s) : Tells Tryd.prog 105 [.v (.slice s.a s.l.length s.c)] g (.v (.bool (decide (shortP s.l)))) := by
  refine meets_of mixedW Tryd.func105 (by kernel_rfl) x105_ok (some []) ?_
  have hlen := hs.len
  change LoopW _ _ _ _ _ _ _
  apply loop_rule [] (α := Nat) (fun k => [(7, .v (.int .i64 k))]) (fun _ => []) (fun _ => g) (fun k => k ≤ s.l.length ∧ ∀ (i : Nat) y, i < k → s.l[i]? = some y → 0 ≤ y ∧ y ≤ 65535) (fun k => s.l.length - k) 0
  · intro x; kernel_rfl
  · exact ⟨Nat.zero_le _, fun i t hi => by omega⟩
  · exact ⟨rfl, trivial⟩
  · rfl
  · rfl
  intro k hk
  refine bsplit_of (fun hlt => ?_) (fun hlt => ?_)
  · have hlt' : k < s.l.length := by simpa using hlt
    obtain ⟨ad, x, ha, hx, hat, -⟩ := hs.elem (fun _ => rfl) hlt'
    have bad : ¬ (0 ≤ x ∧ x ≤ 65535) → decide (shortP s.l) = false := fun h => decide_eq_false fun hp => h (hp x (List.mem_of_getElem? hx))
    have good : (0 ≤ x ∧ x ≤ 65535) → ∀ (i : Nat) y, i < k + 1 → s.l[i]? = some y → 0 ≤ y ∧ y ≤ 65535 := fun h i y hi hy => by
      by_cases hik : i = k
      · subst hik; rw [hx] at hy; cases hy; exact h
      · exact hk.2 i y (by omega) hy
    refine ⟨⟨by omega, by omega⟩, ad, ha, ?_⟩
    refine ⟨[.int .i64 x], rfl, hat, ?_⟩
    refine (within_c x 0 65535 g).call rfl rfl rfl ?_
    refine bsplit_of (fun (h : (!decide (0 ≤ x ∧ x ≤ 65535)) = true) => ⟨rb (bad fun hh => by simp at h; omega), rfl, rfl⟩) (fun (h1 : (!decide (0 ≤ x ∧ x ≤ 65535)) = false) => ?_)
    exact ⟨k + 1, ⟨by omega, good (by simpa using h1)⟩, by omega, [], rfl, ⟨vi (wrap_id (by omega) (by omega)), trivial⟩, rfl, rfl, rfl, rfl⟩
  · have : s.l.length ≤ k := by simpa using hlt
    exact ⟨rb (decide_eq_true (short_all fun i y hy => hk.2 i y (by have := (List.getElem?_eq_some_iff.1 hy).1; omega) hy)), rfl, rfl⟩

theorem ints_len (l : List Int) : (l.flatMap (intC .i64)).length = l.length := by
  induction l with
  | nil => rfl
  | cons x l ih => rw [List.flatMap_cons, List.length_append, ih]; simp [intC]; omega
theorem ints_cells (σ : Nat → Nat) (l : List Int) : reL σ (l.map fun x => SV.v (.int .i64 x)) = l.flatMap (intC .i64) := by
  induction l with
  | nil => rfl
  | cons x l ih => rw [List.map_cons, reL, ih, List.flatMap_cons]; rfl
/-- The same of a slice that the caller owns. -/
theorem lent {f : FuncId} (hc : callable Tryd.prog f = true) (hf : ∀ (s : SliceV Int) (g : G), IntsOk g s → Tells Tryd.prog f [.v (.slice s.a s.l.length s.c)] g (.v (.bool (decide (shortP s.l))))) (l : List Int) (n : Nat) (hn : n = l.length) (h9 : n ≤ 9) (hl : ∀ x ∈ l, iok .i64 x) (g : G) :
    Meets Tryd.prog f [.slc 0 0 n n] [.cells 3 (l.map fun x => .v (.int .i64 x))] g (fun o L' g' => o = .ret (.v (.bool (decide (shortP l)))) ∧ L' = [.cells 3 (l.map fun x => .v (.int .i64 x))] ∧ g' = g) := by
  subst hn
  refine Meets.lendT rfl hc fun σ g' _ hb => ?_
  have hb0 := hb 0 _ _ rfl rfl
  rw [ints_cells] at hb0
  refine ⟨[.v (.slice (some ⟨σ 0, 0, none⟩) l.length l.length)], fun τ => rfl, rfl, ?_⟩
  exact hf ⟨some ⟨σ 0, 0, none⟩, l, l.length⟩ g' (sliceV_frz (sp := []) (ty := 3) ⟨by rw [ints_len, Nat.mul_one], Nat.le_refl _, by omega, fun _ => by rw [ints_len, Nat.mul_one]; rfl⟩ (by rw [List.append_nil]; exact hb0) hl)

theorem sz1 (a : UInt8) : (⟨#[a]⟩ : ByteArray).size = 1 := rfl
theorem sz2 (a b : UInt8) : (⟨#[a, b]⟩ : ByteArray).size = 2 := rfl
theorem sz3 (a b c : UInt8) : (⟨#[a, b, c]⟩ : ByteArray).size = 3 := rfl
theorem szA (a b c d e f : Int) : (bytesOfInts [a, b, c, d, e, f]).size = 6 := rfl
theorem rts {a b : ByteArray} {e : SV} (h : a = b) : Out.ret (.tup [.v (.string a), e]) = .ret (.tup [.v (.string b), e]) := by rw [h]
theorem short_in {l : List Int} (h : shortP l) {x : Int} (hx : x ∈ l) : 0 ≤ x ∧ x < ((256 ^ 2 : Nat) : Int) ∧ x ≤ 9223372036854775807 := by
  have := h x hx
  exact ⟨this.1, by show x < 65536; omega, by omega⟩
def zeroS (n : Nat) : ByteArray := ⟨(repeatL [0] n).toArray⟩
theorem zeroS_size (n : Nat) : (zeroS n).size = n := by
  show (repeatL [0] n).toArray.size = n
  rw [List.size_toArray, repeatL_length]; simp
theorem zeroS_next (n : Nat) : zeroS n ++ ⟨#[0]⟩ = zeroS (n + 1) := by
  apply ByteArray.ext
  apply Array.ext'
  rw [ByteArray.data_append, Array.toList_append]
  show repeatL [0] n ++ [0] = repeatL [0] (n + 1)
  rw [repeatL_add, repeatL_one]
theorem zeroS_nil (s : ByteArray) : s = s ++ zeroS 0 := by
  have : zeroS 0 = ByteArray.empty := by unfold zeroS; rfl
  rw [this]; simp
end Go.Proofs.YtdfpbmchkfmfdaaDoor
