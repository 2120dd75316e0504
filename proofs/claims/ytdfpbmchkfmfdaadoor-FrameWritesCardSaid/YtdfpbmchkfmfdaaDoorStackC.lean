/- tag.Stack and its reference: what each returns. Conditions: the tags lie where the slice says. -/
import Derived.Test.YtdfpbmchkfmfdaaDoorXstack
import Derived.Test.YtdfpbmchkfmfdaaDoorTagRC
namespace Go.Proofs.YtdfpbmchkfmfdaaDoor
open Go.Sx
set_option maxRecDepth 100000
set_option maxHeartbeats 8000000
attribute [local irreducible] Meets
attribute [local instance] Classical.propDecidable

def stackP (l : List TagV) : Prop := (∀ (i : Nat) t, l[i]? = some t → tagP t ∧ (l.length = 2 → t.s = decide (i = 0))) ∧ l.length ≤ 2

abbrev TagsOk (g : G) (s : SliceV TagV) : Prop := s.ok 4 TagV.cells (TagV.ok g) g

theorem stack_c (s : SliceV TagV) (g : G) (hs : TagsOk g s) : Tells Tryd.prog 174 [.v (.slice s.a s.l.length s.c)] g (.v (.bool (decide (stackP s.l)))) := by
  refine meets_of mixedS Tryd.func174 (by kernel_rfl) x174_ok (some []) ?_
  have hlen := hs.len
  change LoopW _ _ _ _ _ _ _
  apply loop_rule [] (α := Nat) (fun x => [(7, .v (.int .i64 x))]) (fun _ => []) (fun _ => g) (fun x => x ≤ s.l.length ∧ ∀ (i : Nat) t, i < x → s.l[i]? = some t → tagP t ∧ (s.l.length = 2 → t.s = decide (i = 0))) (fun x => s.l.length - x) 0
  · intro x; kernel_rfl
  · exact ⟨Nat.zero_le _, fun i t hi => by omega⟩
  · exact ⟨rfl, trivial⟩
  · rfl
  · rfl
  intro k hk
  refine bsplit_of (fun hlt => ?_) (fun hlt => ?_)
  · have hlt' : k < s.l.length := by simpa using hlt
    obtain ⟨ad, t, ha, ht, hat, htok⟩ := hs.elem (fun _ => rfl) hlt'
    refine ⟨⟨by omega, by omega⟩, ad, ha, ?_⟩
    refine ⟨t.cells, rfl, hat, ?_⟩
    refine (tagRight_c t g).call rfl rfl rfl ?_
    have bad : ¬ (tagP t ∧ (s.l.length = 2 → t.s = decide (k = 0))) → decide (stackP s.l) = false := fun h => by
      rw [decide_eq_false_iff_not]
      exact fun hp => h (hp.1 k t ht)
    have good : tagP t ∧ (s.l.length = 2 → t.s = decide (k = 0)) → k + 1 ≤ s.l.length ∧ ∀ (i : Nat) t, i < k + 1 → s.l[i]? = some t → tagP t ∧ (s.l.length = 2 → t.s = decide (i = 0)) := fun h => by
      refine ⟨by omega, fun i u hi hu => ?_⟩
      by_cases hik : i = k
      · subst hik; rw [ht] at hu; cases hu; exact h
      · exact hk.2 i u (by omega) hu
    refine bsplit_of (fun h1 => ?_) (fun h1 => ?_)
    · exact ⟨rb (bad (by simp at h1; exact fun h => h1 h.1)), rfl, rfl⟩
    · have h1' : tagP t := by simpa using h1
      refine bsplit_of (fun h2 => ?_) (fun h2 => ?_)
      · have h2' : s.l.length = 2 := by simp at h2; omega
        refine bsplit_of (fun h3 => ?_) (fun h3 => ?_)
        · exact ⟨rb (bad (fun h => by
            have := h.2 h2'
            have e : ((k : Int) == 0) = decide (k = 0) := by rw [Bool.eq_iff_iff]; simp
            rw [this, e] at h3
            simp at h3)), rfl, rfl⟩
        · refine ⟨k + 1, good ⟨h1', fun _ => ?_⟩, by omega, [], rfl, ⟨vi (wrap_id (by omega) (by omega)), trivial⟩, rfl, rfl, rfl, rfl⟩
          have e : ((k : Int) == 0) = decide (k = 0) := by rw [Bool.eq_iff_iff]; simp
          rw [e] at h3
          simpa using h3
      · have h2' : ¬ s.l.length = 2 := by simp at h2; omega
        exact ⟨k + 1, good ⟨h1', fun h => absurd h h2'⟩, by omega, [], rfl, ⟨vi (wrap_id (by omega) (by omega)), trivial⟩, rfl, rfl, rfl, rfl⟩
  · have : k = s.l.length := by simp at hlt; omega
    subst this
    refine ⟨rbd ?_, rfl, rfl⟩
    simp only [decide_eq_true_eq, stackP]
    constructor
    · exact fun h => ⟨fun i t ht => hk.2 i t (List.getElem?_eq_some_iff.1 ht).1 ht, by omega⟩
    · exact fun h => by have := h.2; omega

theorem stackR_c (s : SliceV TagV) (g : G) (hs : TagsOk g s) : Tells Tryd.prog 172 [.v (.slice s.a s.l.length s.c)] g (.v (.bool (decide (stackP s.l)))) := by
  refine meets_of mixedS Tryd.func172 (by kernel_rfl) x172_ok (some []) ?_
  have hlen := hs.len
  change LoopW _ _ _ _ _ _ _
  apply loop_rule [] (α := Nat) (fun x => [(7, .v (.int .i64 x))]) (fun _ => []) (fun _ => g) (fun x => x ≤ s.l.length ∧ ∀ (i : Nat) t, i < x → s.l[i]? = some t → tagP t) (fun x => s.l.length - x) 0
  · intro x; kernel_rfl
  · exact ⟨Nat.zero_le _, fun i t hi => by omega⟩
  · exact ⟨rfl, trivial⟩
  · rfl
  · rfl
  intro k hk
  refine bsplit_of (fun hlt => ?_) (fun hlt => ?_)
  · have hlt' : k < s.l.length := by simpa using hlt
    obtain ⟨ad, t, ha, ht, hat, htok⟩ := hs.elem (fun _ => rfl) hlt'
    refine ⟨⟨by omega, by omega⟩, ad, ha, ?_⟩
    refine ⟨t.cells, rfl, hat, ?_⟩
    refine (tagRightR_c t g).call rfl rfl rfl ?_
    refine bsplit_of (fun h1 => ?_) (fun h1 => ?_)
    · refine ⟨rb ?_, rfl, rfl⟩
      rw [decide_eq_false_iff_not]
      simp at h1
      exact fun hp => h1 (hp.1 k t ht).1
    · refine ⟨k + 1, ⟨by omega, fun i u hi hu => ?_⟩, by omega, [], rfl, ⟨vi (wrap_id (by omega) (by omega)), trivial⟩, rfl, rfl, rfl, rfl⟩
      by_cases hik : i = k
      · subst hik; rw [ht] at hu; cases hu; simpa using h1
      · exact hk.2 i u (by omega) hu
  · have : k = s.l.length := by simp at hlt; omega
    subst this
    have hall : ∀ (i : Nat) t, s.l[i]? = some t → tagP t := fun i t ht => hk.2 i t (List.getElem?_eq_some_iff.1 ht).1 ht
    refine bsplit_of (fun h1 => ?_) (fun h1 => ?_)
    · have h1' : s.l.length < 2 := by simp at h1; omega
      exact ⟨rbd (by simp only [true_iff]; exact ⟨fun i t ht => ⟨hall i t ht, fun h => by omega⟩, by omega⟩), rfl, rfl⟩
    · have h1' : ¬ s.l.length < 2 := by simp at h1; omega
      refine bsplit_of (fun h2 => ?_) (fun h2 => ?_)
      · have h2' : s.l.length = 2 := by simp at h2; omega
        obtain ⟨a0, t0, ha0, ht0, hat0, -⟩ := hs.elem (i := 0) (fun _ => rfl) (by omega)
        obtain ⟨a1, t1, ha1, ht1, hat1, -⟩ := hs.elem (i := 1) (fun _ => rfl) (by omega)
        refine ⟨⟨by omega, by omega⟩, a0, ha0, ?_⟩
        refine ⟨[.bool t0.s], rfl, hat0.sub 0 1 (by simp [TagV.cells]), ?_⟩
        have key : stackP s.l ↔ (t0.s = true ∧ t1.s = false) := by
          constructor
          · intro hp
            have e0 := (hp.1 0 t0 ht0).2 h2'
            have e1 := (hp.1 1 t1 ht1).2 h2'
            simpa using And.intro e0 e1
          · rintro ⟨e0, e1⟩
            refine ⟨fun i t ht => ⟨hall i t ht, fun _ => ?_⟩, by omega⟩
            have hi := (List.getElem?_eq_some_iff.1 ht).1
            obtain rfl | rfl : i = 0 ∨ i = 1 := by omega
            · rw [ht0] at ht; cases ht; simp [e0]
            · rw [ht1] at ht; cases ht; simp [e1]
        refine bsplit_of (fun h3 => ?_) (fun h3 => ?_)
        · refine ⟨⟨by omega, by omega⟩, a1, ha1, ?_⟩
          refine ⟨[.bool t1.s], rfl, hat1.sub 0 1 (by simp [TagV.cells]), ?_⟩
          exact ⟨rbd (by rw [key]; simp [h3]), rfl, rfl⟩
        · exact ⟨rbd (by rw [key]; simp [h3]), rfl, rfl⟩
      · have h2' : ¬ s.l.length = 2 := by simp at h2; omega
        exact ⟨rbd (by simp only [Bool.false_eq_true, false_iff]; exact fun hp => by have := hp.2; omega), rfl, rfl⟩
end Go.Proofs.YtdfpbmchkfmfdaaDoor
