/- A symbolic executor of my own, part 20: two lists compared, element by element. Conditions: none; it speaks of no program. -/
import Derived.Test.YtflnpoahceebbaaSx19
namespace Go.Sx

def eqL {α : Type} (f : α → α → Bool) : List α → List α → Bool
  | [], [] => true
  | x :: l, y :: m => f x y && eqL f l m
  | _, _ => false

theorem eqL_len {α : Type} {f : α → α → Bool} : ∀ {l m : List α}, l.length ≠ m.length → eqL f l m = false
  | [], [], h => absurd rfl h
  | [], _ :: _, _ => rfl
  | _ :: _, [], _ => rfl
  | x :: l, y :: m, h => by
    rw [eqL, eqL_len (l := l) (m := m) (by simpa using h), Bool.and_false]
theorem eqL_bad {α : Type} {f : α → α → Bool} : ∀ {l m : List α} {k : Nat} {x y : α}, l[k]? = some x → m[k]? = some y → f x y = false → eqL f l m = false
  | [], _, k, x, y, h, _, _ => by simp at h
  | _ :: _, [], k, x, y, _, h, _ => by simp at h
  | a :: l, b :: m, 0, x, y, h1, h2, h3 => by
    simp at h1 h2
    subst h1; subst h2
    rw [eqL, h3, Bool.false_and]
  | a :: l, b :: m, k + 1, x, y, h1, h2, h3 => by
    rw [eqL, eqL_bad (l := l) (m := m) (k := k) (by simpa using h1) (by simpa using h2) h3, Bool.and_false]
theorem eqL_good {α : Type} {f : α → α → Bool} : ∀ {l m : List α}, l.length = m.length → (∀ (k : Nat) x y, l[k]? = some x → m[k]? = some y → f x y = true) → eqL f l m = true
  | [], [], _, _ => rfl
  | [], _ :: _, h, _ => by simp at h
  | _ :: _, [], h, _ => by simp at h
  | a :: l, b :: m, h, hx => by
    rw [eqL, hx 0 a b rfl rfl, eqL_good (by simpa using h) (fun k x y h1 h2 => hx (k + 1) x y (by simpa using h1) (by simpa using h2))]
    rfl

theorem vbe {c d : Bool} (h : d = c) : SV.v (.bool c) = .v (.bool d) := by rw [h]

/-- One round on: what held below k holds below k + 1. -/
theorem eq_next {α : Type} {f : α → α → Bool} {l m : List α} {k : Nat} {x y : α} (h : ∀ (i : Nat) u v, i < k → l[i]? = some u → m[i]? = some v → f u v = true) (hx : l[k]? = some x) (hy : m[k]? = some y) (hf : f x y = true) :
    ∀ (i : Nat) u v, i < k + 1 → l[i]? = some u → m[i]? = some v → f u v = true := by
  intro i u v hi hu hv
  by_cases hik : i < k
  · exact h i u v hik hu hv
  · have : i = k := by omega
    subst this
    rw [hx] at hu
    rw [hy] at hv
    cases hu
    cases hv
    exact hf
theorem lt_some {α : Type} {l : List α} {k : Nat} (h : k < l.length) : ∃ x, l[k]? = some x := ⟨l[k], List.getElem?_eq_getElem h⟩

end Go.Sx
