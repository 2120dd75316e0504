/- A station whose reading is of small bulk: its texts and lists are short. Conditions: none. -/
import Derived.Test.YtfianfpmnglfnaaDoorUpA
import Derived.Test.YtfianfpmnglfnaaDoorLldpL
namespace Go.Proofs.YtfianfpmnglfnaaDoor
open Go.Sx Go.ChangeShapes Go.WideShapes Go.Proofs.YtfianfpmnglfnaaDoor.Rows

theorem fldN {N n : Nat} {W : World} {s r : Sh} {a b : List Value} (h : HoldsN N W (.fld n s r) (a ++ b)) (ha : a.length = n) : HoldsN N W s a ∧ HoldsN N W r b := by
  obtain ⟨c, d, e, hc, h1, h2⟩ := h
  obtain ⟨rfl, rfl⟩ := List.append_inj e (ha.trans hc.symm)
  exact ⟨h1, h2⟩
theorem strN {N : Nat} {W : World} {x : ByteArray} (h : HoldsN N W .str [.string x]) : x.size ≤ N := by
  obtain ⟨s, hs, h⟩ := h
  cases hs
  exact h
theorem gOf_cell {W : World} {ad : Addr} {xs : List Value} (h : (gOf W).at ad xs) {j : Nat} (hj : j < xs.length) : W.cell? (ad.add j) = xs[j]? := by
  obtain ⟨hs, c, ty, fz, hg, hc⟩ := h
  obtain ⟨b, o, sp⟩ := ad
  simp only at hs
  subst hs
  rw [add_cell]
  have hg : W.heap[b]? = some (.cells c ty fz) := hg
  simp only at hc
  simp only [World.cell?, hg]
  rw [if_neg (by simp)]
  exact hc j hj
theorem sliceN {α : Type} {N sz : Nat} {W : World} {e : Sh} {f : α → List Value} {Q : α → Prop} {s : SliceV α} (h : HoldsN N W (.slice sz e) s.cells) (hok : s.ok sz f Q (gOf W)) (hf : ∀ x, (f x).length = sz) : s.l.length ≤ N ∧ ∀ x ∈ s.l, HoldsN N W e (f x) := by
  rcases h with h | ⟨a, len, cap, h, hl, hi⟩
  · have : s.cells = [.slice s.a s.l.length s.c] := rfl
    rw [this] at h
    simp only [List.cons.injEq, Value.slice.injEq] at h
    have h0 : s.l = [] := List.eq_nil_of_length_eq_zero h.1.2.1
    rw [h0]
    exact ⟨Nat.zero_le _, fun x hx => by cases hx⟩
  · have : s.cells = [.slice s.a s.l.length s.c] := rfl
    rw [this] at h
    simp only [List.cons.injEq, Value.slice.injEq] at h
    obtain ⟨⟨ha, hlen, -⟩, -⟩ := h
    subst hlen
    refine ⟨hl, fun x hx => ?_⟩
    obtain ⟨i, hil, rfl⟩ := List.getElem_of_mem hx
    obtain ⟨ad, y, had, hy, hat, -⟩ := hok.elem hf hil
    rw [List.getElem?_eq_getElem hil] at hy
    cases hy
    rw [ha] at had
    cases had
    obtain ⟨c, hc, hcell, hN⟩ := hi i hil
    have : c = f s.l[i] := by
      apply List.ext_getElem?
      intro j
      by_cases hj : j < sz
      · rw [← hcell j hj, ← gOf_cell hat (by rw [hf]; exact hj), Go.Deep.add_add]
      · rw [List.getElem?_eq_none (by omega), List.getElem?_eq_none (by rw [hf]; omega)]
    rw [← this]
    exact hN
theorem lldp_small {W : World} {x : LldpV} (hok : x.ok (gOf W)) (h : HoldsN 1048576 W lldpSh x.cells) : LldpSmall x := by
  obtain ⟨-, -, -, o3, o4, o5, o6, o7, o8⟩ := hok
  obtain ⟨h0, r0⟩ := fldN h rfl
  obtain ⟨h1, r1⟩ := fldN r0 rfl
  obtain ⟨-, r2⟩ := fldN r1 rfl
  obtain ⟨h3, r3⟩ := fldN r2 rfl
  obtain ⟨h4, r4⟩ := fldN r3 rfl
  obtain ⟨h5, r5⟩ := fldN r4 rfl
  obtain ⟨h6, r6⟩ := fldN r5 rfl
  obtain ⟨h7, r7⟩ := fldN r6 rfl
  obtain ⟨h8, -⟩ := fldN r7 rfl
  have n3 := sliceN h3 o3 (fun _ => rfl)
  have n4 := sliceN h4 o4 (fun _ => rfl)
  have n5 := sliceN h5 o5 (fun _ => rfl)
  have n6 := sliceN h6 o6 (fun _ => rfl)
  have n7 := sliceN h7 o7 (fun _ => rfl)
  have n8 := sliceN h8 o8 (fun _ => rfl)
  refine ⟨strN (fldN (fldN h0 rfl).2 rfl).1, strN (fldN (fldN h1 rfl).2 rfl).1, ⟨n3.1, fun y hy => strN (n3.2 y hy)⟩, ⟨n4.1, fun y hy => strN (n4.2 y hy)⟩, ⟨n5.1, fun y hy => strN (n5.2 y hy)⟩, n6.1, ⟨n7.1, fun y hy => ?_⟩, ⟨n8.1, fun y hy => ?_⟩⟩
  · obtain ⟨a0, b0⟩ := fldN (n7.2 y hy) rfl
    obtain ⟨-, b1⟩ := fldN b0 rfl
    obtain ⟨-, b2⟩ := fldN b1 rfl
    exact ⟨strN (fldN (fldN a0 rfl).2 rfl).1, strN (fldN b2 rfl).1⟩
  · obtain ⟨-, b0⟩ := fldN (n8.2 y hy) rfl
    obtain ⟨-, b1⟩ := fldN b0 rfl
    exact strN (fldN b1 rfl).1
end Go.Proofs.YtfianfpmnglfnaaDoor
