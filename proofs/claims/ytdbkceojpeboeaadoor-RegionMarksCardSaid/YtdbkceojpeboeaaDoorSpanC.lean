/- region.Right, region.Inst, region.Least, their references: what each returns. Conditions: none. -/
import Derived.Test.YtdbkceojpeboeaaDoorXregm
import Derived.Test.YtdbkceojpeboeaaDoorTagRC
import Derived.Test.YtdbkceojpeboeaaDoorWireC
import Derived.Test.YtdbkceojpeboeaaDoorBaseC
namespace Go.Proofs.YtdbkceojpeboeaaDoor
open Go.Sx
set_option maxRecDepth 100000
set_option maxHeartbeats 8000000
attribute [local irreducible] Meets
attribute [local instance] Classical.propDecidable

abbrev SpansOk (g : G) (s : SliceV SpanV) : Prop := s.ok 3 SpanV.cells (SpanV.ok g) g
/-! ### Plain -/
def spanP (last : Int) (x : SpanV) : Prop := last < x.from_ ∧ x.from_ ≤ x.to ∧ x.to ≤ 4094 ∧ 0 ≤ x.inst ∧ x.inst ≤ 64
def lastTo (l : List SpanV) : Nat → Int
  | 0 => 0
  | k + 1 => match l[k]? with
    | some x => x.to
    | none => 0
def spansP (l : List SpanV) : Prop := ∀ (i : Nat) x, l[i]? = some x → spanP (lastTo l i) x
theorem lastTo_succ {l : List SpanV} {k : Nat} {x : SpanV} (h : l[k]? = some x) : lastTo l (k + 1) = x.to := by rw [lastTo, h]
theorem lastTo_pos {l : List SpanV} : ∀ {k : Nat}, (∀ (i : Nat) x, i < k → l[i]? = some x → spanP (lastTo l i) x) → 0 ≤ lastTo l k
  | 0, _ => Int.le_refl 0
  | k + 1, h => by
    have ih := lastTo_pos (k := k) fun i x hi => h i x (by omega)
    rw [lastTo]
    rcases hx : l[k]? with _ | x
    · exact Int.le_refl 0
    · obtain ⟨q1, q2, -⟩ := h k x (by omega) hx
      show 0 ≤ x.to
      omega
theorem spans_next {l : List SpanV} {k : Nat} {x : SpanV} (hx : l[k]? = some x) (h : spanP (lastTo l k) x) (hp : ∀ (i : Nat) x, i < k → l[i]? = some x → spanP (lastTo l i) x) : ∀ (i : Nat) x, i < k + 1 → l[i]? = some x → spanP (lastTo l i) x := by
  intro i u hi hu
  by_cases hik : i = k
  · subst hik; rw [hx] at hu; cases hu; exact h
  · exact hp i u (by omega) hu
theorem spans_bad {l : List SpanV} {k : Nat} {x : SpanV} (hx : l[k]? = some x) (h : ¬ spanP (lastTo l k) x) : decide (spansP l) = false := by
  rw [decide_eq_false_iff_not]
  exact fun hp => h (hp k x hx)
theorem spans_all {l : List SpanV} (hp : ∀ (i : Nat) x, i < l.length → l[i]? = some x → spanP (lastTo l i) x) : decide (spansP l) = true :=
  decide_eq_true fun i x hx => hp i x (List.getElem?_eq_some_iff.1 hx).1 hx

def hasV (v : Int) (x : SpanV) : Bool := decide (x.from_ ≤ v ∧ v ≤ x.to)
def instV (v : Int) : List SpanV → Int
  | [] => 0
  | x :: l => if hasV v x then x.inst else instV v l
theorem instV_drop {l : List SpanV} {v : Int} : ∀ {k : Nat}, (∀ (i : Nat) x, i < k → l[i]? = some x → hasV v x = false) → instV v l = instV v (l.drop k)
  | 0, _ => rfl
  | k + 1, h => by
    rw [instV_drop (k := k) fun i x hi => h i x (by omega)]
    rcases hx : l[k]? with _ | x
    · rw [List.drop_eq_nil_of_le (List.getElem?_eq_none_iff.1 hx), List.drop_eq_nil_of_le (by have := List.getElem?_eq_none_iff.1 hx; omega)]
    · obtain ⟨hk, rfl⟩ := List.getElem?_eq_some_iff.1 hx
      rw [List.drop_eq_getElem_cons hk, instV, if_neg (by rw [h k _ (by omega) hx]; decide)]
theorem instV_hit {l : List SpanV} {v : Int} {k : Nat} {x : SpanV} (hx : l[k]? = some x) (h : hasV v x = true) (hp : ∀ (i : Nat) x, i < k → l[i]? = some x → hasV v x = false) : instV v l = x.inst := by
  obtain ⟨hk, rfl⟩ := List.getElem?_eq_some_iff.1 hx
  rw [instV_drop hp, List.drop_eq_getElem_cons hk, instV, if_pos h]
theorem instV_none {l : List SpanV} {v : Int} (hp : ∀ (i : Nat) x, i < l.length → l[i]? = some x → hasV v x = false) : instV v l = 0 := by
  rw [instV_drop hp, List.drop_length]; rfl

/-- One more span; one more VID. -/
def lstep (out : List SpanV) (x : SpanV) : List SpanV := if x.inst = 0 then out else match out.getLast? with
  | none => out ++ [x]
  | some y => if y.inst = x.inst ∧ y.to + 1 = x.from_ then out.dropLast ++ [⟨y.from_, x.to, y.inst⟩] else out ++ [x]
def vstep (f : Int → Int) (out : List SpanV) (v : Int) : List SpanV := if f v = 0 then out else match out.getLast? with
  | none => out ++ [⟨v, v, f v⟩]
  | some y => if y.to = v - 1 ∧ y.inst = f v then out.dropLast ++ [⟨y.from_, v, y.inst⟩] else out ++ [⟨v, v, f v⟩]
def vrun (f : Int → Int) : Nat → Int → List SpanV → List SpanV
  | 0, _, out => out
  | n + 1, v, out => vrun f n (v + 1) (vstep f out v)
def lrun : List SpanV → List SpanV → List SpanV
  | [], out => out
  | x :: l, out => lrun l (lstep out x)
theorem lrun_snoc : ∀ (l : List SpanV) (x : SpanV) (out : List SpanV), lrun (l ++ [x]) out = lstep (lrun l out) x
  | [], _, _ => rfl
  | _ :: l, x, out => by rw [List.cons_append, lrun, lrun_snoc l x, lrun]
theorem lrun_take {l : List SpanV} {k : Nat} {x : SpanV} (h : l[k]? = some x) : lrun (l.take (k + 1)) [] = lstep (lrun (l.take k) []) x := by
  rw [List.take_add_one, h, Option.toList_some, lrun_snoc]
theorem vrun_snoc (f : Int → Int) : ∀ (n : Nat) (v : Int) (out : List SpanV), vrun f (n + 1) v out = vstep f (vrun f n v out) (v + n)
  | 0, v, out => by rw [vrun, vrun, vrun]; simp
  | n + 1, v, out => by rw [vrun, vrun_snoc f n (v + 1), vrun, show v + 1 + (n : Int) = v + ((n + 1 : Nat) : Int) by omega]
theorem vrun_add (f : Int → Int) : ∀ (n m : Nat) (v : Int) (out : List SpanV), vrun f (n + m) v out = vrun f m (v + n) (vrun f n v out)
  | 0, m, v, out => by rw [Nat.zero_add, vrun]; simp
  | n + 1, m, v, out => by rw [show n + 1 + m = (n + m) + 1 by omega, vrun, vrun_add f n m (v + 1), vrun, show v + 1 + (n : Int) = v + ((n + 1 : Nat) : Int) by omega]
theorem vrun_zero (f : Int → Int) : ∀ (n : Nat) (v : Int) (out : List SpanV), (∀ w, v ≤ w → w < v + n → f w = 0) → vrun f n v out = out
  | 0, _, _, _ => rfl
  | n + 1, v, out, h => by
    rw [vrun, vstep, if_pos (h v (by omega) (by omega))]
    exact vrun_zero f n (v + 1) out fun w h1 h2 => h w (by omega) (by omega)
theorem vrun_more (f : Int → Int) (i F : Int) (hi : i ≠ 0) (pre : List SpanV) : ∀ (n : Nat) (v : Int), (∀ w, v ≤ w → w < v + n → f w = i) → vrun f n v (pre ++ [⟨F, v - 1, i⟩]) = pre ++ [⟨F, v + n - 1, i⟩]
  | 0, v, _ => by rw [vrun]; simp
  | n + 1, v, h => by
    have e : f v = i := h v (by omega) (by omega)
    rw [vrun, vstep, if_neg (by rw [e]; exact hi), List.getLast?_append, List.getLast?_singleton, Option.some_or]
    dsimp only
    rw [if_pos (by exact ⟨rfl, e.symm⟩), List.dropLast_concat]
    have := vrun_more f i F hi pre n (v + 1) fun w h1 h2 => h w (by omega) (by omega)
    rw [show v + 1 - 1 = v by omega, show v + 1 + (n : Int) - 1 = v + ((n + 1 : Nat) : Int) - 1 by omega] at this
    exact this
/-- One span's VIDs, one by one. -/
theorem vrun_span (f : Int → Int) (x : SpanV) (out : List SpanV) (n : Nat) (hn : x.from_ + n = x.to) (h : ∀ w, x.from_ ≤ w → w ≤ x.to → f w = x.inst) : vrun f (n + 1) x.from_ out = lstep out x := by
  obtain ⟨F, T, i⟩ := x
  dsimp only at hn h
  subst hn
  by_cases hi : i = 0
  · rw [lstep, if_pos hi]
    exact vrun_zero f (n + 1) F out fun w h1 h2 => by rw [h w h1 (by omega), hi]
  · have e : f F = i := h F (by omega) (by omega)
    rw [vrun, vstep, if_neg (by rw [e]; exact hi), lstep, if_neg hi]
    have go : ∀ pre G, vrun f n (F + 1) (pre ++ [⟨G, F, i⟩]) = pre ++ [⟨G, F + n, i⟩] := fun pre G => by
      have := vrun_more f i G hi pre n (F + 1) fun w h1 h2 => h w (by omega) (by omega)
      rw [show F + 1 - 1 = F by omega, show F + 1 + (n : Int) - 1 = F + n by omega] at this
      exact this
    rcases ho : out.getLast? with _ | y
    · dsimp only
      rw [e]
      exact go _ _
    · dsimp only
      by_cases hc : y.to = F - 1 ∧ y.inst = i
      · rw [if_pos (by rw [e]; exact hc), if_pos ⟨hc.2, by omega⟩, hc.2]
        exact go _ _
      · rw [if_neg (by rw [e]; exact hc), if_neg (fun k => hc ⟨by omega, k.1⟩), e]
        exact go _ _
/-- VID by VID comes to the same as span by span. -/
theorem spans_same {l : List SpanV} (h : spansP l) : vrun (fun v => instV v l) 4094 1 [] = lrun l [] := by
  have key : ∀ k, k ≤ l.length → 0 ≤ lastTo l k ∧ lastTo l k ≤ 4094 ∧ (∀ (i : Nat) x, i < k → l[i]? = some x → x.to ≤ lastTo l k) ∧ vrun (fun v => instV v l) (lastTo l k).toNat 1 [] = lrun (l.take k) [] := by
    intro k
    induction k with
    | zero => exact fun _ => ⟨Int.le_refl 0, (by decide : (0 : Int) ≤ 4094), fun i x hi => absurd hi (by omega), rfl⟩
    | succ k ih =>
      intro hk
      obtain ⟨i0, i1, i2, i3⟩ := ih (by omega)
      have hx : l[k]? = some l[k] := List.getElem?_eq_getElem (by omega)
      generalize l[k] = x at hx
      obtain ⟨p1, p2, p3, p4, p5⟩ := h k x hx
      rw [lastTo_succ hx, lrun_take hx, ← i3]
      refine ⟨by omega, p3, ?_, ?_⟩
      · intro i y hi hy
        by_cases hik : i = k
        · subst hik; rw [hx] at hy; cases hy; exact Int.le_refl _
        · have := i2 i y (by omega) hy; omega
      · have e : x.to.toNat = (lastTo l k).toNat + ((x.from_ - 1 - lastTo l k).toNat + ((x.to - x.from_).toNat + 1)) := by omega
        have none : ∀ w : Int, lastTo l k < w → ∀ (i : Nat) y, i < k → l[i]? = some y → hasV w y = false := fun w hw i y hi hy => by
          have := i2 i y hi hy
          rw [hasV, decide_eq_false_iff_not]; omega
        rw [e, vrun_add, vrun_add, vrun_zero _ (x.from_ - 1 - lastTo l k).toNat, show (1 : Int) + ((lastTo l k).toNat : Int) + ((x.from_ - 1 - lastTo l k).toNat : Int) = x.from_ by omega, vrun_span _ x _ _ (by omega)]
        · exact fun w h1 h2 => instV_hit hx (by rw [hasV]; exact decide_eq_true ⟨h1, h2⟩) (none w (by omega))
        · intro w h1 h2
          refine instV_none fun i y hi hy => ?_
          by_cases hik : i < k
          · exact none w (by omega) i y hik hy
          · have hge : ∀ m, k ≤ m → ∀ y, l[m]? = some y → x.from_ ≤ y.from_ := by
              intro m hm
              induction m with
              | zero => intro y hy; obtain rfl : k = 0 := by omega
                        rw [hx] at hy; cases hy; exact Int.le_refl _
              | succ m ihm =>
                intro y hy
                by_cases hkm : k = m + 1
                · subst hkm; rw [hx] at hy; cases hy; exact Int.le_refl _
                · have hm1 : m < l.length := by have := (List.getElem?_eq_some_iff.1 hy).1; omega
                  have hm' : l[m]? = some l[m] := List.getElem?_eq_getElem hm1
                  have h3 := ihm (by omega) _ hm'
                  have h4 := (h (m + 1) y hy).1
                  have h5 := (h m _ hm').2.1
                  rw [lastTo_succ hm'] at h4
                  omega
            have := hge i (by omega) y hy
            rw [hasV, decide_eq_false_iff_not]; omega
  obtain ⟨k0, k1, k2, k3⟩ := key l.length (Nat.le_refl _)
  rw [List.take_length] at k3
  rw [show 4094 = (lastTo l l.length).toNat + (4094 - (lastTo l l.length).toNat) by omega, vrun_add, k3]
  refine vrun_zero _ _ _ _ fun w h1 h2 => instV_none fun i x hi hx => ?_
  have := k2 i x hi hx
  rw [hasV, decide_eq_false_iff_not]; omega

/-! ### What the functions return -/
theorem spanRight_c (s : SliceV SpanV) (g : G) (hs : SpansOk g s) : Tells Tryd.prog 19 [.v (.slice s.a s.l.length s.c)] g (.v (.bool (decide (spansP s.l)))) := by
  refine meets_of mixedS Tryd.func19 (by kernel_rfl) x19_ok (some []) ?_
  have hlen := hs.len
  change LoopW _ _ _ _ _ _ _ _ _ _
  apply loop_rule [] (α := Nat) (fun x => [(3, .v (.int .i64 (lastTo s.l x))), (8, .v (.int .i64 x))]) (fun _ => []) (fun _ => g) (fun x => x ≤ s.l.length ∧ ∀ (i : Nat) x', i < x → s.l[i]? = some x' → spanP (lastTo s.l i) x') (fun x => s.l.length - x) 0
  · intro x; kernel_rfl
  · exact ⟨Nat.zero_le _, fun i t hi => by omega⟩
  · exact ⟨rfl, rfl, trivial⟩
  · rfl
  · rfl
  intro k hk
  refine bsplit_of (fun hlt => ?_) (fun hlt => ?_)
  · have hlt' : k < s.l.length := by have := of_decide_eq_true hlt; omega
    obtain ⟨ad, x, ha, hx, hat, hxok⟩ := hs.elem (fun _ => rfl) hlt'
    refine ⟨⟨by omega, by omega⟩, ad, ha, ?_⟩
    refine ⟨x.cells, rfl, hat, ?_⟩
    refine bsplit_of (fun h1 => ⟨rb (spans_bad hx fun h => by have := h.1; simp at h1; omega), rfl, rfl⟩) (fun h1 => ?_)
    refine bsplit_of (fun h2 => ⟨rb (spans_bad hx fun h => by have := h.2.1; simp at h2; omega), rfl, rfl⟩) (fun h2 => ?_)
    refine bsplit_of (fun h3 => ⟨rb (spans_bad hx fun h => by have := h.2.2.1; simp at h3; omega), rfl, rfl⟩) (fun h3 => ?_)
    refine bsplit_of (fun h4 => ⟨rb (spans_bad hx fun h => by have := h.2.2.2.1; simp at h4; omega), rfl, rfl⟩) (fun h4 => ?_)
    refine bsplit_of (fun h5 => ⟨rb (spans_bad hx fun h => by have := h.2.2.2.2; simp at h5; omega), rfl, rfl⟩) (fun h5 => ?_)
    have hp : spanP (lastTo s.l k) x := by simp at h1 h2 h3 h4 h5; exact ⟨h1, h2, h3, h4, h5⟩
    exact ⟨k + 1, ⟨hlt', spans_next hx hp hk.2⟩, by omega, [], rfl, ⟨vi (lastTo_succ hx).symm, vi (wrap_id (by omega) (by omega)), trivial⟩, rfl, rfl, rfl, rfl⟩
  · have : k = s.l.length := by have := of_decide_eq_false hlt; omega
    subst this
    exact ⟨rb (spans_all hk.2), rfl, rfl⟩
theorem spanInstR_c (s : SliceV SpanV) (v : Int) (g : G) (hs : SpansOk g s) : Tells Tryd.prog 26 [.v (.slice s.a s.l.length s.c), .v (.int .i64 v)] g (.v (.int .i64 (instV v s.l))) := by
  refine meets_of mixedS Tryd.func26 (by kernel_rfl) x26_ok (some []) ?_
  have hlen := hs.len
  change LoopW _ _ _ _ _ _ _ _ _ _
  apply loop_rule [] (α := Nat) (fun x => [(9, .v (.int .i64 x))]) (fun _ => []) (fun _ => g) (fun x => x ≤ s.l.length ∧ ∀ (i : Nat) x', i < x → s.l[i]? = some x' → hasV v x' = false) (fun x => s.l.length - x) 0
  · intro x; kernel_rfl
  · exact ⟨Nat.zero_le _, fun i t hi => by omega⟩
  · exact ⟨rfl, trivial⟩
  · rfl
  · rfl
  intro k hk
  refine bsplit_of (fun hlt => ?_) (fun hlt => ?_)
  · have hlt' : k < s.l.length := by have := of_decide_eq_true hlt; omega
    obtain ⟨ad, x, ha, hx, hat, hxok⟩ := hs.elem (fun _ => rfl) hlt'
    refine ⟨⟨by omega, by omega⟩, ad, ha, ?_⟩
    refine ⟨x.cells, rfl, hat, ?_⟩
    refine (within_c v x.from_ x.to g).call rfl rfl rfl ?_
    refine bsplit_of (fun h1 => ?_) (fun h1 => ?_)
    · exact ⟨ri (instV_hit hx h1 hk.2).symm, rfl, rfl⟩
    · exact ⟨k + 1, ⟨hlt', fun i u hi hu => by
        by_cases hik : i = k
        · subst hik; rw [hx] at hu; cases hu; exact h1
        · exact hk.2 i u (by omega) hu⟩, by omega, [], rfl, ⟨vi (wrap_id (by omega) (by omega)), trivial⟩, rfl, rfl, rfl, rfl⟩
  · have : k = s.l.length := by have := of_decide_eq_false hlt; omega
    subst this
    exact ⟨ri (instV_none hk.2).symm, rfl, rfl⟩
theorem spanRightR_c (s : SliceV SpanV) (g : G) (hs : SpansOk g s) : Tells Tryd.prog 11 [.v (.slice s.a s.l.length s.c)] g (.v (.bool (decide (spansP s.l)))) := by
  refine meets_of mixedS Tryd.func11 (by kernel_rfl) x11_ok (some []) ?_
  have hlen := hs.len
  change LoopW _ _ _ _ _ _ _ _ _ _
  apply loop_rule [] (α := Nat) (fun x => [(7, .v (.int .i64 x))]) (fun _ => []) (fun _ => g) (fun x => x ≤ s.l.length ∧ ∀ (i : Nat) x', i < x → s.l[i]? = some x' → spanP (lastTo s.l i) x') (fun x => s.l.length - x) 0
  · intro x; kernel_rfl
  · exact ⟨Nat.zero_le _, fun i t hi => by omega⟩
  · exact ⟨rfl, trivial⟩
  · rfl
  · rfl
  intro k hk
  refine bsplit_of (fun hlt => ?_) (fun hlt => ?_)
  · have hlt' : k < s.l.length := by have := of_decide_eq_true hlt; omega
    obtain ⟨ad, x, ha, hx, hat, hxok⟩ := hs.elem (fun _ => rfl) hlt'
    have hpos := lastTo_pos hk.2
    refine ⟨⟨by omega, by omega⟩, ad, ha, ?_⟩
    refine ⟨x.cells, rfl, hat, ?_⟩
    refine bsplit_of (fun h1 => ⟨rb (spans_bad hx fun h => by have := h.1; simp at h1; omega), rfl, rfl⟩) (fun h1 => ?_)
    refine bsplit_of (fun h2 => ⟨rb (spans_bad hx fun h => by have := h.2.1; simp at h2; omega), rfl, rfl⟩) (fun h2 => ?_)
    refine bsplit_of (fun h3 => ⟨rb (spans_bad hx fun h => by have := h.2.2.1; simp at h3; omega), rfl, rfl⟩) (fun h3 => ?_)
    refine (within_c x.inst 0 64 g).call rfl rfl rfl ?_
    refine bsplit_of (fun h4 => ⟨rb (spans_bad hx fun h => by have := h.2.2.2; simp at h4; omega), rfl, rfl⟩) (fun h4 => ?_)
    have hp0 : lastTo s.l k < x.from_ → spanP (lastTo s.l k) x := fun h0 => by simp at h1 h2 h3 h4; exact ⟨h0, h2, h3, h4.1, h4.2⟩
    refine bsplit_of (fun h5 => ?_) (fun h5 => ?_)
    · have hk0 : 0 < k := by have := of_decide_eq_true h5; omega
      obtain ⟨j, rfl⟩ : ∃ j, k = j + 1 := ⟨k - 1, by omega⟩
      obtain ⟨ad', y, ha', hy, hat', hyok⟩ := hs.elem (i := j) (fun _ => rfl) (by omega)
      have hw : IntKind.i64.wrap (((j + 1 : Nat) : Int) - 1) = j := by rw [wrap_id (by omega) (by omega)]; omega
      refine ⟨by rw [hw]; omega, ad', ha', ?_⟩
      refine ⟨[.int .i64 y.to], rfl, by rw [hw]; exact hat'.sub 1 1 (by simp [SpanV.cells]), ?_⟩
      rw [lastTo_succ hy] at hp0
      refine bsplit_of (fun h6 => ⟨rb (spans_bad hx fun h => by have := h.1; rw [lastTo_succ hy] at this; simp at h6; omega), rfl, rfl⟩) (fun h6 => ?_)
      exact ⟨j + 1 + 1, ⟨hlt', spans_next hx (by rw [lastTo_succ hy]; exact hp0 (by simp at h6; exact h6)) hk.2⟩, by omega, [], rfl, ⟨vi (wrap_id (by omega) (by omega)), trivial⟩, rfl, rfl, rfl, rfl⟩
    · have hk0 : k = 0 := by have := of_decide_eq_false h5; omega
      subst hk0
      exact ⟨0 + 1, ⟨hlt', spans_next hx (hp0 (by simp at h1; show 0 < x.from_; omega)) hk.2⟩, by omega, [], rfl, ⟨vi (wrap_id (by omega) (by omega)), trivial⟩, rfl, rfl, rfl, rfl⟩
  · have : k = s.l.length := by have := of_decide_eq_false hlt; omega
    subst this
    exact ⟨rb (spans_all hk.2), rfl, rfl⟩
end Go.Proofs.YtdbkceojpeboeaaDoor
