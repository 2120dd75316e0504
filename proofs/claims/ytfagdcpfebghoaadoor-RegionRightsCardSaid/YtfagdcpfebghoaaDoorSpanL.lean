/- region.Least and its reference, the law RegionRights: what each returns. Conditions: of the law: the variable errors.errorType is as laid. -/
import Derived.Test.YtfagdcpfebghoaaDoorSpanC
namespace Go.Proofs.YtfagdcpfebghoaaDoor
open Go.Sx
set_option maxRecDepth 100000
set_option maxHeartbeats 8000000
attribute [local irreducible] Meets
attribute [local instance] Classical.propDecidable

def spXs (l : List SpanV) : List Value := l.flatMap SpanV.cells
theorem span3 (x : SpanV) : x.cells.length = 3 := rfl
theorem lstep_zero {out : List SpanV} {x : SpanV} (h : x.inst = 0) : lstep out x = out := if_pos h
theorem lstep_nil {x : SpanV} (h : x.inst ≠ 0) : lstep [] x = [x] := by rw [lstep, if_neg h]; rfl
theorem lstep_add {pre : List SpanV} {y x : SpanV} (h : x.inst ≠ 0) (k : ¬ (y.inst = x.inst ∧ y.to + 1 = x.from_)) : lstep (pre ++ [y]) x = (pre ++ [y]) ++ [x] := by
  rw [lstep, if_neg h, List.getLast?_append, List.getLast?_singleton, Option.some_or]
  dsimp only
  rw [if_neg k]
theorem lstep_on {pre : List SpanV} {y x : SpanV} (h : x.inst ≠ 0) (k : y.inst = x.inst ∧ y.to + 1 = x.from_) : lstep (pre ++ [y]) x = pre ++ [⟨y.from_, x.to, y.inst⟩] := by
  rw [lstep, if_neg h, List.getLast?_append, List.getLast?_singleton, Option.some_or]
  dsimp only
  rw [if_pos k, List.dropLast_concat]
theorem vstep_zero {f : Int → Int} {out : List SpanV} {v : Int} (h : f v = 0) : vstep f out v = out := if_pos h
theorem vstep_nil {f : Int → Int} {v : Int} (h : f v ≠ 0) : vstep f [] v = [⟨v, v, f v⟩] := by rw [vstep, if_neg h]; rfl
theorem vstep_add {f : Int → Int} {pre : List SpanV} {y : SpanV} {v : Int} (h : f v ≠ 0) (k : ¬ (y.to = v - 1 ∧ y.inst = f v)) : vstep f (pre ++ [y]) v = (pre ++ [y]) ++ [⟨v, v, f v⟩] := by
  rw [vstep, if_neg h, List.getLast?_append, List.getLast?_singleton, Option.some_or]
  dsimp only
  rw [if_neg k]
theorem vstep_on {f : Int → Int} {pre : List SpanV} {y : SpanV} {v : Int} (h : f v ≠ 0) (k : y.to = v - 1 ∧ y.inst = f v) : vstep f (pre ++ [y]) v = pre ++ [⟨y.from_, v, y.inst⟩] := by
  rw [vstep, if_neg h, List.getLast?_append, List.getLast?_singleton, Option.some_or]
  dsimp only
  rw [if_pos k, List.dropLast_concat]
theorem split_last {n : Nat} {l : List SpanV} (h : l.length = n + 1) : ∃ pre y, l = pre ++ [y] ∧ pre.length = n := by
  rcases List.eq_nil_or_concat l with rfl | ⟨pre, y, rfl⟩
  · cases h
  · exact ⟨pre, y, by simp, by simpa using h⟩

abbrev SpSt := Nat × Nat × List SpanV × Nat × List Value
def SpSt.ok (y : SpSt) : Prop := y.2.2.1.length = y.2.1 ∧ grOk 3 y.2.1 y.2.2.2.1 (spXs y.2.2.1) y.2.2.2.2

theorem lstep_to {out : List SpanV} {x : SpanV} (hx : x.to ≤ 4094 ∧ 0 ≤ x.to) (ho : ∀ z ∈ out, z.to ≤ 4094 ∧ 0 ≤ z.to) : ∀ z ∈ lstep out x, z.to ≤ 4094 ∧ 0 ≤ z.to := by
  by_cases h : x.inst = 0
  · rw [lstep_zero h]; exact ho
  · rcases List.eq_nil_or_concat out with rfl | ⟨pre, y, rfl⟩
    · rw [lstep_nil h]
      intro z hz
      rw [List.mem_singleton] at hz
      subst hz; exact hx
    · rw [List.concat_eq_append] at ho ⊢
      by_cases k : y.inst = x.inst ∧ y.to + 1 = x.from_
      · rw [lstep_on h k]
        intro z hz
        rcases List.mem_append.1 hz with hz | hz
        · exact ho z (by simp [hz])
        · rw [List.mem_singleton] at hz; subst hz; exact hx
      · rw [lstep_add h k]
        intro z hz
        rcases List.mem_append.1 hz with hz | hz
        · exact ho z hz
        · rw [List.mem_singleton] at hz; subst hz; exact hx
theorem lrun_to : ∀ (l out : List SpanV), (∀ z ∈ l, z.to ≤ 4094 ∧ 0 ≤ z.to) → (∀ z ∈ out, z.to ≤ 4094 ∧ 0 ≤ z.to) → ∀ z ∈ lrun l out, z.to ≤ 4094 ∧ 0 ≤ z.to
  | [], _, _, h => h
  | x :: l, out, hl, h => lrun_to l (lstep out x) (fun z hz => hl z (by simp [hz])) (lstep_to (hl x (by simp)) h)
theorem take_to {l : List SpanV} {k : Nat} (hr : spansP l) : ∀ z ∈ l.take k, z.to ≤ 4094 ∧ 0 ≤ z.to := by
  intro z hz
  obtain ⟨i, hi, rfl⟩ := List.getElem_of_mem (List.mem_of_mem_take hz)
  have h := hr i _ (List.getElem?_eq_getElem hi)
  have h0 := lastTo_pos (k := i) fun j x hj hx => hr j x hx
  obtain ⟨h1, h2, h3, -⟩ := h
  omega

theorem lstep_len (out : List SpanV) (x : SpanV) : (lstep out x).length ≤ out.length + 1 := by
  by_cases h : x.inst = 0
  · rw [lstep_zero h]; omega
  · rcases List.eq_nil_or_concat out with rfl | ⟨pre, y, rfl⟩
    · rw [lstep_nil h]; simp
    · rw [List.concat_eq_append]
      by_cases k : y.inst = x.inst ∧ y.to + 1 = x.from_
      · rw [lstep_on h k]; simp
      · rw [lstep_add h k]; simp
theorem lrun_len : ∀ (l out : List SpanV), (lrun l out).length ≤ out.length + l.length
  | [], _ => by rw [lrun]; simp
  | x :: l, out => by
    have h1 := lrun_len l (lstep out x)
    have h2 := lstep_len out x
    rw [lrun, List.length_cons]; omega

theorem spanLeast_b (s : SliceV SpanV) (g : G) (hs : SpansOk g s) (hr : spansP s.l) (hmax : s.l.length ≤ 1000000000) : Meets Tryd.prog 43 [.v (.slice s.a s.l.length s.c)] [] g (fun o L' g' =>
    (∃ (l : List SpanV) (cap : Nat) (sp : List Value), o = .ret (.tup [grS 0 l.length cap, .v .nilIface]) ∧ L' = grL 119 l.length (l.flatMap SpanV.cells) sp ∧ grOk 3 l.length cap (l.flatMap SpanV.cells) sp ∧ l = lrun s.l [] ∧ G.le g g') ∨ False) := by
  refine meets_of mixedS Tryd.func43 (by kernel_rfl) x43_ok none ?_
  refine (spanRight_c s g hs).call rfl rfl rfl ?_
  refine bsplit_of (fun h0 => absurd h0 (by simp [hr])) (fun _ => ?_)
  have hlen := hs.len
  change LoopW _ _ _ _ _ _ _
  refine loop_gone ?_
  apply loop_rule [0] (α := SpSt) (fun y => [(4, grS 0 y.2.1 y.2.2.2.1), (14, .v (.int .i64 y.1))]) (fun y => [grC 119 y.2.1 (spXs y.2.2.1) y.2.2.2.2]) (fun _ => g) (fun y => y.1 ≤ s.l.length ∧ SpSt.ok y ∧ y.2.2.1 = lrun (s.l.take y.1) []) (fun y => s.l.length - y.1) (0, 0, [], 0, [])
  · intro x
    obtain ⟨k, n, l, cap, sp⟩ := x
    cases n <;> kernel_rfl
  · exact ⟨Nat.zero_le _, ⟨rfl, grOk.zero 3⟩, rfl⟩
  · exact ⟨rfl, rfl, trivial⟩
  · rfl
  · rfl
  intro y hy
  obtain ⟨k, n, l, cap, sp⟩ := y
  obtain ⟨hk, ⟨hl, ho⟩, hm⟩ := hy
  dsimp only at hk hl ho hm
  rcases n with _ | n
  · obtain rfl : l = [] := List.eq_nil_of_length_eq_zero hl
    refine bsplit_of (fun hlt => ?_) (fun hlt => ?_)
    ·
      have hlt' : k < s.l.length := by have := of_decide_eq_true hlt; omega
      obtain ⟨ad, x, ha, hx, hat, hxok⟩ := hs.elem (fun _ => rfl) hlt'
      have hnext := lrun_take hx
      rw [← hm] at hnext
      refine ⟨⟨by omega, by omega⟩, ad, ha, ?_⟩
      refine ⟨x.cells, rfl, hat, ?_⟩
      refine bsplit_of (fun h1 => ?_) (fun h1 => ?_)
      · rw [lstep_zero (by simpa using h1)] at hnext
        exact ⟨⟨k + 1, 0, [], cap, sp⟩, ⟨hlt', ⟨rfl, ho⟩, hnext.symm⟩, by show s.l.length - (k + 1) < s.l.length - k; omega, [0], rfl, ⟨rfl, vi (wrap_id (by omega) (by omega)), trivial⟩, rfl, rfl, rfl, rfl⟩
      · rw [lstep_nil (by simpa using h1)] at hnext
        refine ⟨by show 0 + 1 * 3 ≤ 3; decide, fun u hu => by simp at hu; rcases hu with rfl | rfl | rfl <;> rfl, ?_⟩
        refine ⟨by decide, fun cap2 sp2 k1 k2 k3 => ?_⟩
        exact ⟨(k + 1, 1, [x], cap2, sp2), ⟨hlt', ⟨rfl, gr_first rfl k1 k2 k3⟩, hnext.symm⟩, by show s.l.length - (k + 1) < s.l.length - k; omega, [3], rfl, ⟨rfl, vi (wrap_id (by omega) (by omega)), trivial⟩, rfl, rfl, rfl, rfl⟩
    · have hl' : k = s.l.length := by have := of_decide_eq_false hlt; omega
      subst hl'
      rw [List.take_length] at hm
      exact ⟨[], .inl ⟨[], 0, [], rfl, rfl, grOk.zero 3, hm, le_refl g⟩⟩
  · obtain ⟨pre, y, rfl, hpl⟩ := split_last hl
    refine bsplit_of (fun hlt => ?_) (fun hlt => ?_)
    ·
      have hlt' : k < s.l.length := by have := of_decide_eq_true hlt; omega
      obtain ⟨ad, x, ha, hx, hat, hxok⟩ := hs.elem (fun _ => rfl) hlt'
      have hnext := lrun_take hx
      rw [← hm] at hnext
      refine ⟨⟨by omega, by omega⟩, ad, ha, ?_⟩
      refine ⟨x.cells, rfl, hat, ?_⟩
      refine bsplit_of (fun h1 => ?_) (fun h1 => ?_)
      · rw [lstep_zero (by simpa using h1)] at hnext
        exact ⟨⟨k + 1, n + 1, pre ++ [y], cap, sp⟩, ⟨hlt', ⟨hl, ho⟩, hnext.symm⟩, by show s.l.length - (k + 1) < s.l.length - k; omega, [0], rfl, ⟨rfl, vi (wrap_id (by omega) (by omega)), trivial⟩, rfl, rfl, rfl, rfl⟩
      · have hi : x.inst ≠ 0 := by simpa using h1
        have hg := gr_bounds ho
        have hll := lrun_len (s.l.take k) []
        rw [← hm, hl, List.length_take] at hll
        have hll : n + 1 ≤ 0 + min k s.l.length := hll
        have hw : IntKind.i64.wrap (((n + 1 : Nat) : Int) - 1) = n := by rw [wrap_id (by omega) (by omega)]; omega
        have hto : y.to ≤ 4094 ∧ 0 ≤ y.to := lrun_to (s.l.take k) [] (take_to hr) (fun z hz => absurd hz (by simp)) y (by rw [← hm]; simp)
        have hwt : IntKind.i64.wrap (y.to + 1) = y.to + 1 := wrap_id (by omega) (by omega)
        refine bsplit_of (fun _ => ?_) (fun h2 => absurd h2 (by rw [hw]; simp))
        refine ⟨by rw [hw]; omega, ?_⟩
        refine load1_at (x := .int .i64 y.inst) (flat_last span3 pre y sp (i := 2) (by decide) (by rw [hw, hpl]; show 0 + n * 3 + 2 = _; omega)) ?_
        refine bsplit_of (fun h3 => ?_) (fun h3 => ?_)
        · refine ⟨by rw [hw]; omega, ?_⟩
          refine load1_at (x := .int .i64 y.to) (flat_last span3 pre y sp (i := 1) (by decide) (by rw [hw, hpl]; show 0 + n * 3 + 1 = _; omega)) ?_
          refine bsplit_of (fun h4 => ?_) (fun h4 => ?_)
          · rw [lstep_on hi (by rw [hwt] at h4; simp at h3 h4; exact ⟨h3, h4⟩)] at hnext
            refine ⟨by rw [hw]; omega, ?_⟩
            refine ⟨rfl, fun u hu => by simp [Value.cells] at hu; subst hu; rfl, by rw [hw, List.length_append, hg.1]; show 0 + n * 3 + 1 + 1 ≤ _; omega, ?_⟩
            refine ⟨(k + 1, n + 1, pre ++ [⟨y.from_, x.to, y.inst⟩], cap, sp), ⟨hlt', ⟨by simp [hpl], flat_same span3 ho⟩, hnext.symm⟩, by show s.l.length - (k + 1) < s.l.length - k; omega, [0], rfl, ⟨rfl, vi (wrap_id (by omega) (by omega)), trivial⟩, ?_, rfl, rfl, rfl⟩
            exact congrArg (fun c => [Chunk.vals 119 c]) (flat_set span3 pre y ⟨y.from_, x.to, y.inst⟩ sp (i := 1) (by decide) (by rw [hw, hpl]; show 0 + n * 3 + 1 = _; omega) rfl)
          · rw [lstep_add hi (fun k => by rw [hwt] at h4; simp at h4; omega)] at hnext
            refine ⟨by show 0 + 1 * 3 ≤ 3; decide, fun u hu => by simp at hu; rcases hu with rfl | rfl | rfl <;> rfl, ?_⟩
            refine ⟨spXs (pre ++ [y]), sp, rfl, hg.1, ⟨hg.2.1, hg.2.2.1, hg.2.2.2⟩, by omega, fun cap2 sp2 k1 k2 k3 => ?_⟩
            refine ⟨(k + 1, n + 1 + 1, pre ++ [y] ++ [x], cap2, sp2), ⟨hlt', ⟨by simp [hpl], by rw [spXs, flat_app]; exact gr_next ho rfl k1 k2 k3⟩, hnext.symm⟩, by show s.l.length - (k + 1) < s.l.length - k; omega, [3], rfl, ⟨rfl, vi (wrap_id (by omega) (by omega)), trivial⟩, ?_, rfl, rfl, rfl⟩
            exact congrArg (fun c => [Chunk.vals 119 c]) (flat_app2 SpanV.cells (pre ++ [y]) x sp2).symm
        · rw [lstep_add hi (fun k => by simp at h3; exact h3 k.1)] at hnext
          refine ⟨by show 0 + 1 * 3 ≤ 3; decide, fun u hu => by simp at hu; rcases hu with rfl | rfl | rfl <;> rfl, ?_⟩
          refine ⟨spXs (pre ++ [y]), sp, rfl, hg.1, ⟨hg.2.1, hg.2.2.1, hg.2.2.2⟩, by omega, fun cap2 sp2 k1 k2 k3 => ?_⟩
          refine ⟨(k + 1, n + 1 + 1, pre ++ [y] ++ [x], cap2, sp2), ⟨hlt', ⟨by simp [hpl], by rw [spXs, flat_app]; exact gr_next ho rfl k1 k2 k3⟩, hnext.symm⟩, by show s.l.length - (k + 1) < s.l.length - k; omega, [3], rfl, ⟨rfl, vi (wrap_id (by omega) (by omega)), trivial⟩, ?_, rfl, rfl, rfl⟩
          exact congrArg (fun c => [Chunk.vals 119 c]) (flat_app2 SpanV.cells (pre ++ [y]) x sp2).symm
    · have hl' : k = s.l.length := by have := of_decide_eq_false hlt; omega
      subst hl'
      rw [List.take_length] at hm
      refine ⟨[0], .inl ⟨pre ++ [y], cap, sp, ?_, ?_, ?_, hm, le_refl g⟩⟩
      · rw [hl]; rfl
      · rw [hl]; rfl
      · rw [hl]; exact ho

theorem spanLeast_c (s : SliceV SpanV) (g : G) (hs : SpansOk g s) (hr : spansP s.l) (hmax : s.l.length ≤ 1000000000) : Meets Tryd.prog 43 [.v (.slice s.a s.l.length s.c)] [] g (fun o L' g' =>
    (∃ r : SliceV SpanV, r.l = lrun s.l [] ∧ o = .ret (.tup [.v (.slice r.a r.l.length r.c), .v .nilIface]) ∧ L' = [] ∧ r.ok 3 SpanV.cells (fun _ => True) g' ∧ G.le g g') ∨ False) :=
  Meets.freezeSl 3 SpanV.cells 119 (fun x => .tup [x, .v .nilIface]) (fun _ => True) (fun l => l = lrun s.l []) (fun _ _ _ => False) (fun _ _ _ => rfl) (fun _ _ _ _ => trivial) (spanLeast_b s g hs hr hmax)
theorem spanLeast_bad (s : SliceV SpanV) (g : G) (hs : SpansOk g s) (hr : ¬ spansP s.l) : Tells Tryd.prog 43 [.v (.slice s.a s.l.length s.c)] g (.tup [.v (.slice none 0 0), .v (errW 1)]) := by
  refine meets_of mixedS Tryd.func43 (by kernel_rfl) x43_ok (some []) ?_
  refine (spanRight_c s g hs).call rfl rfl rfl ?_
  refine bsplit_of (fun _ => ⟨rfl, rfl, rfl⟩) (fun h0 => absurd h0 (by simp [hr]))

end Go.Proofs.YtfagdcpfebghoaaDoor
