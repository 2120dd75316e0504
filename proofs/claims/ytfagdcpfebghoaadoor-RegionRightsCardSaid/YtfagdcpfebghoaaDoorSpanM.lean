/- The reference of region.Least; the law RegionRights: what each returns. Conditions: of the law: the variable errors.errorType is as laid. -/
import Derived.Test.YtfagdcpfebghoaaDoorSpanL
namespace Go.Proofs.YtfagdcpfebghoaaDoor
open Go.Sx
set_option maxRecDepth 100000
set_option maxHeartbeats 8000000
attribute [local irreducible] Meets
attribute [local instance] Classical.propDecidable

def spanVs (l : List SpanV) : List SpanV := vrun (fun v => instV v l) 4094 1 []
theorem spanVs_of {l m : List SpanV} {k : Nat} (hk : k = 4094) (h : m = vrun (fun v => instV v l) k 1 []) : m = spanVs l := by rw [h, hk, spanVs]
attribute [local irreducible] spanVs vrun
theorem vstep_len (f : Int → Int) (out : List SpanV) (v : Int) : (vstep f out v).length ≤ out.length + 1 := by
  by_cases h : f v = 0
  · rw [vstep_zero h]; omega
  · rcases List.eq_nil_or_concat out with rfl | ⟨pre, y, rfl⟩
    · rw [vstep_nil h]; simp
    · rw [List.concat_eq_append]
      by_cases k : y.to = v - 1 ∧ y.inst = f v
      · rw [vstep_on h k]; simp
      · rw [vstep_add h k]; simp

theorem spanLeastR_b (s : SliceV SpanV) (g : G) (hs : SpansOk g s) : Meets Tryd.prog 45 [.v (.slice s.a s.l.length s.c)] [] g (fun o L' g' =>
    (∃ (l : List SpanV) (cap : Nat) (sp : List Value), o = .ret (grS 0 l.length cap) ∧ L' = grL 119 l.length (l.flatMap SpanV.cells) sp ∧ grOk 3 l.length cap (l.flatMap SpanV.cells) sp ∧ l = spanVs s.l ∧ G.le g g') ∨ False) := by
  refine meets_of mixedS Tryd.func45 (by kernel_rfl) x45_ok none ?_
  obtain ⟨M, hM⟩ : ∃ M, M = 4095 := ⟨_, rfl⟩
  change LoopW _ _ _ _ _ _ _
  refine loop_gone ?_
  apply loop_rule [0] (α := Int × Nat × List SpanV × Nat × List Value) (fun y => [(3, grS 0 y.2.1 y.2.2.2.1), (4, .v (.int .i64 y.1))]) (fun y => [grC 119 y.2.1 (spXs y.2.2.1) y.2.2.2.2]) (fun _ => g) (fun y => (1 ≤ y.1 ∧ y.1 ≤ 4095) ∧ (y.2.2.1.length = y.2.1 ∧ grOk 3 y.2.1 y.2.2.2.1 (spXs y.2.2.1) y.2.2.2.2) ∧ y.2.2.1 = vrun (fun v => instV v s.l) (y.1 - 1).toNat 1 [] ∧ y.2.1 ≤ (y.1 - 1).toNat) (fun y => (M - y.1).toNat) (1, 0, [], 0, [])
  · intro x
    obtain ⟨k, n, l, cap, sp⟩ := x
    cases n <;> kernel_rfl
  · exact ⟨⟨Int.le_refl 1, by show (1 : Int) ≤ 4095; decide⟩, ⟨rfl, grOk.zero 3⟩, by rw [show ((1 : Int) - 1).toNat = 0 from rfl, vrun], Nat.le_refl _⟩
  · exact ⟨rfl, rfl, trivial⟩
  · rfl
  · rfl
  intro y hy
  obtain ⟨v, n, l, cap, sp⟩ := y
  obtain ⟨⟨hk, hk2⟩, ⟨hl, ho⟩, hm, hkn⟩ := hy
  dsimp only at hk hk2 hl ho hm hkn
  have hnext := vrun_snoc (fun v => instV v s.l) (v - 1).toNat 1 []
  rw [← hm, show (1 : Int) + ((v - 1).toNat : Int) = v by omega] at hnext
  have hw1 : IntKind.i64.wrap (v + 1) = v + 1 := wrap_id (by omega) (by omega)
  have hw2 : IntKind.i64.wrap (v - 1) = v - 1 := wrap_id (by omega) (by omega)
  have hsucc : (v + 1 - 1).toNat = (v - 1).toNat + 1 := by omega
  have inv : ∀ {n' : Nat} {l' : List SpanV} {cap' : Nat} {sp' : List Value}, v ≤ 4094 → l'.length = n' → grOk 3 n' cap' (spXs l') sp' → vrun (fun v => instV v s.l) ((v - 1).toNat + 1) 1 [] = l' → n' ≤ (v - 1).toNat + 1 → (1 ≤ v + 1 ∧ v + 1 ≤ 4095) ∧ (l'.length = n' ∧ grOk 3 n' cap' (spXs l') sp') ∧ l' = vrun (fun v => instV v s.l) (v + 1 - 1).toNat 1 [] ∧ n' ≤ (v + 1 - 1).toNat :=
    fun h1 h2 h3 h4 h5 => ⟨by omega, ⟨h2, h3⟩, by rw [hsucc, h4], by omega⟩
  rcases n with _ | n
  · obtain rfl : l = [] := List.eq_nil_of_length_eq_zero hl
    refine bsplit_of (fun hlt => ?_) (fun hlt => ?_)
    · have hlt' : v ≤ 4094 := of_decide_eq_true hlt
      refine (spanInstR_c s (v) g hs).call rfl rfl rfl ?_
      refine bsplit_of (fun h1 => ?_) (fun h1 => ?_)
      · rw [vstep_zero (by simpa using h1)] at hnext
        exact ⟨(v + 1, 0, [], cap, sp), inv hlt' rfl ho hnext (Nat.zero_le _), by show (M - (v + 1)).toNat < (M - v).toNat; omega, [0], rfl, ⟨rfl, vi hw1, trivial⟩, rfl, rfl, rfl, rfl⟩
      · rw [vstep_nil (by simpa using h1)] at hnext
        refine ⟨by show 0 + 1 * 3 ≤ 3; decide, fun u hu => by simp at hu; rcases hu with rfl | rfl | rfl <;> rfl, ?_⟩
        refine ⟨by decide, fun cap2 sp2 k1 k2 k3 => ?_⟩
        exact ⟨(v + 1, 1, [⟨v, v, instV v s.l⟩], cap2, sp2), inv hlt' rfl (gr_first rfl k1 k2 k3) hnext (Nat.succ_le_succ (Nat.zero_le _)), by show (M - (v + 1)).toNat < (M - v).toNat; omega, [2], rfl, ⟨rfl, vi hw1, trivial⟩, rfl, rfl, rfl, rfl⟩
    · have hl' : (v - 1).toNat = 4094 := by have := of_decide_eq_false hlt; omega
      exact ⟨[], .inl ⟨[], 0, [], rfl, rfl, grOk.zero 3, spanVs_of hl' hm, le_refl g⟩⟩
  · obtain ⟨pre, y, rfl, hpl⟩ := split_last hl
    refine bsplit_of (fun hlt => ?_) (fun hlt => ?_)
    · have hlt' : v ≤ 4094 := of_decide_eq_true hlt
      refine (spanInstR_c s (v) g hs).call rfl rfl rfl ?_
      refine bsplit_of (fun h1 => ?_) (fun h1 => ?_)
      · rw [vstep_zero (by simpa using h1)] at hnext
        exact ⟨(v + 1, n + 1, pre ++ [y], cap, sp), inv hlt' hl ho hnext (Nat.le_succ_of_le hkn), by show (M - (v + 1)).toNat < (M - v).toNat; omega, [0], rfl, ⟨rfl, vi hw1, trivial⟩, rfl, rfl, rfl, rfl⟩
      · have hi : instV v s.l ≠ 0 := by simpa using h1
        have hg := gr_bounds ho
        have hw : IntKind.i64.wrap (((n + 1 : Nat) : Int) - 1) = n := by rw [wrap_id (by omega) (by omega)]; omega
        refine bsplit_of (fun _ => ?_) (fun h2 => absurd h2 (by rw [hw]; simp))
        refine ⟨by rw [hw]; omega, ?_⟩
        refine load1_at (x := .int .i64 y.to) (flat_last span3 pre y sp (i := 1) (by decide) (by rw [hw, hpl]; show 0 + n * 3 + 1 = _; omega)) ?_
        refine bsplit_of (fun h3 => ?_) (fun h3 => ?_)
        · refine ⟨by rw [hw]; omega, ?_⟩
          refine load1_at (x := .int .i64 y.inst) (flat_last span3 pre y sp (i := 2) (by decide) (by rw [hw, hpl]; show 0 + n * 3 + 2 = _; omega)) ?_
          refine bsplit_of (fun h4 => ?_) (fun h4 => ?_)
          · rw [vstep_on hi (by rw [hw2] at h3; exact ⟨by simpa using h3, by simpa using h4⟩)] at hnext
            refine ⟨by rw [hw]; omega, ?_⟩
            refine ⟨rfl, fun u hu => by simp [Value.cells] at hu; subst hu; rfl, by rw [hw, List.length_append, hg.1]; show 0 + n * 3 + 1 + 1 ≤ _; omega, ?_⟩
            refine ⟨(v + 1, n + 1, pre ++ [⟨y.from_, v, y.inst⟩], cap, sp), inv hlt' (by simp [hpl]) (flat_same span3 ho) hnext (Nat.le_succ_of_le hkn), by show (M - (v + 1)).toNat < (M - v).toNat; omega, [0], rfl, ⟨rfl, vi hw1, trivial⟩, ?_, rfl, rfl, rfl⟩
            exact congrArg (fun c => [Chunk.vals 119 c]) (flat_set span3 pre y ⟨y.from_, v, y.inst⟩ sp (i := 1) (by decide) (by rw [hw, hpl]; show 0 + n * 3 + 1 = _; omega) rfl)
          · rw [vstep_add hi (fun k => by simp at h4; exact h4 k.2)] at hnext
            refine ⟨by show 0 + 1 * 3 ≤ 3; decide, fun u hu => by simp at hu; rcases hu with rfl | rfl | rfl <;> rfl, ?_⟩
            refine ⟨spXs (pre ++ [y]), sp, rfl, hg.1, ⟨hg.2.1, hg.2.2.1, hg.2.2.2⟩, by omega, fun cap2 sp2 k1 k2 k3 => ?_⟩
            refine ⟨(v + 1, n + 1 + 1, pre ++ [y] ++ [⟨v, v, instV v s.l⟩], cap2, sp2), inv hlt' (by simp [hpl]) (by rw [spXs, flat_app]; exact gr_next ho rfl k1 k2 k3) hnext (Nat.succ_le_succ hkn), by show (M - (v + 1)).toNat < (M - v).toNat; omega, [2], rfl, ⟨rfl, vi hw1, trivial⟩, ?_, rfl, rfl, rfl⟩
            exact congrArg (fun c => [Chunk.vals 119 c]) (flat_app2 SpanV.cells (pre ++ [y]) (⟨v, v, instV v s.l⟩ : SpanV) sp2).symm
        · rw [vstep_add hi (fun k => by rw [hw2] at h3; simp at h3; exact h3 k.1)] at hnext
          refine ⟨by show 0 + 1 * 3 ≤ 3; decide, fun u hu => by simp at hu; rcases hu with rfl | rfl | rfl <;> rfl, ?_⟩
          refine ⟨spXs (pre ++ [y]), sp, rfl, hg.1, ⟨hg.2.1, hg.2.2.1, hg.2.2.2⟩, by omega, fun cap2 sp2 k1 k2 k3 => ?_⟩
          refine ⟨(v + 1, n + 1 + 1, pre ++ [y] ++ [⟨v, v, instV v s.l⟩], cap2, sp2), inv hlt' (by simp [hpl]) (by rw [spXs, flat_app]; exact gr_next ho rfl k1 k2 k3) hnext (Nat.succ_le_succ hkn), by show (M - (v + 1)).toNat < (M - v).toNat; omega, [2], rfl, ⟨rfl, vi hw1, trivial⟩, ?_, rfl, rfl, rfl⟩
          exact congrArg (fun c => [Chunk.vals 119 c]) (flat_app2 SpanV.cells (pre ++ [y]) (⟨v, v, instV v s.l⟩ : SpanV) sp2).symm
    · have hl' : (v - 1).toNat = 4094 := by have := of_decide_eq_false hlt; omega
      refine ⟨[0], .inl ⟨pre ++ [y], cap, sp, ?_, ?_, ?_, spanVs_of hl' hm, le_refl g⟩⟩
      · rw [hl]; rfl
      · rw [hl]; rfl
      · rw [hl]; exact ho
theorem spanLeastR_c (s : SliceV SpanV) (g : G) (hs : SpansOk g s) : Meets Tryd.prog 45 [.v (.slice s.a s.l.length s.c)] [] g (fun o L' g' =>
    (∃ r : SliceV SpanV, r.l = spanVs s.l ∧ o = .ret (.v (.slice r.a r.l.length r.c)) ∧ L' = [] ∧ r.ok 3 SpanV.cells (fun _ => True) g' ∧ G.le g g') ∨ False) :=
  Meets.freezeSl 3 SpanV.cells 119 (fun x => x) (fun _ => True) (fun l => l = spanVs s.l) (fun _ _ _ => False) (fun _ _ _ => rfl) (fun _ _ _ _ => trivial) (spanLeastR_b s g hs)

theorem sameSpans_c (s r : SliceV SpanV) (g : G) (hs : s.ok 3 SpanV.cells (fun _ => True) g) (hr : r.ok 3 SpanV.cells (fun _ => True) g) (h : s.l = r.l) : Tells Tryd.prog 44 [.v (.slice s.a s.l.length s.c), .v (.slice r.a r.l.length r.c)] g (.v (.bool true)) := by
  refine meets_of mixedS Tryd.func44 (by kernel_rfl) x44_ok (some []) ?_
  have hlen := hs.len
  refine bsplit_of (fun h0 => absurd h0 (by simp [h])) (fun _ => ?_)
  change LoopW _ _ _ _ _ _ _
  apply loop_rule [] (α := Nat) (fun x => [(13, .v (.int .i64 x))]) (fun _ => []) (fun _ => g) (fun x => x ≤ s.l.length) (fun x => s.l.length - x) 0
  · intro x; kernel_rfl
  · exact Nat.zero_le _
  · exact ⟨rfl, trivial⟩
  · rfl
  · rfl
  intro k hk
  refine bsplit_of (fun hlt => ?_) (fun hlt => ⟨rfl, rfl, rfl⟩)
  have hlt' : k < s.l.length := by have := of_decide_eq_true hlt; omega
  obtain ⟨ad, x, ha, hx, hat, -⟩ := hs.elem (fun _ => rfl) hlt'
  obtain ⟨bd, y, hb, hy, hbt, -⟩ := hr.elem (i := k) (fun _ => rfl) (by rw [← h]; omega)
  obtain rfl : x = y := by rw [h, hy] at hx; cases hx; rfl
  refine ⟨⟨by omega, by omega⟩, ad, ha, ?_⟩
  refine ⟨x.cells, rfl, hat, ?_⟩
  refine ⟨⟨by omega, by rw [← h]; omega⟩, bd, hb, ?_⟩
  refine ⟨x.cells, rfl, hbt, ?_⟩
  refine bsplit_of (fun h1 => absurd h1 ?_) (fun h1 => ?_)
  · simp
  · exact ⟨k + 1, hlt', by omega, [], rfl, ⟨vi (wrap_id (by omega) (by omega)), trivial⟩, rfl, rfl, rfl, rfl⟩

/-- The law RegionRights. -/
theorem regionRights_c (s : SliceV SpanV) (v : Int) (g : G) (hs : SpansOk g s) (_ : iok .i64 v) (hE : ErrVar g) : Meets Tryd.prog 7 [.v (.slice s.a s.l.length s.c), .v (.int .i64 v)] [] g (fun o _ _ => o = .ret (.v (.bool true))) := by
  refine meets_of mixedS Tryd.func7 (by kernel_rfl) x7_ok none ?_
  refine bsplit_of (fun _ => ⟨[], rfl⟩) (fun hlen => ?_)
  have hmax : s.l.length ≤ 1000000000 := by have := of_decide_eq_false hlen; omega
  refine (spanRightR_c s g hs).call rfl rfl rfl ?_
  refine (spanRight_c s g hs).call rfl rfl rfl ?_
  refine bsplit_of (fun h => absurd h (by simp)) (fun _ => ?_)
  refine (spanInst_c s v g hs).call rfl rfl rfl ?_
  refine (spanInstR_c s v g hs).call rfl rfl rfl ?_
  refine bsplit_of (fun h => absurd h (by simp)) (fun _ => ?_)
  by_cases hr : spansP s.l
  · refine (spanLeast_c s g hs hr hmax).call0 rfl rfl 0 rfl ?_
    intro o L1 g1 hq
    obtain ⟨r1, e1, rfl, rfl, ok1, le1⟩ := hq.resolve_right id
    refine bsplit_of (fun h => absurd h (by simp [hr])) (fun _ => ?_)
    have hs1 : SpansOk g1 s := SliceV.ok.mono hs le1 fun _ h => h
    refine (spanLeastR_c s g1 hs1).call0 rfl rfl 0 rfl ?_
    intro o L1 g2 hq
    obtain ⟨r2, e2, rfl, rfl, ok2, le2⟩ := hq.resolve_right id
    refine (sameSpans_c r1 r2 g2 (SliceV.ok.mono ok1 le2 fun _ h => h) ok2 (by rw [e1, e2, spanVs, spans_same hr])).call rfl rfl rfl ?_
    exact ⟨[], rfl⟩
  · refine (spanLeast_bad s g hs hr).call rfl rfl rfl ?_
    refine bsplit_of (fun _ => ?_) (fun h => absurd h (by simp [hr]))
    refine (bare_c _ 1 (-1) 1 g hE (.bare 1)).call rfl rfl rfl ?_
    exact ⟨[], rb (by simp)⟩
end Go.Proofs.YtfagdcpfebghoaaDoor
