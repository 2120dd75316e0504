/- region.Table and its reference: what each returns. Conditions: not more than 60 spans. -/
import Derived.Test.YtdbkceojpeboeaaDoorSpanC
import Derived.Test.YtdbkceojpeboeaaDoorStrBC
import Derived.Test.YtdbkceojpeboeaaDoorMdP
namespace Go.Proofs.YtdbkceojpeboeaaDoor
open Go.Sx Go.Lib
set_option maxRecDepth 100000
set_option maxHeartbeats 8000000
attribute [local irreducible] Meets
attribute [local instance] Classical.propDecidable

/-! ### Plain -/
def tabS (l : List SpanV) : Nat → ByteArray
  | 0 => emp
  | n + 1 => tabS l n ++ beS 2 (instV (n : Int) l).toNat
theorem tabS_size (l : List SpanV) : ∀ n, (tabS l n).size = 2 * n
  | 0 => rfl
  | n + 1 => by rw [tabS, ByteArray.size_append, tabS_size l n, beS_size]; omega
theorem tabS_succ (l : List SpanV) (n : Nat) : tabS l n ++ beS 2 (instV (n : Int) l).toNat = tabS l (n + 1) := rfl
theorem tabS_one (l : List SpanV) : tabS l (0 + 1) = beS 2 (instV (0 : Int) l).toNat := by
  show ByteArray.empty ++ _ = _
  rw [ByteArray.empty_append]; rfl
theorem instV_rng {v : Int} : ∀ {l : List SpanV}, (∀ x ∈ l, 0 ≤ x.inst ∧ x.inst ≤ 64) → 0 ≤ instV v l ∧ instV v l ≤ 64
  | [], _ => ⟨Int.le_refl _, (by decide : (0 : Int) ≤ 64)⟩
  | x :: l, h => by
    rw [instV]
    split
    · exact h x (by simp)
    · exact instV_rng fun y hy => h y (by simp [hy])
theorem spans_rng {l : List SpanV} (h : spansP l) (v : Int) : 0 ≤ instV v l ∧ instV v l ≤ 64 := instV_rng fun x hx => by
  obtain ⟨i, hi, rfl⟩ := List.getElem_of_mem hx
  exact ⟨(h i _ (List.getElem?_eq_getElem hi)).2.2.2.1, (h i _ (List.getElem?_eq_getElem hi)).2.2.2.2⟩
theorem instV_snoc {v : Int} {x : SpanV} (h : hasV v x = false) : ∀ a : List SpanV, instV v (a ++ [x]) = instV v a
  | [] => by show instV v [x] = 0; rw [instV, if_neg (by rw [h]; decide)]; rfl
  | y :: a => by rw [List.cons_append, instV, instV, instV_snoc h a]
theorem to_le {l : List SpanV} (h : spansP l) : ∀ (k i : Nat) (y : SpanV), i < k → l[i]? = some y → k ≤ l.length → y.to ≤ lastTo l k
  | 0, i, _, hi, _, _ => absurd hi (by omega)
  | k + 1, i, y, hi, hy, hk => by
    have hx : l[k]? = some l[k] := List.getElem?_eq_getElem (by omega)
    rw [lastTo_succ hx]
    by_cases hik : i = k
    · subst hik; rw [hx] at hy; cases hy; exact Int.le_refl _
    · have h1 := to_le h k i y (by omega) hy (by omega)
      have h2 := h k _ hx
      have h3 := h2.1
      have h4 := h2.2.1
      omega
theorem inst_fill {l : List SpanV} (h : spansP l) {k : Nat} {x : SpanV} (hx : l[k]? = some x) (v : Int) : (if x.from_ ≤ v ∧ v < x.to + 1 then x.inst else instV v (l.take k)) = instV v (l.take (k + 1)) := by
  have hk := (List.getElem?_eq_some_iff.1 hx).1
  by_cases hv : x.from_ ≤ v ∧ v ≤ x.to
  · rw [if_pos ⟨hv.1, by omega⟩]
    refine (instV_hit (k := k) (x := x) ?_ (by rw [hasV]; exact decide_eq_true hv) fun i y hi hy => ?_).symm
    · rw [List.getElem?_take_of_lt (by omega)]; exact hx
    · rw [List.getElem?_take_of_lt (by omega)] at hy
      have h1 := to_le h k i y hi hy (by omega)
      have h2 := (h k x hx).1
      rw [hasV, decide_eq_false_iff_not]; omega
  · rw [if_neg (by omega), List.take_add_one, hx]
    exact (instV_snoc (by rw [hasV, decide_eq_false_iff_not]; exact hv) _).symm
theorem vF_congr {M : Nat} {F F' : Nat → Value} (h : ∀ q, q < M → F q = F' q) : vF M F = vF M F' := by
  unfold vF
  exact List.map_congr_left fun q hq => h q (List.mem_range.1 hq)
theorem vF_zero (M : Nat) : List.replicate M (Value.int .i64 0) = vF M fun q => .int .i64 (instV (q : Int) []) := by
  apply List.ext_getElem?
  intro i
  by_cases h : i < M
  · rw [vF_get h, List.getElem?_replicate, if_pos h]; rfl
  · rw [List.getElem?_eq_none (by rw [List.length_replicate]; omega), List.getElem?_eq_none (by rw [vF_len]; omega)]
def tabF (l : List SpanV) (q : Nat) : Value := .int .i64 (instV (q : Int) l)
def tabG (x : SpanV) (w : Int) (l : List SpanV) (q : Nat) : Value := .int .i64 (if x.from_ ≤ (q : Int) ∧ (q : Int) < w then x.inst else instV (q : Int) l)
attribute [local irreducible] tabS vF
def bld_ (a : Nat) (u : ByteArray) (cap : Nat) (b : Nat) : Chunk := .cells 49 [.ptr a 0, .slc b 0 u.size cap]
def bldZ : Chunk := .cells 49 [.v (.pointer none), .v (.slice none 0 0)]
abbrev TabSt := Int × Nat × Nat × List Value
theorem offI (v : Int) (k : Nat) (h : v = k) : 0 + v.toNat * 1 = k := by omega

theorem spanTable_c (s : SliceV SpanV) (g : G) (hs : SpansOk g s) (hr : spansP s.l) : Meets Tryd.prog 13 [.v (.slice s.a s.l.length s.c)] [] g (fun o L' g' => o = .ret (.v (.string (tabS s.l 4096))) ∧ L' = [] ∧ g' = g) := by
  obtain ⟨M, hM⟩ : ∃ M : Nat, M = 4096 := ⟨_, rfl⟩
  obtain ⟨R, hR⟩ : ∃ R, tabS s.l 4096 = R := ⟨_, rfl⟩
  rw [hR]
  rw [← hM] at hR
  refine meets_of mixedS Tryd.func13 (by kernel_rfl) x13_ok (some []) ?_
  change LoopW _ _ _ _ _ _ _ _ _ _
  refine loop_gone ?_
  apply loop_rule [1] (α := TabSt) (fun y => [(5, .v (.int .i64 y.1))]) (fun y => match y.2.1 with
      | 0 => [bldZ, .gone]
      | k + 1 => [bld_ 0 (tabS s.l (k + 1)) y.2.2.1 1, .vals 5 (strCells (tabS s.l (k + 1)) ++ y.2.2.2)]) (fun _ => g)
    (fun y => y.1 = y.2.1 ∧ y.2.1 ≤ M ∧ (0 < y.2.1 → (tabS s.l y.2.1).size + y.2.2.2.length = y.2.2.1 ∧ y.2.2.1 ≤ 9223372036854775807)) (fun y => M - y.2.1) (0, 0, 0, [])
  · intro x
    obtain ⟨v, k, cap, sp⟩ := x
    cases k <;> kernel_rfl
  · exact ⟨rfl, Nat.zero_le _, fun h => absurd h (by decide)⟩
  · exact ⟨rfl, trivial⟩
  · rfl
  · rfl
  rintro ⟨v, k, cap, sp⟩ ⟨hv, hk, hc⟩
  have hv : v = k := hv
  have hk : k ≤ M := hk
  have hc : 0 < k → (tabS s.l k).size + sp.length = cap ∧ cap ≤ 9223372036854775807 := hc
  have hi := spans_rng hr v
  have hwv : IntKind.i64.wrap (v + 1) = v + 1 := wrap_id (by omega) (by omega)
  have hsz := tabS_size s.l k
  rcases k with _ | k
  · have hv0 : v = 0 := hv
    refine bsplit_of (fun (hlt : decide (v < 4096) = true) => ?_) (fun (hlt : decide (v < 4096) = false) => absurd (of_decide_eq_false hlt) (by omega))
    refine (spanInstR_c s v g hs).call rfl rfl rfl ?_
    refine (beG (instV v s.l) 2 g (by decide) hi.1 (by omega)).call rfl rfl rfl ?_
    refine (write0 (beS 2 (instV v s.l).toNat) g (by rw [beS_size]; decide) (by rw [beS_size]; decide)).callS [0] 2 rfl rfl rfl rfl ?_
    rintro o L1 g' ⟨cap, sp, hc1, rfl, rfl, rfl⟩ _
    have e4 : tabS s.l (0 + 1) = beS 2 (instV v s.l).toNat := by rw [tabS_one, hv0]
    refine ⟨(v + 1, 1, cap, sp), ⟨by show v + 1 = ((1 : Nat) : Int); omega, by show 1 ≤ M; omega, fun _ => by show (tabS s.l (0 + 1)).size + _ = _ ∧ _; rw [e4]; exact hc1⟩, by show M - 1 < M - 0; omega, [0, 2], rfl, ⟨vi hwv, trivial⟩, ?_, rfl, rfl, rfl⟩
    show _ = ([.cells 49 [.ptr 0 0, .slc 2 0 (tabS s.l (0 + 1)).size cap], .vals 5 (strCells (tabS s.l (0 + 1)) ++ sp)] : List Chunk)
    rw [e4]
    rfl
  · have hc := hc (by omega)
    refine bsplit_of (fun (hlt : decide (v < 4096) = true) => ?_) (fun (hlt : decide (v < 4096) = false) => ?_)
    · have hlt := of_decide_eq_true hlt
      refine (spanInstR_c s v g hs).call rfl rfl rfl ?_
      refine (beG (instV v s.l) 2 g (by decide) hi.1 (by omega)).call rfl rfl rfl ?_
      have e5 : tabS s.l (k + 1) ++ beS 2 (instV v s.l).toNat = tabS s.l (k + 1 + 1) := by rw [hv]; exact tabS_succ s.l (k + 1)
      have hcall := write1E (tabS s.l (k + 1)) (beS 2 (instV v s.l).toNat) (tabS s.l (k + 1 + 1)) e5 cap sp g hc.1 hc.2 (by rw [beS_size, hsz]; omega)
      refine hcall.callS [0, 1] 2 rfl rfl rfl rfl ?_
      rintro o L1 g' ⟨cap, sp, hc1, rfl, rfl, rfl⟩ _
      exact ⟨(v + 1, k + 1 + 1, cap, sp), ⟨by show v + 1 = ((k + 1 + 1 : Nat) : Int); omega, by show k + 1 + 1 ≤ M; omega, fun _ => hc1⟩, by show M - (k + 1 + 1) < M - (k + 1); omega, [0, 2], rfl, ⟨vi hwv, trivial⟩, rfl, rfl, rfl, rfl⟩
    · have hlt := of_decide_eq_false hlt
      have hkM : k + 1 = M := by omega
      refine (string1 (tabS s.l (k + 1)) cap sp g (by omega) hc.1 (by omega)).callS [0, 1] 2 rfl rfl rfl rfl ?_
      rintro o L1 g' ⟨rfl, ⟨ob, rfl⟩, rfl⟩ _
      refine ⟨rs ?_, rfl, rfl⟩
      rw [← hR, hkM]
end Go.Proofs.YtdbkceojpeboeaaDoor
