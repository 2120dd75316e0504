/- region.Table, Digest, the reference's SpanDigest, the law RegionMarks. Conditions: of the law: the variable errors.errorType is as laid. -/
import Derived.Test.YtdbkceojpeboeaaDoorRgA
import Derived.Test.YtdbkceojpeboeaaDoorMdF
namespace Go.Proofs.YtdbkceojpeboeaaDoor
open Go.Sx Go.Lib
set_option maxRecDepth 100000
set_option maxHeartbeats 8000000
attribute [local irreducible] Meets tabS vF
attribute [local instance] Classical.propDecidable

theorem table_bad (s : SliceV SpanV) (g : G) (hs : SpansOk g s) (hr : ¬ spansP s.l) : Tells Tryd.prog 9 [.v (.slice s.a s.l.length s.c)] g (.tup [.v (.string emp), .v (errW 1)]) := by
  refine meets_of mixedS Tryd.func9 (by kernel_rfl) x9_ok (some []) ?_
  refine (spanRight_c s g hs).call rfl rfl rfl ?_
  refine bsplit_of (fun _ => ⟨rfl, rfl, rfl⟩) (fun h0 => absurd h0 (by simp [hr]))
theorem table_c (s : SliceV SpanV) (g : G) (hs : SpansOk g s) (hr : spansP s.l) (hmax : s.l.length ≤ 60) : Meets Tryd.prog 9 [.v (.slice s.a s.l.length s.c)] [] g (fun o L' g' => o = .ret (.tup [.v (.string (tabS s.l 4096)), .v .nilIface]) ∧ L' = [] ∧ g' = g) := by
  obtain ⟨M, hM⟩ : ∃ M : Nat, M = 4096 := ⟨_, rfl⟩
  obtain ⟨R, hR⟩ : ∃ R, tabS s.l 4096 = R := ⟨_, rfl⟩
  have hZ : List.replicate ((4096 : Int)).toNat (Value.int .i64 0) = vF M (tabF (s.l.take 0)) := by
    rw [hM]; exact vF_zero 4096
  rw [hR]
  rw [← hM] at hR
  refine meets_of mixedS Tryd.func9 (by kernel_rfl) x9_ok (some []) ?_
  refine (spanRight_c s g hs).call rfl rfl rfl ?_
  refine bsplit_of (fun h0 => absurd h0 (by simp [hr])) (fun _ => ?_)
  refine prim_makeC (t := 44) (e := 3) (i := Tryd.t3) (z := .int .i64 0) (zv := .int .i64 0) 0 rfl (by kernel_rfl) (by kernel_rfl) (by kernel_rfl) rfl rfl rfl ⟨by decide, by decide, by decide, by decide⟩ _ hZ ?_
  change LoopW _ _ _ _ _ _ _ _ _ _
  apply loop_rule [] (α := Nat) (fun k => [(18, .v (.int .i64 k))]) (fun k => [.vals 3 (vF M (tabF (s.l.take k)))]) (fun _ => g) (fun k => k ≤ s.l.length) (fun k => s.l.length - k) 0
  · intro x; kernel_rfl
  · exact Nat.zero_le _
  · exact ⟨rfl, trivial⟩
  · rfl
  · rfl
  intro k hk
  refine bsplit_of (fun (hlt : decide ((k : Int) < (s.l.length : Int)) = true) => ?_) (fun (hlt : decide ((k : Int) < (s.l.length : Int)) = false) => ?_)
  · have hlt' : k < s.l.length := by have := of_decide_eq_true hlt; omega
    obtain ⟨ad, x, ha, hx, hat, hxok⟩ := hs.elem (fun _ => rfl) hlt'
    have hP := hr k x hx
    have h0 : 0 ≤ lastTo s.l k := lastTo_pos fun i y _ hy => hr i y hy
    obtain ⟨p1, p2, p3, p4, p5⟩ := hP
    refine ⟨⟨by omega, by omega⟩, ad, ha, ?_⟩
    refine ⟨x.cells, rfl, hat, ?_⟩
    change LoopW _ _ _ _ _ _ _ _ _ _
    apply loop_rule [] (α := Int) (fun w => [(7, .v (.int .i64 w))]) (fun w => [.vals 3 (vF M (tabG x w (s.l.take k))), .cells 46 (x.cells.map .v)]) (fun _ => g) (fun w => x.from_ ≤ w ∧ w ≤ x.to + 1) (fun w => (x.to + 1 - w).toNat) x.from_
    · intro x; kernel_rfl
    · exact ⟨Int.le_refl _, by omega⟩
    · exact ⟨rfl, trivial⟩
    · have e : vF M (tabF (s.l.take k)) = vF M (tabG x x.from_ (s.l.take k)) := vF_congr fun q _ => by rw [tabF, tabG, if_neg (by omega)]
      rw [e]
      rfl
    · rfl
    rintro w ⟨hw1, hw2⟩
    refine bsplit_of (fun (hlt : decide (w ≤ x.to) = true) => ?_) (fun (hlt : decide (w ≤ x.to) = false) => ?_)
    · have hle := of_decide_eq_true hlt
      obtain ⟨q, hq⟩ : ∃ q : Nat, w = q := ⟨w.toNat, by omega⟩
      have hqM : q < M := by omega
      have ht : w.toNat = q := by omega
      refine ⟨⟨by show (0 : Int) ≤ w; omega, by show w < ((4096 : Nat) : Int); omega⟩, ?_⟩
      refine ⟨rfl, fun u hu => by simp [Value.cells] at hu; subst hu; rfl, show 0 + w.toNat * 1 + 1 ≤ (vF M (tabG x w (s.l.take k))).length from by rw [vF_len]; omega, ?_⟩
      refine ⟨w + 1, ⟨by omega, by omega⟩, by show (x.to + 1 - (w + 1)).toNat < (x.to + 1 - w).toNat; omega, [0, 1], rfl, ⟨vi (wrap_id (by omega) (by omega)), trivial⟩, ?_, rfl, rfl, rfl⟩
      refine congrArg (fun c => [Chunk.vals 3 c, .cells 46 (x.cells.map .v)]) ?_
      rw [offI w q hq]
      refine vF_set hqM (fun r hr => ?_) ?_
      · unfold tabG
        by_cases h1 : x.from_ ≤ (r : Int) ∧ (r : Int) < w
        · rw [if_pos h1, if_pos ⟨h1.1, by omega⟩]
        · rw [if_neg h1, if_neg (by omega)]
      · unfold tabG
        rw [if_pos ⟨by omega, by omega⟩]
    · have hle := of_decide_eq_false hlt
      have hw : w = x.to + 1 := by omega
      subst hw
      refine ⟨k + 1, hlt', by show s.l.length - (k + 1) < s.l.length - k; omega, [0], rfl, ⟨vi (show IntKind.i64.wrap ((k : Int) + 1) = ((k + 1 : Nat) : Int) from by rw [wrap_id (by omega) (by omega)]; omega), trivial⟩, ?_, rfl, rfl, rfl⟩
      have e : vF M (tabG x (x.to + 1) (s.l.take k)) = vF M (tabF (s.l.take (k + 1))) := vF_congr fun q _ => by
        rw [tabF, tabG, inst_fill hr hx]
      show [Chunk.vals 3 (vF M (tabG x (x.to + 1) (s.l.take k)))] = _
      rw [e]
      rfl
  have hkl : k = s.l.length := by have := of_decide_eq_false hlt; omega
  subst hkl
  rw [List.take_length]
  change LoopW _ _ _ _ _ _ _ _ _ _
  refine loop_gone ?_
  apply loop_rule [2] (α := TabSt) (fun y => [(38, .v (.int .i64 y.1))]) (fun y => match y.2.1 with
      | 0 => [.vals 3 (vF M (tabF s.l)), bldZ, .gone]
      | k + 1 => [.vals 3 (vF M (tabF s.l)), bld_ 1 (tabS s.l (k + 1)) y.2.2.1 2, .vals 5 (strCells (tabS s.l (k + 1)) ++ y.2.2.2)]) (fun _ => g)
    (fun y => y.1 = y.2.1 ∧ y.2.1 ≤ M ∧ (0 < y.2.1 → (tabS s.l y.2.1).size + y.2.2.2.length = y.2.2.1 ∧ y.2.2.1 ≤ 9223372036854775807)) (fun y => M - y.2.1) (0, 0, 0, [])
  · intro x
    obtain ⟨v, k, cap, sp⟩ := x
    cases k <;> kernel_rfl
  · exact ⟨rfl, Nat.zero_le _, fun h => absurd h (by decide)⟩
  · exact ⟨rfl, trivial⟩
  · rfl
  · rfl
  rintro ⟨v, k, cap, sp⟩ ⟨hv, hk, hc⟩
  have hv : v = k := hv
  have hk : k ≤ M := hk
  have hc : 0 < k → (tabS s.l k).size + sp.length = cap ∧ cap ≤ 9223372036854775807 := hc
  have hi := spans_rng hr v
  have hwv : IntKind.i64.wrap (v + 1) = v + 1 := wrap_id (by omega) (by omega)
  have hsz := tabS_size s.l k
  have hcell : v < 4096 → (vF M (tabF s.l))[0 + v.toNat * 1]? = some (.int .i64 (instV v s.l)) := fun h => by
    rw [offI v k hv, vF_get (by omega), tabF, hv]
  have h256 : ((256 ^ 2 : Nat) : Int) = 65536 := by decide
  rcases k with _ | k
  · have hv0 : v = 0 := hv
    refine bsplit_of (fun (hlt : decide (v < ((4096 : Nat) : Int)) = true) => ?_) (fun (hlt : decide (v < ((4096 : Nat) : Int)) = false) => absurd (of_decide_eq_false hlt) (by omega))
    refine ⟨⟨by show (0 : Int) ≤ v; omega, by show v < ((4096 : Nat) : Int); omega⟩, ?_⟩
    refine load1_at (hcell (by omega)) ?_
    refine (mustG (instV v s.l) 2 g (by decide) (by decide) hi.1 (by rw [h256]; omega) (by omega)).call rfl rfl rfl ?_
    refine (write0 (beS 2 (instV v s.l).toNat) g (by rw [beS_size]; decide) (by rw [beS_size]; decide)).callS [1] 3 rfl rfl rfl rfl ?_
    rintro o L1 g' ⟨cap, sp, hc1, rfl, rfl, rfl⟩ _
    have e4 : tabS s.l (0 + 1) = beS 2 (instV v s.l).toNat := by rw [tabS_one, hv0]
    refine ⟨(v + 1, 1, cap, sp), ⟨by show v + 1 = ((1 : Nat) : Int); omega, by show 1 ≤ M; omega, fun _ => by show (tabS s.l (0 + 1)).size + _ = _ ∧ _; rw [e4]; exact hc1⟩, by show M - 1 < M - 0; omega, [0, 1, 3], rfl, ⟨vi hwv, trivial⟩, ?_, rfl, rfl, rfl⟩
    show _ = ([.vals 3 (vF M (tabF s.l)), .cells 49 [.ptr 1 0, .slc 3 0 (tabS s.l (0 + 1)).size cap], .vals 5 (strCells (tabS s.l (0 + 1)) ++ sp)] : List Chunk)
    rw [e4]
    rfl
  · have hc := hc (by omega)
    refine bsplit_of (fun (hlt : decide (v < ((4096 : Nat) : Int)) = true) => ?_) (fun (hlt : decide (v < ((4096 : Nat) : Int)) = false) => ?_)
    · have hlt := of_decide_eq_true hlt
      refine ⟨⟨by show (0 : Int) ≤ v; omega, by show v < ((4096 : Nat) : Int); omega⟩, ?_⟩
      refine load1_at (hcell (by omega)) ?_
      refine (mustG (instV v s.l) 2 g (by decide) (by decide) hi.1 (by rw [h256]; omega) (by omega)).call rfl rfl rfl ?_
      have e5 : tabS s.l (k + 1) ++ beS 2 (instV v s.l).toNat = tabS s.l (k + 1 + 1) := by rw [hv]; exact tabS_succ s.l (k + 1)
      have hcall := write1E (tabS s.l (k + 1)) (beS 2 (instV v s.l).toNat) (tabS s.l (k + 1 + 1)) e5 cap sp g hc.1 hc.2 (by rw [beS_size, hsz]; omega)
      refine hcall.callS [1, 2] 3 rfl rfl rfl rfl ?_
      rintro o L1 g' ⟨cap, sp, hc1, rfl, rfl, rfl⟩ _
      exact ⟨(v + 1, k + 1 + 1, cap, sp), ⟨by show v + 1 = ((k + 1 + 1 : Nat) : Int); omega, by show k + 1 + 1 ≤ M; omega, fun _ => hc1⟩, by show M - (k + 1 + 1) < M - (k + 1); omega, [0, 1, 3], rfl, ⟨vi hwv, trivial⟩, rfl, rfl, rfl, rfl⟩
    · have hlt := of_decide_eq_false hlt
      have hkM : k + 1 = M := by omega
      refine (string1 (tabS s.l (k + 1)) cap sp g (by omega) hc.1 (by omega)).callS [1, 2] 3 rfl rfl rfl rfl ?_
      rintro o L1 g' ⟨rfl, ⟨ob, rfl⟩, rfl⟩ _
      refine ⟨?_, rfl, rfl⟩
      rw [← hR, hkM]
      rfl
def keyB : ByteArray := ⟨#[19, 172, 6, 166, 46, 71, 253, 81, 249, 93, 43, 162, 67, 205, 3, 70]⟩
theorem digest_bad (s : SliceV SpanV) (g : G) (hs : SpansOk g s) (hr : ¬ spansP s.l) : Tells Tryd.prog 10 [.v (.slice s.a s.l.length s.c)] g (.tup [.v (.string emp), .v (errW 1)]) := by
  refine meets_of mixedS Tryd.func10 (by kernel_rfl) x10_ok (some []) ?_
  refine (table_bad s g hs hr).call rfl rfl rfl ?_
  exact ⟨rfl, rfl, rfl⟩
theorem digest_c (s : SliceV SpanV) (g : G) (hs : SpansOk g s) (hr : spansP s.l) (hmax : s.l.length ≤ 60) (T : ByteArray) (hT : tabS s.l 4096 = T) : Meets Tryd.prog 10 [.v (.slice s.a s.l.length s.c)] [] g (fun o L' g' => o = .ret (.tup [.v (.string (mdHmac keyB T)), .v .nilIface]) ∧ L' = [] ∧ G.le g g') := by
  subst hT
  have hz : (tabS s.l 4096).size ≤ 9000 := by rw [tabS_size]; decide
  refine meets_of mixedS Tryd.func10 (by kernel_rfl) x10_ok (some []) ?_
  refine (table_c s g hs hr hmax).call0 rfl rfl 0 rfl ?_
  rintro o L1 g1 ⟨rfl, rfl, rfl⟩
  refine (mdHmac_c keyB (tabS s.l 4096) (by decide) hz _).call0 rfl rfl 0 rfl ?_
  rintro o L1 g2 ⟨rfl, rfl, hle⟩
  exact ⟨rfl, rfl, hle⟩
theorem digestR_c (s : SliceV SpanV) (g : G) (hs : SpansOk g s) (hr : spansP s.l) (T : ByteArray) (hT : tabS s.l 4096 = T) : Meets Tryd.prog 14 [.v (.slice s.a s.l.length s.c)] [] g (fun o L' g' => o = .ret (.v (.string (mdHmac keyB T))) ∧ L' = [] ∧ G.le g g') := by
  subst hT
  have hz : (tabS s.l 4096).size ≤ 9000 := by rw [tabS_size]; decide
  refine meets_of mixedS Tryd.func14 (by kernel_rfl) x14_ok (some []) ?_
  refine (spanTable_c s g hs hr).call0 rfl rfl 0 rfl ?_
  rintro o L1 g1 ⟨rfl, rfl, rfl⟩
  refine (hmRef_c keyB (tabS s.l 4096) (by decide) hz _).call0 rfl rfl 0 rfl ?_
  rintro o L1 g2 ⟨rfl, rfl, hle⟩
  exact ⟨rfl, rfl, hle⟩
theorem SpansOk.mono {g g' : G} {s : SliceV SpanV} (h : SpansOk g s) (hle : G.le g g') : SpansOk g' s := SliceV.ok.mono h hle fun _ h => h
end Go.Proofs.YtdbkceojpeboeaaDoor
