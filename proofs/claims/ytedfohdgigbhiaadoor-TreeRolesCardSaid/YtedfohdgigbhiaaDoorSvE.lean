/- ref.Costs: what it returns. Conditions: the slices lie where they say; nothing is wrong with the net. -/
import Derived.Test.YtedfohdgigbhiaaDoorSvD
namespace Go.Proofs.YtedfohdgigbhiaaDoor
open Go.Sx Go.Lib
set_option maxRecDepth 100000
set_option maxHeartbeats 8000000
attribute [local irreducible] Meets
attribute [local instance] Classical.propDecidable

/-- How the matrix stands in the middle of a phase. -/
def mid (d : Nat → Nat → Int) (m i k : Nat) (i' k' : Nat) : Int := if i' < i ∨ (i' = i ∧ k' < k) then phi m d i' k' else d i' k'
theorem mid_col {d : Nat → Nat → Int} {ps : Nat → List MemberV} {n m0 : Nat} {B : Int} (W : Ways ps n m0 B d) {m : Nat} (hm : m < n) (i k : Nat) {i' : Nat} (hi : i' < n) : mid d m i k i' m = d i' m := by
  have h1 := W.diag m hm
  have h2 := W.pos i' m hi hm
  unfold mid
  split
  · unfold phi minI; rw [h1]; split <;> omega
  · rfl
theorem mid_row {d : Nat → Nat → Int} {ps : Nat → List MemberV} {n m0 : Nat} {B : Int} (W : Ways ps n m0 B d) {m : Nat} (hm : m < n) (i k : Nat) {k' : Nat} : mid d m i k m k' = d m k' := by
  have h1 := W.diag m hm
  unfold mid
  split
  · unfold phi minI; rw [h1]; split <;> omega
  · rfl
theorem mid_at (d : Nat → Nat → Int) (m i k : Nat) : mid d m i k i k = d i k := if_neg (by omega)
theorem mid_next (d : Nat → Nat → Int) (m i k : Nat) (x : Int) (hx : x = phi m d i k) : updF (mid d m i k i) k x = mid d m i (k + 1) i := by
  funext j
  unfold updF mid
  by_cases hj : j = k
  · subst hj; rw [if_pos rfl, if_pos (by omega), hx]
  · rw [if_neg hj]
    by_cases h : j < k
    · rw [if_pos (by omega), if_pos (by omega)]
    · rw [if_neg (by omega), if_neg (by omega)]
theorem mid_else (d : Nat → Nat → Int) (m i k : Nat) (j : Nat) (hj : j ≠ i) : mid d m i (k + 1) j = mid d m i k j := by
  funext k'
  unfold mid
  by_cases h : j < i
  · rw [if_pos (.inl h), if_pos (.inl h)]
  · rw [if_neg (by omega), if_neg (by omega)]

theorem costs_c (s : SliceV NodeV) (g : G) (hs : NodesOk g s) (N : NetOk s.l) : Meets Tryd.prog 63 [.v (.slice s.a s.l.length s.c)] [] g (fun o L' g' => ∃ (aa : Nat → Nat) (H : G), o = .ret (.slc 0 0 s.l.length s.l.length) ∧ L' = [.vals 137 (outC s.l.length aa s.l.length), .fam H] ∧ Rows H aa s.l.length s.l.length (fw (eM s.l) s.l.length) ∧ g' = g) := by
  refine meets_ofFJ mixedS Tryd.func63 (by kernel_rfl) x63_ok none ?_
  have hfew := N.few
  have W0 := eM_ways N
  have hlen := hs.len
  refine prim_makeC (t := 44) (e := 137) (i := Tryd.t137) (z := .slice none 0 0) (zv := .slice none 0 0) 0 rfl (by kernel_rfl) (by kernel_rfl) (by kernel_rfl) rfl rfl rfl ⟨by omega, by omega, (show (24 : Int) * (s.l.length : Int) ≤ 281474976710656 from by omega), by omega⟩ (outC s.l.length (fun _ => 0) 0) (outC_zero _ _) ?_
  refine turn_famNew ?_
  change LoopW _ _ _ _ _ _ _ _ _ _
  apply loop_rule [] (α := Nat × (Nat → Nat) × (Nat → Nat → Int) × G) (fun y => [(18, .v (.int .i64 y.1))]) (fun y => [.vals 137 (outC s.l.length y.2.1 y.1), .fam y.2.2.2]) (fun _ => g)
    (fun y => y.1 ≤ s.l.length ∧ Rows y.2.2.2 y.2.1 s.l.length y.1 y.2.2.1 ∧ ∀ i k, i < y.1 → k < s.l.length → y.2.2.1 i k = eM s.l i k) (fun y => s.l.length - y.1) (0, (fun _ => 0), (fun _ _ => 0), G.none)
  · intro x; kernel_rfl
  · exact ⟨Nat.zero_le _, .zero _ _ _, fun i k hi => by omega⟩
  · exact ⟨rfl, trivial⟩
  · rfl
  · rfl
  rintro ⟨i, aa, D, H⟩ ⟨hi, hR, hD⟩
  have hi : i ≤ s.l.length := hi
  have hR : Rows H aa s.l.length i D := hR
  have hD : ∀ i' k, i' < i → k < s.l.length → D i' k = eM s.l i' k := hD
  refine bsplit_of (fun hlt => ?_) (fun hlt => ?_)
  · have hil : i < s.l.length := by have := of_decide_eq_true hlt; omega
    obtain ⟨adi, ni, hai, hni, hati, hniok⟩ := hs.elem (fun _ => rfl) hil
    have hpi := N.ports ni (List.mem_of_getElem? hni)
    refine prim_makeC (t := 137) (e := 3) (i := Tryd.t3) (z := .int .i64 0) (zv := .int .i64 0) 2 rfl (by kernel_rfl) (by kernel_rfl) (by kernel_rfl) rfl rfl rfl ⟨by omega, by omega, (show (8 : Int) * (s.l.length : Int) ≤ 281474976710656 from by omega), by omega⟩ (rowI s.l.length fun _ => 0) (rowI_zero _) ?_
    refine turn_famIn 2 1 3 (rowI s.l.length fun _ => 0) H (.inl rfl) rfl (fun b hb hgb => ?_)
    refine ⟨⟨by omega, by omega⟩, ?_⟩
    refine ⟨rfl, fun u hu => by simp [Value.cells] at hu; subst hu; rfl, by rw [off1, outC_len]; omega, ?_⟩
    refine turn_same ?_
    change LoopW _ _ _ _ _ _ _ _ _ _
    apply loop_rule [] (α := Nat × (Nat → Int)) (fun y => [(29, .v (.int .i64 y.1))]) (fun y => [.vals 137 (outC s.l.length (updA aa i b) (i + 1)), .fam (H.put b (rowO s.l.length y.2)), .gone]) (fun _ => g)
      (fun y => y.1 ≤ s.l.length ∧ ∀ k, k < y.1 → y.2 k = eR s.l i k) (fun y => s.l.length - y.1) (0, fun _ => 0)
    · intro x; kernel_rfl
    · exact ⟨Nat.zero_le _, fun k hk => by omega⟩
    · exact ⟨rfl, trivial⟩
    · have e := outC_next (b := b) (aa := aa) hil
      rw [← off1 i] at e
      exact congrArg (fun c => [Chunk.vals 137 c, .fam (H.put b (rowO s.l.length fun _ => 0)), .gone]) (by rw [off1] at e ⊢; exact e)
    · rfl
    rintro ⟨k, x⟩ ⟨hk, hx⟩
    have hk : k ≤ s.l.length := hk
    have hx : ∀ k', k' < k → x k' = eR s.l i k' := hx
    have hout : (outC s.l.length (updA aa i b) (i + 1))[0 + ((i : Nat) : Int).toNat * 1]? = some (.slice (some ⟨b, 0, none⟩) s.l.length s.l.length) := by
      rw [off1, outC_get hil (by omega), updA, if_pos rfl]
    refine bsplit_of (fun hlt2 => ?_) (fun hlt2 => ?_)
    · have hkl : k < s.l.length := by have := of_decide_eq_true hlt2; omega
      obtain ⟨adk, nk, hak, hnk, hatk, hnkok⟩ := hs.elem (fun _ => rfl) hkl
      have hpk := N.ports nk (List.mem_of_getElem? hnk)
      refine ⟨⟨by omega, by omega⟩, ?_⟩
      refine load1_at hout ?_
      refine ⟨⟨by omega, by omega⟩, ⟨b, 0, none⟩, rfl, ?_⟩
      change famStore _ _ _ _ _ _ _
      refine famStore_of 1 (addr1 b k) rfl G.put_self rfl ⟨rfl, fun u hu => by simp [Value.cells] at hu; subst hu; rfl⟩ (by rw [rowI_len]; omega) ?_
      refine ⟨⟨by omega, by omega⟩, adi, hai, ?_⟩
      refine ⟨[.slice ni.ports.a ni.ports.l.length ni.ports.c], rfl, .inl (hati.sub 8 1 (Nat.le_of_ble_eq_true rfl)), ?_⟩
      obtain ⟨ps, hps⟩ : ∃ ps, ni.ports.l = ps := ⟨_, rfl⟩
      have hpsL : psL s.l i = ps := (psL_at hni).trans hps
      have hqsL : psL s.l k = nk.ports.l := psL_at hnk
      change LoopW _ _ _ _ _ _ _ _ _ _
      apply loop_rule [] (α := Nat × Int) (fun y => [(44, .v (.int .i64 y.1))]) (fun y => [.vals 137 (outC s.l.length (updA aa i b) (i + 1)), .fam (H.put b (rowO s.l.length (updF x k y.2))), .gone]) (fun _ => g)
        (fun y => y.1 ≤ ni.ports.l.length ∧ y.2 = if i = k then farC else pIn (ni.ports.l.take y.1) nk.ports.l farC) (fun y => ni.ports.l.length - y.1) (0, farC)
      · intro x; kernel_rfl
      · exact ⟨Nat.zero_le _, by show farC = if i = k then farC else farC; split <;> rfl⟩
      · exact ⟨rfl, trivial⟩
      · exact congrArg (fun h => [Chunk.vals 137 (outC s.l.length (updA aa i b) (i + 1)), .fam h, .gone]) (row_st H b s.l.length k x farC hkl)
      · rfl
      rintro ⟨pi, c⟩ ⟨hpi2, hc⟩
      have hpi2 : pi ≤ ni.ports.l.length := hpi2
      have hc : c = if i = k then farC else pIn (ni.ports.l.take pi) nk.ports.l farC := hc
      refine bsplit_of (fun hlt3 => ?_) (fun hlt3 => ?_)
      · have hpl : pi < ni.ports.l.length := by have := of_decide_eq_true hlt3; omega
        obtain ⟨ap, p, hap, hp, hatp, hpok⟩ := hniok.2.elem (fun _ => rfl) hpl
        refine ⟨⟨by omega, by omega⟩, ap, hap, ?_⟩
        refine ⟨p.cells, rfl, .inl hatp, ?_⟩
        refine ⟨⟨by omega, by omega⟩, adk, hak, ?_⟩
        refine ⟨[.slice nk.ports.a nk.ports.l.length nk.ports.c], rfl, .inl (hatk.sub 8 1 (Nat.le_of_ble_eq_true rfl)), ?_⟩
        change LoopW _ _ _ _ _ _ _ _ _ _
        apply loop_rule [] (α := Nat × Int) (fun y => [(54, .v (.int .i64 y.1))]) (fun y => [.vals 137 (outC s.l.length (updA aa i b) (i + 1)), .fam (H.put b (rowO s.l.length (updF x k y.2))), .gone, .cells 159 (p.cells.map .v)]) (fun _ => g)
          (fun y => y.1 ≤ nk.ports.l.length ∧ y.2 = if i = k then farC else qIn p (nk.ports.l.take y.1) c) (fun y => nk.ports.l.length - y.1) (0, c)
        · intro x; kernel_rfl
        · refine ⟨Nat.zero_le _, ?_⟩
          show c = if i = k then farC else c
          by_cases hik : i = k
          · rw [if_pos hik]; rw [if_pos hik] at hc; exact hc
          · rw [if_neg hik]
        · exact ⟨rfl, trivial⟩
        · rfl
        · rfl
        rintro ⟨qi, e⟩ ⟨hqi2, he⟩
        have hqi2 : qi ≤ nk.ports.l.length := hqi2
        have he : e = if i = k then farC else qIn p (nk.ports.l.take qi) c := he
        refine bsplit_of (fun hlt4 => ?_) (fun hlt4 => ?_)
        · have hql : qi < nk.ports.l.length := by have := of_decide_eq_true hlt4; omega
          obtain ⟨aq, q, haq, hq, hatq, hqok⟩ := hnkok.2.elem (fun _ => rfl) hql
          refine ⟨⟨by omega, by omega⟩, aq, haq, ?_⟩
          refine ⟨q.cells, rfl, .inl hatq, ?_⟩
          have hsn : qIn p (nk.ports.l.take (qi + 1)) c = if p.lan = q.lan then minI (qIn p (nk.ports.l.take qi) c) p.cost else qIn p (nk.ports.l.take qi) c := by rw [take_snoc hq, qIn_snoc]
          have hw1 : IntKind.i64.wrap ((qi : Int) + 1) = ((qi + 1 : Nat) : Int) := by rw [wrap_id (by omega) (by omega)]; omega
          refine bsplit_of (fun (h1 : ((i : Int) != (k : Int)) = true) => ?_) (fun (h1 : ((i : Int) != (k : Int)) = false) => ?_)
          · have hik : i ≠ k := by simp at h1; omega
            rw [if_neg hik] at he
            refine bsplit_of (fun (h2 : (p.lan == q.lan) = true) => ?_) (fun (h2 : (p.lan == q.lan) = false) => ?_)
            · have h2 : p.lan = q.lan := by simpa using h2
              rw [if_pos h2, ← he] at hsn
              have hput : (H.put b (rowO s.l.length (updF x k e))) b = some (rowO s.l.length (updF x k e)) := G.put_self
              refine ⟨⟨by omega, by omega⟩, ?_⟩
              refine load1_at hout ?_
              refine ⟨⟨by omega, by omega⟩, ?_⟩
              refine load1_at hout ?_
              refine ⟨⟨by omega, by omega⟩, ⟨b, 0, none⟩, rfl, ?_⟩
              refine ⟨[.int .i64 (updF x k e k)], rfl, .inr ⟨1, _, rfl, fam1 hput hkl⟩, ?_⟩
              refine prim_min rfl rfl rfl ?_
              refine ⟨⟨by omega, by omega⟩, ⟨b, 0, none⟩, rfl, ?_⟩
              change famStore _ _ _ _ _ _ _
              refine famStore_of 1 (addr1 b k) rfl hput rfl ⟨rfl, fun u hu => by simp [Value.cells] at hu; subst hu; rfl⟩ (by rw [rowI_len]; omega) ?_
              have hue : updF x k e k = e := if_pos rfl
              refine ⟨(qi + 1, minI e p.cost), ⟨hql, by show minI e p.cost = _; rw [if_neg hik, hsn]⟩, by show nk.ports.l.length - (qi + 1) < nk.ports.l.length - qi; omega, [0, 1, 2, 3], rfl, ⟨vi hw1, trivial⟩, ?_, rfl, rfl, rfl⟩
              exact congrArg (fun h => [Chunk.vals 137 (outC s.l.length (updA aa i b) (i + 1)), .fam h, .gone, .cells 159 (p.cells.map .v)]) ((row_st H b s.l.length k (updF x k e) (minI (updF x k e k) p.cost) hkl).trans (by rw [updF_updF, hue]))
            · have h2 : ¬ p.lan = q.lan := by simpa using h2
              rw [if_neg h2, ← he] at hsn
              exact ⟨(qi + 1, e), ⟨hql, by show e = _; rw [if_neg hik, hsn]⟩, by show nk.ports.l.length - (qi + 1) < nk.ports.l.length - qi; omega, [0, 1, 2, 3], rfl, ⟨vi hw1, trivial⟩, rfl, rfl, rfl, rfl⟩
          · have hik : i = k := by simp at h1; omega
            rw [if_pos hik] at he
            exact ⟨(qi + 1, e), ⟨hql, by show e = _; rw [if_pos hik]; exact he⟩, by show nk.ports.l.length - (qi + 1) < nk.ports.l.length - qi; omega, [0, 1, 2, 3], rfl, ⟨vi hw1, trivial⟩, rfl, rfl, rfl, rfl⟩
        · have hql : qi = nk.ports.l.length := by have := of_decide_eq_false hlt4; omega
          subst hql
          rw [List.take_length] at he
          refine ⟨(pi + 1, e), ⟨hpl, ?_⟩, by show ni.ports.l.length - (pi + 1) < ni.ports.l.length - pi; omega, [0, 1, 2], rfl, ⟨vi (show IntKind.i64.wrap ((pi : Int) + 1) = ((pi + 1 : Nat) : Int) from by rw [wrap_id (by omega) (by omega)]; omega), trivial⟩, rfl, rfl, rfl, rfl⟩
          show e = if i = k then farC else pIn (ni.ports.l.take (pi + 1)) nk.ports.l farC
          rw [he, take_snoc hp, pIn_snoc]
          by_cases hik : i = k
          · rw [if_pos hik, if_pos hik]
          · rw [if_neg hik, if_neg hik]
            rw [if_neg hik] at hc
            rw [hc]
      · have hpl : pi = ni.ports.l.length := by have := of_decide_eq_false hlt3; omega
        subst hpl
        rw [List.take_length] at hc
        refine ⟨(k + 1, updF x k c), ⟨hkl, fun k' hk' => ?_⟩, by show s.l.length - (k + 1) < s.l.length - k; omega, [0, 1, 2], rfl, ⟨vi (show IntKind.i64.wrap ((k : Int) + 1) = ((k + 1 : Nat) : Int) from by rw [wrap_id (by omega) (by omega)]; omega), trivial⟩, rfl, rfl, rfl, rfl⟩
        show updF x k c k' = eR s.l i k'
        by_cases hkk : k' = k
        · subst hkk
          rw [updF, if_pos rfl, eR, psL_at hni, psL_at hnk, hc]
        · rw [updF, if_neg hkk]; exact hx k' (by omega)
    · have hkl : k = s.l.length := by have := of_decide_eq_false hlt2; omega
      subst hkl
      refine ⟨⟨by omega, by omega⟩, ?_⟩
      refine load1_at hout ?_
      refine ⟨⟨by omega, by omega⟩, ⟨b, 0, none⟩, rfl, ?_⟩
      change famStore _ _ _ _ _ _ _
      refine famStore_of 1 (addr1 b i) rfl G.put_self rfl ⟨rfl, fun u hu => by simp [Value.cells] at hu; subst hu; rfl⟩ (by rw [rowI_len]; omega) ?_
      refine ⟨(i + 1, updA aa i b, (fun j => if j = i then updF x i 0 else D j), H.put b (rowO s.l.length (updF x i 0))), ⟨hil, hR.new hb _, fun i' k hi' hk => ?_⟩, by show s.l.length - (i + 1) < s.l.length - i; omega, [0, 1], rfl, ⟨vi (show IntKind.i64.wrap ((i : Int) + 1) = ((i + 1 : Nat) : Int) from by rw [wrap_id (by omega) (by omega)]; omega), trivial⟩, ?_, rfl, rfl, rfl⟩
      · show (if i' = i then updF x i 0 else D i') k = eM s.l i' k
        by_cases hii : i' = i
        · subst hii
          rw [if_pos rfl, eM]
          by_cases hik : i' = k
          · subst hik; rw [updF, if_pos rfl, if_pos rfl]
          · rw [updF, if_neg (fun e => hik e.symm), if_neg hik, hx k hk, eR, if_neg hik]
        · rw [if_neg hii]; exact hD i' k (by omega) hk
      · exact congrArg (fun h => [Chunk.vals 137 (outC s.l.length (updA aa i b) (i + 1)), .fam h]) (row_st H b s.l.length i x 0 hil)
  · have hil : i = s.l.length := by have := of_decide_eq_false hlt; omega
    subst hil
    have hR2 := hR.congr (D' := fw (eM s.l) 0) fun i j hi hj => hD i j hi hj
    have hcell : ∀ {j : Nat}, j < s.l.length → (outC s.l.length aa s.l.length)[0 + ((j : Nat) : Int).toNat * 1]? = some (.slice (some ⟨aa j, 0, none⟩) s.l.length s.l.length) := fun hj => by rw [off1, outC_get hj hj]
    change LoopW _ _ _ _ _ _ _ _ _ _
    apply loop_rule [] (α := Nat × G) (fun y => [(96, .v (.int .i64 y.1))]) (fun y => [.vals 137 (outC s.l.length aa s.l.length), .fam y.2]) (fun _ => g)
      (fun y => y.1 ≤ s.l.length ∧ Rows y.2 aa s.l.length s.l.length (fw (eM s.l) y.1)) (fun y => s.l.length - y.1) (0, H)
    · intro x; kernel_rfl
    · exact ⟨Nat.zero_le _, hR2⟩
    · exact ⟨rfl, trivial⟩
    · rfl
    · rfl
    rintro ⟨m, H1⟩ ⟨hm, hR1⟩
    have hm : m ≤ s.l.length := hm
    have hR1 : Rows H1 aa s.l.length s.l.length (fw (eM s.l) m) := hR1
    refine bsplit_of (fun hlt1 => ?_) (fun hlt1 => ?_)
    · have hml : m < s.l.length := by have := of_decide_eq_true hlt1; omega
      have W := W0.all (by decide) m (by omega)
      obtain ⟨d, hd⟩ : ∃ d, fw (eM s.l) m = d := ⟨_, rfl⟩
      rw [hd] at W hR1
      change LoopW _ _ _ _ _ _ _ _ _ _
      apply loop_rule [] (α := Nat × G) (fun y => [(101, .v (.int .i64 y.1))]) (fun y => [.vals 137 (outC s.l.length aa s.l.length), .fam y.2]) (fun _ => g)
        (fun y => y.1 ≤ s.l.length ∧ Rows y.2 aa s.l.length s.l.length (mid d m y.1 0)) (fun y => s.l.length - y.1) (0, H1)
      · intro x; kernel_rfl
      · exact ⟨Nat.zero_le _, hR1.congr fun i j _ _ => (if_neg (by omega)).symm⟩
      · exact ⟨rfl, trivial⟩
      · rfl
      · rfl
      rintro ⟨i, H2⟩ ⟨hi, hR2⟩
      have hi : i ≤ s.l.length := hi
      have hR2 : Rows H2 aa s.l.length s.l.length (mid d m i 0) := hR2
      refine bsplit_of (fun hlt2 => ?_) (fun hlt2 => ?_)
      · have hil : i < s.l.length := by have := of_decide_eq_true hlt2; omega
        change LoopW _ _ _ _ _ _ _ _ _ _
        apply loop_rule [] (α := Nat × G) (fun y => [(106, .v (.int .i64 y.1))]) (fun y => [.vals 137 (outC s.l.length aa s.l.length), .fam y.2]) (fun _ => g)
          (fun y => y.1 ≤ s.l.length ∧ Rows y.2 aa s.l.length s.l.length (mid d m i y.1)) (fun y => s.l.length - y.1) (0, H2)
        · intro x; kernel_rfl
        · exact ⟨Nat.zero_le _, hR2⟩
        · exact ⟨rfl, trivial⟩
        · rfl
        · rfl
        rintro ⟨k, H3⟩ ⟨hk, hR3⟩
        have hk : k ≤ s.l.length := hk
        have hR3 : Rows H3 aa s.l.length s.l.length (mid d m i k) := hR3
        refine bsplit_of (fun hlt3 => ?_) (fun hlt3 => ?_)
        · have hkl : k < s.l.length := by have := of_decide_eq_true hlt3; omega
          have e1 : mid d m i k i k = d i k := mid_at d m i k
          have e2 : mid d m i k i m = d i m := mid_col W hml i k hil
          have e3 : mid d m i k m k = d m k := mid_row W hml i k
          refine ⟨⟨by omega, by omega⟩, ?_⟩
          refine load1_at (hcell hil) ?_
          refine ⟨⟨by omega, by omega⟩, ?_⟩
          refine load1_at (hcell hil) ?_
          refine ⟨⟨by omega, by omega⟩, ⟨aa i, 0, none⟩, rfl, ?_⟩
          refine ⟨[.int .i64 (mid d m i k i k)], rfl, .inr ⟨1, _, rfl, fam1 (hR3.row i hil) hkl⟩, ?_⟩
          refine ⟨⟨by omega, by omega⟩, ?_⟩
          refine load1_at (hcell hil) ?_
          refine ⟨⟨by omega, by omega⟩, ⟨aa i, 0, none⟩, rfl, ?_⟩
          refine ⟨[.int .i64 (mid d m i k i m)], rfl, .inr ⟨1, _, rfl, fam1 (hR3.row i hil) hml⟩, ?_⟩
          refine ⟨⟨by omega, by omega⟩, ?_⟩
          refine load1_at (hcell hml) ?_
          refine ⟨⟨by omega, by omega⟩, ⟨aa m, 0, none⟩, rfl, ?_⟩
          refine ⟨[.int .i64 (mid d m i k m k)], rfl, .inr ⟨1, _, rfl, fam1 (hR3.row m hml) hkl⟩, ?_⟩
          refine prim_min rfl rfl rfl ?_
          refine ⟨⟨by omega, by omega⟩, ⟨aa i, 0, none⟩, rfl, ?_⟩
          change famStore _ _ _ _ _ _ _
          refine famStore_of 1 (addr1 (aa i) k) rfl (hR3.row i hil) rfl ⟨rfl, fun u hu => by simp [Value.cells] at hu; subst hu; rfl⟩ (by rw [rowI_len]; omega) ?_
          have b1 := W.le i m hil hml
          have b2 := W.le m k hml hkl
          have b3 := W.pos i m hil hml
          have b4 := W.pos m k hml hkl
          unfold farC at b1 b2
          have hv : minI (mid d m i k i k) (IntKind.i64.wrap (mid d m i k i m + mid d m i k m k)) = phi m d i k := by
            rw [e1, e2, e3, wrap_id (by omega) (by omega)]; rfl
          have hfin : H3.put (aa i) (.cells ((rowI s.l.length (mid d m i k i)).take k ++ ([Value.int .i64 (minI (mid d m i k i k) (IntKind.i64.wrap (mid d m i k i m + mid d m i k m k)))] ++ (rowI s.l.length (mid d m i k i)).drop (k + 1))).toArray 3 (0, 0)) = H3.put (aa i) (rowO s.l.length (mid d m i (k + 1) i)) := by
            rw [rowI_set _ hkl, mid_next d m i k _ hv]; rfl
          refine ⟨(k + 1, H3.put (aa i) (rowO s.l.length (mid d m i (k + 1) i))), ⟨hkl, hR3.put hil (fun j hj => mid_else d m i k j hj)⟩, by show s.l.length - (k + 1) < s.l.length - k; omega, [0, 1], rfl, ⟨vi (show IntKind.i64.wrap ((k : Int) + 1) = ((k + 1 : Nat) : Int) from by rw [wrap_id (by omega) (by omega)]; omega), trivial⟩, ?_, rfl, rfl, rfl⟩
          exact congrArg (fun h => [Chunk.vals 137 (outC s.l.length aa s.l.length), .fam h]) hfin
        · have hkl : k = s.l.length := by have := of_decide_eq_false hlt3; omega
          subst hkl
          refine ⟨(i + 1, H3), ⟨hil, hR3.congr fun i' j' hi' hj' => ?_⟩, by show s.l.length - (i + 1) < s.l.length - i; omega, [0, 1], rfl, ⟨vi (show IntKind.i64.wrap ((i : Int) + 1) = ((i + 1 : Nat) : Int) from by rw [wrap_id (by omega) (by omega)]; omega), trivial⟩, rfl, rfl, rfl, rfl⟩
          show mid d m i s.l.length i' j' = mid d m (i + 1) 0 i' j'
          unfold mid
          by_cases h : i' < i + 1
          · rw [if_pos (by omega), if_pos (.inl h)]
          · rw [if_neg (by omega), if_neg (by omega)]
      · have hil : i = s.l.length := by have := of_decide_eq_false hlt2; omega
        subst hil
        refine ⟨(m + 1, H2), ⟨hml, hR2.congr fun i' j' hi' hj' => ?_⟩, by show s.l.length - (m + 1) < s.l.length - m; omega, [0, 1], rfl, ⟨vi (show IntKind.i64.wrap ((m : Int) + 1) = ((m + 1 : Nat) : Int) from by rw [wrap_id (by omega) (by omega)]; omega), trivial⟩, rfl, rfl, rfl, rfl⟩
        show mid d m s.l.length 0 i' j' = phi m (fw (eM s.l) m) i' j'
        rw [hd, mid, if_pos (.inl hi')]
    · have hml : m = s.l.length := by have := of_decide_eq_false hlt1; omega
      subst hml
      exact ⟨[0, 1], aa, H1, rfl, rfl, hR1, rfl⟩
end Go.Proofs.YtedfohdgigbhiaaDoor
