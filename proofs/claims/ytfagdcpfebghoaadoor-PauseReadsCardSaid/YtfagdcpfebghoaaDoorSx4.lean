/- A symbolic executor of my own, part 4: what an operation that only reads yields, all together. Conditions: none; it speaks of any program. -/
import Derived.Test.YtfagdcpfebghoaaDoorSx3
namespace Go.Sx

theorem foldl_set (off : Nat) : ∀ (xs : List Value) (j0 : Nat) (cs : Array Value), off + j0 + xs.length ≤ cs.size →
    ((xs.zipIdx j0).foldl (fun (cs : Array Value) (p : Value × Nat) => cs.setIfInBounds (off + p.2) p.1) cs).toList = cs.toList.take (off + j0) ++ (xs ++ cs.toList.drop (off + j0 + xs.length)) := by
  intro xs
  induction xs with
  | nil => intro j0 cs _; simp
  | cons x xs ih =>
    intro j0 cs h
    simp only [List.zipIdx_cons, List.foldl_cons]
    rw [ih (j0 + 1) _ (by simp at h ⊢; omega)]
    simp only [List.length_cons] at h
    apply List.ext_getElem?
    intro i
    simp only [Array.toList_setIfInBounds, List.getElem?_append, List.length_take, List.length_set, Array.length_toList, List.getElem?_take, List.getElem?_drop, List.getElem?_set, List.length_cons]
    by_cases h1 : i < off + j0
    · simp [h1, show min (off + (j0 + 1)) cs.size = off + j0 + 1 by omega, show min (off + j0) cs.size = off + j0 by omega, show i < off + j0 + 1 by omega, show i < off + (j0 + 1) by omega, show ¬ off + j0 = i by omega]
    · by_cases h2 : i = off + j0
      · subst h2
        simp [show min (off + (j0 + 1)) cs.size = off + j0 + 1 by omega, show min (off + j0) cs.size = off + j0 by omega, show off + j0 < off + (j0 + 1) by omega, show off + j0 < cs.size by omega]
      · have e1 : min (off + (j0 + 1)) cs.size = off + j0 + 1 := by omega
        have e2 : min (off + j0) cs.size = off + j0 := by omega
        have e3 : i - (off + j0) = (i - (off + j0 + 1)) + 1 := by omega
        simp only [e1, e2, h1, show ¬ i < off + j0 + 1 by omega, if_false, e3, List.getElem?_cons_succ]
        by_cases h3 : i - (off + j0 + 1) < xs.length
        · have h4 : i - (off + j0 + 1) + 1 < xs.length + 1 := by omega
          simp only [h3, h4, if_true]
        · have h4 : ¬ i - (off + j0 + 1) + 1 < xs.length + 1 := by omega
          simp only [h3, h4, if_false]
          rw [show off + (j0 + 1) + xs.length + (i - (off + j0 + 1) - xs.length) = off + j0 + (xs.length + 1) + (i - (off + j0 + 1) + 1 - (xs.length + 1)) from by clear e1 e2 ih; omega, if_neg (by clear e1 e2 ih; omega)]

theorem fill_of {σ : Nat → Nat} {place : Nat → Option (Nat × Nat)} : ∀ (ps : List (Nat × Value)) (qs : List (Nat × Nat × SV)) (cells : List SV) (l : List SV),
    ps.map (fun p => (place p.1, p.2)) = qs.map (fun q => (some (q.1, q.2.1), q.2.2.re σ)) → fillS cells qs = some l →
    Instr.fill place (reL σ cells).toArray ps = some (reL σ l).toArray := by
  intro ps
  induction ps with
  | nil =>
    intro qs cells l h hf
    cases qs with
    | nil => simp only [fillS, Option.some.injEq] at hf; subst hf; rfl
    | cons q qs => simp at h
  | cons p ps ih =>
    intro qs cells l h hf
    cases qs with
    | nil => simp at h
    | cons q qs =>
      obtain ⟨off, size, x⟩ := q
      obtain ⟨i, v⟩ := p
      simp only [List.map_cons, List.cons.injEq, Prod.mk.injEq] at h
      obtain ⟨⟨hp, rfl⟩, hrest⟩ := h
      simp only [fillS] at hf
      split at hf
      case h_2 => cases hf
      case h_1 hc0 =>
        simp only [Bool.and_eq_true, Bool.not_eq_true', Nat.ble_eq] at hc0
        have hx : x ≠ .junk := by rintro rfl; simp [isJunk] at hc0
        have hc : x.cells.length = size ∧ off + size ≤ cells.length := ⟨Nat.eq_of_beq_eq_true hc0.1.2, hc0.2⟩
        have hcl := cells_re σ x hx
        have hsz : (x.re σ).cells.size = size := by rw [← Array.length_toList, hcl, reL_length]; exact hc.1
        have hcs : (reL σ cells).length = cells.length := reL_length σ cells
        have key : ((x.re σ).cells.zipIdx.foldl (fun (cs : Array Value) (p : Value × Nat) => cs.setIfInBounds (off + p.2) p.1) (reL σ cells).toArray) = (reL σ (cells.take off ++ (x.cells ++ cells.drop (off + size)))).toArray := by
          apply Array.ext'
          rw [← Array.foldl_toList, Array.toList_zipIdx, foldl_set off _ 0 _ (by rw [Array.length_toList, hsz]; simp; omega)]
          simp only [Nat.add_zero, hcl, reL_length, reL_append, reL_take, reL_drop, hc.1]
        have := ih qs _ l hrest hf
        simp only [Instr.fill, hp]
        rw [if_neg (by simp [hsz]; omega)]
        rw [← this]
        congr 1


theorem ev_map {σ : Nat → Nat} {fr : List SV} {a : Act} (hf : FR σ fr a.tmps) (l : List Operand) (h : ∀ x ∈ l.map (ev fr), x ≠ .junk) : l.map a.eval = reL σ (l.map (ev fr)) := by
  induction l with
  | nil => rfl
  | cons x l ih =>
    simp only [List.map_cons, reL, List.cons.injEq]
    exact ⟨hf.ev x (h _ (by simp)), ih fun y hy => h y (by simp at hy ⊢; exact .inr hy)⟩

theorem placesOf_struct {P : Program} {t : TypeId} {fs : Array Field} (hu : P.underlying t = some (.struct fs)) {ps : List (Nat × Operand)} {l : List (Nat × Nat × Operand)} (h : placesOf P t ps = some l) :
    ps.map (fun p => ((fs[p.1]?).map fun f => (f.offset, P.cellsOf f.type), p.2)) = l.map fun q => (some (q.1, q.2.1), q.2.2) := by
  simp only [placesOf, hu] at h
  induction ps generalizing l with
  | nil => simp at h; subst h; rfl
  | cons p ps ih =>
    rw [List.mapM_cons] at h
    simp only [bind, Option.bind_eq_some_iff, pure, Option.some.injEq] at h
    obtain ⟨q, hq, l', hl, rfl⟩ := h
    simp only [List.map_cons, List.cons.injEq]
    refine ⟨?_, ih hl⟩
    cases hf : fs[p.1]? with
    | none => rw [hf] at hq; cases hq
    | some f =>
      rw [hf] at hq
      simp only at hq
      split at hq
      · simp only [Option.some.injEq] at hq; subst hq; rfl
      · cases hq

theorem fillS_nj : ∀ (qs : List (Nat × Nat × SV)) (cells l : List SV), fillS cells qs = some l → ∀ q ∈ qs, q.2.2 ≠ .junk := by
  intro qs
  induction qs with
  | nil => simp
  | cons q qs ih =>
    intro cells l h
    obtain ⟨off, size, x⟩ := q
    simp only [fillS] at h
    split at h
    case h_2 => cases h
    case h_1 hc =>
      intro y hy
      rcases List.mem_cons.1 hy with rfl | hy
      · rintro rfl
        simp [isJunk] at hc
      · exact ih _ _ h y hy

theorem run_build {P : Program} {t : TypeId} {i : TypeInfo} {z : Value} (hi : P.info? t = some i) (hz : i.zero = some z) (ps : List (Nat × Value)) (l : List SV) (σ : Nat → Nat) (qs : List (Nat × Nat × SV)) (hf : fillS (z.cells.toList.map .v) qs = some l)
    (hok : (∃ fs : Array Field, P.underlying t = some (.struct fs) ∧ (fs.all fun f => (P.info? f.type).isSome) = true ∧ ps.map (fun p => ((fs[p.1]?).map fun f => (f.offset, P.cellsOf f.type), p.2)) = qs.map (fun q => (some (q.1, q.2.1), q.2.2.re σ))) ∨
      (∃ n e, P.underlying t = some (.array n e) ∧ (P.info? e).isSome ∧ ps.map (fun p => (some (p.1 * P.cellsOf e, P.cellsOf e), p.2)) = qs.map (fun q => (some (q.1, q.2.1), q.2.2.re σ)))) (w : World) :
    (Instr.build t ps.toArray).run P w = .ok (.agg (reL σ l).toArray) w := by
  have hz' : (zeroValue t).run P w = .ok z w := by simp [zeroValue, typeInfo, hi, hz]
  have hc : z.cells = (reL σ (z.cells.toList.map .v)).toArray := by simp [reL_v]
  rcases hok with ⟨fs, hu, hall, hp⟩ | ⟨n, e, hu, he, hp⟩
  · have hpl : (fs.mapM fun f => (do pure (f.offset, ← sizeOf f.type) : Sem (Nat × Nat))).run P w = .ok (fs.map fun f => (f.offset, P.cellsOf f.type)) w := by
      rw [Array.mapM_eq_mapM_toList]
      have : ∀ l : List Field, (l.all fun f => (P.info? f.type).isSome) = true → (l.mapM fun f => (do pure (f.offset, ← sizeOf f.type) : Sem (Nat × Nat))).run P w = .ok (l.map fun f => (f.offset, P.cellsOf f.type)) w := by
        intro l
        induction l with
        | nil => intro _; simp
        | cons f l ih =>
          intro h
          simp only [List.all_cons, Bool.and_eq_true] at h
          obtain ⟨j, hj⟩ := Option.isSome_iff_exists.1 h.1
          have e1 : (do pure (f.offset, ← sizeOf f.type) : Sem (Nat × Nat)).run P w = .ok (f.offset, P.cellsOf f.type) w := by simp [sizeOf, typeInfo, hj, Program.cellsOf]
          rw [List.mapM_cons, Sem.run_bind, e1, Result.andThen_ok, Sem.run_bind, ih h.2]
          rfl
      rw [Sem.run_map, this fs.toList (by simpa using hall)]
      simp only [Result.andThen_ok, Result.ok.injEq, and_true]
      apply Array.ext'
      simp
    have hfill := fill_of (σ := σ) (place := fun i => (fs.map fun f => (f.offset, P.cellsOf f.type))[i]?) ps qs _ l (by simpa using hp) hf
    rw [← hc] at hfill
    simp only [Instr.build, Sem.run_bind, hz', Result.andThen_ok, run_underlying hu, hpl, hfill]
    rfl
  · obtain ⟨j, hj⟩ := Option.isSome_iff_exists.1 he
    have hcz : P.cellsOf e = j.size := by simp [Program.cellsOf, hj]
    have hfill := fill_of (σ := σ) (place := fun i => some (i * j.size, j.size)) ps qs _ l (by simpa [hcz] using hp) hf
    rw [← hc] at hfill
    simp only [Instr.build, Sem.run_bind, hz', Result.andThen_ok, run_underlying hu]
    simp [sizeOf, typeInfo, hj, hfill]

end Go.Sx
