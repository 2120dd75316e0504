/- A symbolic executor of my own, part 5: each operation that only reads, one by one. Conditions: none; it speaks of any program. -/
import Derived.Test.YtfagdcpfebghoaaDoorSx4
namespace Go.Sx

section
variable {P : Program} {o : Oper} {fr : List SV} {L : List Chunk} {g : G} {K : SV → Prop}

theorem ro_pick {c a b : Operand} (ho : o.op = .pick c a b) (h : ro (.pick c a b) (ev fr) L g K) : ∃ r, r ≠ .junk ∧ K r ∧ Yields1 P o fr L g r := by
  simp only [ro] at h
  split at h
  case h_2 => exact h.elim
  case h_1 t hc =>
    rcases bsplit_elim h with ⟨rfl, h⟩ | ⟨rfl, h⟩
    · obtain ⟨hj, hk⟩ := nj_elim h
      exact ⟨_, hj, hk, fun σ A w hf _ => by simp [execOp, ho, hf.ev c (by simp [hc]), hc, SV.re, asBool, hf.ev a hj]⟩
    · obtain ⟨hj, hk⟩ := nj_elim h
      exact ⟨_, hj, hk, fun σ A w hf _ => by simp [execOp, ho, hf.ev c (by simp [hc]), hc, SV.re, asBool, hf.ev b hj]⟩

theorem ro_build {t : TypeId} {ps : Array (Nat × Operand)} {x : XOp} (ho : o.op = .build t ps) (hx : xop0 P (.build t ps) = some x) (h : ro x (ev fr) L g K) : ∃ r, r ≠ .junk ∧ K r ∧ Yields1 P o fr L g r := by
  simp only [xop0] at hx
  cases hi : P.info? t with
  | none => simp [hi] at hx
  | some i =>
    rw [hi] at hx
    simp only at hx
    cases hz : i.zero with
    | none => simp [hz] at hx
    | some z =>
      rw [hz] at hx
      simp only at hx
      split at hx
      case isFalse => cases hx
      case isTrue hcond =>
        rw [Option.map_eq_some_iff] at hx
        obtain ⟨l, hl, rfl⟩ := hx
        simp only [ro] at h
        split at h
        case h_2 => exact h.elim
        case h_1 cs hfill =>
          refine ⟨_, by simp, h, fun σ A w hf _ => ?_⟩
          have hnj : ∀ q ∈ l, ev fr q.2.2 ≠ .junk := fun q hq => fillS_nj _ _ _ hfill (q.1, q.2.1, ev fr q.2.2) (List.mem_map.2 ⟨q, hq, rfl⟩)
          have hev : ∀ q ∈ l, A.eval q.2.2 = (ev fr q.2.2).re σ := fun q hq => hf.ev _ (hnj q hq)
          have harr : (ps.map fun (i, x) => (i, A.eval x)) = ((ps.toList.map fun p => (p.1, A.eval p.2))).toArray := by
            apply Array.ext'; simp
          have := run_build (P := P) hi hz (ps.toList.map fun p => (p.1, A.eval p.2)) cs σ (l.map fun p => (p.1, p.2.1, ev fr p.2.2)) hfill (by
            unfold buildable at hcond
            cases hu : P.underlying t with
            | none => simp [hu] at hcond
            | some d =>
              rw [hu] at hcond
              cases d
              case struct fs =>
                left
                refine ⟨fs, rfl, hcond, ?_⟩
                have hp := placesOf_struct hu hl
                have := congrArg (List.map fun p => (p.1, A.eval p.2)) hp
                simp only [List.map_map, Function.comp_def] at this ⊢
                rw [this]
                apply List.map_congr_left
                intro q hq
                simp [hev q hq]
              case array n e =>
                right
                simp only [placesOf, hu] at hl
                split at hl
                case isFalse => cases hl
                case isTrue he =>
                  simp only [Option.some.injEq] at hl
                  subst hl
                  refine ⟨n, e, rfl, he, ?_⟩
                  simp only [List.map_map, Function.comp_def]
                  apply List.map_congr_left
                  intro q hq
                  have := hev (q.1 * P.cellsOf e, P.cellsOf e, q.2) (List.mem_map.2 ⟨q, hq, rfl⟩)
                  simp [this]
              all_goals (simp at hcond)) w
          simp only [execOp, ho, harr, Sem.run_bind, this, Result.andThen_ok, Sem.run_pure, SV.re]

theorem get_slice1 {xs : List SV} {off n i : Nat} {v : SV} (h : (slice1 xs off n)[i]? = some v) : xs[off + i]? = some v := by
  unfold slice1 at h
  rw [List.getElem?_take] at h
  split at h
  · rwa [List.getElem?_drop] at h
  · cases h

theorem ro_load {t : TypeId} {ad : Operand} {x : XOp} (ho : o.op = .load t ad) (hx : xop0 P (.load t ad) = some x) (h : ro x (ev fr) L g K) : ∃ r, r ≠ .junk ∧ K r ∧ Yields1 P o fr L g r := by
  simp only [xop0] at hx
  cases hi : P.info? t with
  | none => simp [hi] at hx
  | some i =>
    rw [hi] at hx
    simp only at hx
    obtain ⟨agg, n, rfl, hagg, hn1, hnn⟩ : ∃ agg n, x = .load agg n ad ∧ aggT P t = agg ∧ (agg = false → n = 1 ∧ (P.underlying t).isSome) ∧ (agg = true → n = i.size) := by
      split at hx
      · rename_i ha
        exact ⟨true, i.size, by simpa using hx.symm, ha, by simp, by simp⟩
      · rename_i ha
        split at hx
        · rename_i hu
          exact ⟨false, 1, by simpa using hx.symm, by simpa using ha, fun _ => ⟨rfl, hu⟩, by simp⟩
        · cases hx
    -- the general step: the cells at an address
    have fin : ∀ (l : List SV), l.length = n → val1 agg l K → (∃ r, r ≠ .junk ∧ K r ∧ ∀ (σ : Nat → Nat) (a : Addr) (w : World), (∀ j v, (reL σ l)[j]? = some v → w.cell? (a.add j) = some v) → (loadVar t a).run P w = .ok (r.re σ) w) := by
      intro l hl hv
      rcases val1_elim hv with ⟨ha, hk⟩ | ⟨ha, y, rfl, hj, hk⟩
      · refine ⟨_, by simp, hk, fun σ a w hc => ?_⟩
        exact run_loadVar_agg hi (by rw [hagg, ha]) a _ (by rw [reL_length, hl, hnn ha]) w hc
      · refine ⟨y, hj, hk, fun σ a w hc => ?_⟩
        have := hc 0 (y.re σ) rfl
        exact run_loadVar_one (by rw [hagg, ha]) a _ w (hn1 ha).2 (by simpa [Addr.add] using this)
    have exe : ∀ (A : Act) (a : Addr) (w : World) (r : Value), A.eval ad = .pointer (some a) → (loadVar t a).run P w = .ok r w → (execOp A.eval o).run P w = .ok (.value r) w := by
      intro A a w r h1 h2
      simp [execOp, ho, h1, Instr.loadAt, Instr.sureAddr, h2]
    simp only [ro] at h
    split at h
    case h_1 k off hp =>
      split at h
      case h_1 ty c hL =>
        obtain ⟨hle, h⟩ := ifle_elim h
        obtain ⟨r, hj, hk, hr⟩ := fin (slice1 c off n) (by simp [slice1]; omega) h
        refine ⟨r, hj, hk, fun σ A w hf hw => exe A ⟨σ k, off, none⟩ w _ (by rw [hf.ev ad (by simp [hp]), hp]; rfl) (hr σ _ w fun j v hv => ?_)⟩
        rw [add_cell, hw.cell hL]
        rw [reL_map] at hv ⊢
        rw [List.getElem?_map] at hv ⊢
        obtain ⟨u, hu, rfl⟩ := Option.map_eq_some_iff.1 hv
        rw [get_slice1 hu]
        rfl
      case h_2 ty c hL =>
        obtain ⟨hle, h⟩ := h
        obtain ⟨r, hj, hk, hr⟩ := fin ((((c.drop off).take n)).map .v) (by simp; omega) h
        refine ⟨r, hj, hk, fun σ A w hf hw => exe A ⟨σ k, off, none⟩ w _ (by rw [hf.ev ad (by simp [hp]), hp]; rfl) (hr σ _ w fun j v hv => ?_)⟩
        rw [add_cell, hw.cellV hL]
        rw [reL_v, List.getElem?_take] at hv
        split at hv
        · rwa [List.getElem?_drop] at hv
        · cases hv
      case h_3 => exact h.elim
    case h_2 a hp =>
      obtain ⟨xs, hlen, hat, h⟩ := h
      obtain ⟨r, hj, hk, hr⟩ := fin (xs.map .v) (by simpa using hlen) h
      refine ⟨r, hj, hk, fun σ A w hf hw => exe A a w _ (by rw [hf.ev ad (by simp [hp]), hp]; rfl) (hr σ _ w fun j v hv => ?_)⟩
      rw [reL_v] at hv
      obtain ⟨hs, c, ty, fz, hg, hc⟩ := hat
      have hlt : j < xs.length := (List.getElem?_eq_some_iff.1 hv).1
      have hh := hw.im _ _ hg
      obtain ⟨b, off, sp⟩ := a
      simp only at hs hc hh
      subst hs
      rw [add_cell]
      simp [World.cell?, hh, hc j hlt, hv]
    case h_3 => exact h.elim

theorem run_eql_bool {P : Program} {t : TypeId} (hu : P.underlying t = some .bool) (a b : Bool) (w : World) : (binOp .eql t (.bool a) (.bool b)).run P w = .ok (.bool (a == b)) w := by
  simp only [binOp, Op.equal, Op.maxDepth, Sem.run_bind]
  rw [run_equalIn_bool' w 9999 t a b hu]
  rfl
theorem run_neq_bool {P : Program} {t : TypeId} (hu : P.underlying t = some .bool) (a b : Bool) (w : World) : (binOp .neq t (.bool a) (.bool b)).run P w = .ok (.bool (!(a == b))) w := by
  simp only [binOp, Op.equal, Op.maxDepth, Sem.run_bind]
  rw [run_equalIn_bool' w 9999 t a b hu]
  rfl

theorem ro_bin {op : BinOp} {t : TypeId} {x y : Operand} {yt : TypeId} {X : XOp} (ho : o.op = .binOp op t x y yt) (hx : xop0 P (.binOp op t x y yt) = some X) (h : ro X (ev fr) L g K) : ∃ r, r ≠ .junk ∧ K r ∧ Yields1 P o fr L g r := by
  have exe : ∀ (A : Act) (w : World) (a b r : Value), A.eval x = a → A.eval y = b → (eqGuard op t x y a b).run P w = .ok () w → (binOp op t a b).run P w = .ok r w → (execOp A.eval o).run P w = .ok (.value r) w := by
    intro A w a b r h1 h2 h3 h4
    simp [execOp, ho, h1, h2, h3, h4]
  simp only [xop0] at hx
  split at hx
  case isTrue hagg =>
    cases hk : flatK P 12 t with
    | none => simp [hk] at hx
    | some ks =>
      rw [hk] at hx
      simp only at hx
      split at hx
      case isFalse => cases hx
      case isTrue hg =>
        obtain ⟨neg, hop, rfl⟩ : ∃ neg, ((op = .eql ∧ neg = false) ∨ (op = .neq ∧ neg = true)) ∧ X = .eqAgg neg ks x y := by
          cases op <;> simp at hx
          · exact ⟨false, .inl ⟨rfl, rfl⟩, hx.symm⟩
          · exact ⟨true, .inr ⟨rfl, rfl⟩, hx.symm⟩
        simp only [ro] at h
        split at h
        case h_2 => exact h.elim
        case h_1 a hxa =>
          split at h
          case h_2 => exact h.elim
          case h_1 b hyb =>
            obtain ⟨r, he, hkr⟩ := eqRel_of_eqKs _ _ _ _ h
            refine ⟨_, by simp, hkr, fun σ A w hf hw => ?_⟩
            have h1 := (eqAt_of_flatK 12 t ks hk a b r he σ w 10000 (by omega)).1 hagg
            refine exe A w (.agg (reL σ a).toArray) (.agg (reL σ b).toArray) _ (by rw [hf.ev x (by simp [hxa]), hxa]; rfl) (by rw [hf.ev y (by simp [hyb]), hyb]; rfl) (run_eqGuard_agg w op t x y _ _ hg) ?_
            rcases hop with ⟨rfl, rfl⟩ | ⟨rfl, rfl⟩
            · rw [run_eql_struct, h1]; simp [SV.re]
            · rw [run_neq_struct, h1]; simp [SV.re]
  case isFalse hagg =>
    cases hu : P.underlying t with
    | none => simp [hu] at hx
    | some d =>
      rw [hu] at hx
      have plain : X = .bin op x y → ∃ r, r ≠ .junk ∧ K r ∧ Yields1 P o fr L g r := by
        rintro rfl
        simp only [ro] at h
        split at h
        case h_2 => exact h.elim
        case h_1 a hxa =>
          split at h
          case h_2 => exact h.elim
          case h_1 b hyb =>
            obtain ⟨r, hk, h1, h2⟩ := run_valBin (P := P) (t := t) h
            exact ⟨_, by simp, hk, fun σ A w hf hw => exe A w a b r (by rw [hf.ev x (by simp [hxa]), hxa]; rfl) (by rw [hf.ev y (by simp [hyb]), hyb]; rfl) (h2 x y w) (h1 w)⟩
      cases d
      case int k => exact plain (by simpa using hx.symm)
      case string => exact plain (by simpa using hx.symm)
      case bool =>
        obtain ⟨neg, hop, rfl⟩ : ∃ neg, ((op = .eql ∧ neg = false) ∨ (op = .neq ∧ neg = true)) ∧ X = .eqB neg x y := by
          cases op <;> simp at hx
          · exact ⟨false, .inl ⟨rfl, rfl⟩, hx.symm⟩
          · exact ⟨true, .inr ⟨rfl, rfl⟩, hx.symm⟩
        simp only [ro] at h
        split at h
        case h_2 => exact h.elim
        case h_1 a hxa =>
          split at h
          case h_2 => exact h.elim
          case h_1 b hyb =>
            refine ⟨_, by simp, h, fun σ A w hf hw => ?_⟩
            refine exe A w (.bool a) (.bool b) _ (by rw [hf.ev x (by simp [hxa]), hxa]; rfl) (by rw [hf.ev y (by simp [hyb]), hyb]; rfl) (by cases op <;> simp [eqGuard]) ?_
            rcases hop with ⟨rfl, rfl⟩ | ⟨rfl, rfl⟩
            · rw [run_eql_bool hu]; simp [SV.re]
            · rw [run_neq_bool hu]; simp [SV.re]
      case interface ms =>
        have hms : P.underlying t = some (.interface (P.methodsAt t)) := by rw [hu]; simp [Program.methodsAt, hu]
        simp only at hx
        split at hx
        case h_2 => cases hx
        case h_1 =>
          obtain ⟨neg, hop, rfl⟩ : ∃ neg, ((op = .eql ∧ neg = false) ∨ (op = .neq ∧ neg = true)) ∧ X = .more (.nilI neg) [x] := by
            cases op <;> simp at hx
            · exact ⟨false, .inl ⟨rfl, rfl⟩, hx.symm⟩
            · exact ⟨true, .inr ⟨rfl, rfl⟩, hx.symm⟩
          simp only [ro, roY, List.map_cons, List.map_nil] at h
          have held : ∀ (A : Act) (w : World) (u : TypeId) (z : Value), A.eval x = .iface u z → (execOp A.eval o).run P w = .ok (.value (.bool neg)) w := by
            intro A w u z hz
            refine exe A w (.iface u z) .nilIface _ hz rfl (by cases op <;> simp [eqGuard]) ?_
            rcases hop with ⟨rfl, rfl⟩ | ⟨rfl, rfl⟩
            · rw [run_eql_held_nil w t u z hms]
            · rw [run_neq_held_nil w t u z hms]
          split at h
          case h_1 hv =>
            have hx0 : ev fr x = .v .nilIface := by simpa using hv
            refine ⟨_, by simp, h, fun σ A w hf hw => ?_⟩
            refine exe A w .nilIface .nilIface _ (by rw [hf.ev x (by simp [hx0]), hx0]; rfl) rfl (by rw [eqGuard_nil_constR]; rfl) ?_
            rcases hop with ⟨rfl, rfl⟩ | ⟨rfl, rfl⟩
            · rw [run_eql_nil_nil w t hms]; simp [SV.re]
            · rw [run_neq_nil_nil w t hms]; simp [SV.re]
          case h_2 u z hv =>
            have hx0 : ev fr x = .iface u z := by simpa using hv
            exact ⟨_, by simp, h, fun σ A w hf hw => held A w u (z.re σ) (by rw [hf.ev x (by simp [hx0]), hx0]; rfl)⟩
          case h_3 u z hv =>
            have hx0 : ev fr x = .v (.iface u z) := by simpa using hv
            exact ⟨_, by simp, h, fun σ A w hf hw => held A w u z (by rw [hf.ev x (by simp [hx0]), hx0]; rfl)⟩
          case h_4 => exact h.elim
      case pointer e =>
        have hpt : P.underlying t = some (.pointer (P.pointee t)) := by rw [hu]; simp [Program.pointee, hu]
        simp only at hx
        split at hx
        case h_2 => cases hx
        case h_1 =>
          obtain ⟨neg, hop, rfl⟩ : ∃ neg, ((op = .eql ∧ neg = false) ∨ (op = .neq ∧ neg = true)) ∧ X = .more (.nilP neg) [x] := by
            cases op <;> simp at hx
            · exact ⟨false, .inl ⟨rfl, rfl⟩, hx.symm⟩
            · exact ⟨true, .inr ⟨rfl, rfl⟩, hx.symm⟩
          simp only [ro, roY, List.map_cons, List.map_nil] at h
          have key : ∀ (A : Act) (w : World) (p : Option Addr), A.eval x = .pointer p → (execOp A.eval o).run P w = .ok (.value (.bool (neg ^^ p.isNone))) w := by
            intro A w p hz
            refine exe A w (.pointer p) (.pointer none) _ hz rfl (by cases op <;> simp [eqGuard]) ?_
            rcases hop with ⟨rfl, rfl⟩ | ⟨rfl, rfl⟩
            · rw [run_eql_pointer_nil w t p hpt]; simp
            · rw [run_neq_pointer_nil w t p hpt]; simp
          split at h
          case h_1 k off hv =>
            have hx0 : ev fr x = .ptr k off := by simpa using hv
            exact ⟨_, by simp, h, fun σ A w hf hw => by simpa [SV.re] using key A w (some ⟨σ k, off, none⟩) (by rw [hf.ev x (by simp [hx0]), hx0]; rfl)⟩
          case h_2 hv =>
            have hx0 : ev fr x = .v (.pointer none) := by simpa using hv
            exact ⟨_, by simp, h, fun σ A w hf hw => by simpa [SV.re] using key A w none (by rw [hf.ev x (by simp [hx0]), hx0]; rfl)⟩
          case h_3 a hv =>
            have hx0 : ev fr x = .v (.pointer (some a)) := by simpa using hv
            exact ⟨_, by simp, h, fun σ A w hf hw => by simpa [SV.re] using key A w (some a) (by rw [hf.ev x (by simp [hx0]), hx0]; rfl)⟩
          case h_4 => exact h.elim
      all_goals (simp at hx)

end
end Go.Sx
