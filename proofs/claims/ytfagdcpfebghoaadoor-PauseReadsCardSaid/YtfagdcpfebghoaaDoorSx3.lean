/- A symbolic executor of my own, part 3: what an operation that only reads yields symbolically it yields in the model. Conditions: none; it speaks of any program. -/
import Derived.Test.YtfagdcpfebghoaaDoorSx2
namespace Go.Sx

/-- What part 3 shows of an operation. -/
def Yields1 (P : Program) (o : Oper) (fr : List SV) (L : List Chunk) (g : G) (r : SV) : Prop :=
  ∀ (σ : Nat → Nat) (a : Act) (w : World), FR σ fr a.tmps → Reads g L σ w → (execOp a.eval o).run P w = .ok (.value (r.re σ)) w

theorem val1_elim {agg : Bool} {l : List SV} {K : SV → Prop} (h : val1 agg l K) : (agg = true ∧ K (.agg l)) ∨ (agg = false ∧ ∃ x, l = [x] ∧ x ≠ .junk ∧ K x) := by
  cases agg with
  | true => exact .inl ⟨rfl, h⟩
  | false =>
    match l, h with
    | [x], h => exact .inr ⟨rfl, x, rfl, (nj_elim h).1, (nj_elim h).2⟩

theorem ro_mov {P : Program} {dst : Option Tmp} {y : Operand} {op : Op} (hop : op = .move y ∨ op = .assign y) {ty : TypeId} {pos : String} {af : Array Edge} {gd : Option (Nat × Bool)} {fr : List SV} {L : List Chunk} {g : G} {K : SV → Prop}
    (h : nj (ev fr y) K) : ∃ r, r ≠ .junk ∧ K r ∧ Yields1 P ⟨dst, op, ty, pos, af, gd⟩ fr L g r := by
  obtain ⟨hj, hk⟩ := nj_elim h
  refine ⟨_, hj, hk, fun σ a w hf _ => ?_⟩
  rcases hop with rfl | rfl <;> simp [execOp, hf.ev y hj]

theorem run_intBin {P : Program} {op : BinOp} {t : TypeId} {k : IntKind} {a b : Int} {K : SV → Prop} (h1 : op ≠ .shl) (h2 : op ≠ .shr) (h : intBin op k a b K) :
    ∃ r : Value, K (.v r) ∧ ∀ w, (binOp op t (.int k a) (.int k b)).run P w = .ok r w := by
  cases op <;> simp only [intBin] at h
  all_goals first
    | exact absurd rfl h1
    | exact absurd rfl h2
    | exact ⟨_, h, fun w => by simp [binOp, Op.intArith, Op.intBits, Op.intCmp]⟩
    | exact ⟨_, h.2, fun w => by simp [binOp, Op.intDiv, h.1]⟩

theorem run_strBin {P : Program} {op : BinOp} {t : TypeId} {a b : ByteArray} {K : SV → Prop} (h : strBin op a b K) :
    ∃ r : Value, K (.v r) ∧ ∀ w, (binOp op t (.string a) (.string b)).run P w = .ok r w := by
  cases op <;> simp only [strBin] at h
  case add =>
    refine ⟨_, h.2, fun w => ?_⟩
    have := h.1
    have e : ¬ (((a.size + b.size : Nat) : Int) > IntKind.i64.max) := by
      show ¬ (((a.size + b.size : Nat) : Int) > 9223372036854775807)
      omega
    simp only [binOp, Op.stringOp]
    rw [if_neg e]
    rfl
  all_goals exact ⟨_, h, fun w => by simp [binOp, Op.stringOp]⟩

theorem run_valBin {P : Program} {op : BinOp} {t : TypeId} {x y : Value} {K : SV → Prop} (h : valBin op x y K) :
    ∃ r : Value, K (.v r) ∧ (∀ w, (binOp op t x y).run P w = .ok r w) ∧ ∀ (xo yo : Operand) w, (eqGuard op t xo yo x y).run P w = .ok () w := by
  have hg : ∀ (xo yo : Operand) w, (∃ k a, x = .int k a) ∨ (∃ s, x = .string s) → (eqGuard op t xo yo x y).run P w = .ok () w := by
    rintro xo yo w (⟨k, a, rfl⟩ | ⟨s, rfl⟩) <;> simp only [eqGuard] <;> split <;> simp
  cases x with
  | int k a =>
    cases y with
    | int k' b =>
      by_cases h1 : op = .shl
      · subst h1
        simp only [valBin] at h
        exact ⟨_, h.2, fun w => by simp [binOp, Op.shift, show ¬ b < 0 by omega], fun xo yo w => hg xo yo w (.inl ⟨_, _, rfl⟩)⟩
      · by_cases h2 : op = .shr
        · subst h2
          simp only [valBin] at h
          exact ⟨_, h.2, fun w => by simp [binOp, Op.shift, show ¬ b < 0 by omega], fun xo yo w => hg xo yo w (.inl ⟨_, _, rfl⟩)⟩
        · have h' : match decide (k = k') with | true => intBin op k a b K | false => False := by
            cases op <;> first | exact absurd rfl h1 | exact absurd rfl h2 | exact h
          by_cases hk : k = k'
          case neg => simp [hk] at h'
          subst hk
          simp only [decide_true] at h'
          obtain ⟨r, h3, h4⟩ := run_intBin (P := P) (t := t) h1 h2 h'
          exact ⟨r, h3, h4, fun xo yo w => hg xo yo w (.inl ⟨_, _, rfl⟩)⟩
    | _ => exact h.elim
  | string a =>
    cases y with
    | string b =>
      obtain ⟨r, h3, h4⟩ := run_strBin (P := P) (t := t) (show strBin op a b K from h)
      exact ⟨r, h3, h4, fun xo yo w => hg xo yo w (.inr ⟨_, rfl⟩)⟩
    | _ => exact h.elim
  | _ => exact h.elim

/-! ### Rows of cells, compared -/

def eqRel : List Nat → List SV → List SV → Bool → Prop
  | [], [], [], r => r = true
  | 0 :: ks, .v (.int k a) :: l, .v (.int k' b) :: m, r => k = k' ∧ ∃ r', r = ((a == b) && r') ∧ eqRel ks l m r'
  | 1 :: ks, .v (.bool a) :: l, .v (.bool b) :: m, r => ∃ r', r = ((a == b) && r') ∧ eqRel ks l m r'
  | 2 :: ks, .v (.string a) :: l, .v (.string b) :: m, r => ∃ r', r = ((a.toList == b.toList) && r') ∧ eqRel ks l m r'
  | _, _, _, _ => False

theorem eqRel_of_eqKs : ∀ (ks : List Nat) (l m : List SV) (K : Bool → Prop), eqKs ks l m K → ∃ r, eqRel ks l m r ∧ K r := by
  intro ks l m K
  fun_induction eqKs ks l m K with
  | case1 K => intro h; exact ⟨true, rfl, h⟩
  | case2 K ks k a l k' b m hk ih =>
    intro h
    obtain ⟨r, h1, h2⟩ := ih h
    exact ⟨_, ⟨of_decide_eq_true hk, r, rfl, h1⟩, h2⟩
  | case3 => intro h; exact h.elim
  | case4 K ks a l b m ih =>
    intro h
    obtain ⟨r, h1, h2⟩ := ih h
    exact ⟨_, ⟨r, rfl, h1⟩, h2⟩
  | case5 K ks a l b m ih =>
    intro h
    obtain ⟨r, h1, h2⟩ := ih h
    exact ⟨_, ⟨r, rfl, h1⟩, h2⟩
  | case6 => intro h; exact h.elim

theorem eqRel_append : ∀ (ks ks2 : List Nat) (l m : List SV) (r : Bool), eqRel (ks ++ ks2) l m r →
    ∃ r1 r2, r = (r1 && r2) ∧ eqRel ks (l.take ks.length) (m.take ks.length) r1 ∧ eqRel ks2 (l.drop ks.length) (m.drop ks.length) r2 := by
  intro ks ks2
  induction ks with
  | nil => intro l m r h; exact ⟨true, r, by simp, by simp [eqRel], by simpa using h⟩
  | cons k ks ih =>
    intro l m r h
    match k, l, m, h with
    | 0, .v (.int _ a) :: l, .v (.int _ b) :: m, h =>
      obtain ⟨rfl, r', rfl, hq⟩ := h
      obtain ⟨r1, r2, rfl, h1, h2⟩ := ih l m r' hq
      exact ⟨(a == b) && r1, r2, by rw [Bool.and_assoc], ⟨rfl, r1, rfl, by simpa using h1⟩, by simpa using h2⟩
    | 1, .v (.bool a) :: l, .v (.bool b) :: m, h =>
      obtain ⟨r', rfl, hq⟩ := h
      obtain ⟨r1, r2, rfl, h1, h2⟩ := ih l m r' hq
      exact ⟨(a == b) && r1, r2, by rw [Bool.and_assoc], ⟨r1, rfl, by simpa using h1⟩, by simpa using h2⟩
    | 2, .v (.string a) :: l, .v (.string b) :: m, h =>
      obtain ⟨r', rfl, hq⟩ := h
      obtain ⟨r1, r2, rfl, h1, h2⟩ := ih l m r' hq
      exact ⟨(a.toList == b.toList) && r1, r2, by rw [Bool.and_assoc], ⟨r1, rfl, by simpa using h1⟩, by simpa using h2⟩

/-- What is compared: one cell, or cells. -/
def EqAt (P : Program) (d : Nat) (t : TypeId) (ks : List Nat) : Prop :=
  ∀ (l m : List SV) (r : Bool), eqRel ks l m r → ∀ (σ : Nat → Nat) (w : World) (D : Nat), d ≤ D →
    (aggT P t = true → (Op.equalIn D t (.agg (reL σ l).toArray) (.agg (reL σ m).toArray)).run P w = .ok r w) ∧
    (aggT P t = false → ∃ x y, l = [x] ∧ m = [y] ∧ (Op.equalIn D t (x.re σ) (y.re σ)).run P w = .ok r w)

theorem part_eq {P : Program} {d D : Nat} {t : TypeId} {ks : List Nat} (h : EqAt P d t ks) (hD : d ≤ D) (hu : (P.underlying t).isSome) (hi : (P.info? t).isSome) (hc : P.cellsOf t = ks.length) (off : Nat) {l m : List SV} {r : Bool}
    (he : eqRel ks ((l.drop off).take ks.length) ((m.drop off).take ks.length) r) (σ : Nat → Nat) (w : World) :
    ∃ a b, (part t (reL σ l).toArray off).run P w = .ok a w ∧ (part t (reL σ m).toArray off).run P w = .ok b w ∧ (Op.equalIn D t a b).run P w = .ok r w := by
  obtain ⟨h1, h2⟩ := h _ _ _ he σ w D hD
  cases ha : aggT P t with
  | true =>
    refine ⟨_, _, run_part_agg hi ha _ off w, run_part_agg hi ha _ off w, ?_⟩
    have := h1 ha
    rw [hc, ← reL_drop, ← reL_drop, ← reL_take, ← reL_take]
    exact this
  | false =>
    obtain ⟨x, y, hx, hy, hr⟩ := h2 ha
    have one : ∀ (z : List SV) (v : SV), (z.drop off).take ks.length = [v] → (reL σ z)[off]? = some (v.re σ) := by
      intro z v hz
      have h0 := congrArg (fun q => (reL σ q)[0]?) hz
      simp only [reL, reL_take, reL_drop] at h0
      rw [List.getElem?_take] at h0
      split at h0
      · simpa using h0
      · simp at h0
    exact ⟨_, _, run_part_one hu ha _ off _ w (one l x hx), run_part_one hu ha _ off _ w (one m y hy), hr⟩

theorem underlying_isSome_of_flatK {P : Program} {d : Nat} {t : TypeId} {ks : List Nat} (h : flatK P d t = some ks) : (P.underlying t).isSome := by
  cases d with
  | zero => cases h
  | succ d =>
    unfold flatK at h
    cases hu : P.underlying t with
    | none => rw [hu] at h; cases h
    | some _ => rfl

theorem run_eqFields_flat {P : Program} {d D : Nat} (hD : d ≤ D) (ih : ∀ t ks, flatK P d t = some ks → EqAt P d t ks) (σ : Nat → Nat) (w : World) (l m : List SV) :
    ∀ (fs : List Field) (off : Nat) (ks : List Nat) (r : Bool), flatFs (flatK P d) P fs off = some ks → eqRel ks (l.drop off) (m.drop off) r →
    (Op.eqFields D (reL σ l).toArray (reL σ m).toArray fs).run P w = .ok r w := by
  intro fs
  induction fs with
  | nil =>
    intro off ks r h he
    simp only [flatFs, Option.some.injEq] at h
    subst h
    have : r = true := by
      revert he
      cases l.drop off <;> cases m.drop off <;> simp [eqRel]
    simp [Op.eqFields, this]
  | cons f fs ihf =>
    intro off ks r h he
    simp only [flatFs] at h
    split at h
    case isFalse => cases h
    case isTrue hf =>
      obtain ⟨hoff, hname⟩ := hf
      cases hk : flatK P d f.type with
      | none => rw [hk] at h; cases h
      | some k1 =>
        rw [hk] at h
        simp only at h
        split at h
        case isFalse => cases h
        case isTrue hc =>
          rw [Option.map_eq_some_iff] at h
          obtain ⟨k2, hk2, rfl⟩ := h
          obtain ⟨r1, r2, rfl, h1, h2⟩ := eqRel_append _ _ _ _ _ he
          obtain ⟨a, b, p1, p2, p3⟩ := part_eq (ih _ _ hk) hD (underlying_isSome_of_flatK hk) hc.2 hc.1 off h1 σ w
          have hrest := ihf (off + k1.length) k2 r2 hk2 (by simpa [List.drop_drop] using h2)
          simp only [Op.eqFields, hname, ne_eq, not_false_eq_true, if_true, Sem.run_bind, hoff, p1, p2, p3, Result.andThen_ok]
          cases r1
          · simp
          · simpa using hrest

theorem run_eqItems_flat {P : Program} {d D : Nat} (hD : d ≤ D) {e : TypeId} {ks : List Nat} (ih : EqAt P d e ks) (hu : (P.underlying e).isSome) (hi : (P.info? e).isSome) (hc : P.cellsOf e = ks.length) (σ : Nat → Nat) (w : World) (l m : List SV) :
    ∀ (n k : Nat) (r : Bool), eqRel (List.replicate n ks).flatten (l.drop (k * ks.length)) (m.drop (k * ks.length)) r →
    (Op.eqItems D e (P.cellsOf e) (reL σ l).toArray (reL σ m).toArray (List.range' k n)).run P w = .ok r w := by
  intro n
  induction n with
  | zero =>
    intro k r he
    have : r = true := by
      revert he
      cases l.drop (k * ks.length) <;> cases m.drop (k * ks.length) <;> simp [eqRel]
    simp [Op.eqItems, this]
  | succ n ihn =>
    intro k r he
    simp only [List.replicate_succ, List.flatten_cons] at he
    obtain ⟨r1, r2, rfl, h1, h2⟩ := eqRel_append _ _ _ _ _ he
    obtain ⟨a, b, p1, p2, p3⟩ := part_eq ih hD hu hi hc (k * ks.length) h1 σ w
    have hrest := ihn (k + 1) r2 (by simpa [List.drop_drop, Nat.add_mul] using h2)
    simp only [List.range'_succ, Op.eqItems, Sem.run_bind]
    rw [hc] at hrest ⊢
    simp only [p1, p2, p3, Result.andThen_ok]
    cases r1
    · simp
    · simpa using hrest

theorem eqAt_of_flatK {P : Program} : ∀ (d : Nat) (t : TypeId) (ks : List Nat), flatK P d t = some ks → EqAt P d t ks := by
  intro d
  induction d with
  | zero => intro t ks h; cases h
  | succ d ih =>
    intro t ks h l m r he σ w D hD
    obtain ⟨D, rfl⟩ : ∃ D', D = D' + 1 := ⟨D - 1, by omega⟩
    simp only [flatK] at h
    cases hu : P.underlying t with
    | none => rw [hu] at h; cases h
    | some td =>
      rw [hu] at h
      cases td
      case bool =>
        simp only [Option.some.injEq] at h
        subst h
        refine ⟨fun ha => by simp [aggT, hu] at ha, fun _ => ?_⟩
        match l, m, he with
        | .v (.bool a) :: l, .v (.bool b) :: m, he =>
          obtain ⟨r', rfl, hq⟩ := he
          match l, m, hq with
          | [], [], hz =>
            have : r' = true := hz
            subst this
            exact ⟨_, _, rfl, rfl, by simp [SV.re, Op.equalIn, run_underlying hu]⟩
      case int k0 =>
        simp only [Option.some.injEq] at h
        subst h
        refine ⟨fun ha => by simp [aggT, hu] at ha, fun _ => ?_⟩
        match l, m, he with
        | .v (.int k a) :: l, .v (.int k' b) :: m, he =>
          obtain ⟨rfl, r', rfl, hq⟩ := he
          match l, m, hq with
          | [], [], hz =>
            have : r' = true := hz
            subst this
            exact ⟨_, _, rfl, rfl, by simp [SV.re, Op.equalIn, run_underlying hu]⟩
      case string =>
        simp only [Option.some.injEq] at h
        subst h
        refine ⟨fun ha => by simp [aggT, hu] at ha, fun _ => ?_⟩
        match l, m, he with
        | .v (.string a) :: l, .v (.string b) :: m, he =>
          obtain ⟨r', rfl, hq⟩ := he
          match l, m, hq with
          | [], [], hz =>
            have : r' = true := hz
            subst this
            exact ⟨_, _, rfl, rfl, by simp [SV.re, run_equalIn_string w D t a b hu]⟩
      case struct fs =>
        simp only at h
        split at h
        case isTrue => cases h
        case isFalse hs =>
          refine ⟨fun _ => ?_, fun ha => by simp [aggT, hu] at ha⟩
          have hfs : P.fieldsOf t = fs := by simp [Program.fieldsOf, hu]
          rw [run_equalIn_struct w D t _ _ (by rw [hfs]; exact hu) (by simpa using hs), hfs]
          exact run_eqFields_flat (by omega) ih σ w l m fs.toList 0 ks r h (by simpa using he)
      case array n e =>
        simp only at h
        cases hk : flatK P d e with
        | none => rw [hk] at h; cases h
        | some k1 =>
          rw [hk] at h
          simp only at h
          split at h
          case isFalse => cases h
          case isTrue hc =>
            simp only [Option.some.injEq] at h
            subst h
            obtain ⟨i, hi⟩ := Option.isSome_iff_exists.1 hc.2
            refine ⟨fun _ => ?_, fun ha => by simp [aggT, hu] at ha⟩
            rw [run_equalIn_array w D _ _ hu hi, List.range_eq_range']
            exact run_eqItems_flat (by omega) (ih _ _ hk) (underlying_isSome_of_flatK hk) hc.2 hc.1 σ w l m n 0 r (by simpa using he)
      all_goals (cases h)

end Go.Sx
