/- A symbolic executor of my own, part 15: loops: a relation of named slots and of the blocks at hand. Conditions: none; it speaks of any program. -/
import Derived.Test.YtflnpoahceebbaaSx14
namespace Go.Sx

theorem Kept.refl (D : List Nat) (fr : List SV) : Kept D fr fr := ⟨rfl, fun _ _ => rfl⟩
theorem Kept.trans {D : List Nat} {a b c : List SV} (h : Kept D a b) (k : Kept D b c) : Kept D a c := ⟨k.1.trans h.1, fun i hi => (k.2 i hi).trans (h.2 i hi)⟩
theorem Kept.mono {D D' : List Nat} {a b : List SV} (h : Kept D a b) (hD : ∀ i, i ∈ D → i ∈ D') : Kept D' a b := ⟨h.1, fun i hi => h.2 i fun hx => hi (hD i hx)⟩
theorem Kept.put {D : List Nat} {a : List SV} {d : Nat} {v : SV} (hd : d ∈ D) : Kept D a (put a d v) :=
  ⟨put_length, fun i hi => by rw [get_put, if_neg]; rintro ⟨rfl, _⟩; exact hi hd⟩
theorem Kept.putO {D : List Nat} {a : List SV} {d : Option Nat} {v : SV} (hd : ∀ x, d = some x → x ∈ D) : Kept D a (putO a d v) := by
  cases d with
  | none => exact Kept.refl _ _
  | some d => exact Kept.put (hd d rfl)

theorem njL_imp : ∀ (q : List SV) (A B : List SV → Prop), (∀ l, A l → B l) → njL q A → njL q B := by
  intro q
  induction q with
  | nil => intro A B hab ha; exact hab _ ha
  | cons y q ihq => intro A B hab ha; exact nj_imp ha fun hk => ihq _ _ (fun l => hab _) hk

theorem ro_imp {X : XOp} {e : Operand → SV} {L : List Chunk} {g : G} {A B : SV → Prop} (hab : ∀ r, A r → B r) (h : ro X e L g A) : ro X e L g B := by
  have v1 : ∀ agg l, val1 agg l A → val1 agg l B := by
    intro agg l h
    cases agg with
    | true => exact hab _ h
    | false => match l, h with | [x], h => exact nj_imp h (hab _)
  have il : ∀ (a b : Nat) (p q : Prop), (p → q) → ifle a b p → ifle a b q := by
    intro a b p q hpq h
    unfold ifle at *
    cases hb : Nat.ble a b <;> rw [hb] at h
    · exact h.elim
    · exact hpq h
  have nl : ∀ (q : List SV) (A B : List SV → Prop), (∀ l, A l → B l) → njL q A → njL q B := by
    intro q
    induction q with
    | nil => intro A B hab ha; exact hab _ ha
    | cons y q ihq => intro A B hab ha; exact nj_imp ha fun hk => ihq _ _ (fun l => hab _) hk
  cases X <;> simp only [ro] at h ⊢
  case mov x => exact nj_imp h (hab _)
  case pick c a b =>
    split at h
    case h_2 => exact h.elim
    case h_1 t hc =>
      try simp only [hc]
      cases t
      · exact nj_imp (h : nj _ _) (hab _)
      · exact nj_imp (h : nj _ _) (hab _)
  case build zs ps =>
    split at h
    case h_2 => exact h.elim
    case h_1 l hf => try simp only [hf]
                     exact hab _ h
  case load agg n a =>
    split at h
    case h_1 k off ha =>
      try simp only [ha]
      split at h
      case h_1 ty c hc => try simp only [hc]
                          exact il _ _ _ _ (v1 _ _) h
      case h_2 ty c hc => try simp only [hc]
                          exact ⟨h.1, v1 _ _ h.2⟩
      case h_3 => exact h.elim
    case h_2 a ha =>
      try simp only [ha]
      obtain ⟨xs, h1, h2, h⟩ := h
      exact ⟨xs, h1, h2, v1 _ _ h⟩
    case h_3 => exact h.elim
  case bin op x y =>
    split at h
    case h_2 => exact h.elim
    case h_1 a ha =>
      try simp only [ha]
      split at h
      case h_2 => exact h.elim
      case h_1 b hb =>
        try simp only [hb]
        cases a with
        | int k a =>
          cases b with
          | int k' b =>
            have hi : ∀ op, intBin op k a b A → intBin op k a b B := by
              intro op h
              cases op <;> simp only [intBin] at h ⊢ <;> first | exact h.elim | exact ⟨h.1, hab _ h.2⟩ | exact hab _ h
            cases op <;> simp only [valBin] at h ⊢ <;> first
              | exact ⟨h.1, hab _ h.2⟩
              | (cases hk : decide (k = k') <;> rw [hk] at h <;> first | exact h.elim | exact hi _ h)
          | _ => exact h.elim
        | string a =>
          cases b with
          | string b => cases op <;> simp only [valBin, strBin] at h ⊢ <;> first | exact h.elim | exact ⟨h.1, hab _ h.2⟩ | exact hab _ h
          | _ => exact h.elim
        | _ => exact h.elim
  case eqB neg x y =>
    split at h
    case h_2 => exact h.elim
    case h_1 a ha =>
      try simp only [ha]
      split at h
      case h_2 => exact h.elim
      case h_1 b hb => try simp only [hb]
                       exact hab _ h
  case eqAgg neg ks x y =>
    split at h
    case h_2 => exact h.elim
    case h_1 a ha =>
      try simp only [ha]
      split at h
      case h_2 => exact h.elim
      case h_1 b hb => try simp only [hb]
                       exact eqKs_imp (fun r hr => hab _ hr) _ _ _ h
  case un op x =>
    split at h
    case h_1 b hb => (try simp only [hb]); cases op <;> simp only at h ⊢ <;> exact hab _ h
    case h_2 k n hb => (try simp only [hb]); cases op <;> simp only at h ⊢ <;> exact hab _ h
    case h_3 => exact h.elim
  case conv k x =>
    split at h
    case h_1 k' n hb => (try simp only [hb]); exact hab _ h
    case h_2 => exact h.elim
  case fieldA off x =>
    split at h
    case h_1 k o hb => (try simp only [hb]); exact hab _ h
    case h_2 a hb => (try simp only [hb]); exact hab _ h
    case h_3 => exact h.elim
  case fieldV agg off n x =>
    split at h
    case h_2 => exact h.elim
    case h_1 l hb => (try simp only [hb]); exact il _ _ _ _ (v1 _ _) h
  case indexS sz x i =>
    split at h
    case h_2 => exact h.elim
    case h_1 k n hi =>
      try simp only [hi]
      split at h
      case h_1 a len cap hb => (try simp only [hb]); obtain ⟨h1, ad, h2, h⟩ := h; exact ⟨h1, ad, h2, hab _ h⟩
      case h_2 k off len cap hb => (try simp only [hb]); exact ⟨h.1, hab _ h.2⟩
      case h_3 => exact h.elim
  case indexP len sz x i =>
    split at h
    case h_2 => exact h.elim
    case h_1 k n hi =>
      try simp only [hi]
      split at h
      case h_1 k off hb => (try simp only [hb]); exact ⟨h.1, hab _ h.2⟩
      case h_2 a hb => (try simp only [hb]); exact ⟨h.1, hab _ h.2⟩
      case h_3 => exact h.elim
  case indexV len agg sz x i =>
    split at h
    case h_2 => exact h.elim
    case h_1 k n hi =>
      try simp only [hi]
      split at h
      case h_2 => exact h.elim
      case h_1 l hb => (try simp only [hb]); exact ⟨h.1, il _ _ _ _ (v1 _ _) h.2⟩
  case indexStr x i =>
    split at h
    case h_2 => exact h.elim
    case h_1 k n hi =>
      try simp only [hi]
      split at h
      case h_2 => exact h.elim
      case h_1 s hb => (try simp only [hb]); exact ⟨h.1, hab _ h.2⟩
  case ext x i =>
    split at h
    case h_1 l hb => (try simp only [hb]); exact nj_imp h (hab _)
    case h_2 c hb =>
      try simp only [hb]
      split at h
      case h_1 y hy => exact hab _ h
      case h_2 => exact h.elim
    case h_3 => exact h.elim
  case len str x =>
    cases str
    · simp only at h ⊢
      split at h
      case h_1 a n c hb => (try simp only [hb]); exact hab _ h
      case h_2 k o n c hb => (try simp only [hb]); exact hab _ h
      case h_3 => exact h.elim
    · simp only at h ⊢
      split at h
      case h_1 s hb => (try simp only [hb]); exact hab _ h
      case h_2 => exact h.elim
  case mkI t x =>
    split at h
    case h_1 y hb => (try simp only [hb]); exact hab _ h
    case h_2 => exact h.elim
    case h_3 y h1 h2 => exact hab _ h
  case mkF f a b => exact nl _ _ _ (fun a => nl _ _ _ fun b => hab _) h

theorem hp_imp {P : Program} {X : XOp} {e : Operand → SV} {L : List Chunk} {g : G} {K K' : SV → List Chunk → G → Prop} (h : hp P X e L g K) (hk : ∀ r L g, K r L g → K' r L g) : hp P X e L g K' := by
  have nl := njL_imp
  have gen : ∀ X, (∀ K, hp P X e L g K = ro X e L g fun r => K r L g) → hp P X e L g K → hp P X e L g K' := fun X hX h => by
    rw [hX] at h ⊢
    exact ro_imp (fun r => hk r L g) h
  cases X
  case alloc t zs => exact hk _ _ _ h
  case box t x => exact nj_imp h (hk _ _ _)
  case bslice t n zs ps =>
    simp only [hp] at h ⊢
    split at h
    case h_1 l hf => (try simp only [hf]); exact hk _ _ _ h
    case h_2 => exact h.elim
  case store n a x =>
    simp only [hp] at h ⊢
    split at h
    case h_2 => exact h.elim
    case h_1 k off ha =>
      try simp only [ha]
      split at h
      case h_1 ty c hc =>
        try simp only [hc]
        refine nj_imp h fun h => ?_
        obtain ⟨h1, h⟩ := ifle_elim h
        obtain ⟨h2, h⟩ := ifOk_elim h
        simp only [ifle, Nat.ble_eq_true_of_le h1, h2]
        have oa : ∀ (l : List SV) (p q : Prop), (p → q) → oneAll l p → oneAll l q := by
          intro l
          induction l with
          | nil => intro p q hpq h; exact hpq h
          | cons x l ih =>
            intro p q hpq h
            cases x <;> first | exact h.elim | exact ⟨h.1, ih _ _ hpq h.2⟩ | exact ih _ _ hpq h
        exact oa _ _ _ (hk _ _ _) h
      case h_2 ty c hc =>
        try simp only [hc]
        split at h
        case h_1 y hy => exact ⟨h.1, h.2.1, h.2.2.1, hk _ _ _ h.2.2.2⟩
        case h_2 => exact h.elim
      case h_3 => exact h.elim
  case call f args => exact nl _ _ _ (fun as h => h.mono hk) h
  case callv x args =>
    simp only [hp] at h ⊢
    split at h
    case h_1 f first cap hx => (try simp only [hx]); exact nl _ _ _ (fun as h => h.mono hk) h
    case h_2 => exact h.elim
  all_goals exact gen _ (fun K => rfl) h

theorem vcOp_keeps {P : Program} {o : XOper} {S : St} {K : St → Prop} (h : vcOp P o S K) : vcOp P o S fun S' => K S' ∧ Kept (dstsOps [o]) S.fr S'.fr := by
  obtain ⟨dst, gd, x⟩ := o
  have hd : ∀ d, dst = some d → d ∈ dstsOps [⟨dst, gd, x⟩] := by rintro d rfl; simp [dstsOps]
  cases gd with
  | none => simp only [vcOp] at h ⊢; exact hp_imp h fun r L g hk => ⟨hk, Kept.putO hd⟩
  | some p =>
    obtain ⟨t, want⟩ := p
    have ht : t ∈ dstsOps [⟨dst, some (t, want), x⟩] := by simp [dstsOps]
    simp only [vcOp] at h ⊢
    split at h
    case h_1 b hb =>
      have hw : ∀ (run : Bool) (b : Bool), vcRun P run ⟨dst, some (t, want), x⟩ ⟨put S.fr t (.v (.bool b)), S.L, S.g⟩ K →
          vcRun P run ⟨dst, some (t, want), x⟩ ⟨put S.fr t (.v (.bool b)), S.L, S.g⟩ fun S' => K S' ∧ Kept (dstsOps [⟨dst, some (t, want), x⟩]) S.fr S'.fr := by
        intro run b h
        cases run
        · exact ⟨h, (Kept.put ht).trans (Kept.putO hd)⟩
        · simp only [vcRun] at h ⊢; exact hp_imp h fun r L g hk => ⟨hk, (Kept.put ht).trans (Kept.putO hd)⟩
      cases b
      · exact hw _ false h
      · exact hw _ true h
    case h_2 c hc => exact ⟨h, Kept.putO hd⟩
    case h_3 => exact h.elim

theorem vcOps_imp {P : Program} : ∀ (l : List XOper) {S : St} {K K' : St → Prop}, vcOps P l S K → (∀ S', K S' → K' S') → vcOps P l S K' := by
  intro l
  induction l with
  | nil => intro S K K' h hk; exact hk _ h
  | cons o l ih =>
    intro S K K' h hk
    have hop : ∀ {S : St} {A B : St → Prop}, vcOp P o S A → (∀ S, A S → B S) → vcOp P o S B := by
      intro S A B h hab
      obtain ⟨dst, gd, x⟩ := o
      cases gd with
      | none => simp only [vcOp] at h ⊢; exact hp_imp h fun _ _ _ h => hab _ h
      | some p =>
        obtain ⟨t, want⟩ := p
        simp only [vcOp] at h ⊢
        split at h
        case h_1 b hb =>
          have hw : ∀ (run : Bool) (T : St), vcRun P run ⟨dst, some (t, want), x⟩ T A → vcRun P run ⟨dst, some (t, want), x⟩ T B := by
            intro run T h
            cases run
            · exact hab _ h
            · simp only [vcRun] at h ⊢; exact hp_imp h fun _ _ _ h => hab _ h
          cases b
          · exact hw _ _ h
          · exact hw _ _ h
        case h_2 => exact hab _ h
        case h_3 => exact h.elim
    exact hop h fun S h => ih h hk

theorem vcOps_keeps {P : Program} : ∀ (l : List XOper) {S : St} {K : St → Prop}, vcOps P l S K → vcOps P l S fun S' => K S' ∧ Kept (dstsOps l) S.fr S'.fr := by
  intro l
  induction l with
  | nil => intro S K h; exact ⟨h, Kept.refl _ _⟩
  | cons o l ih =>
    intro S K h
    have h1 := vcOp_keeps (show vcOp P o S fun S => vcOps P l S K from h)
    have hsub1 : ∀ i, i ∈ dstsOps [o] → i ∈ dstsOps (o :: l) := by intro i hi; simp only [dstsOps, List.append_nil, List.mem_append] at hi ⊢; exact .inl hi
    have hsub2 : ∀ i, i ∈ dstsOps l → i ∈ dstsOps (o :: l) := by intro i hi; simp only [dstsOps, List.mem_append]; exact .inr hi
    exact vcOps_imp [o] (S := S) h1 fun S1 ⟨h2, hk⟩ => vcOps_imp l (ih h2) fun S2 ⟨h3, hk2⟩ => ⟨h3, (hk.mono hsub1).trans (hk2.mono hsub2)⟩

theorem qp_imp {P : Program} {X : XOp} {e : Operand → SV} {L : List Chunk} {g : G} {K K' : SV → Prop} (h : qp P X e L g K) (hk : ∀ r, K r → K' r) : qp P X e L g K' := by
  cases X
  case call f args => exact njL_imp _ _ _ (fun as ⟨r, h1, h2, h3⟩ => ⟨r, h1, h2, hk _ h3⟩) h
  case callv x args =>
    simp only [qp] at h ⊢
    split at h
    case h_1 f first cap hx => (try simp only [hx]); exact njL_imp _ _ _ (fun as ⟨r, h1, h2, h3⟩ => ⟨r, h1, h2, hk _ h3⟩) h
    case h_2 => exact h.elim
  all_goals (simp only [qp] at h ⊢; exact ro_imp hk h)

theorem vqOp_keeps {P : Program} {o : XOper} {S : St} {K K' : St → Prop} (h : vqOp P o S K) (hk : ∀ S', K S' → Kept (dstsOps [o]) S.fr S'.fr → K' S') : vqOp P o S K' := by
  obtain ⟨dst, gd, x⟩ := o
  have hd : ∀ d, dst = some d → d ∈ dstsOps [⟨dst, gd, x⟩] := by rintro d rfl; simp [dstsOps]
  cases gd with
  | none => simp only [vqOp] at h ⊢; exact qp_imp h fun r h => hk _ h (Kept.putO hd)
  | some p =>
    obtain ⟨t, want⟩ := p
    have ht : t ∈ dstsOps [⟨dst, some (t, want), x⟩] := by simp [dstsOps]
    simp only [vqOp] at h ⊢
    split at h
    case h_1 b hb =>
      have hw : ∀ (run : Bool) (b : Bool), vqRun P run ⟨dst, some (t, want), x⟩ ⟨put S.fr t (.v (.bool b)), S.L, S.g⟩ K → vqRun P run ⟨dst, some (t, want), x⟩ ⟨put S.fr t (.v (.bool b)), S.L, S.g⟩ K' := by
        intro run b h
        cases run
        · exact hk _ h ((Kept.put ht).trans (Kept.putO hd))
        · simp only [vqRun] at h ⊢; exact qp_imp h fun r h => hk _ h ((Kept.put ht).trans (Kept.putO hd))
      cases b
      · exact hw _ false h
      · exact hw _ true h
    case h_2 c hc => exact hk _ h (Kept.putO hd)
    case h_3 => exact h.elim

theorem vqOps_keeps {P : Program} : ∀ (l : List XOper) {S : St} {K K' : St → Prop}, vqOps P l S K → (∀ S', K S' → Kept (dstsOps l) S.fr S'.fr → K' S') → vqOps P l S K' := by
  intro l
  induction l with
  | nil => intro S K K' h hk; exact hk _ h (Kept.refl _ _)
  | cons o l ih =>
    intro S K K' h hk
    have hsub1 : ∀ i, i ∈ dstsOps [o] → i ∈ dstsOps (o :: l) := by intro i hi; simp only [dstsOps, List.append_nil, List.mem_append] at hi ⊢; exact .inl hi
    have hsub2 : ∀ i, i ∈ dstsOps l → i ∈ dstsOps (o :: l) := by intro i hi; simp only [dstsOps, List.mem_append]; exact .inr hi
    exact vqOp_keeps (show vqOp P o S fun S => vqOps P l S K from h) fun S1 h1 hk1 => ih h1 fun S2 h2 hk2 => hk _ h2 ((hk1.mono hsub1).trans (hk2.mono hsub2))

theorem dsts_take (n : Nat) : ∀ (l : List XOper), (∀ i, i ∈ dstsOps (l.take n) → i ∈ dstsOps l) ∧ (∀ i, i ∈ dstsOps (l.drop n) → i ∈ dstsOps l) := by
  induction n with
  | zero => intro l; exact ⟨by simp [dstsOps], by simp⟩
  | succ n ih =>
    intro l
    cases l with
    | nil => simp [dstsOps]
    | cons o l =>
      obtain ⟨h1, h2⟩ := ih l
      refine ⟨fun i hi => ?_, fun i hi => ?_⟩
      · simp only [List.take_succ_cons, dstsOps, List.mem_append] at hi ⊢
        rcases hi with hi | hi
        · exact .inl hi
        · exact .inr (h1 i hi)
      · simp only [List.drop_succ_cons] at hi
        simp only [dstsOps, List.mem_append]
        exact .inr (h2 i hi)

theorem vcC_keeps {P : Program} : ∀ (c : XC) {S : St} {K K' : Exit → St → Prop}, vcC P c S K → (∀ e S', K e S' → Kept (dsts c) S.fr S'.fr → K' e S') → vcC P c S K' := by
  intro c
  induction c with
  | skip => intro S K K' h hk; exact hk _ _ h (Kept.refl _ _)
  | exit id => intro S K K' h hk; exact hk _ _ h (Kept.refl _ _)
  | ret => intro S K K' h hk; exact hk _ _ h (Kept.refl _ _)
  | ops l => intro S K K' h hk; exact vcOps_imp l (vcOps_keeps l h) fun S' ⟨h1, h2⟩ => hk _ _ h1 h2
  | draw n l =>
    intro S K K' h hk
    obtain ⟨h1, h2⟩ := dsts_take n l
    exact vqOps_keeps (l.take n) (show vqOps P (l.take n) S fun S => vcOps P (l.drop n) S (K .normal) from h) fun S1 h3 k1 =>
      vcOps_imp (l.drop n) (vcOps_keeps (l.drop n) h3) fun S2 ⟨h4, k2⟩ => hk _ _ h4 ((k1.mono h1).trans (k2.mono h2))
  | seq a b iha ihb =>
    intro S K K' h hk
    have ha : ∀ i, i ∈ dsts a → i ∈ dsts (.seq a b) := fun i hi => by simp only [dsts, List.mem_append]; exact .inl hi
    have hb : ∀ i, i ∈ dsts b → i ∈ dsts (.seq a b) := fun i hi => by simp only [dsts, List.mem_append]; exact .inr hi
    simp only [vcC] at h ⊢
    refine iha h fun e S1 h1 k1 => ?_
    cases e <;> first
      | exact ihb h1 fun e S2 h2 k2 => hk _ _ h2 ((k1.mono ha).trans (k2.mono hb))
      | exact hk _ _ h1 (k1.mono ha)
      | exact h1.elim
  | cond c a b iha ihb =>
    intro S K K' h hk
    have ha : ∀ i, i ∈ dsts a → i ∈ dsts (.cond c a b) := fun i hi => by simp only [dsts, List.mem_append]; exact .inl hi
    have hb : ∀ i, i ∈ dsts b → i ∈ dsts (.cond c a b) := fun i hi => by simp only [dsts, List.mem_append]; exact .inr hi
    simp only [vcC] at h ⊢
    split at h
    case h_2 => exact h.elim
    case h_1 t ht =>
      cases t
      · exact ihb (h : vcC P b S K) fun e S1 h1 k1 => hk _ _ h1 (k1.mono hb)
      · exact iha (h : vcC P a S K) fun e S1 h1 k1 => hk _ _ h1 (k1.mono ha)
  | block id c ih =>
    intro S K K' h hk
    simp only [vcC] at h ⊢
    refine ih h fun e S1 h1 k1 => ?_
    cases e with
    | exit j =>
      simp only at h1 ⊢
      split at h1
      case h_1 hb => (try simp only [hb]); exact hk _ _ h1 k1
      case h_2 hb => (try simp only [hb]); exact hk _ _ h1 k1
    | _ => first | exact h1.elim | exact hk _ _ h1 k1
  | loop m c ih =>
    intro S K K' h hk
    intro hs hL
    obtain ⟨I, n, T, hw, hl, hkt, hI, hround⟩ := h hs hL
    refine ⟨fun n T' => I n T' ∧ Kept (dsts c) S.fr T'.fr, n, T, hw, hl, hkt, ⟨hI, hkt⟩, ?_⟩
    rintro n T1 ⟨hI1, hk1⟩
    refine ih (hround n T1 hI1) fun e S2 h2 k2 => ?_
    cases e with
    | normal =>
      obtain ⟨m, T2, hm, hw2, hl2, hk2, hI2⟩ := h2
      exact ⟨m, T2, hm, hw2, hl2, hk2, hI2, hk2⟩
    | exit j => exact hk _ _ h2 (hk1.trans k2)
    | ret => exact hk _ _ h2 (hk1.trans k2)
    | _ => exact h2.elim

end Go.Sx
