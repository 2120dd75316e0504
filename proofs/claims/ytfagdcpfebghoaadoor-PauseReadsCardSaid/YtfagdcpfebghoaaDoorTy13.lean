/- A symbolic executor of my own, second design, part 13: the rule for loops; contracts that tell the answer. Conditions: none; it speaks of any program. -/
import Derived.Test.YtfagdcpfebghoaaDoorTy12
namespace Go.Sx

def junkM : List SV → List Bool → List SV
  | [], _ => []
  | l, [] => l
  | _ :: l, true :: m => .junk :: junkM l m
  | x :: l, false :: m => x :: junkM l m
def setAll : List SV → List (Nat × SV) → List SV
  | fr, [] => fr
  | fr, (t, v) :: l => setAll (put fr t v) l
def upd (fr : List SV) (m : List Bool) (vals : List (Nat × SV)) : List SV := setAll (junkM fr m) vals

def forceM : List SV → List Bool → (List SV → Prop) → Prop
  | [], _, K => K []
  | x :: l, [], K => forceM l [] fun l' => K (x :: l')
  | _ :: l, true :: m, K => forceM l m fun l' => K (.junk :: l')
  | x :: l, false :: m, K => forceM l m fun l' => K (x :: l')
theorem junkM_nil : ∀ l : List SV, junkM l [] = l
  | [] => rfl
  | _ :: _ => rfl
theorem forceM_eq : ∀ (l : List SV) (m : List Bool) (K : List SV → Prop), forceM l m K = K (junkM l m)
  | [], _, _ => rfl
  | x :: l, [], K => by rw [forceM, forceM_eq, junkM_nil]; rfl
  | _ :: l, true :: m, K => by rw [forceM, forceM_eq]; rfl
  | x :: l, false :: m, K => by rw [forceM, forceM_eq]; rfl
def forceS : List SV → List (Nat × SV) → (List SV → Prop) → Prop
  | fr, [], K => K fr
  | fr, (t, v) :: l, K => force (put fr t v) fun fr => forceS fr l K
theorem forceS_eq : ∀ (l : List (Nat × SV)) (fr : List SV) (K : List SV → Prop), forceS fr l K = K (setAll fr l)
  | [], _, _ => rfl
  | (t, v) :: l, fr, K => by rw [forceS, force_eq, forceS_eq l]; rfl
/-- The frame at a round's head, written out. -/
def forceU (fr : List SV) (m : List Bool) (vals : List (Nat × SV)) (K : List SV → Prop) : Prop := forceM fr m fun fr => forceS fr vals K
theorem forceU_eq (fr : List SV) (m : List Bool) (vals : List (Nat × SV)) (K : List SV → Prop) : forceU fr m vals K = K (upd fr m vals) := by
  rw [forceU, forceM_eq, forceS_eq]
  rfl

/-- These slots hold these values. -/
def trk (fr : List SV) : List (Nat × SV) → Prop
  | [] => True
  | (t, v) :: l => get fr t = v ∧ trk fr l

def scV (n : Nat) : List (Nat × SV) → Bool
  | [] => true
  | (_, v) :: l => v.sc n && scV n l
def inD (D : List Nat) : List (Nat × SV) → Bool
  | [] => true
  | (t, _) :: l => D.contains t && inD D l

theorem junkM_length : ∀ (fr : List SV) (m : List Bool), (junkM fr m).length = fr.length
  | [], _ => by simp [junkM]
  | _ :: _, [] => rfl
  | _ :: l, true :: m => by simp [junkM, junkM_length l m]
  | _ :: l, false :: m => by simp [junkM, junkM_length l m]
theorem setAll_length : ∀ (l : List (Nat × SV)) (fr : List SV), (setAll fr l).length = fr.length
  | [], _ => rfl
  | (t, v) :: l, fr => by rw [setAll, setAll_length l, put_length]

theorem get_junkM : ∀ (fr : List SV) (m : List Bool) (i : Nat), (m.getD i false = true → get (junkM fr m) i = .junk) ∧ (m.getD i false = false → get (junkM fr m) i = get fr i)
  | [], m, i => by simp [junkM, get]
  | x :: l, [], i => by simp [junkM]
  | x :: l, b :: m, i => by
    cases i with
    | zero => cases b <;> simp [junkM, get]
    | succ i =>
      have := get_junkM l m i
      cases b <;> simpa [junkM, get] using this

theorem get_setAll : ∀ (l : List (Nat × SV)) (fr : List SV) (i : Nat) (F : List SV), trk F l → F.length = fr.length →
    get (setAll fr l) i = get F i ∨ get (setAll fr l) i = get fr i
  | [], _, _, _, _, _ => .inr rfl
  | (t, v) :: l, fr, i, F, h, hl => by
    rw [setAll]
    rcases get_setAll l (put fr t v) i F h.2 (by rw [put_length]; exact hl) with h1 | h1
    · exact .inl h1
    · rw [h1, get_put]
      by_cases hc : t = i ∧ t < fr.length
      · rw [if_pos hc]
        obtain ⟨rfl, _⟩ := hc
        exact .inl h.1.symm
      · rw [if_neg hc]
        exact .inr rfl

theorem get_setAll_not : ∀ (l : List (Nat × SV)) (fr : List SV) (i : Nat) (D : List Nat), inD D l = true → i ∉ D → get (setAll fr l) i = get fr i
  | [], _, _, _, _, _ => rfl
  | (t, v) :: l, fr, i, D, h, hi => by
    simp only [inD, Bool.and_eq_true] at h
    rw [setAll, get_setAll_not l _ i D h.2 hi, get_put, if_neg]
    rintro ⟨rfl, _⟩
    exact hi (by simpa using h.1)

theorem sc_junkM {n : Nat} : ∀ (fr : List SV) (m : List Bool), scL n fr = true → scL n (junkM fr m) = true
  | [], _, h => by simpa [junkM] using h
  | _ :: _, [], h => h
  | x :: l, b :: m, h => by
    simp only [scL, Bool.and_eq_true] at h
    have := sc_junkM l m h.2
    cases b
    · simp [junkM, scL, h.1, this]
    · simp [junkM, scL, SV.sc, this]
theorem sc_setAll {n : Nat} : ∀ (l : List (Nat × SV)) (fr : List SV), scL n fr = true → scV n l = true → scL n (setAll fr l) = true
  | [], _, h, _ => h
  | (t, v) :: l, _, h, hv => by
    simp only [scV, Bool.and_eq_true] at hv
    exact sc_setAll l _ (sc_put h t hv.1) hv.2

def maskB (m : List Bool) (D : List Nat) : Bool :=
  ((List.range m.length).all fun i => m.getD i false == D.contains i) && D.all fun d => Nat.blt d m.length
theorem maskB_spec {m : List Bool} {D : List Nat} (h : maskB m D = true) (i : Nat) : m.getD i false = true ↔ i ∈ D := by
  simp only [maskB, Bool.and_eq_true, List.all_eq_true, List.mem_range, beq_iff_eq, Nat.blt_eq] at h
  by_cases hi : i < m.length
  · rw [h.1 i hi]; simp
  · constructor
    · intro h'; simp [List.getD, show m.length ≤ i by omega] at h'
    · intro h'; exact absurd (h.2 i h') hi


theorem njL_imp : ∀ (q : List SV) (A B : List SV → Prop), (∀ l, A l → B l) → njL q A → njL q B := by
  intro q
  induction q with
  | nil => intro A B hab ha; exact hab _ ha
  | cons y q ihq => intro A B hab ha; exact nj_imp ha fun hk => ihq _ _ (fun l => hab _) hk

theorem roY_mono {y : YOp} {vs : List SV} {L : List Chunk} {g : G} {K K' : SV → Prop} (hk : ∀ r, K r → K' r) (h : roY y vs L g K) : roY y vs L g K' := by
  unfold roY at *
  cases y <;> simp only at h ⊢
  case slcA =>
    split at h
    · exact boundsK_imp (fun l u h => hk _ h) h
    · exact boundsK_imp (fun l u h => hk _ h) h
    · exact h.elim
  case slcS =>
    split at h
    · exact boundsK_imp (fun l u h => hk _ h) h
    · exact boundsK_imp (fun l u h => hk _ h) h
    · exact h.elim
  case slcT =>
    split at h
    · exact boundsK_imp (fun l u h => hk _ h) h
    · exact h.elim
  case b2s =>
    split at h
    · split at h
      · rename_i hc
        try simp only [hc]
        obtain ⟨hb, h⟩ := ifOk_elim h
        rw [hb]
        show _
        split at h
        · rename_i hn
          (try simp only [hn]); exact hk _ h
        · exact h.elim
      · rename_i hc
        try simp only [hc]
        obtain ⟨h1, ns, h2, h⟩ := h
        exact ⟨h1, ns, h2, hk _ h⟩
      · exact h.elim
    · obtain ⟨ns, h1, h2, h⟩ := h
      exact ⟨ns, h1, h2, hk _ h⟩
    · exact hk _ h
    · exact h.elim
  case cmps =>
    split at h
    · exact hk _ h
    · exact h.elim
  case nilI =>
    split at h
    · exact hk _ h
    · exact hk _ h
    · exact hk _ h
    · exact h.elim
  case nilP =>
    split at h
    · exact hk _ h
    · exact hk _ h
    · exact hk _ h
    · exact h.elim
  case nilC =>
    split at h
    · exact hk _ h
    · exact hk _ h
    · exact h.elim
  case tass t z =>
    split at h
    · exact hk _ h
    · split at h
      · rename_i hb
        try simp only [hb]
        exact hk _ h
      · rename_i hb
        try simp only [hb]
        exact hk _ h
    · split at h
      · rename_i hb
        try simp only [hb]
        exact hk _ h
      · rename_i hb
        try simp only [hb]
        exact hk _ h
    · exact h.elim

theorem ro_imp {X : XOp} {e : Operand → SV} {L : List Chunk} {g : G} {A B : SV → Prop} (hab : ∀ r, A r → B r) (h : ro X e L g A) : ro X e L g B := by
  have v1 : ∀ agg l, val1 agg l A → val1 agg l B := by
    intro agg l h
    cases agg with
    | true => exact hab _ h
    | false => match l, h with | [x], h => exact nj_imp h (hab _)
  have il : ∀ (a b : Nat) (p q : Prop), (p → q) → ifle a b p → ifle a b q := by
    intro a b p q hpq h
    unfold ifle at *
    cases hb : Nat.ble a b <;> rw [hb] at h
    · exact h.elim
    · exact hpq h
  have nl : ∀ (q : List SV) (A B : List SV → Prop), (∀ l, A l → B l) → njL q A → njL q B := by
    intro q
    induction q with
    | nil => intro A B hab ha; exact hab _ ha
    | cons y q ihq => intro A B hab ha; exact nj_imp ha fun hk => ihq _ _ (fun l => hab _) hk
  cases X <;> simp only [ro] at h ⊢
  case more y args => exact roY_mono hab h
  case mov x => exact nj_imp h (hab _)
  case pick c a b =>
    split at h
    case h_2 => exact h.elim
    case h_1 t hc =>
      try simp only [hc]
      cases t
      · exact nj_imp (h : nj _ _) (hab _)
      · exact nj_imp (h : nj _ _) (hab _)
  case build zs ps =>
    split at h
    case h_2 => exact h.elim
    case h_1 l hf => try simp only [hf]
                     exact hab _ h
  case load agg n a =>
    split at h
    case h_1 k off ha =>
      try simp only [ha]
      split at h
      case h_1 ty c hc => try simp only [hc]
                          exact il _ _ _ _ (v1 _ _) h
      case h_2 ty c hc => try simp only [hc]
                          exact ⟨h.1, v1 _ _ h.2⟩
      case h_3 => exact h.elim
    case h_2 a ha =>
      try simp only [ha]
      obtain ⟨xs, h1, h2, h⟩ := h
      exact ⟨xs, h1, h2, v1 _ _ h⟩
    case h_3 => exact h.elim
  case bin op x y =>
    split at h
    case h_2 => exact h.elim
    case h_1 a ha =>
      try simp only [ha]
      split at h
      case h_2 => exact h.elim
      case h_1 b hb =>
        try simp only [hb]
        cases a with
        | int k a =>
          cases b with
          | int k' b =>
            have hi : ∀ op, intBin op k a b A → intBin op k a b B := by
              intro op h
              cases op <;> simp only [intBin] at h ⊢ <;> first | exact h.elim | exact ⟨h.1, hab _ h.2⟩ | exact hab _ h
            cases op <;> simp only [valBin] at h ⊢ <;> first
              | exact ⟨h.1, hab _ h.2⟩
              | (cases hk : decide (k = k') <;> rw [hk] at h <;> first | exact h.elim | exact hi _ h)
          | _ => exact h.elim
        | string a =>
          cases b with
          | string b => cases op <;> simp only [valBin, strBin] at h ⊢ <;> first | exact h.elim | exact ⟨h.1, hab _ h.2⟩ | exact hab _ h
          | _ => exact h.elim
        | _ => exact h.elim
  case eqB neg x y =>
    split at h
    case h_2 => exact h.elim
    case h_1 a ha =>
      try simp only [ha]
      split at h
      case h_2 => exact h.elim
      case h_1 b hb => try simp only [hb]
                       exact hab _ h
  case eqAgg neg ks x y =>
    split at h
    case h_2 => exact h.elim
    case h_1 a ha =>
      try simp only [ha]
      split at h
      case h_2 => exact h.elim
      case h_1 b hb => try simp only [hb]
                       exact eqKs_imp (fun r hr => hab _ hr) _ _ _ h
  case un op x =>
    split at h
    case h_1 b hb => (try simp only [hb]); cases op <;> simp only at h ⊢ <;> exact hab _ h
    case h_2 k n hb => (try simp only [hb]); cases op <;> simp only at h ⊢ <;> exact hab _ h
    case h_3 => exact h.elim
  case conv k x =>
    split at h
    case h_1 k' n hb => (try simp only [hb]); exact hab _ h
    case h_2 => exact h.elim
  case fieldA off x =>
    split at h
    case h_1 k o hb => (try simp only [hb]); exact hab _ h
    case h_2 a hb => (try simp only [hb]); exact hab _ h
    case h_3 => exact h.elim
  case fieldV agg off n x =>
    split at h
    case h_2 => exact h.elim
    case h_1 l hb => (try simp only [hb]); exact il _ _ _ _ (v1 _ _) h
  case indexS sz x i =>
    split at h
    case h_2 => exact h.elim
    case h_1 k n hi =>
      try simp only [hi]
      split at h
      case h_1 a len cap hb => (try simp only [hb]); obtain ⟨h1, ad, h2, h⟩ := h; exact ⟨h1, ad, h2, hab _ h⟩
      case h_2 k off len cap hb => (try simp only [hb]); exact ⟨h.1, hab _ h.2⟩
      case h_3 => exact h.elim
  case indexP len sz x i =>
    split at h
    case h_2 => exact h.elim
    case h_1 k n hi =>
      try simp only [hi]
      split at h
      case h_1 k off hb => (try simp only [hb]); exact ⟨h.1, hab _ h.2⟩
      case h_2 a hb => (try simp only [hb]); exact ⟨h.1, hab _ h.2⟩
      case h_3 => exact h.elim
  case indexV len agg sz x i =>
    split at h
    case h_2 => exact h.elim
    case h_1 k n hi =>
      try simp only [hi]
      split at h
      case h_2 => exact h.elim
      case h_1 l hb => (try simp only [hb]); exact ⟨h.1, il _ _ _ _ (v1 _ _) h.2⟩
  case indexStr x i =>
    split at h
    case h_2 => exact h.elim
    case h_1 k n hi =>
      try simp only [hi]
      split at h
      case h_2 => exact h.elim
      case h_1 s hb => (try simp only [hb]); exact ⟨h.1, hab _ h.2⟩
  case ext x i =>
    split at h
    case h_1 l hb => (try simp only [hb]); exact nj_imp h (hab _)
    case h_2 c hb =>
      try simp only [hb]
      split at h
      case h_1 y hy => exact hab _ h
      case h_2 => exact h.elim
    case h_3 => exact h.elim
  case len str x =>
    cases str
    · simp only at h ⊢
      split at h
      case h_1 a n c hb => (try simp only [hb]); exact hab _ h
      case h_2 k o n c hb => (try simp only [hb]); exact hab _ h
      case h_3 => exact h.elim
    · simp only at h ⊢
      split at h
      case h_1 s hb => (try simp only [hb]); exact hab _ h
      case h_2 => exact h.elim
  case mkI t x =>
    split at h
    case h_1 y hb => (try simp only [hb]); exact hab _ h
    case h_2 => exact h.elim
    case h_3 y h1 h2 => exact hab _ h
  case mkF f a b => exact nl _ _ _ (fun a => nl _ _ _ fun b => hab _) h


theorem bsplit_imp {b : Bool} {p q p' q' : Prop} (h1 : p → p') (h2 : q → q') (h : bsplit b p q) : bsplit b p' q' := by
  cases b
  · exact h2 h
  · exact h1 h
theorem ifOk_imp {b : Bool} {p p' : Prop} (h1 : p → p') (h : ifOk b p) : ifOk b p' := by
  obtain ⟨rfl, h⟩ := ifOk_elim h
  exact h1 h

theorem lt_imp {X : XOp} {e : Operand → SV} {L : List Chunk} {g : G} {k : Nat} {A B : SV → Option Chunk → Prop} (hab : ∀ r c, A r c → B r c) (h : lt X e L g k A) : lt X e L g k B := by
  cases X <;> simp only [lt] at h ⊢
  case alloc => exact hab _ _ h
  case box => exact nj_imp h (hab _ _)
  case bslice =>
    split at h
    · rename_i l hl; (try simp only [hl]); exact hab _ _ h
    · exact h.elim
  all_goals exact ro_imp (fun r => hab r none) h

theorem CallX.mono {P : Program} {f : FuncId} {as : List SV} {L : List Chunk} {g : G} {chk : List Nat → List Nat → Bool} {A B : Out → List Chunk → G → Prop} (hab : ∀ o L g, A o L g → B o L g) (h : CallX P f as L g chk A) : CallX P f as L g chk B := by
  unfold CallX at *
  obtain ⟨rd, ids, h1, h2, h3⟩ := h
  refine ⟨rd, ids, h1, h2, fun L' σ w a b c d e f => (h3 L' σ w a b c d e f).mono ?_⟩
  rintro e w' ⟨out, L1, g', σ', a1, a2, a3, a4, a5, a6, a7, a8⟩
  exact ⟨out, L1, g', σ', a1, a2, a3, a4, a5, a6, a7, hab _ _ _ a8⟩

theorem PrimX.mono {P : Program} {op : Op} {args : List Operand} {vs : List SV} {L : List Chunk} {g : G} {chk : List Nat → List Nat → Bool} {A B : Out → List Chunk → G → Prop} (hab : ∀ o L g, A o L g → B o L g) (h : PrimX P op args vs L g chk A) : PrimX P op args vs L g chk B := by
  unfold PrimX at *
  obtain ⟨rd, ids, hc, h⟩ := h
  refine ⟨rd, ids, hc, fun o L' σ a w h1 h2 h3 h4 h5 h6 h7 h8 => Oper.wp_mono2 ?_ ?_ (h o L' σ a w h1 h2 h3 h4 h5 h6 h7 h8)⟩
  · rintro a' w' ⟨v, r, L1, g', σ', k1, k2, k3, k4, k5, k6, k7, k8⟩
    exact ⟨v, r, L1, g', σ', k1, k2, k3, k4, k5, k6, k7, hab _ _ _ k8⟩
  · rintro e a' w' ⟨x, L1, g', σ', k1, k2, k3, k4, k5, k6, k7, k8, k9⟩
    exact ⟨x, L1, g', σ', k1, k2, k3, k4, k5, k6, k7, k8, hab _ _ _ k9⟩

theorem oneAll_imp : ∀ {l : List SV} {p q : Prop}, (p → q) → oneAll l p → oneAll l q := by
  intro l
  induction l with
  | nil => intro p q h; exact h
  | cons x l ih =>
    intro p q h hh
    have key : ∀ {p q : Prop}, (p → q) → one1 x p → one1 x q := by
      intro p q hpq h
      cases x with
      | v y => cases y <;> first | exact hpq h | exact ⟨h.1, hpq h.2⟩
      | _ => first | exact hpq h | exact h.elim
    exact key (ih h) hh

theorem srcK_imp {x : SV} {sz : Nat} {L : List Chunk} {g : G} {A B : List Nat → Nat → List Value → Prop} (hab : ∀ k m l, A k m l → B k m l) (h : srcK x sz L g A) : srcK x sz L g B := by
  unfold srcK at *
  split at h
  · split at h
    · rename_i hc
      try simp only [hc]
      exact ⟨h.1, hab _ _ _ h.2⟩
    · exact h.elim
  · obtain ⟨xs, h1, h⟩ := h
    exact ⟨xs, h1, hab _ _ _ h⟩
  · exact h.elim
theorem natz_imp {m : Nat} {p q p' q' : Prop} (h1 : p → p') (h2 : q → q') (h : natz m p q) : natz m p' q' := by
  cases m
  · exact h1 h
  · exact h2 h
theorem hvZ_imp {z : ZOp} {vs : List SV} {L : List Chunk} {g : G} {chk : List Nat → List Nat → Bool} {A B : Out → List Chunk → G → Prop} (hab : ∀ o L g, A o L g → B o L g) (h : hvZ z vs L g chk A) : hvZ z vs L g chk B := by
  cases z with
  | set =>
    simp only [hvZ] at h ⊢
    split at h
    · exact ifOk_imp (fun h => nj_imp h (hab _ _ _)) h
    · exact h.elim
  | app e sz bytes zs =>
    simp only [hvZ] at h ⊢
    split at h
    case h_2 => exact h.elim
    case h_1 s x =>
      refine srcK_imp (fun kx m news h => ⟨h.1, ?_⟩) h
      replace h := h.2
      split at h
      · exact ifOk_imp (fun h => ⟨h.1, natz_imp (hab _ _ _) (fun h c sp h1 h2 h3 => hab _ _ _ (h c sp h1 h2 h3)) h.2⟩) h
      · refine ifOk_imp (fun h => ?_) h
        split at h
        · rename_i hp
          try simp only [hp]
          refine ifOk_imp (fun h => ?_) h
          obtain ⟨xs, sp, h1, h2, h3, h4, h5⟩ := h
          exact ⟨xs, sp, h1, h2, h3, h4, fun c sp h1 h2 h3 => hab _ _ _ (h5 c sp h1 h2 h3)⟩
        · exact h.elim
      · exact h.elim

theorem hv_imp {P : Program} {X : XOp} {e : Operand → SV} {L : List Chunk} {g : G} {chk : List Nat → List Nat → Bool} {A B : Out → List Chunk → G → Prop} (hab : ∀ o L g, A o L g → B o L g) (h : hv P X e L g chk A) : hv P X e L g chk B := by
  cases X <;> simp only [hv] at h ⊢
  case store n a x =>
    split at h
    case h_2 => exact h.elim
    case h_1 k off ha =>
      try simp only [ha]
      refine ifOk_imp (fun h => ?_) h
      split at h
      case h_1 ty c hc =>
        try simp only [hc]
        refine nj_imp h fun h => ?_
        unfold ifle at *
        exact ifOk_imp (ifOk_imp (oneAll_imp (hab _ _ _))) h
      case h_2 ty c hc =>
        try simp only [hc]
        split at h
        case h_2 => exact h.elim
        case h_1 y hy =>
          try simp only [hy]
          exact ⟨h.1, h.2.1, h.2.2.1, hab _ _ _ h.2.2.2⟩
      case h_3 => exact h.elim
  case call f args => exact njL_imp _ _ _ (fun as h => CallX.mono hab h) h
  case callv x args =>
    split at h
    case h_2 => exact h.elim
    case h_1 f a b hb => (try simp only [hb]); exact njL_imp _ _ _ (fun as h => CallX.mono hab h) h
  case eff z args => exact hvZ_imp hab h
  case prim op args => exact njL_imp _ _ _ (fun vs h => PrimX.mono hab h) h

theorem dRun_imp {P : Program} {ds : List Nat} {d : DOp} {acc : List Acc} {fr : List SV} {L : List Chunk} {g : G} {next next' : List Acc → List SV → List Chunk → G → Prop} {K K' : KT}
    (hn : ∀ acc r L g, next acc (putO fr d.x.dst r) L g → next' acc (putO fr d.x.dst r) L g) (hp : ∀ x fr L g, K (.pan x) fr L g → K' (.pan x) fr L g) (h : dRun P ds d acc fr L g next K) : dRun P ds d acc fr L g next' K' := by
  unfold dRun at *
  cases hl : d.x.x.light with
  | true =>
    simp only [hl, lenK_eq, numK_eq] at h ⊢
    refine ifOk_imp (lt_imp fun r c h => ?_) h
    rw [fR_eq] at h ⊢
    refine ifOk_imp (fun h => ?_) h
    cases c with
    | none => simp only [forceO_eq] at h ⊢; exact hn _ _ _ _ h
    | some c =>
      refine ifOk_imp (fun h => ?_) h
      simp only [forceO_eq, fL_eq] at h ⊢
      exact hn _ _ _ _ h
  | false =>
    simp only [hl] at h ⊢
    refine hv_imp (fun o L1 g1 h => ?_) h
    cases o with
    | ret r =>
      simp only [fR_eq, fL_eq] at h ⊢
      refine ifOk_imp (fun h => ?_) h
      simp only [forceO_eq] at h ⊢
      exact hn _ _ _ _ h
    | pan x => exact hp _ _ _ _ h

theorem dStep_imp {P : Program} {ds : List Nat} {d : DOp} {acc : List Acc} {fr : List SV} {L : List Chunk} {g : G} {next next' : List Acc → List SV → List Chunk → G → Prop} {K K' : KT}
    (hn : ∀ acc r L g, next acc (putO fr d.x.dst r) L g → next' acc (putO fr d.x.dst r) L g) (hp : ∀ x fr L g, K (.pan x) fr L g → K' (.pan x) fr L g) (h : dStep P ds d acc fr L g next K) : dStep P ds d acc fr L g next' K' := by
  have sk : dSkip d acc fr L g next → dSkip d acc fr L g next' := fun h => by
    unfold dSkip at *
    rw [forceO_eq] at *
    exact hn _ _ _ _ h
  unfold dStep at *
  split
  · rename_i hg; rw [hg] at h; exact dRun_imp hn hp h
  · rename_i t want hg
    rw [hg] at h
    simp only at h
    split
    · rename_i b hb
      rw [hb] at h
      have put2 : ∀ c, c = b → put fr t (.v (.bool c)) = fr := fun c hc => put_same _ _ _ (by rw [hb, hc]) (by simp)
      rcases bsplit_elim h with ⟨rfl, h2⟩ | ⟨rfl, h2⟩
      · rw [force_eq, put2 true rfl] at h2
        show force _ _
        rw [force_eq, put2 true rfl]
        cases want
        · exact sk h2
        · exact dRun_imp hn hp h2
      · rw [force_eq, put2 false rfl] at h2
        show force _ _
        rw [force_eq, put2 false rfl]
        cases want
        · exact dRun_imp hn hp h2
        · exact sk h2
    · rename_i c hc; rw [hc] at h; exact sk h
    · rename_i h1 h2
      split at h
      · rename_i b hb; exact absurd hb (h1 b)
      · rename_i c hc; exact absurd hc (h2 c)
      · exact h.elim


theorem dR_mono {P : Program} {ds : List Nat} {K K' : KT} (hk : ∀ e fr L g, K e fr L g → K' e fr L g) : ∀ (l : List DOp) (acc : List Acc) (fr : List SV) (L : List Chunk) (g : G), dR P ds l acc fr L g K → dR P ds l acc fr L g K'
  | [], acc, fr, L, g, h => hk _ _ _ _ h
  | d :: l, acc, fr, L, g, h => by
    unfold dR at h ⊢
    exact dStep_imp (fun acc r L g h => dR_mono hk l acc _ L g h) (fun x fr L g h => hk _ _ _ _ h) h
theorem vOps_mono {P : Program} {K K' : KT} (hk : ∀ e fr L g, K e fr L g → K' e fr L g) : ∀ (l : List XOper) (fr : List SV) (L : List Chunk) (g : G), vOps P l fr L g K → vOps P l fr L g K'
  | [], fr, L, g, h => hk _ _ _ _ h
  | o :: l, fr, L, g, h => by
    unfold vOps at h ⊢
    exact dStep_imp (fun acc r L g h => vOps_mono hk l _ L g h) (fun x fr L g h => hk _ _ _ _ h) h
theorem vC_mono {P : Program} {n0 : Nat} : ∀ (c : YC) {fr : List SV} {L : List Chunk} {g : G} {K K' : KT}, vC P n0 c fr L g K → (∀ e fr L g, K e fr L g → K' e fr L g) → vC P n0 c fr L g K' := by
  intro c
  induction c with
  | skip => intro fr L g K K' h hk; exact hk _ _ _ _ h
  | exit id => intro fr L g K K' h hk; exact hk _ _ _ _ h
  | ret => intro fr L g K K' h hk; exact hk _ _ _ _ h
  | ops l => intro fr L g K K' h hk; exact vOps_mono hk l fr L g h
  | draw ds l => intro fr L g K K' h hk; exact dR_mono hk l [] fr L g h
  | seq a b iha ihb =>
    intro fr L g K K' h hk
    refine iha (show vC P n0 a fr L g _ from h) fun e fr' L' g' h' => ?_
    cases e with
    | normal => exact ihb h' hk
    | exit j => exact hk _ _ _ _ h'
    | ret => exact hk _ _ _ _ h'
    | pan x => exact hk _ _ _ _ h'
  | cond c a b iha ihb =>
    intro fr L g K K' h hk
    unfold vC at h ⊢
    split at h
    case h_2 => exact h.elim
    case h_1 t ht => exact bsplit_imp (fun h => iha h hk) (fun h => ihb h hk) h
  | block id a ih =>
    intro fr L g K K' h hk
    refine ih (show vC P n0 a fr L g _ from h) fun e fr' L' g' h' => ?_
    cases e with
    | normal => exact hk _ _ _ _ h'
    | exit j =>
      simp only at h' ⊢
      split at h'
      · exact hk _ _ _ _ h'
      · exact hk _ _ _ _ h'
    | ret => exact hk _ _ _ _ h'
    | pan x => exact hk _ _ _ _ h'
  | loop m a ih =>
    intro fr L g K K' h hk
    simp only [vC] at h ⊢
    unfold LoopW at h ⊢
    intro hs hL hn
    obtain ⟨I, n, ρ, fr1, L1, g1, hw, hI, hround⟩ := h hs hL hn
    refine ⟨I, n, ρ, fr1, L1, g1, hw, hI, fun n fr L g hI => ih (hround n fr L g hI) fun e fr' L' g' h' => ?_⟩
    cases e with
    | normal => exact h'
    | exit j => exact hk _ _ _ _ h'
    | ret => exact hk _ _ _ _ h'
    | pan x => exact hk _ _ _ _ h'
  | jn m a ih =>
    intro fr L g K K' h hk
    simp only [vC] at h ⊢
    unfold JoinW at h ⊢
    intro hs hL hn
    refine ih (h hs hL hn) fun e fr' L' g' h' => ?_
    cases e with
    | normal => obtain ⟨ρ, fr1, L1, g1, hw, h'⟩ := h'; exact ⟨ρ, fr1, L1, g1, hw, hk _ _ _ _ h'⟩
    | exit j => exact hk _ _ _ _ h'
    | ret => exact hk _ _ _ _ h'
    | pan x => exact hk _ _ _ _ h'

/-- Slots that lead to blocks that are to be named anew are forgotten. -/
def junkV (mv : List Nat) : List SV → List SV
  | [] => []
  | x :: l => (match offS mv x with | true => x | false => .junk) :: junkV mv l
def forceV (mv : List Nat) (fr : List SV) (K : List SV → Prop) : Prop :=
  match mv with
  | [] => K fr
  | mv => force (junkV mv fr) K
theorem offS_nil (x : SV) : offS [] x = true := rfl
theorem junkV_nil : ∀ fr : List SV, junkV [] fr = fr
  | [] => rfl
  | x :: l => by rw [junkV, junkV_nil l]; rfl
theorem forceV_eq (mv : List Nat) (fr : List SV) (K : List SV → Prop) : forceV mv fr K = K (junkV mv fr) := by
  cases mv with
  | nil => rw [junkV_nil]; rfl
  | cons x l => exact force_eq _ _
theorem junkV_length (mv : List Nat) : ∀ fr : List SV, (junkV mv fr).length = fr.length
  | [] => rfl
  | x :: l => by simp [junkV, junkV_length mv l]
theorem get_junkV (mv : List Nat) : ∀ (fr : List SV) (i : Nat), get (junkV mv fr) i = .junk ∨ (get (junkV mv fr) i = get fr i ∧ offS mv (get fr i) = true)
  | [], i => .inl rfl
  | x :: l, 0 => by
    rw [junkV]
    cases h : offS mv x
    · exact .inl rfl
    · exact .inr ⟨rfl, h⟩
  | x :: l, i + 1 => get_junkV mv l i

/-- The slots that the body leaves alone, and that are known at the head: what they hold. -/
def pickF : List Bool → List SV → List SV → List SV
  | _, [], _ => []
  | _, _ :: _, [] => []
  | [], h :: hs, f :: fs => match isJunk h with
    | true => pickF [] hs fs
    | false => f :: pickF [] hs fs
  | true :: m, _ :: hs, _ :: fs => pickF m hs fs
  | false :: m, h :: hs, f :: fs => match isJunk h with
    | true => pickF m hs fs
    | false => f :: pickF m hs fs

theorem pickF_get : ∀ (m : List Bool) (h f : List SV) (i : Nat), f.length = h.length → pickF m h f = pickF m h h → m.getD i false = false → get h i ≠ .junk → get f i = get h i
  | m, [], f, i, hl, _, _, hj => absurd rfl hj
  | m, x :: hs, [], i, hl, _, _, _ => by simp at hl
  | [], x :: hs, y :: fs, i, hl, e, hm, hj => by
    cases i with
    | zero =>
      have hx : isJunk x = false := by cases x <;> first | rfl | exact absurd rfl hj
      simp only [pickF, hx, List.cons.injEq] at e
      exact e.1
    | succ i =>
      refine pickF_get [] hs fs i (by simpa using hl) ?_ rfl hj
      cases hx : isJunk x <;> simp only [pickF, hx, List.cons.injEq] at e
      · exact e.2
      · exact e
  | true :: m, x :: hs, y :: fs, i, hl, e, hm, hj => by
    cases i with
    | zero => simp at hm
    | succ i => exact pickF_get m hs fs i (by simpa using hl) (by simpa only [pickF] using e) (by simpa using hm) hj
  | false :: m, x :: hs, y :: fs, i, hl, e, hm, hj => by
    cases i with
    | zero =>
      have hx : isJunk x = false := by cases x <;> first | rfl | exact absurd rfl hj
      simp only [pickF, hx, List.cons.injEq] at e
      exact e.1
    | succ i =>
      refine pickF_get m hs fs i (by simpa using hl) ?_ (by simpa using hm) hj
      cases hx : isJunk x <;> simp only [pickF, hx, List.cons.injEq] at e
      · exact e.2
      · exact e

def renV (f : Nat → Nat) : List (Nat × SV) → List (Nat × SV)
  | [] => []
  | (t, v) :: l => (t, v.ren f) :: renV f l
def fixOk (n0 : Nat) (mv : List Nat) : List Nat → Nat → Bool
  | [], _ => true
  | k :: ρ, i => (Nat.beq k i || (Nat.ble n0 i && mv.contains i)) && fixOk n0 mv ρ (i + 1)
theorem fixOk_spec {n0 : Nat} {mv : List Nat} : ∀ {ρ : List Nat} {i : Nat}, fixOk n0 mv ρ i = true → ∀ j, j < ρ.length → getN ρ j = i + j ∨ (n0 ≤ i + j ∧ i + j ∈ mv)
  | [], i, _, j, hj => by simp at hj
  | k :: ρ, i, h, j, hj => by
    simp only [fixOk, Bool.and_eq_true, Bool.or_eq_true] at h
    cases j with
    | zero =>
      rcases h.1 with h1 | h1
      · exact .inl (Nat.eq_of_beq_eq_true h1)
      · exact .inr ⟨by simpa using Nat.le_of_ble_eq_true h1.1, by simpa using h1.2⟩
    | succ j =>
      have := fixOk_spec h.2 j (by simpa using hj)
      rw [show i + (j + 1) = i + 1 + j by omega]
      exact this

/-- The check on a loop's relation. -/
def okT (m : List Bool) (c : YC) (n _n0 : Nat) (vals : List (Nat × SV)) (Ls : List Chunk) : Bool :=
  maskB m (dsts c) && (inD (dsts c) vals && (scV Ls.length vals && (scHB Ls.length Ls && Nat.ble n Ls.length)))

/-- Back at a round's head, with some blocks named anew. -/
def Back (n0 : Nat) (mv : List Nat) (m : List Bool) (hd : List SV) (vals : List (Nat × SV)) (Ls : List Chunk) (gs : G) (fr : List SV) (L : List Chunk) (g : G) : Prop :=
  ∃ ρ : List Nat, (nodupB ρ && (Nat.beq ρ.length Ls.length && fixOk n0 mv ρ 0)) = true ∧ trk fr (renV (getN ρ) vals) ∧ ρ.map (nthC L) = renC (getN ρ) Ls ∧ g = gs ∧ fr.length = hd.length ∧ pickF m hd fr = pickF m hd hd

mutual
theorem ren_fix {f : Nat → Nat} {p : Nat → Bool} (e : ∀ k, p k = true → f k = k) : ∀ x : SV, x.on p = true → x.ren f = x
  | .junk, _ => rfl
  | .v _, _ => rfl
  | .ptr k o, hx => by simp only [SV.ren, e k (by simpa [SV.on] using hx)]
  | .slc k o a b, hx => by simp only [SV.ren, e k (by simpa [SV.on] using hx)]
  | .mp k, hx => by simp only [SV.ren, e k (by simpa [SV.on] using hx)]
  | .fn q a b, hx => by
    simp only [SV.on, Bool.and_eq_true] at hx
    simp only [SV.ren, renL_fix e a hx.1, renL_fix e b hx.2]
  | .iface t x, hx => by simp only [SV.ren, ren_fix e x (by simpa [SV.on] using hx)]
  | .agg l, hx => by simp only [SV.ren, renL_fix e l (by simpa [SV.on] using hx)]
  | .tup l, hx => by simp only [SV.ren, renL_fix e l (by simpa [SV.on] using hx)]
theorem renL_fix {f : Nat → Nat} {p : Nat → Bool} (e : ∀ k, p k = true → f k = k) : ∀ l : List SV, onL p l = true → renL f l = l
  | [], _ => rfl
  | x :: l, hx => by
    simp only [onL, Bool.and_eq_true] at hx
    simp only [renL, ren_fix e x hx.1, renL_fix e l hx.2]
end

theorem trk_setAll : ∀ (l : List (Nat × SV)) (fr F : List SV) (f : Nat → Nat) (i : Nat), trk F (renV f l) → F.length = fr.length →
    (get F i = (get (setAll fr l) i).ren f) ∨ get (setAll fr l) i = get fr i
  | [], _, _, _, _, _, _ => .inr rfl
  | (t, v) :: l, fr, F, f, i, h, hl => by
    rw [setAll]
    rcases trk_setAll l (put fr t v) F f i h.2 (by rw [put_length]; exact hl) with h1 | h1
    · exact .inl h1
    · rw [h1, get_put]
      by_cases hc : t = i ∧ t < fr.length
      · rw [if_pos hc]
        obtain ⟨rfl, _⟩ := hc
        exact .inl h.1
      · rw [if_neg hc]
        exact .inr rfl

theorem ren_id (x : SV) : x.ren (fun k => k) = x := ren_fix (p := fun _ => true) (fun _ _ => rfl) x (by simpa using offS_on (ms := []) (x := x) rfl)
theorem renC_id (c : Chunk) : c.ren (fun k => k) = c := by
  cases c with
  | cells ty l => simp only [Chunk.ren, renL_fix (f := fun k => k) (p := fun _ => true) (fun _ _ => rfl) l (onL_mem.2 fun x _ => by simpa using offS_on (ms := []) (x := x) rfl)]
  | _ => rfl
theorem renV_id : ∀ l : List (Nat × SV), renV (fun k => k) l = l
  | [] => rfl
  | (t, v) :: l => by rw [renV, renV_id l, ren_id]

/-- **The rule for loops**: what the named slots and the blocks at hand hold at each round's head, by a parameter; a measure. -/
theorem loop_rule {P : Program} {n0 : Nat} {m : List Bool} {c : YC} {fr : List SV} {L : List Chunk} {g : G} {K : KT} {α : Type} (mv : List Nat) (vals : α → List (Nat × SV)) (Ls : α → List Chunk) (gs : α → G) (φ : α → Prop) (μ : α → Nat) (x0 : α)
    (hok : ∀ x, okT m c L.length n0 (vals x) (Ls x) = true) (h0 : φ x0) (ht : trk fr (vals x0)) (hL0 : L = Ls x0) (hg0 : g = gs x0)
    (round : forceV mv fr fun fv => ∀ x, φ x → forceU fv m (vals x) fun hd => vC P n0 c hd (Ls x) (gs x) fun e fr' L' g' => match e with
      | .normal => ∃ y, φ y ∧ μ y < μ x ∧ Back n0 mv m hd (vals y) (Ls y) (gs y) fr' L' g'
      | .exit j => K (.exit j) fr' L' g'
      | .ret => K .ret fr' L' g'
      | .pan x => K (.pan x) fr' L' g') : LoopW n0 m (fun fr L g K => vC P n0 c fr L g K) fr L g K := by
  unfold LoopW
  intro hs hL hn
  rw [forceV_eq] at round
  have spec : ∀ x, maskB m (dsts c) = true ∧ inD (dsts c) (vals x) = true ∧ scV (Ls x).length (vals x) = true ∧ scHB (Ls x).length (Ls x) = true ∧ L.length ≤ (Ls x).length := by
    intro x
    have := hok x
    simp only [okT, Bool.and_eq_true, Nat.ble_eq] at this
    exact this
  have hm := maskB_spec (spec x0).1
  have hsV : scL L.length (junkV mv fr) = true := by
    have : ∀ l : List SV, scL L.length l = true → scL L.length (junkV mv l) = true := by
      intro l
      induction l with
      | nil => intro h; exact h
      | cons x l ih =>
        intro h
        simp only [scL, Bool.and_eq_true] at h
        rw [junkV]
        cases offS mv x
        · simp [scL, SV.sc, ih h.2]
        · simp [scL, h.1, ih h.2]
    exact this fr hs
  have scT : ∀ x, scL (Ls x).length (upd (junkV mv fr) m (vals x)) = true := fun x => sc_setAll _ _ (sc_junkM _ _ (scL_mono (spec x).2.2.2.2 _ hsV)) (spec x).2.2.1
  have lenT : ∀ x, (upd (junkV mv fr) m (vals x)).length = fr.length := fun x => by rw [upd, setAll_length, junkM_length, junkV_length]
  have far : ∀ i, i ∉ dsts c → m.getD i false = false := fun i hi => by
    cases h : m.getD i false with
    | false => rfl
    | true => exact absurd ((hm i).1 h) hi
  have farT : ∀ x i, i ∉ dsts c → get (upd (junkV mv fr) m (vals x)) i = get (junkV mv fr) i := fun x i hi => by rw [upd, get_setAll_not _ _ i _ (spec x).2.1 hi, (get_junkM _ _ i).2 (far i hi)]
  refine ⟨fun n fr1 L1 g1 => ∃ x, φ x ∧ μ x = n ∧ fr1 = upd (junkV mv fr) m (vals x) ∧ L1 = Ls x ∧ g1 = gs x, μ x0, fun k => k, _, _, _, ?_, ⟨x0, h0, rfl, rfl, rfl, rfl⟩, ?_⟩
  · refine ⟨fun _ _ => rfl, fun _ _ _ _ e => e, by rw [← hL0]; exact hn, fun k c hk _ => by rw [renC_id, hL0]; exact hk, ⟨lenT x0, fun i => ?_⟩, hg0.symm, scT x0, scHB_scH.1 (spec x0).2.2.2.1⟩
    rw [ren_id]
    by_cases hi : i ∈ dsts c
    · rcases get_setAll (vals x0) (junkM (junkV mv fr) m) i fr ht (by rw [junkM_length, junkV_length]) with h1 | h1
      · exact .inr h1.symm
      · exact .inl (h1.trans ((get_junkM _ _ i).1 ((hm i).2 hi)))
    · rw [farT x0 i hi]
      rcases get_junkV mv fr i with h1 | h1
      · exact .inl h1
      · exact .inr h1.1.symm
  · rintro n fr1 L1 g1 ⟨x, hx, rfl, rfl, rfl, rfl⟩
    have hr := round x hx
    rw [forceU_eq] at hr
    refine vC_mono c hr fun e fr2 L2 g2 h2 => ?_
    cases e with
    | normal =>
      obtain ⟨y, hy, hlt, ρ, hb, hty, hLy, hgy, hfl, hpk⟩ := h2
      simp only [Bool.and_eq_true] at hb
      obtain ⟨hb1, hb2, hb3⟩ := hb
      have hnd := nodupB_spec hb1
      have hρl := Nat.eq_of_beq_eq_true hb2
      have hfix := fixOk_spec hb3
      refine ⟨μ y, getN ρ, upd (junkV mv fr) m (vals y), Ls y, gs y, hlt, ⟨fun j hj => ?_, fun i j hi hj e => getN_inj hnd (by omega) (by omega) e, Nat.le_trans hn (spec y).2.2.2.2, fun k c hk hh => ?_, ⟨by rw [lenT y, hfl, lenT x], fun i => ?_⟩, hgy.symm, scT y, scHB_scH.1 (spec y).2.2.2.1⟩, y, hy, rfl, rfl, rfl, rfl⟩
      · rcases hfix j (by have := (spec y).2.2.2.2; omega) with h1 | h1
        · simpa using h1
        · have := h1.1; omega
      · have hkl : k < ρ.length := by rw [hρl]; exact (List.getElem?_eq_some_iff.1 hk).1
        have h1 : (ρ.map (nthC L2))[k]? = some (c.ren (getN ρ)) := by rw [hLy, renC_get, hk]; rfl
        rw [List.getElem?_map, getN_get ρ k hkl] at h1
        simp only [Option.map_some, Option.some.injEq] at h1
        exact nthC_get L2 _ _ h1 (by rw [here_ren]; exact hh)
      · by_cases hi : i ∈ dsts c
        · rcases trk_setAll (vals y) (junkM (junkV mv fr) m) fr2 (getN ρ) i hty (by rw [hfl, lenT x, junkM_length, junkV_length]) with h1 | h1
          · exact .inr h1
          · exact .inl (h1.trans ((get_junkM _ _ i).1 ((hm i).2 hi)))
        · rw [farT y i hi]
          by_cases hj : get (junkV mv fr) i = .junk
          · exact .inl hj
          · right
            have h1 := pickF_get m _ fr2 i hfl hpk (far i hi) (by rw [farT x i hi]; exact hj)
            rw [h1, farT x i hi]
            rcases get_junkV mv fr i with h2 | ⟨h2, h3⟩
            · exact absurd h2 hj
            · rw [h2]
              refine (ren_fix (p := fun k => (!mv.contains k) && decide (k < L.length)) (fun k hk => ?_) _ ?_).symm
              · simp only [Bool.and_eq_true, decide_eq_true_eq] at hk
                rcases hfix k (by have := (spec y).2.2.2.2; omega) with h4 | h4
                · simpa using h4
                · have := hk.1; simp at h4; simp [h4.2] at this
              · refine on_and _ (offS_on h3) ?_
                rw [← on_sc]
                exact sc_get hs i
    | exit j => exact h2
    | ret => exact h2
    | pan x => exact h2

/-- **The rule for places where ways meet**: what the named slots and the blocks at hand hold there, by a parameter. -/
theorem join_rule {P : Program} {n0 : Nat} {m : List Bool} {c : YC} {fr : List SV} {L : List Chunk} {g : G} {K : KT} {α : Type} (mv : List Nat) (vals : α → List (Nat × SV)) (Ls : α → List Chunk) (gs : α → G) (φ : α → Prop)
    (hok : ∀ x, okT m c L.length n0 (vals x) (Ls x) = true)
    (way : forceV mv fr fun fv => vC P n0 c fr L g fun e fr' L' g' => match e with
      | .normal => ∃ y, φ y ∧ forceU fv m (vals y) fun hd => Back n0 mv m hd (vals y) (Ls y) (gs y) fr' L' g'
      | .exit j => K (.exit j) fr' L' g'
      | .ret => K .ret fr' L' g'
      | .pan x => K (.pan x) fr' L' g')
    (on : forceV mv fr fun fv => ∀ y, φ y → forceU fv m (vals y) fun hd => fL (Ls y) fun L => K .normal hd L (gs y)) : JoinW n0 m (fun fr L g K => vC P n0 c fr L g K) fr L g K := by
  unfold JoinW
  intro hs hL hn
  rw [forceV_eq] at way on
  have hsV : scL L.length (junkV mv fr) = true := by
    have : ∀ l : List SV, scL L.length l = true → scL L.length (junkV mv l) = true := by
      intro l
      induction l with
      | nil => intro h; exact h
      | cons x l ih =>
        intro h
        simp only [scL, Bool.and_eq_true] at h
        rw [junkV]
        cases offS mv x
        · simp [scL, SV.sc, ih h.2]
        · simp [scL, h.1, ih h.2]
    exact this fr hs
  refine vC_mono c way fun e fr2 L2 g2 h2 => ?_
  cases e with
  | normal =>
    obtain ⟨y, hy, h2⟩ := h2
    rw [forceU_eq] at h2
    obtain ⟨ρ, hb, hty, hLy, hgy, hfl, hpk⟩ := h2
    have on := on y hy
    rw [forceU_eq, fL_eq] at on
    have spec : maskB m (dsts c) = true ∧ inD (dsts c) (vals y) = true ∧ scV (Ls y).length (vals y) = true ∧ scHB (Ls y).length (Ls y) = true ∧ L.length ≤ (Ls y).length := by
      have := hok y
      simp only [okT, Bool.and_eq_true, Nat.ble_eq] at this
      exact this
    have hm := maskB_spec spec.1
    have scT : scL (Ls y).length (upd (junkV mv fr) m (vals y)) = true := sc_setAll _ _ (sc_junkM _ _ (scL_mono spec.2.2.2.2 _ hsV)) spec.2.2.1
    have lenT : (upd (junkV mv fr) m (vals y)).length = fr.length := by rw [upd, setAll_length, junkM_length, junkV_length]
    have far : ∀ i, i ∉ dsts c → m.getD i false = false := fun i hi => by
      cases h : m.getD i false with
      | false => rfl
      | true => exact absurd ((hm i).1 h) hi
    have farT : ∀ i, i ∉ dsts c → get (upd (junkV mv fr) m (vals y)) i = get (junkV mv fr) i := fun i hi => by rw [upd, get_setAll_not _ _ i _ spec.2.1 hi, (get_junkM _ _ i).2 (far i hi)]
    simp only [Bool.and_eq_true] at hb
    obtain ⟨hb1, hb2, hb3⟩ := hb
    have hnd := nodupB_spec hb1
    have hρl := Nat.eq_of_beq_eq_true hb2
    have hfix := fixOk_spec hb3
    refine ⟨getN ρ, upd (junkV mv fr) m (vals y), Ls y, gs y, ⟨fun j hj => ?_, fun i j hi hj e => getN_inj hnd (by omega) (by omega) e, Nat.le_trans hn spec.2.2.2.2, fun k c hk hh => ?_, ⟨hfl.symm, fun i => ?_⟩, hgy.symm, scT, scHB_scH.1 spec.2.2.2.1⟩, on⟩
    · rcases hfix j (by have := spec.2.2.2.2; omega) with h1 | h1
      · simpa using h1
      · have := h1.1; omega
    · have hkl : k < ρ.length := by rw [hρl]; exact (List.getElem?_eq_some_iff.1 hk).1
      have h1 : (ρ.map (nthC L2))[k]? = some (c.ren (getN ρ)) := by rw [hLy, renC_get, hk]; rfl
      rw [List.getElem?_map, getN_get ρ k hkl] at h1
      simp only [Option.map_some, Option.some.injEq] at h1
      exact nthC_get L2 _ _ h1 (by rw [here_ren]; exact hh)
    · by_cases hi : i ∈ dsts c
      · rcases trk_setAll (vals y) (junkM (junkV mv fr) m) fr2 (getN ρ) i hty (by rw [hfl, lenT, junkM_length, junkV_length]) with h1 | h1
        · exact .inr h1
        · exact .inl (h1.trans ((get_junkM _ _ i).1 ((hm i).2 hi)))
      · rw [farT i hi]
        by_cases hj : get (junkV mv fr) i = .junk
        · exact .inl hj
        · right
          have h1 := pickF_get m _ fr2 i hfl hpk (far i hi) (by rw [farT i hi]; exact hj)
          rw [h1, farT i hi]
          rcases get_junkV mv fr i with h2 | ⟨h2, h3⟩
          · exact absurd h2 hj
          · rw [h2]
            refine (ren_fix (p := fun k => (!mv.contains k) && decide (k < L.length)) (fun k hk => ?_) _ ?_).symm
            · simp only [Bool.and_eq_true, decide_eq_true_eq] at hk
              rcases hfix k (by have := spec.2.2.2.2; omega) with h4 | h4
              · simpa using h4
              · have := hk.1; simp at h4; simp [h4.2] at this
            · refine on_and _ (offS_on h3) ?_
              rw [← on_sc]
              exact sc_get hs i
  | exit j => exact h2
  | ret => exact h2
  | pan x => exact h2

/-! ### Slices that nobody writes -/

/-- A slice's length and address hold these cells (sz cells an element). -/
def SliceAt (g : G) (a : Option Addr) (n sz : Nat) (xs : List Value) : Prop :=
  xs.length = n * sz ∧ (0 < n → ∃ ad, a = some ad ∧ g.at ad xs)

theorem G.at.sub {g : G} {ad : Addr} {xs : List Value} (h : g.at ad xs) (off m : Nat) (hm : off + m ≤ xs.length) : g.at (ad.add off) ((xs.drop off).take m) := by
  obtain ⟨hs, c, ty, fz, hg, hc⟩ := h
  obtain ⟨b, o, sp⟩ := ad
  simp only at hs
  subst hs
  rw [add_cell]
  refine ⟨rfl, c, ty, fz, hg, fun i hi => ?_⟩
  simp only [List.length_take, List.length_drop] at hi
  simp only at hc ⊢
  rw [List.getElem?_take, if_pos (by omega), List.getElem?_drop, ← hc (off + i) (by omega), Nat.add_assoc]

theorem SliceAt.elem {g : G} {a : Option Addr} {n sz : Nat} {xs : List Value} (h : SliceAt g a n sz xs) {i : Nat} (hi : i < n) : ∃ ad, a = some ad ∧ g.at (ad.add (i * sz)) ((xs.drop (i * sz)).take sz) := by
  obtain ⟨ad, ha, hat⟩ := h.2 (by omega)
  refine ⟨ad, ha, hat.sub _ _ ?_⟩
  rw [h.1]
  have := Nat.mul_le_mul_right sz (show i + 1 ≤ n by omega)
  rw [Nat.add_mul] at this
  omega

theorem G.at.mono {g g' : G} (h : G.le g g') {ad : Addr} {xs : List Value} (hat : g.at ad xs) : g'.at ad xs := by
  obtain ⟨hs, c, ty, fz, hg, hc⟩ := hat
  exact ⟨hs, c, ty, fz, h _ _ hg, hc⟩
theorem SliceAt.mono {g g' : G} (h : G.le g g') {a : Option Addr} {n sz : Nat} {xs : List Value} (hat : SliceAt g a n sz xs) : SliceAt g' a n sz xs :=
  ⟨hat.1, fun hn => by obtain ⟨ad, h1, h2⟩ := hat.2 hn; exact ⟨ad, h1, h2.mono h⟩⟩

/-- The cells of the i-th of many alike. -/
theorem flatMap_at {α β : Type} (f : α → List β) (sz : Nat) (hf : ∀ x, (f x).length = sz) : ∀ (l : List α) (i : Nat) (x : α), l[i]? = some x → ((l.flatMap f).drop (i * sz)).take sz = f x := by
  intro l
  induction l with
  | nil => intro i x h; simp at h
  | cons y l ih =>
    intro i x h
    cases i with
    | zero =>
      simp only [List.getElem?_cons_zero, Option.some.injEq] at h
      subst h
      simp [List.flatMap_cons, hf]
    | succ i =>
      have := ih i x (by simpa using h)
      rw [List.flatMap_cons, Nat.add_mul, Nat.one_mul, Nat.add_comm, ← List.drop_drop, List.drop_append_of_le_length (by rw [hf]; omega), show (f y).drop sz = [] from List.drop_of_length_le (by rw [hf]; omega), List.nil_append]
      exact this
theorem flatMap_len {α β : Type} (f : α → List β) (sz : Nat) (hf : ∀ x, (f x).length = sz) (l : List α) : (l.flatMap f).length = l.length * sz := by
  induction l with
  | nil => simp
  | cons y l ih => rw [List.flatMap_cons, List.length_append, ih, hf, List.length_cons, Nat.add_mul]; omega

/-! ### Small facts for ends of walks -/

theorem vb {c : Bool} {p : Prop} [Decidable p] (h : c = true ↔ p) : SV.v (.bool c) = .v (.bool (decide p)) := by
  congr 2
  rw [Bool.eq_iff_iff, h, decide_eq_true_iff]
theorem vbB {c d : Bool} (h : c = true ↔ d = true) : SV.v (.bool c) = .v (.bool d) := by
  congr 2
  rw [Bool.eq_iff_iff, h]
theorem vi {k : IntKind} {a b : Int} (h : a = b) : SV.v (.int k a) = .v (.int k b) := by rw [h]

theorem wrap_id {a : Int} (h1 : -9223372036854775808 ≤ a) (h2 : a ≤ 9223372036854775807) : IntKind.i64.wrap a = a := by
  simp only [IntKind.wrap, IntKind.signed, IntKind.bits]
  simp
  omega

end Go.Sx
