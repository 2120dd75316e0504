/- A symbolic executor of my own, part 7: symbolic values lead to the blocks at hand alone. Conditions: none; it speaks of any program. -/
import Derived.Test.YtfagdcpfebghoaaDoorSx6
namespace Go.Sx

mutual
def SV.sc (n : Nat) : SV → Bool
  | .junk => true
  | .v _ => true
  | .ptr k _ => decide (k < n)
  | .slc k _ _ _ => decide (k < n)
  | .mp k => decide (k < n)
  | .fn _ a b => scL n a && scL n b
  | .iface _ x => x.sc n
  | .agg l => scL n l
  | .tup l => scL n l
def scL (n : Nat) : List SV → Bool
  | [] => true
  | x :: l => x.sc n && scL n l
end

mutual
theorem re_congr {n : Nat} {σ σ' : Nat → Nat} (h : ∀ k, k < n → σ k = σ' k) : ∀ x : SV, x.sc n = true → x.re σ = x.re σ'
  | .junk, _ => rfl
  | .v _, _ => rfl
  | .ptr k o, hx => by simp only [SV.re, h k (by simpa [SV.sc] using hx)]
  | .slc k o a b, hx => by simp only [SV.re, h k (by simpa [SV.sc] using hx)]
  | .mp k, hx => by simp only [SV.re, h k (by simpa [SV.sc] using hx)]
  | .fn f a b, hx => by
    simp only [SV.sc, Bool.and_eq_true] at hx
    simp only [SV.re, reL_congr h a hx.1, reL_congr h b hx.2]
  | .iface t x, hx => by simp only [SV.re, re_congr h x (by simpa [SV.sc] using hx)]
  | .agg l, hx => by simp only [SV.re, reL_congr h l (by simpa [SV.sc] using hx)]
  | .tup l, hx => by simp only [SV.re, reL_congr h l (by simpa [SV.sc] using hx)]
theorem reL_congr {n : Nat} {σ σ' : Nat → Nat} (h : ∀ k, k < n → σ k = σ' k) : ∀ l : List SV, scL n l = true → reL σ l = reL σ' l
  | [], _ => rfl
  | x :: l, hx => by
    simp only [scL, Bool.and_eq_true] at hx
    simp only [reL, re_congr h x hx.1, reL_congr h l hx.2]
end

mutual
theorem sc_mono {n m : Nat} (h : n ≤ m) : ∀ x : SV, x.sc n = true → x.sc m = true
  | .junk, _ => rfl
  | .v _, _ => rfl
  | .ptr k o, hx => by simp only [SV.sc, decide_eq_true_eq] at hx ⊢; omega
  | .slc k o a b, hx => by simp only [SV.sc, decide_eq_true_eq] at hx ⊢; omega
  | .mp k, hx => by simp only [SV.sc, decide_eq_true_eq] at hx ⊢; omega
  | .fn f a b, hx => by
    simp only [SV.sc, Bool.and_eq_true] at hx ⊢
    exact ⟨scL_mono h a hx.1, scL_mono h b hx.2⟩
  | .iface t x, hx => by simp only [SV.sc] at hx ⊢; exact sc_mono h x hx
  | .agg l, hx => by simp only [SV.sc] at hx ⊢; exact scL_mono h l hx
  | .tup l, hx => by simp only [SV.sc] at hx ⊢; exact scL_mono h l hx
theorem scL_mono {n m : Nat} (h : n ≤ m) : ∀ l : List SV, scL n l = true → scL m l = true
  | [], _ => rfl
  | x :: l, hx => by
    simp only [scL, Bool.and_eq_true] at hx ⊢
    exact ⟨sc_mono h x hx.1, scL_mono h l hx.2⟩
end

theorem scL_mem {n : Nat} {l : List SV} : scL n l = true ↔ ∀ x ∈ l, x.sc n = true := by
  induction l with
  | nil => simp [scL]
  | cons x l ih => simp [scL, ih]

theorem scL_append {n : Nat} {a b : List SV} : scL n (a ++ b) = true ↔ scL n a = true ∧ scL n b = true := by
  simp only [scL_mem, List.mem_append]
  exact ⟨fun h => ⟨fun x hx => h x (.inl hx), fun x hx => h x (.inr hx)⟩, fun h x hx => hx.elim (h.1 x) (h.2 x)⟩
theorem scL_take {n : Nat} {a : List SV} (k : Nat) (h : scL n a = true) : scL n (a.take k) = true := scL_mem.2 fun x hx => scL_mem.1 h x (List.mem_of_mem_take hx)
theorem scL_drop {n : Nat} {a : List SV} (k : Nat) (h : scL n a = true) : scL n (a.drop k) = true := scL_mem.2 fun x hx => scL_mem.1 h x (List.mem_of_mem_drop hx)
theorem scL_v {n : Nat} (l : List Value) : scL n (l.map .v) = true := scL_mem.2 fun x hx => by
  obtain ⟨y, _, rfl⟩ := List.mem_map.1 hx
  rfl
theorem sc_get {n : Nat} {l : List SV} (h : scL n l = true) (i : Nat) : (get l i).sc n = true := by
  induction l generalizing i with
  | nil => rfl
  | cons x l ih =>
    simp only [scL, Bool.and_eq_true] at h
    cases i with
    | zero => exact h.1
    | succ i => exact ih h.2 i
theorem sc_put {n : Nat} {l : List SV} (h : scL n l = true) (i : Nat) {x : SV} (hx : x.sc n = true) : scL n (put l i x) = true := by
  induction l generalizing i with
  | nil => rfl
  | cons y l ih =>
    simp only [scL, Bool.and_eq_true] at h
    cases i with
    | zero => simp [put, scL, hx, h.2]
    | succ i => simp [put, scL, h.1, ih h.2 i]
theorem sc_ev {n : Nat} {fr : List SV} (h : scL n fr = true) (x : Operand) : (ev fr x).sc n = true := by
  cases x <;> simp [ev, SV.sc, scL, sc_get h]
theorem sc_cells {n : Nat} {x : SV} (h : x.sc n = true) : scL n x.cells = true := by
  cases x with
  | v y => cases y <;> simp [SV.cells, scL, SV.sc]; exact scL_v _
  | agg l => simpa [SV.cells, SV.sc] using h
  | _ => simp only [SV.cells, scL, Bool.and_eq_true, and_true]; exact h

/-- The blocks at hand lead to the blocks at hand alone. -/
def scH (L : List Chunk) : Prop := ∀ (k : Nat) (ty : TypeId) (c : List SV), L[k]? = some (Chunk.cells ty c) → scL L.length c = true

theorem nj_imp {x : SV} {K K' : SV → Prop} (h : nj x K) (hk : K x → K' x) : nj x K' := by cases x <;> first | exact h.elim | exact hk h

theorem val1_sc {n : Nat} {agg : Bool} {l : List SV} {K : SV → Prop} (hl : scL n l = true) (h : val1 agg l K) : val1 agg l fun r => K r ∧ r.sc n = true := by
  cases agg with
  | true => exact ⟨h, by simpa [SV.sc] using hl⟩
  | false =>
    match l, h with
    | [x], h => exact nj_imp h fun hk => ⟨hk, by simpa [scL] using hl⟩

theorem fillS_sc {n : Nat} : ∀ (qs : List (Nat × Nat × SV)) (cells l : List SV), (∀ q ∈ qs, q.2.2.sc n = true) → scL n cells = true → fillS cells qs = some l → scL n l = true := by
  intro qs
  induction qs with
  | nil => intro cells l _ hc h; simp only [fillS, Option.some.injEq] at h; subst h; exact hc
  | cons q qs ih =>
    intro cells l hq hc h
    obtain ⟨off, size, x⟩ := q
    simp only [fillS] at h
    split at h
    case h_2 => cases h
    case h_1 =>
      refine ih _ _ (fun q h => hq q (by simp [h])) ?_ h
      rw [scL_append, scL_append]
      exact ⟨scL_take _ hc, sc_cells (hq (off, size, x) (by simp)), scL_drop _ hc⟩

theorem njL_sc {n : Nat} {l : List SV} {K : List SV → Prop} (hl : scL n l = true) (h : njL l K) : njL l fun l => K l ∧ scL n l = true := by
  induction l generalizing K with
  | nil => exact ⟨h, rfl⟩
  | cons x l ih =>
    simp only [scL, Bool.and_eq_true] at hl
    have h := (h : nj x fun x => njL l fun l => K (x :: l))
    show nj x fun x => njL l fun l => K (x :: l) ∧ scL n (x :: l) = true
    refine nj_imp h fun hk => ?_
    have := ih hl.2 hk
    have hm : ∀ (q : List SV) (A B : List SV → Prop), (∀ l, A l → B l) → njL q A → njL q B := by
      intro q
      induction q with
      | nil => intro A B hab ha; exact hab _ ha
      | cons y q ihq => intro A B hab ha; exact nj_imp ha fun hk => ihq _ _ (fun l => hab _) hk
    exact hm l _ _ (fun q hq => ⟨hq.1, by simp [scL, hl.1, hq.2]⟩) this

theorem valBin_sc {n : Nat} {op : BinOp} {x y : Value} {K : SV → Prop} (h : valBin op x y K) : valBin op x y fun r => K r ∧ r.sc n = true := by
  cases x with
  | int k a =>
    cases y with
    | int k' b =>
      have hi : ∀ op, intBin op k a b K → intBin op k a b fun r => K r ∧ r.sc n = true := by
        intro op h
        cases op <;> simp only [intBin] at h ⊢ <;> first | exact h.elim | exact ⟨h.1, h.2, rfl⟩ | exact ⟨h, rfl⟩
      cases op <;> simp only [valBin] at h ⊢ <;> first
        | exact ⟨h.1, h.2, rfl⟩
        | (cases hk : decide (k = k') <;> rw [hk] at h <;> first | exact h.elim | exact hi _ h)
    | _ => exact h.elim
  | string a =>
    cases y with
    | string b =>
      cases op <;> simp only [valBin, strBin] at h ⊢ <;> first | exact h.elim | exact ⟨h.1, h.2, rfl⟩ | exact ⟨h, rfl⟩
    | _ => exact h.elim
  | _ => exact h.elim

theorem eqKs_imp {K K' : Bool → Prop} (hk : ∀ b, K b → K' b) : ∀ (ks : List Nat) (l m : List SV), eqKs ks l m K → eqKs ks l m K' := by
  intro ks l m
  fun_induction eqKs ks l m K generalizing K' with
  | case1 K => exact hk _
  | case2 ks k a l k' b m K hkk ih =>
    intro h
    have := ih (K' := fun r => K' ((a == b) && r)) (fun r hr => hk _ hr) h
    simpa [eqKs, hkk] using this
  | case3 => intro h; exact h.elim
  | case4 ks a l b m K ih =>
    intro h
    have := ih (K' := fun r => K' ((a == b) && r)) (fun r hr => hk _ hr) h
    simpa [eqKs] using this
  | case5 ks a l b m K ih =>
    intro h
    have := ih (K' := fun r => K' ((a.toList == b.toList) && r)) (fun r hr => hk _ hr) h
    simpa [eqKs] using this
  | case6 => intro h; exact h.elim

theorem boundsK_imp {len cap : Nat} {lo hi : Bool} {vs : List SV} {K K' : Nat → Nat → Prop} (hk : ∀ l u, K l u → K' l u) (h : boundsK len cap lo hi vs K) : boundsK len cap lo hi vs K' := by
  unfold boundsK at *
  cases lo <;> cases hi <;> simp only at h ⊢
  · exact hk _ _ h
  · split at h
    · exact ⟨h.1, hk _ _ h.2⟩
    · exact h.elim
  · split at h
    · exact ⟨h.1, hk _ _ h.2⟩
    · exact h.elim
  · split at h
    · exact ⟨h.1, h.2.1, hk _ _ h.2.2⟩
    · exact h.elim

theorem roY_imp {y : YOp} {vs : List SV} {L : List Chunk} {g : G} {K K' : SV → Prop} (hv : scL L.length vs = true) (hk : ∀ r, K r → r.sc L.length = true → K' r) (h : roY y vs L g K) : roY y vs L g K' := by
  unfold roY at *
  cases y <;> simp only at h ⊢
  case slcA =>
    split at h
    · simp only [scL, Bool.and_eq_true] at hv
      exact boundsK_imp (fun l u h => hk _ h (by simpa [SV.sc] using hv.1)) h
    · exact boundsK_imp (fun l u h => hk _ h rfl) h
    · exact h.elim
  case slcS =>
    split at h
    · simp only [scL, Bool.and_eq_true] at hv
      exact boundsK_imp (fun l u h => hk _ h (by simpa [SV.sc] using hv.1)) h
    · exact boundsK_imp (fun l u h => hk _ h rfl) h
    · exact h.elim
  case slcT =>
    split at h
    · exact boundsK_imp (fun l u h => hk _ h rfl) h
    · exact h.elim
  case b2s =>
    split at h
    · split at h
      · rename_i hc
        try simp only [hc]
        obtain ⟨hb, h⟩ := ifOk_elim h
        rw [hb]
        show _
        split at h
        · rename_i hn
          (try simp only [hn]); exact hk _ h rfl
        · exact h.elim
      · rename_i hc
        try simp only [hc]
        obtain ⟨h1, ns, h2, h⟩ := h
        exact ⟨h1, ns, h2, hk _ h rfl⟩
      · exact h.elim
    · obtain ⟨ns, h1, h2, h⟩ := h
      exact ⟨ns, h1, h2, hk _ h rfl⟩
    · exact hk _ h rfl
    · exact h.elim
  case cmps =>
    split at h
    · exact hk _ h rfl
    · exact h.elim
  case nilI =>
    split at h
    · exact hk _ h rfl
    · exact hk _ h rfl
    · exact hk _ h rfl
    · exact h.elim
  case nilP =>
    split at h
    · exact hk _ h rfl
    · exact hk _ h rfl
    · exact hk _ h rfl
    · exact h.elim
  case nilC =>
    split at h
    · simp only [scL, Bool.and_eq_true] at hv
      exact hk _ h hv.1
    · exact hk _ h rfl
    · exact h.elim
  case tass t z =>
    split at h
    · exact hk _ h rfl
    · simp only [scL, Bool.and_eq_true] at hv
      split at h
      · rename_i hb
        try simp only [hb]
        exact hk _ h (by simpa [SV.sc, scL] using hv.1)
      · rename_i hb
        try simp only [hb]
        exact hk _ h rfl
    · split at h
      · rename_i hb
        try simp only [hb]
        exact hk _ h rfl
      · rename_i hb
        try simp only [hb]
        exact hk _ h rfl
    · exact h.elim

theorem ro_sc {X : XOp} {fr : List SV} {L : List Chunk} {g : G} {K : SV → Prop} (hfr : scL L.length fr = true) (hL : scH L) (h : ro X (ev fr) L g K) :
    ro X (ev fr) L g fun r => K r ∧ r.sc L.length = true := by
  have he := sc_ev hfr
  cases X <;> simp only [ro] at h ⊢
  case more y args => exact roY_imp (scL_mem.2 fun x hx => by obtain ⟨z, _, rfl⟩ := List.mem_map.1 hx; exact he z) (fun r h1 h2 => ⟨h1, h2⟩) h
  case mov x => exact nj_imp h fun hk => ⟨hk, he x⟩
  case pick c a b =>
    split at h
    case h_2 => exact h.elim
    case h_1 t hc =>
      try simp only [hc]
      cases t
      · exact nj_imp (h : nj _ _) fun hk => ⟨hk, he b⟩
      · exact nj_imp (h : nj _ _) fun hk => ⟨hk, he a⟩
  case build zs ps =>
    split at h
    case h_2 => exact h.elim
    case h_1 l hf =>
      try simp only [hf]
      refine ⟨h, ?_⟩
      simp only [SV.sc]
      refine fillS_sc _ _ _ (fun q hq => ?_) (scL_v _) hf
      obtain ⟨p, _, rfl⟩ := List.mem_map.1 hq
      exact he _
  case load agg n a =>
    split at h
    case h_1 k off ha =>
      try simp only [ha]
      split at h
      case h_1 ty c hc =>
        try simp only [hc]
        obtain ⟨h1, h⟩ := ifle_elim h
        simp only [ifle, Nat.ble_eq_true_of_le h1]
        exact val1_sc (scL_take _ (scL_drop _ (hL _ _ _ hc))) h
      case h_2 ty c hc =>
        try simp only [hc]
        exact ⟨h.1, val1_sc (scL_v _) h.2⟩
      case h_3 => exact h.elim
    case h_2 a ha =>
      try simp only [ha]
      obtain ⟨xs, h1, h2, h⟩ := h
      exact ⟨xs, h1, h2, val1_sc (scL_v _) h⟩
    case h_3 => exact h.elim
  case bin op x y =>
    split at h
    case h_2 => exact h.elim
    case h_1 a ha =>
      try simp only [ha]
      split at h
      case h_2 => exact h.elim
      case h_1 b hb => (try simp only [hb]); exact valBin_sc h
  case eqB neg x y =>
    split at h
    case h_2 => exact h.elim
    case h_1 a ha =>
      try simp only [ha]
      split at h
      case h_2 => exact h.elim
      case h_1 b hb => (try simp only [hb]); exact ⟨h, rfl⟩
  case eqAgg neg ks x y =>
    split at h
    case h_2 => exact h.elim
    case h_1 a ha =>
      try simp only [ha]
      split at h
      case h_2 => exact h.elim
      case h_1 b hb =>
        try simp only [hb]
        exact eqKs_imp (fun r hr => ⟨hr, rfl⟩) _ _ _ h
  case un op x =>
    split at h
    case h_1 b hb => (try simp only [hb]); cases op <;> simp only at h ⊢ <;> exact ⟨h, rfl⟩
    case h_2 k n hb => (try simp only [hb]); cases op <;> simp only at h ⊢ <;> exact ⟨h, rfl⟩
    case h_3 => exact h.elim
  case conv k x =>
    split at h
    case h_1 k' n hb => (try simp only [hb]); exact ⟨h, rfl⟩
    case h_2 => exact h.elim
  case fieldA off x =>
    have hx := he x
    split at h
    case h_1 k o hb => (try simp only [hb]); rw [hb] at hx; exact ⟨h, by simpa [SV.sc] using hx⟩
    case h_2 a hb => (try simp only [hb]); exact ⟨h, rfl⟩
    case h_3 => exact h.elim
  case fieldV agg off n x =>
    have hx := he x
    split at h
    case h_2 => exact h.elim
    case h_1 l hb =>
      try simp only [hb]
      rw [hb] at hx
      obtain ⟨h1, h⟩ := ifle_elim h
      simp only [ifle, Nat.ble_eq_true_of_le h1]
      exact val1_sc (scL_take _ (scL_drop _ (by simpa [SV.sc] using hx))) h
  case indexS sz x i =>
    have hx := he x
    split at h
    case h_2 => exact h.elim
    case h_1 k n hi =>
      try simp only [hi]
      split at h
      case h_1 a len cap hb =>
        try simp only [hb]
        obtain ⟨h1, ad, h2, h⟩ := h
        exact ⟨h1, ad, h2, h, rfl⟩
      case h_2 k off len cap hb =>
        try simp only [hb]
        rw [hb] at hx
        exact ⟨h.1, h.2, by simpa [SV.sc] using hx⟩
      case h_3 => exact h.elim
  case indexP len sz x i =>
    have hx := he x
    split at h
    case h_2 => exact h.elim
    case h_1 k n hi =>
      try simp only [hi]
      split at h
      case h_1 k off hb =>
        try simp only [hb]
        rw [hb] at hx
        exact ⟨h.1, h.2, by simpa [SV.sc] using hx⟩
      case h_2 a hb => (try simp only [hb]); exact ⟨h.1, h.2, rfl⟩
      case h_3 => exact h.elim
  case indexV len agg sz x i =>
    have hx := he x
    split at h
    case h_2 => exact h.elim
    case h_1 k n hi =>
      try simp only [hi]
      split at h
      case h_2 => exact h.elim
      case h_1 l hb =>
        try simp only [hb]
        rw [hb] at hx
        obtain ⟨h0, h⟩ := h
        obtain ⟨h1, h⟩ := ifle_elim h
        simp only [ifle, Nat.ble_eq_true_of_le h1]
        exact ⟨h0, val1_sc (scL_take _ (scL_drop _ (by simpa [SV.sc] using hx))) h⟩
  case indexStr x i =>
    split at h
    case h_2 => exact h.elim
    case h_1 k n hi =>
      try simp only [hi]
      split at h
      case h_2 => exact h.elim
      case h_1 s hb => (try simp only [hb]); exact ⟨h.1, h.2, rfl⟩
  case ext x i =>
    have hx := he x
    split at h
    case h_1 l hb =>
      try simp only [hb]
      rw [hb] at hx
      exact nj_imp h fun hk => ⟨hk, sc_get (by simpa [SV.sc] using hx) i⟩
    case h_2 c hb =>
      try simp only [hb]
      split at h
      case h_1 y hy => exact ⟨h, rfl⟩
      case h_2 => exact h.elim
    case h_3 => exact h.elim
  case len str x =>
    cases str
    · simp only at h ⊢
      split at h
      case h_1 a n c hb => (try simp only [hb]); exact ⟨h, rfl⟩
      case h_2 k o n c hb => (try simp only [hb]); exact ⟨h, rfl⟩
      case h_3 => exact h.elim
    · simp only at h ⊢
      split at h
      case h_1 s hb => (try simp only [hb]); exact ⟨h, rfl⟩
      case h_2 => exact h.elim
  case mkI t x =>
    have hx := he x
    split at h
    case h_1 y hb => (try simp only [hb]); exact ⟨h, rfl⟩
    case h_2 => exact h.elim
    case h_3 y h1 h2 =>
      refine ⟨h, ?_⟩
      simpa [SV.sc] using hx
  case mkF f a b =>
    have ha : scL L.length (a.map (ev fr)) = true := scL_mem.2 fun x hx => by obtain ⟨y, _, rfl⟩ := List.mem_map.1 hx; exact he y
    have hb : scL L.length (b.map (ev fr)) = true := scL_mem.2 fun x hx => by obtain ⟨y, _, rfl⟩ := List.mem_map.1 hx; exact he y
    obtain ⟨h1, h1'⟩ := njL_elim (njL_sc ha h)
    obtain ⟨h2, h2'⟩ := njL_elim (njL_sc hb h1'.1)
    have back : ∀ (l : List SV) (K : List SV → Prop), (∀ x ∈ l, x ≠ .junk) → K l → njL l K := by
      intro l
      induction l with
      | nil => intro K _ hk; exact hk
      | cons x l ih =>
        intro K hx hk
        have := hx x (by simp)
        have ih' := ih (fun l => K (x :: l)) (fun y hy => hx y (by simp [hy])) hk
        cases x <;> first | exact absurd rfl this | exact ih'
    exact back _ _ h1 (back _ _ h2 ⟨h2'.1, by simp [SV.sc, ha, hb]⟩)

end Go.Sx
