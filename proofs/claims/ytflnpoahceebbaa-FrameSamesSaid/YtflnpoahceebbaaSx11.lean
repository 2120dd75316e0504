/- A symbolic executor of my own, part 11: regions, code, loops: from code to a condition; and what the condition is worth. Conditions: none; it speaks of any program. -/
import Derived.Test.YtflnpoahceebbaaSx10
namespace Go.Sx

/-! ### From code to a condition -/

def vcRun (P : Program) (run : Bool) (o : XOper) (S : St) (K : St → Prop) : Prop :=
  match run with
  | true => hp P o.x (ev S.fr) S.L S.g fun r L g => K ⟨putO S.fr o.dst r, L, g⟩
  | false => K ⟨putO S.fr o.dst (.v undef), S.L, S.g⟩

def vcOp (P : Program) (o : XOper) (S : St) (K : St → Prop) : Prop :=
  match o.guard with
  | none => hp P o.x (ev S.fr) S.L S.g fun r L g => K ⟨putO S.fr o.dst r, L, g⟩
  | some (t, want) => match get S.fr t with
    | .v (.bool b) => bsplit b (vcRun P want o ⟨put S.fr t (.v (.bool true)), S.L, S.g⟩ K) (vcRun P (!want) o ⟨put S.fr t (.v (.bool false)), S.L, S.g⟩ K)
    | .v (.tuple _) => K ⟨putO S.fr o.dst (.v undef), S.L, S.g⟩
    | _ => False

def vcOps (P : Program) : List XOper → St → (St → Prop) → Prop
  | [], S, K => K S
  | o :: l, S, K => vcOp P o S fun S => vcOps P l S K

/-- A quiet operation: it only reads, or calls and leaves the memory at hand as it was. -/
def qp (P : Program) (X : XOp) (e : Operand → SV) (L : List Chunk) (g : G) (K : SV → Prop) : Prop :=
  match X with
  | .call f args => njL (args.map e) fun as => ∃ r, (r ≠ .junk ∧ r.sc L.length = true) ∧ Meets P f as L g (fun r' L' _ => r' = r ∧ L'.take L.length = L) ∧ K r
  | .callv x args => match e x with
    | .fn f first cap => njL (args.map e) fun as => ∃ r, (r ≠ .junk ∧ r.sc L.length = true) ∧ Meets P f (first ++ (as ++ cap)) L g (fun r' L' _ => r' = r ∧ L'.take L.length = L) ∧ K r
    | _ => False
  | X => ro X e L g K

def vqRun (P : Program) (run : Bool) (o : XOper) (S : St) (K : St → Prop) : Prop :=
  match run with
  | true => qp P o.x (ev S.fr) S.L S.g fun r => K ⟨putO S.fr o.dst r, S.L, S.g⟩
  | false => K ⟨putO S.fr o.dst (.v undef), S.L, S.g⟩

def vqOp (P : Program) (o : XOper) (S : St) (K : St → Prop) : Prop :=
  match o.guard with
  | none => qp P o.x (ev S.fr) S.L S.g fun r => K ⟨putO S.fr o.dst r, S.L, S.g⟩
  | some (t, want) => match get S.fr t with
    | .v (.bool b) => bsplit b (vqRun P want o ⟨put S.fr t (.v (.bool true)), S.L, S.g⟩ K) (vqRun P (!want) o ⟨put S.fr t (.v (.bool false)), S.L, S.g⟩ K)
    | .v (.tuple _) => K ⟨putO S.fr o.dst (.v undef), S.L, S.g⟩
    | _ => False

def vqOps (P : Program) : List XOper → St → (St → Prop) → Prop
  | [], S, K => K S
  | o :: l, S, K => vqOp P o S fun S => vqOps P l S K

/-- T says no more than S. -/
structure Weaker (S T : St) : Prop where
  fr : S.fr.length = T.fr.length ∧ ∀ i, get T.fr i = .junk ∨ get T.fr i = get S.fr i
  L : ∃ extra, S.L = T.L ++ extra
  g : T.g = S.g
  scF : scL T.L.length T.fr = true
  scL : scH T.L

/-- The slots that code writes (those that a guard settles among them). -/
def dstsOps : List XOper → List Nat
  | [] => []
  | o :: l => (match o.dst with | some d => [d] | none => []) ++ (match o.guard with | some (t, _) => [t] | none => []) ++ dstsOps l
def dsts : XC → List Nat
  | .ops l => dstsOps l
  | .draw _ l => dstsOps l
  | .seq a b => dsts a ++ dsts b
  | .cond _ a b => dsts a ++ dsts b
  | .block _ c => dsts c
  | .loop _ c => dsts c
  | _ => []

/-- Alike beyond these slots. -/
def Kept (D : List Nat) (fr fr' : List SV) : Prop := fr'.length = fr.length ∧ ∀ i, i ∉ D → get fr' i = get fr i

def vcC (P : Program) : XC → St → (Exit → St → Prop) → Prop
  | .skip, S, K => K .normal S
  | .ops l, S, K => vcOps P l S (K .normal)
  | .draw n l, S, K => vqOps P (l.take n) S fun S => vcOps P (l.drop n) S (K .normal)
  | .seq a b, S, K => vcC P a S fun e S => match e with
    | .normal => vcC P b S K
    | .exit j => K (.exit j) S
    | .ret => K .ret S
    | _ => False
  | .cond c a b, S, K => match ev S.fr c with
    | .v (.bool t) => bsplit t (vcC P a S K) (vcC P b S K)
    | _ => False
  | .block id c, S, K => vcC P c S fun e S => match e with
    | .normal => K .normal S
    | .exit j => match Nat.beq j id with
      | true => K .normal S
      | false => K (.exit j) S
    | .ret => K .ret S
    | _ => False
  | .loop _ c, S, K => scL S.L.length S.fr = true → scH S.L → ∃ (I : Nat → St → Prop) (n : Nat) (T : St), Weaker S T ∧ S.L.length ≤ T.L.length ∧ Kept (dsts c) S.fr T.fr ∧ I n T ∧
      ∀ n S1, I n S1 → vcC P c S1 fun e S' => match e with
        | .normal => ∃ m T, m < n ∧ Weaker S' T ∧ S.L.length ≤ T.L.length ∧ Kept (dsts c) S.fr T.fr ∧ I m T
        | .exit j => K (.exit j) S'
        | .ret => K .ret S'
        | _ => False
  | .exit id, S, K => K (.exit id) S
  | .ret, S, K => K .ret S

/-- Which slots. -/
def maskOf (D : List Nat) : List Bool := (List.range (D.foldl max 0 + 1)).map D.contains

/-- The resolved code is the code. -/
def xcode (P : Program) : Code → Option XC
  | .skip => some .skip
  | .region _ ops false => (ops.toList.mapM (xoper P ops)).map .ops
  | .region _ ops true => match (List.range (ops.size + 1)).reverse.find? (drawOk ops) with
    | some n => (ops.toList.mapM (xoper P ops)).map (.draw n)
    | none => none
  | .seq a b => match xcode P a with
    | some x => match xcode P b with
      | some y => some (.seq x y)
      | none => none
    | none => none
  | .cond c a b => match xcode P a with
    | some x => match xcode P b with
      | some y => some (.cond c x y)
      | none => none
    | none => none
  | .block id c => (xcode P c).map (.block id)
  | .loop c => (xcode P c).map fun x => .loop (maskOf (dsts x)) x
  | .exit id => some (.exit id)
  | .ret => some .ret
  | _ => none

/-! ### What it is worth -/

theorem get_put {l : List SV} {i : Nat} {x : SV} (j : Nat) : get (put l i x) j = if i = j ∧ i < l.length then x else get l j := by
  induction l generalizing i j with
  | nil => simp [put, get]
  | cons y l ih =>
    cases i with
    | zero =>
      cases j with
      | zero => simp [put, get]
      | succ j => simp [put, get]
    | succ i =>
      cases j with
      | zero => simp [put, get]
      | succ j => simp [put, get, ih]

theorem put_length {l : List SV} {i : Nat} {x : SV} : (put l i x).length = l.length := by
  induction l generalizing i with
  | nil => rfl
  | cons y l ih => cases i <;> simp [put, ih]

theorem FR.congr {n : Nat} {σ σ' : Nat → Nat} {fr : List SV} {tmps : Array Value} (h : FR σ fr tmps) (hs : scL n fr = true) (ha : ∀ k, k < n → σ' k = σ k) : FR σ' fr tmps :=
  ⟨h.1, fun i x hx hj => by
    rw [h.2 i x hx hj]
    exact re_congr (fun k hk => (ha k hk).symm) x (by rw [← hx]; exact sc_get hs i)⟩

theorem FR.put {σ : Nat → Nat} {fr : List SV} {tmps : Array Value} (h : FR σ fr tmps) (d : Nat) {r : SV} {v : Value} (hv : r ≠ .junk → v = r.re σ) : FR σ (put fr d r) (tmps.setIfInBounds d v) := by
  refine ⟨by rw [put_length, h.1]; simp, fun i x hx hj => ?_⟩
  rw [get_put] at hx
  by_cases hd : d = i ∧ d < fr.length
  · obtain ⟨rfl, hlt⟩ := hd
    rw [if_pos ⟨rfl, hlt⟩] at hx
    subst hx
    have := h.1
    rw [← hv hj]
    simp [show d < tmps.size by omega]
  · rw [if_neg hd] at hx
    rw [← h.2 i x hx hj]
    by_cases hdi : d = i
    · subst hdi
      have : ¬ d < tmps.size := by have := h.1; omega
      simp [this]
    · simp [Array.getElem?_setIfInBounds_ne hdi]

theorem Inv.after {S : St} {σ : Nat → Nat} {a : Act} {w : World} (I : Inv S σ a w) {dst : Option Tmp} {v : Value} {r : SV} {L' : List Chunk} {g' : G} {σ' : Nat → Nat} {w' : World}
    (hv : r ≠ .junk → v = r.re σ') (hr : r.sc L'.length = true) (hH : Holds g' L' σ' w') (hL : scH L') (hg : Goes σ S.L S.g w σ' L' g' w') : Inv ⟨putO S.fr dst r, L', g'⟩ σ' (a.put dst v) w' := by
  have hf := I.fr.congr I.scF hg.agree
  have hs := scL_mono hg.len _ I.scF
  cases dst with
  | none => exact ⟨hf, hH, hs, hL, I.defers⟩
  | some d => exact ⟨hf.put d hv, hH, sc_put hs d hr, hL, I.defers⟩

theorem Inv.known {S : St} {σ : Nat → Nat} {a : Act} {w : World} (I : Inv S σ a w) {t : Nat} {b : Bool} (h : get S.fr t = .v (.bool b)) : Inv ⟨put S.fr t (.v (.bool b)), S.L, S.g⟩ σ a w := by
  have hk : put S.fr t (.v (.bool b)) = S.fr := by
    have : ∀ (l : List SV) (i : Nat), get l i = .v (.bool b) → put l i (.v (.bool b)) = l := by
      intro l
      induction l with
      | nil => intro i _; rfl
      | cons x l ih =>
        intro i hi
        cases i with
        | zero => simp only [get] at hi; simp [put, hi]
        | succ i => simp only [put, ih i (by simpa [get] using hi)]
    exact this _ _ h
  rw [hk]
  exact I

/-- What a step may have come to. -/
def After (S : St) (σ : Nat → Nat) (w : World) (K : St → Prop) (a' : Act) (w' : World) : Prop :=
  ∃ S' σ', Inv S' σ' a' w' ∧ Goes σ S.L S.g w σ' S'.L S'.g w' ∧ K S'

section
variable {P : Program} {ops : Array Oper}

theorem wanted_none {o : Oper} {tmps : Array Value} (h : guardOf ops o.guard = some none) : Region.wanted o (yielded ops tmps) = true := by
  cases hg : o.guard with
  | none => simp [Region.wanted, hg]
  | some p =>
    obtain ⟨j, b⟩ := p
    rw [hg] at h
    simp only [guardOf] at h
    split at h <;> simp at h

theorem wanted_some {o : Oper} {tmps : Array Value} {t : Nat} {want : Bool} (h : guardOf ops o.guard = some (some (t, want))) :
    Region.wanted o (yielded ops tmps) = (match tmps.getD t undef with | .bool b => b == want | _ => false) := by
  cases hg : o.guard with
  | none => rw [hg] at h; simp [guardOf] at h
  | some p =>
    obtain ⟨j, b⟩ := p
    rw [hg] at h
    simp only [guardOf] at h
    cases hd : (ops[j]?).bind (·.dst) with
    | none => rw [hd] at h; simp at h
    | some t' =>
      rw [hd] at h
      simp only [Option.some.injEq, Prod.mk.injEq] at h
      obtain ⟨rfl, rfl⟩ := h
      simp only [Region.wanted, hg, yielded, hd, Option.bind_some, Array.getD_eq_getD_getElem?]
      cases ht : tmps[t']? with
      | none => simp [undef]
      | some v => cases v <;> simp

theorem vcRun_sound {o : Oper} {X : XOper} (hx : xop P o.op = some X.x) (hd : X.dst = o.dst) {S : St} {σ : Nat → Nat} {a : Act} {w : World} {K : St → Prop} {Q : Exit → Act → World → Prop} (I : Inv S σ a w)
    (h : hp P X.x (ev S.fr) S.L S.g fun r L g => K ⟨putO S.fr X.dst r, L, g⟩) : o.wp P a w (After S σ w K) Q := by
  refine Oper.wp_mono ?_ (hp_sound hx I h)
  rintro a' w' ⟨v, r, L', g', σ', rfl, hv, hr, hH, hL, hg, hk⟩
  rw [hd] at hk
  exact ⟨_, σ', I.after hv hr hH hL hg, hg, hk⟩

theorem vcOp_sound {o : Oper} {X : XOper} (hx : xoper P ops o = some X) {S : St} {σ : Nat → Nat} {a : Act} {w : World} {K : St → Prop} {Q : Exit → Act → World → Prop} (I : Inv S σ a w) (h : vcOp P X S K) :
    if Region.wanted o (yielded ops a.tmps) then o.wp P a w (After S σ w K) Q else After S σ w K (a.put o.dst undef) w := by
  unfold xoper at hx
  cases hX : xop P o.op with
  | none => simp [hX] at hx
  | some x =>
    rw [hX] at hx
    simp only at hx
    cases hG : guardOf ops o.guard with
    | none => simp [hG] at hx
    | some gd =>
      rw [hG] at hx
      simp only [Option.some.injEq] at hx
      subst hx
      have skip : ∀ S : St, Inv S σ a w → K ⟨putO S.fr o.dst (.v undef), S.L, S.g⟩ → After S σ w K (a.put o.dst undef) w := fun S I hk =>
        ⟨_, σ, I.after (fun _ => rfl) rfl I.holds I.scL (Goes.refl _ _ _ _), Goes.refl _ _ _ _, hk⟩
      unfold vcOp at h
      cases gd with
      | none =>
        rw [wanted_none hG, if_pos rfl]
        exact vcRun_sound hX rfl I h
      | some p =>
        obtain ⟨t, want⟩ := p
        simp only at h
        rw [wanted_some hG]
        split at h
        case h_1 b hb =>
          have ht : a.tmps.getD t undef = .bool b := by rw [I.fr.2 t _ hb (by simp)]; rfl
          simp only [ht]
          have aft : ∀ (b : Bool) (a' : Act) (w' : World), After ⟨put S.fr t (.v (.bool b)), S.L, S.g⟩ σ w K a' w' → After S σ w K a' w' := fun _ _ _ h => h
          rcases bsplit_elim h with ⟨rfl, hq⟩ | ⟨rfl, hq⟩
          · have I' := I.known hb
            cases want
            · rw [if_neg (by simp)]
              exact skip ⟨put S.fr t (.v (.bool true)), S.L, S.g⟩ I' hq
            · rw [if_pos (by simp)]
              exact Oper.wp_mono (aft true) (vcRun_sound (X := ⟨o.dst, some (t, true), x⟩) (Q := Q) hX rfl I' hq)
          · have I' := I.known hb
            cases want
            · rw [if_pos (by simp)]
              exact Oper.wp_mono (aft false) (vcRun_sound (X := ⟨o.dst, some (t, false), x⟩) (Q := Q) hX rfl I' hq)
            · rw [if_neg (by simp)]
              exact skip ⟨put S.fr t (.v (.bool false)), S.L, S.g⟩ I' hq
        case h_2 c hc =>
          have ht : a.tmps.getD t undef = .tuple c := by rw [I.fr.2 t _ hc (by simp)]; rfl
          simp only [ht]
          simpa using skip S I h
        case h_3 => exact h.elim

theorem vcOps_sound {Q : Exit → Act → World → Prop} : ∀ (l : List Oper) (xs : List XOper), l.mapM (xoper P ops) = some xs → ∀ {S : St} {σ : Nat → Nat} {a : Act} {w : World} {K : St → Prop}, Inv S σ a w → vcOps P xs S K →
    (∀ a' w', After S σ w K a' w' → Q .normal a' w') → wpList P ops Q l a w := by
  intro l
  induction l with
  | nil =>
    intro xs hx S σ a w K I h hQ
    simp at hx
    subst hx
    exact hQ _ _ ⟨S, σ, I, Goes.refl _ _ _ _, h⟩
  | cons o l ih =>
    intro xs hx S σ a w K I h hQ
    rw [List.mapM_cons] at hx
    simp only [bind, Option.bind_eq_some_iff, pure, Option.some.injEq] at hx
    obtain ⟨x, hx1, xs', hx2, rfl⟩ := hx
    have := vcOp_sound (Q := Q) hx1 I (show vcOp P x S fun S => vcOps P xs' S K from h)
    have next : ∀ a' w', After S σ w (fun S => vcOps P xs' S K) a' w' → wpList P ops Q l a' w' := by
      rintro a' w' ⟨S', σ', I', hg, hk⟩
      refine ih xs' hx2 I' hk fun a2 w2 ⟨S2, σ2, I2, hg2, hk2⟩ => hQ _ _ ⟨S2, σ2, I2, hg.trans hg2, hk2⟩
    unfold wpList
    split
    · rename_i hw
      rw [if_pos hw] at this
      exact .inl (Oper.wp_mono next this)
    · rename_i hw
      rw [if_neg hw] at this
      exact next _ _ this

end
end Go.Sx
