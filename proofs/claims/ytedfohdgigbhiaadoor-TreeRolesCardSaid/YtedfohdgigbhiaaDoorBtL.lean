/- The plain law behind PrioOrders and PrioBest: rows of numbers compared from the left; the first of the least. Conditions: none; no program in sight. -/
import Derived.Test.YtedfohdgigbhiaaDoorTypes
namespace Go.Proofs.YtedfohdgigbhiaaDoor
open Go.Sx

/-- Two rows, compared from the left. -/
def fst : List Int → List Int → Int
  | x :: xs, y :: ys => if x < y then -1 else if y < x then 1 else fst xs ys
  | _, _ => 0
def orI : List Int → Int
  | [] => 0
  | x :: l => if x = 0 then orI l else x

theorem fst_app : ∀ (xs ys : List Int) (zs ws : List Int), xs.length = ys.length → fst (xs ++ zs) (ys ++ ws) = if fst xs ys = 0 then fst zs ws else fst xs ys
  | [], [], zs, ws, _ => by simp [fst]
  | x :: xs, y :: ys, zs, ws, h => by
    simp only [List.cons_append, fst]
    rw [fst_app xs ys zs ws (by simpa using h)]
    split
    · simp
    · split
      · simp
      · rfl
  | [], _ :: _, _, _, h => by simp at h
  | _ :: _, [], _, _, h => by simp at h

theorem fst_neg : ∀ (xs ys : List Int), fst ys xs = - fst xs ys
  | [], [] => rfl
  | [], _ :: _ => rfl
  | _ :: _, [] => rfl
  | x :: xs, y :: ys => by
    simp only [fst]
    rw [fst_neg xs ys]
    by_cases h1 : x < y
    · rw [if_neg (by omega), if_pos h1, if_pos h1]; rfl
    · by_cases h2 : y < x
      · rw [if_pos h2, if_neg h1, if_pos h2]
      · rw [if_neg h2, if_neg h1, if_neg h1, if_neg h2]

theorem fst_trans : ∀ (xs ys zs : List Int), xs.length = ys.length → ys.length = zs.length → fst xs ys < 0 → fst ys zs ≤ 0 → fst xs zs < 0
  | [], [], [], _, _, h, _ => by simp [fst] at h
  | x :: xs, y :: ys, z :: zs, h1, h2, h3, h4 => by
    simp only [fst] at h3 h4 ⊢
    have ih := fst_trans xs ys zs (by simpa using h1) (by simpa using h2)
    by_cases a : x < y
    · by_cases b : y < z
      · rw [if_pos (by omega)]; omega
      · rw [if_neg b] at h4
        by_cases c : z < y
        · rw [if_pos c] at h4; omega
        · rw [if_pos (by omega)]; omega
    · rw [if_neg a] at h3
      by_cases b : y < x
      · rw [if_pos b] at h3; omega
      · rw [if_neg b] at h3
        by_cases c : y < z
        · rw [if_pos (by omega)]; omega
        · rw [if_neg c] at h4
          by_cases d : z < y
          · rw [if_pos d] at h4; omega
          · rw [if_neg d] at h4
            rw [if_neg (by omega), if_neg (by omega)]
            exact ih h3 h4
  | [], [], _ :: _, _, h, _, _ => by simp at h
  | [], _ :: _, _, h, _, _, _ => by simp at h
  | _ :: _, [], _, h, _, _, _ => by simp at h
  | _ :: _, _ :: _, [], _, h, _, _ => by simp at h

theorem fst_mid : ∀ (k : Nat) (xs ys : List Int) (x y : Int), (∀ i, i < k → xs[i]? = ys[i]?) → xs[k]? = some x → ys[k]? = some y → x ≠ y → fst xs ys = if x < y then -1 else 1
  | 0, a :: xs, b :: ys, x, y, _, h1, h2, h3 => by
    simp at h1 h2
    subst h1; subst h2
    simp only [fst]
    by_cases h : a < b
    · rw [if_pos h, if_pos h]
    · rw [if_neg h, if_neg h, if_pos (by omega)]
  | k + 1, a :: xs, b :: ys, x, y, h, h1, h2, h3 => by
    have h0 := h 0 (by omega)
    simp at h0
    subst h0
    simp only [fst]
    rw [if_neg (by omega), if_neg (by omega)]
    exact fst_mid k xs ys x y (fun i hi => by simpa using h (i + 1) (by omega)) (by simpa using h1) (by simpa using h2) h3
  | _, [], _, _, _, _, h, _, _ => by simp at h
  | _, _ :: _, [], _, _, _, _, h, _ => by simp at h
theorem fst_same : ∀ (xs ys : List Int), (∀ i, i < xs.length → xs[i]? = ys[i]?) → fst xs ys = 0
  | [], ys, _ => by cases ys <;> rfl
  | _ :: _, [], _ => rfl
  | a :: xs, b :: ys, h => by
    have h0 := h 0 (by simp)
    simp at h0
    subst h0
    simp only [fst]
    rw [if_neg (by omega), if_neg (by omega)]
    exact fst_same xs ys fun i hi => by simpa using h (i + 1) (by simpa using hi)

theorem orI_mid : ∀ (k : Nat) (xs : List Int) (x : Int), (∀ (i : Nat) (y : Int), i < k → xs[i]? = some y → y = 0) → xs[k]? = some x → x ≠ 0 → orI xs = x
  | 0, a :: xs, x, _, h1, h2 => by
    simp at h1
    subst h1
    simp only [orI, if_neg h2]
  | k + 1, a :: xs, x, h, h1, h2 => by
    have := h 0 a (by omega) rfl
    subst this
    simp only [orI, if_true]
    exact orI_mid k xs x (fun i y hi hy => h (i + 1) y (by omega) (by simpa using hy)) (by simpa using h1) h2
  | _, [], _, _, h, _ => by simp at h
theorem orI_zero : ∀ (xs : List Int), (∀ (i : Nat) (y : Int), xs[i]? = some y → y = 0) → orI xs = 0
  | [], _ => rfl
  | a :: xs, h => by
    have := h 0 a rfl
    subst this
    simp only [orI, if_true]
    exact orI_zero xs fun i y hy => h (i + 1) y (by simpa using hy)

/-- Rows of small numbers, as bytes. -/
theorem bytes_fst : ∀ (xs ys : List Int), xs.length = ys.length → (∀ x ∈ xs, iok .u8 x) → (∀ y ∈ ys, iok .u8 y) → Lib.compareBytes (bytesOfInts xs).data.toList (bytesOfInts ys).data.toList = fst xs ys
  | [], [], _, _, _ => rfl
  | x :: xs, y :: ys, h, hx, hy => by
    have ih := bytes_fst xs ys (by simpa using h) (fun z hz => hx z (by simp [hz])) (fun z hz => hy z (by simp [hz]))
    simp only [bytesOfInts, List.map_cons, fst] at ih ⊢
    simp only [Lib.compareBytes]
    have h1 : iok .u8 x := hx x (by simp)
    have h2 : iok .u8 y := hy y (by simp)
    unfold iok at h1 h2
    simp only at h1 h2
    have key : ∀ a b : Int, 0 ≤ a ∧ a ≤ 255 → 0 ≤ b ∧ b ≤ 255 → (UInt8.ofNat a.toNat < UInt8.ofNat b.toNat ↔ a < b) := by
      intro a b ha hb
      rw [UInt8.lt_iff_toNat_lt, UInt8.toNat_ofNat', UInt8.toNat_ofNat', Nat.mod_eq_of_lt (by omega), Nat.mod_eq_of_lt (by omega)]
      omega
    simp only [key x y h1 h2, key y x h2 h1, ih]
  | [], _ :: _, h, _, _ => by simp at h
  | _ :: _, [], h, _, _ => by simp at h

/-! ### Bridges, ports, vectors as rows -/
def AddrV.row (a : AddrV) : List Int := [a.e0, a.e1, a.e2, a.e3, a.e4, a.e5]
def BridgeV.row (b : BridgeV) : List Int := [b.prio, b.ext] ++ b.addr.row
def PortV.row (p : PortV) : List Int := [p.prio, p.no]
def VectorV.row (v : VectorV) : List Int := v.root.row ++ ([v.cost] ++ (v.sender.row ++ (v.port.row ++ v.at_.row)))

def bless (x y : BridgeV) : Bool := decide (fst x.row y.row < 0)
def vless (x y : VectorV) : Bool := decide (fst x.row y.row < 0)

theorem or_three {a b a' b' : Int} {c : Int} {xs ys : List Int} (h : c = fst xs ys) : orI [fst [a] [a'], fst [b] [b'], c] = fst ([a, b] ++ xs) ([a', b'] ++ ys) := by
  subst h
  rw [show [a, b] ++ xs = [a] ++ ([b] ++ xs) from rfl, show [a', b'] ++ ys = [a'] ++ ([b'] ++ ys) from rfl, fst_app [a] [a'] _ _ rfl, fst_app [b] [b'] _ _ rfl]
  simp only [orI]
  split
  · split
    · split
      · rename_i h; exact h.symm
      · rfl
    · rfl
  · rfl
theorem or_two {a b a' b' : Int} : orI [fst [a] [a'], fst [b] [b']] = fst [a, b] [a', b'] := by
  rw [show [a, b] = [a] ++ [b] from rfl, show [a', b'] = [a'] ++ [b'] from rfl, fst_app [a] [a'] _ _ rfl]
  simp only [orI]
  split
  · split
    · rename_i h; exact h.symm
    · rfl
  · rfl
theorem or_five (x y : VectorV) : orI [fst x.root.row y.root.row, fst [x.cost] [y.cost], fst x.sender.row y.sender.row, fst x.port.row y.port.row, fst x.at_.row y.at_.row] = fst x.row y.row := by
  simp only [VectorV.row]
  rw [fst_app x.root.row y.root.row _ _ rfl, fst_app [x.cost] [y.cost] _ _ rfl, fst_app x.sender.row y.sender.row _ _ rfl, fst_app x.port.row y.port.row _ _ rfl]
  simp only [orI]
  repeat' split
  all_goals first | rfl | (rename_i h; exact h.symm)

/-! ### The first of the least -/
def IsBest (l : List VectorV) (b : Int) : Prop :=
  (b = -1 ∧ ∀ (k : Nat) x, l[k]? = some x → ∃ (i : Nat) (y : VectorV), l[i]? = some y ∧ vless y x = true) ∨
  ∃ (k : Nat) (x : VectorV), l[k]? = some x ∧ b = k ∧ (∀ (i : Nat) y, l[i]? = some y → vless y x = false) ∧ ∀ (j : Nat) z, j < k → l[j]? = some z → ∃ (i : Nat) (y : VectorV), l[i]? = some y ∧ vless y z = true

theorem best_one {l : List VectorV} {a b : Int} (ha : IsBest l a) (hb : IsBest l b) : a = b := by
  rcases ha with ⟨rfl, ha⟩ | ⟨k, x, hk, rfl, h1, h2⟩ <;> rcases hb with ⟨rfl, hb⟩ | ⟨m, y, hm, rfl, h3, h4⟩
  · rfl
  · obtain ⟨i, z, hi, hz⟩ := ha m y hm
    rw [h3 i z hi] at hz
    cases hz
  · obtain ⟨i, z, hi, hz⟩ := hb k x hk
    rw [h1 i z hi] at hz
    cases hz
  · rcases Nat.lt_trichotomy k m with h | h | h
    · obtain ⟨i, z, hi, hz⟩ := h4 k x h hk
      rw [h1 i z hi] at hz
      cases hz
    · rw [h]
    · obtain ⟨i, z, hi, hz⟩ := h2 m y h hm
      rw [h3 i z hi] at hz
      cases hz

theorem VectorV.row_len (v : VectorV) : v.row.length = 21 := rfl
theorem vless_of {x y z : VectorV} (h1 : vless x y = true) (h2 : vless z y = false) : vless x z = true := by
  simp only [vless, decide_eq_true_eq, decide_eq_false_iff_not] at *
  exact fst_trans x.row y.row z.row rfl rfl h1 (by rw [fst_neg]; omega)
theorem vless_trans {x y z : VectorV} (h1 : vless x y = true) (h2 : vless y z = true) : vless x z = true := by
  simp only [vless, decide_eq_true_eq] at *
  exact fst_trans x.row y.row z.row rfl rfl h1 (by omega)
theorem vless_irr (x : VectorV) : vless x x = false := by
  have : fst x.row x.row = 0 := fst_same _ _ fun _ _ => rfl
  simp [vless, this]

/-- What is known of the least below k. -/
def BestTo (l : List VectorV) (k : Nat) (b : Int) : Prop :=
  (b = -1 ∧ k = 0) ∨ ∃ (m : Nat) (x : VectorV), m < k ∧ l[m]? = some x ∧ b = m ∧ (∀ (i : Nat) y, i < k → l[i]? = some y → vless y x = false) ∧ ∀ (j : Nat) z, j < m → l[j]? = some z → vless x z = true
theorem BestTo.end {l : List VectorV} {b : Int} (h : BestTo l l.length b) : IsBest l b := by
  rcases h with ⟨rfl, h⟩ | ⟨m, x, hm, hx, rfl, h1, h2⟩
  · refine .inl ⟨rfl, fun k x hk => ?_⟩
    have := (List.getElem?_eq_some_iff.1 hk).1
    omega
  · exact .inr ⟨m, x, hx, rfl, fun i y hy => h1 i y (List.getElem?_eq_some_iff.1 hy).1 hy, fun j z hj hz => ⟨m, x, hx, h2 j z hj hz⟩⟩
theorem BestTo.first {l : List VectorV} {x : VectorV} (hx : l[0]? = some x) : BestTo l 1 0 := by
  refine .inr ⟨0, x, by omega, hx, rfl, fun i y hi hy => ?_, fun j z hj => by omega⟩
  have : i = 0 := by omega
  subst this
  rw [hx] at hy
  cases hy
  exact vless_irr x
theorem BestTo.keep {l : List VectorV} {k m : Nat} {x y : VectorV} (h : BestTo l k m) (hx : l[m]? = some x) (hy : l[k]? = some y) (hl : vless y x = false) : BestTo l (k + 1) m := by
  rcases h with ⟨h0, _⟩ | ⟨m', x', hm, hx', e, h1, h2⟩
  · omega
  · have : m = m' := by omega
    subst this
    rw [hx] at hx'
    cases hx'
    refine .inr ⟨m, x, by omega, hx, rfl, fun i z hi hz => ?_, h2⟩
    by_cases hik : i = k
    · subst hik; rw [hy] at hz; cases hz; exact hl
    · exact h1 i z (by omega) hz
theorem BestTo.turn {l : List VectorV} {k m : Nat} {x y : VectorV} (h : BestTo l k m) (hx : l[m]? = some x) (hy : l[k]? = some y) (hl : vless y x = true) : BestTo l (k + 1) k := by
  rcases h with ⟨h0, _⟩ | ⟨m', x', hm, hx', e, h1, h2⟩
  · omega
  · have : m = m' := by omega
    subst this
    rw [hx] at hx'
    cases hx'
    refine .inr ⟨k, y, by omega, hy, rfl, fun i z hi hz => ?_, fun j z hj hz => ?_⟩
    · by_cases hik : i = k
      · subst hik; rw [hy] at hz; cases hz; exact vless_irr _
      · have h3 := h1 i z (by omega) hz
        cases hzy : vless z y with
        | false => rfl
        | true => rw [vless_trans hzy hl] at h3; cases h3
    · exact vless_of hl (h1 j z hj hz)
end Go.Proofs.YtedfohdgigbhiaaDoor
