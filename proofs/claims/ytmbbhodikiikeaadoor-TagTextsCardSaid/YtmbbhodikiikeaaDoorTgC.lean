/- The reference of tag.Parse; the law TagTexts. Conditions: that the variables of the library that they read are as laid; of the law: the variable errors.errorType is, too. -/
import Derived.Test.YtmbbhodikiikeaaDoorTgB
namespace Go.Proofs.YtmbbhodikiikeaaDoor
open Go.Sx Go.Lib Go.RowKit
set_option maxRecDepth 100000
set_option maxHeartbeats 8000000
attribute [local irreducible] Meets
attribute [local instance] Classical.propDecidable

theorem gle (g : G) : G.le g g := fun _ _ h => h
theorem byteG {g : G} {ad : Addr} {s : ByteArray} (h : g.at ad (s.data.toList.map fun b => Value.int .u8 b.toNat)) {k : Nat} (hk : k < s.size) : ∃ b : UInt8, s.data.toList[k]? = some b ∧ g.at (ad.add (k * 1)) [.int .u8 b.toNat] := by
  have hl : s.data.toList.length = s.size := by rw [Array.length_toList]; rfl
  obtain ⟨b, hb⟩ : ∃ b, s.data.toList[k]? = some b := lt_some (by omega)
  refine ⟨b, hb, ?_⟩
  have := h.sub k 1 (by rw [List.length_map]; omega)
  rw [Nat.mul_one]
  have e : ((s.data.toList.map fun b => Value.int .u8 b.toNat).drop k).take 1 = [.int .u8 b.toNat] := by
    rw [List.drop_eq_getElem_cons (by rw [List.length_map]; omega), List.take_succ_cons, List.take_zero]
    rw [List.getElem?_eq_getElem (by omega)] at hb
    cases hb
    simp
  rw [e] at this
  exact this
/-- Where the point is. -/
def ixP (c : UInt8) (s : ByteArray) : Int := Lib.indexByte s.data.toList c
theorem ixP_rng (c : UInt8) (s : ByteArray) : -1 ≤ ixP c s ∧ ixP c s < s.size := by
  have h1 := Lib.indexByte_ge s.data.toList c
  have h2 := indexByte_lt s.data.toList c
  have e : s.data.toList.length = s.size := by rw [Array.length_toList]; rfl
  rw [e] at h2
  exact ⟨h1, h2⟩
theorem ixP_c (s : ByteArray) (g : G) : Tells Tryd.prog 14 [.v (.string s), .v (.int .u8 46)] g (.v (.int .i64 (ixP 46 s))) :=
  Tells.of_below (by kernel_rfl) rfl fun σ w him => by
    refine Calls.mono (sh_strings_IndexByte s 46 w) fun e w' h => ?_
    obtain ⟨h1, rfl⟩ := h
    exact ⟨h1, Below.refl _ _⟩
/-- What stands behind the point. -/
def tailP (s : ByteArray) : ByteArray := s.extract (IntKind.i64.wrap (ixP 46 s + 1)).toNat s.size
theorem tag_parts {s : ByteArray} (hs : s.size ≤ 1000000) {t : TagV} (ht : tagP t) (h : tagT t = s) : (2 ≤ ixP 46 s ∧ (s.size : Int) - ixP 46 s ≤ 5) ∧ (tailP s).data.toList = Lib.decDigits t.vid.toNat := by
  have hl := tagT_list ht
  rw [h] at hl
  have hi : ixP 46 s = ((hdL t).length : Int) := by rw [ixP, ← Lib.index_one, hl, index_at (hdL_free ht)]
  have hle : 2 ≤ (hdL t).length := by simp [hdL]
  have hsz : s.size = (hdL t).length + 1 + (Lib.decDigits t.vid.toNat).length := by
    have e : s.data.toList.length = s.size := by rw [Array.length_toList]; rfl
    rw [← e, hl]; simp; omega
  have h4 := dec_len4 (u := t.vid.toNat) (by have := ht.2.2.2; have := ht.2.2.1; omega)
  refine ⟨by rw [hi]; omega, ?_⟩
  have hw : (IntKind.i64.wrap (ixP 46 s + 1)).toNat = (hdL t).length + 1 := by rw [hi, wrap_id (by omega) (by omega)]; omega
  rw [tailP, hw, Lib.extract_to_end, hl]
  simp
theorem tailP_size {s : ByteArray} (h6 : (s.size : Int) - ixP 46 s ≤ 6) (h2 : 2 ≤ ixP 46 s) (hs : s.size ≤ 1000000) : (tailP s).size ≤ 5 := by
  have := ixP_rng 46 s
  rw [tailP, ByteArray.size_extract, wrap_id (by omega) (by omega)]
  omega
def comb : Nat → Bool × Bool
  | 0 => (true, false) | 1 => (false, false) | 2 => (true, true) | _ => (false, true)
theorem comb_all (s d : Bool) : ∃ a, a < 4 ∧ comb a = (s, d) := by
  cases s <;> cases d
  · exact ⟨1, by decide, rfl⟩
  · exact ⟨3, by decide, rfl⟩
  · exact ⟨0, by decide, rfl⟩
  · exact ⟨2, by decide, rfl⟩
def tag16 (n : Nat) : Chunk := .cells 35 ([Value.bool true, .int .i64 0, .bool false, .int .i64 n, .bool false, .int .i64 0, .bool false, .int .i64 n, .bool true, .int .i64 0, .bool true, .int .i64 n, .bool false, .int .i64 0, .bool true, .int .i64 n].map .v)
def tag1 (s d : Bool) (p : Int) (n : Nat) : Chunk := .cells 35 ([Value.bool s, .int .i64 p, .bool d, .int .i64 n].map .v)
/-- No tag with that number, of the first ways to write it. -/
def noneA (s : ByteArray) (n a : Nat) : Prop := ∀ t : TagV, tagP t → t.vid = n → (∃ i, i < a ∧ comb i = (t.s, t.dei)) → tagT t ≠ s
def noneP (s : ByteArray) (n : Nat) (S D : Bool) (p : Nat) : Prop := ∀ t : TagV, tagP t → t.vid = n → t.s = S → t.dei = D → t.pcp < p → tagT t ≠ s

attribute [local irreducible] numS tagT
theorem tagParseR_c (s : ByteArray) (hs : s.size ≤ 1000000) (g : G) (hT : TabVar g) : Meets Tryd.prog 12 [.v (.string s)] [] g (fun o L' g' => o = .ret (.tup [.agg ((parT s).1.cells.map .v), .v (.int .i64 (parT s).2)]) ∧ L' = [] ∧ G.le g g') := by
  obtain ⟨A, E, hAE⟩ : ∃ A E, parT s = (A, E) := ⟨_, _, rfl⟩
  rw [hAE]
  dsimp only
  have miss : (∀ t, tagP t → tagT t ≠ s) → A = TagV.zero ∧ E = 3 := fun h => by rw [parT_miss h] at hAE; cases hAE; exact ⟨rfl, rfl⟩
  have hit : ∀ t, tagP t → tagT t = s → A = t ∧ E = 0 := fun t h1 h2 => by rw [parT_hit h1 h2] at hAE; cases hAE; exact ⟨rfl, rfl⟩
  have back := fun t ht h => tag_parts (s := s) hs (t := t) ht h
  have hrng := ixP_rng 46 s
  clear hAE
  refine meets_of mixedS Tryd.func12 (by kernel_rfl) x12_ok (some []) ?_
  refine (ixP_c s g).call rfl rfl rfl ?_
  refine bsplit_of (fun (h : decide (ixP 46 s < 2) = true) => ?_) (fun (h : decide (ixP 46 s < 2) = false) => ?_)
  · obtain ⟨rfl, rfl⟩ := miss fun t h1 h2 => by have := (back t h1 h2).1.1; have := of_decide_eq_true h; omega
    exact ⟨rfl, rfl, gle g⟩
  have h2 : 2 ≤ ixP 46 s := by have := of_decide_eq_false h; omega
  have hw6 : IntKind.i64.wrap ((s.size : Int) - ixP 46 s) = s.size - ixP 46 s := wrap_id (by omega) (by omega)
  refine bsplit_of (fun (h : decide (IntKind.i64.wrap ((s.size : Int) - ixP 46 s) > 6) = true) => ?_) (fun (h : decide (IntKind.i64.wrap ((s.size : Int) - ixP 46 s) > 6) = false) => ?_)
  · rw [hw6] at h
    obtain ⟨rfl, rfl⟩ := miss fun t h1 h2 => by have := (back t h1 h2).1.2; have := of_decide_eq_true h; omega
    exact ⟨rfl, rfl, gle g⟩
  rw [hw6] at h
  have h6 : (s.size : Int) - ixP 46 s ≤ 6 := by have := of_decide_eq_false h; omega
  have hw1 : IntKind.i64.wrap (ixP 46 s + 1) = ixP 46 s + 1 := wrap_id (by omega) (by omega)
  refine ⟨⟨by rw [hw1]; omega, by rw [hw1]; omega⟩, ?_⟩
  have hts := tailP_size h6 h2 hs
  have htl : (tailP s).data.toList.length = (tailP s).size := by rw [Array.length_toList]; rfl
  clear h h6 hw6 hw1
  refine prim_bytes (e := 5) (by kernel_rfl) (by kernel_rfl) (by kernel_rfl) rfl (fun g2 ad2 cap hg2 hat => ?_)
  obtain ⟨T, hTl⟩ : ∃ T, tailP s = T := ⟨_, rfl⟩
  replace hat : g2.at ad2 (T.data.toList.map fun b => Value.int .u8 b.toNat) := by rw [← hTl]; exact hat
  have hTe : s.extract (IntKind.i64.wrap (ixP 46 s + 1)).toNat s.size = T := hTl
  rw [hTe]
  rw [hTl] at hts htl
  replace back : ∀ t, tagP t → tagT t = s → T.data.toList = Lib.decDigits t.vid.toNat := fun t a b => by rw [← hTl]; exact (back t a b).2
  clear hTe hTl
  change LoopW _ _ _ _ _ _ _
  apply loop_rule [] (α := Nat × Nat) (fun y => [(30, .v (.int .i64 y.1)), (5, .v (.int .i64 y.2))]) (fun _ => [.cells 35 (TagV.zero.cells.map .v)]) (fun _ => g2) (fun y => y.1 ≤ T.size ∧ Lib.decFrom 0 (T.data.toList.take y.1) = some y.2 ∧ y.2 < 10 ^ y.1) (fun y => T.size - y.1) (0, 0)
  · intro x; kernel_rfl
  · exact ⟨Nat.zero_le _, by simp [Lib.decFrom], by show 0 < 10 ^ 0; decide⟩
  · exact ⟨rfl, rfl, trivial⟩
  · rfl
  · rfl
  rintro ⟨k, n⟩ ⟨hk, hv, hn⟩
  dsimp only at hk hv hn
  have hn5 : n < 100000 := Nat.lt_of_lt_of_le hn (Nat.le_trans (Nat.pow_le_pow_right (by decide) (show k ≤ 5 by omega)) (by decide))
  refine bsplit_of (fun hlt => ?_) (fun hlt => ?_)
  · have hlt' : k < T.size := by simpa using hlt
    obtain ⟨b, hb, hat2⟩ := byteG hat hlt'
    have hb2 := b.toNat_lt
    refine ⟨⟨by omega, by omega⟩, ad2, rfl, ?_⟩
    refine ⟨[.int .u8 b.toNat], rfl, hat2, ?_⟩
    have wb : IntKind.i64.wrap (b.toNat : Int) = b.toNat := wrap_id (by omega) (by omega)
    refine (within_c (IntKind.i64.wrap (b.toNat : Int)) 48 57 g2).call rfl rfl rfl ?_
    rw [wb]
    refine bsplit_of (fun (h : (!decide (48 ≤ (b.toNat : Int) ∧ (b.toNat : Int) ≤ 57)) = true) => ?_) (fun (h : (!decide (48 ≤ (b.toNat : Int) ∧ (b.toNat : Int) ≤ 57)) = false) => ?_)
    · obtain ⟨rfl, rfl⟩ := miss fun t h1 h2 => by
        have e := back t h1 h2
        have := dec_digit t.vid.toNat b (by rw [← e]; exact List.mem_of_getElem? hb)
        simp at h; omega
      exact ⟨rfl, rfl, hg2⟩
    · have hd : 48 ≤ b.toNat ∧ b.toNat ≤ 57 := by simp at h; omega
      have hdv : Lib.digitVal b = some (b.toNat - 48) := by rw [Lib.digitVal, if_pos hd]
      refine ⟨(k + 1, n * 10 + (b.toNat - 48)), ⟨hlt', Lib.decFrom_take _ k 0 n b _ hv hb hdv, by show n * 10 + (b.toNat - 48) < 10 ^ (k + 1); rw [Nat.pow_succ]; omega⟩, by show T.size - (k + 1) < T.size - k; omega, [0], rfl, ⟨vi (wrap_id (by omega) (by omega)), vi ?_, trivial⟩, rfl, rfl, rfl, rfl⟩
      show IntKind.i64.wrap (IntKind.i64.wrap (IntKind.i64.wrap ((n : Int) * 10) + IntKind.i64.wrap (b.toNat : Int)) - 48) = ((n * 10 + (b.toNat - 48) : Nat) : Int)
      rw [wb, wrap_id (a := (n : Int) * 10) (by omega) (by omega), wrap_id (a := (n : Int) * 10 + (b.toNat : Int)) (by omega) (by omega), wrap_id (by omega) (by omega)]
      omega
  have hkn : k = T.size := by have := of_decide_eq_false hlt; omega
  rw [List.take_of_length_le (by omega)] at hv
  have hvid : ∀ t, tagP t → tagT t = s → t.vid = n := fun t a b => by
    have e := back t a b
    rw [e, decFrom_dec] at hv
    have := Option.some.inj hv
    have := a.2.2.1
    omega
  clear hv hn hkn hk hlt back hat hts htl hrng h2
  have hT2 : TabVar g2 := fun w him => hT w fun b o hb => him b o (hg2 b o hb)
  change LoopW _ _ _ _ _ _ _
  apply loop_rule [] (α := Nat) (fun a => [(56, .v (.int .i64 a))]) (fun _ => [.cells 35 (TagV.zero.cells.map .v), tag16 n]) (fun _ => g2) (fun a => a ≤ 4 ∧ noneA s n a) (fun a => 4 - a) 0
  · intro x; kernel_rfl
  · exact ⟨by decide, fun t _ _ ⟨i, hi, _⟩ => absurd hi (by omega)⟩
  · exact ⟨rfl, trivial⟩
  · rfl
  · rfl
  rintro a ⟨ha, hA⟩
  rcases (by omega : a = 0 ∨ a = 1 ∨ a = 2 ∨ a = 3 ∨ a = 4) with rfl | rfl | rfl | rfl | rfl
  ·
    refine ⟨⟨by show (0 : Int) ≤ ((0 : Nat) : Int); decide, by show ((0 : Nat) : Int) < ((4 : Nat) : Int); decide⟩, ?_⟩
    change LoopW _ _ _ _ _ _ _
    apply loop_rule [] (α := Nat) (fun _ => []) (fun p => [.cells 35 (TagV.zero.cells.map .v), tag16 n, tag1 true false p n]) (fun _ => g2) (fun p => p ≤ 8 ∧ noneP s n true false p) (fun p => 8 - p) 0
    · intro x; kernel_rfl
    · exact ⟨by decide, fun t h1 _ _ _ h => by have := h1.1; omega⟩
    · trivial
    · rfl
    · rfl
    rintro p ⟨hp, hP⟩
    refine bsplit_of (fun (hlt : decide ((p : Int) < 8) = true) => ?_) (fun (hlt : decide ((p : Int) < 8) = false) => ?_)
    · have hlt' : p < 8 := by have := of_decide_eq_true hlt; omega
      have next : tagT ⟨true, p, false, n⟩ ≠ s ∨ ¬ tagP ⟨true, p, false, n⟩ → noneP s n true false (p + 1) := fun h t h1 h2 h3 h4 h5 => by
        by_cases hpp : t.pcp = p
        · have e : t = ⟨true, p, false, n⟩ := by cases t; simp only [TagV.mk.injEq] at *; exact ⟨h3, hpp, h4, h2⟩
          rcases h with h | h
          · rw [e]; exact h
          · exact absurd (e ▸ h1) h
        · exact hP t h1 h2 h3 h4 (by omega)
      by_cases hok : tagP ⟨true, p, false, n⟩
      · refine (tagTextR_good ⟨true, p, false, n⟩ g2 hok hT2).call rfl rfl rfl ?_
        refine bsplit_of (fun (h : ((tagT ⟨true, p, false, n⟩).toList == s.toList) = true) => ?_) (fun (h : ((tagT ⟨true, p, false, n⟩).toList == s.toList) = false) => ?_)
        · obtain ⟨rfl, rfl⟩ := hit ⟨true, p, false, n⟩ hok (by rw [str_beq] at h; simpa using h)
          exact ⟨rfl, rfl, hg2⟩
        · rw [str_beq, decide_eq_false_iff_not] at h
          exact ⟨p + 1, ⟨hlt', next (.inl h)⟩, by omega, [0, 1, 2], rfl, trivial, congrArg (fun z => [Chunk.cells 35 (TagV.zero.cells.map .v), tag16 n, tag1 true false z n]) (wrap_id (by omega) (by omega)), rfl, rfl, rfl⟩
      · refine (tagTextR_bad ⟨true, p, false, n⟩ g2 hok).call rfl rfl rfl ?_
        exact ⟨p + 1, ⟨hlt', next (.inr hok)⟩, by omega, [0, 1, 2], rfl, trivial, congrArg (fun z => [Chunk.cells 35 (TagV.zero.cells.map .v), tag16 n, tag1 true false z n]) (wrap_id (by omega) (by omega)), rfl, rfl, rfl⟩
    · have h8 : 8 ≤ p := by have := of_decide_eq_false hlt; omega
      refine ⟨0 + 1, ⟨by decide, fun t h1 h2 ⟨i, hi, hc⟩ => ?_⟩, by decide, [0, 1], rfl, ⟨vi (by decide), trivial⟩, rfl, rfl, rfl, rfl⟩
      by_cases hia : i = 0
      · subst hia
        have e : (true, false) = (t.s, t.dei) := hc
        simp only [Prod.mk.injEq] at e
        exact hP t h1 h2 e.1.symm e.2.symm (by have := h1.2.1; omega)
      · exact hA t h1 h2 ⟨i, by omega, hc⟩
  ·
    refine ⟨⟨by show (0 : Int) ≤ ((1 : Nat) : Int); decide, by show ((1 : Nat) : Int) < ((4 : Nat) : Int); decide⟩, ?_⟩
    change LoopW _ _ _ _ _ _ _
    apply loop_rule [] (α := Nat) (fun _ => []) (fun p => [.cells 35 (TagV.zero.cells.map .v), tag16 n, tag1 false false p n]) (fun _ => g2) (fun p => p ≤ 8 ∧ noneP s n false false p) (fun p => 8 - p) 0
    · intro x; kernel_rfl
    · exact ⟨by decide, fun t h1 _ _ _ h => by have := h1.1; omega⟩
    · trivial
    · rfl
    · rfl
    rintro p ⟨hp, hP⟩
    refine bsplit_of (fun (hlt : decide ((p : Int) < 8) = true) => ?_) (fun (hlt : decide ((p : Int) < 8) = false) => ?_)
    · have hlt' : p < 8 := by have := of_decide_eq_true hlt; omega
      have next : tagT ⟨false, p, false, n⟩ ≠ s ∨ ¬ tagP ⟨false, p, false, n⟩ → noneP s n false false (p + 1) := fun h t h1 h2 h3 h4 h5 => by
        by_cases hpp : t.pcp = p
        · have e : t = ⟨false, p, false, n⟩ := by cases t; simp only [TagV.mk.injEq] at *; exact ⟨h3, hpp, h4, h2⟩
          rcases h with h | h
          · rw [e]; exact h
          · exact absurd (e ▸ h1) h
        · exact hP t h1 h2 h3 h4 (by omega)
      by_cases hok : tagP ⟨false, p, false, n⟩
      · refine (tagTextR_good ⟨false, p, false, n⟩ g2 hok hT2).call rfl rfl rfl ?_
        refine bsplit_of (fun (h : ((tagT ⟨false, p, false, n⟩).toList == s.toList) = true) => ?_) (fun (h : ((tagT ⟨false, p, false, n⟩).toList == s.toList) = false) => ?_)
        · obtain ⟨rfl, rfl⟩ := hit ⟨false, p, false, n⟩ hok (by rw [str_beq] at h; simpa using h)
          exact ⟨rfl, rfl, hg2⟩
        · rw [str_beq, decide_eq_false_iff_not] at h
          exact ⟨p + 1, ⟨hlt', next (.inl h)⟩, by omega, [0, 1, 2], rfl, trivial, congrArg (fun z => [Chunk.cells 35 (TagV.zero.cells.map .v), tag16 n, tag1 false false z n]) (wrap_id (by omega) (by omega)), rfl, rfl, rfl⟩
      · refine (tagTextR_bad ⟨false, p, false, n⟩ g2 hok).call rfl rfl rfl ?_
        exact ⟨p + 1, ⟨hlt', next (.inr hok)⟩, by omega, [0, 1, 2], rfl, trivial, congrArg (fun z => [Chunk.cells 35 (TagV.zero.cells.map .v), tag16 n, tag1 false false z n]) (wrap_id (by omega) (by omega)), rfl, rfl, rfl⟩
    · have h8 : 8 ≤ p := by have := of_decide_eq_false hlt; omega
      refine ⟨1 + 1, ⟨by decide, fun t h1 h2 ⟨i, hi, hc⟩ => ?_⟩, by decide, [0, 1], rfl, ⟨vi (by decide), trivial⟩, rfl, rfl, rfl, rfl⟩
      by_cases hia : i = 1
      · subst hia
        have e : (false, false) = (t.s, t.dei) := hc
        simp only [Prod.mk.injEq] at e
        exact hP t h1 h2 e.1.symm e.2.symm (by have := h1.2.1; omega)
      · exact hA t h1 h2 ⟨i, by omega, hc⟩
  ·
    refine ⟨⟨by show (0 : Int) ≤ ((2 : Nat) : Int); decide, by show ((2 : Nat) : Int) < ((4 : Nat) : Int); decide⟩, ?_⟩
    change LoopW _ _ _ _ _ _ _
    apply loop_rule [] (α := Nat) (fun _ => []) (fun p => [.cells 35 (TagV.zero.cells.map .v), tag16 n, tag1 true true p n]) (fun _ => g2) (fun p => p ≤ 8 ∧ noneP s n true true p) (fun p => 8 - p) 0
    · intro x; kernel_rfl
    · exact ⟨by decide, fun t h1 _ _ _ h => by have := h1.1; omega⟩
    · trivial
    · rfl
    · rfl
    rintro p ⟨hp, hP⟩
    refine bsplit_of (fun (hlt : decide ((p : Int) < 8) = true) => ?_) (fun (hlt : decide ((p : Int) < 8) = false) => ?_)
    · have hlt' : p < 8 := by have := of_decide_eq_true hlt; omega
      have next : tagT ⟨true, p, true, n⟩ ≠ s ∨ ¬ tagP ⟨true, p, true, n⟩ → noneP s n true true (p + 1) := fun h t h1 h2 h3 h4 h5 => by
        by_cases hpp : t.pcp = p
        · have e : t = ⟨true, p, true, n⟩ := by cases t; simp only [TagV.mk.injEq] at *; exact ⟨h3, hpp, h4, h2⟩
          rcases h with h | h
          · rw [e]; exact h
          · exact absurd (e ▸ h1) h
        · exact hP t h1 h2 h3 h4 (by omega)
      by_cases hok : tagP ⟨true, p, true, n⟩
      · refine (tagTextR_good ⟨true, p, true, n⟩ g2 hok hT2).call rfl rfl rfl ?_
        refine bsplit_of (fun (h : ((tagT ⟨true, p, true, n⟩).toList == s.toList) = true) => ?_) (fun (h : ((tagT ⟨true, p, true, n⟩).toList == s.toList) = false) => ?_)
        · obtain ⟨rfl, rfl⟩ := hit ⟨true, p, true, n⟩ hok (by rw [str_beq] at h; simpa using h)
          exact ⟨rfl, rfl, hg2⟩
        · rw [str_beq, decide_eq_false_iff_not] at h
          exact ⟨p + 1, ⟨hlt', next (.inl h)⟩, by omega, [0, 1, 2], rfl, trivial, congrArg (fun z => [Chunk.cells 35 (TagV.zero.cells.map .v), tag16 n, tag1 true true z n]) (wrap_id (by omega) (by omega)), rfl, rfl, rfl⟩
      · refine (tagTextR_bad ⟨true, p, true, n⟩ g2 hok).call rfl rfl rfl ?_
        exact ⟨p + 1, ⟨hlt', next (.inr hok)⟩, by omega, [0, 1, 2], rfl, trivial, congrArg (fun z => [Chunk.cells 35 (TagV.zero.cells.map .v), tag16 n, tag1 true true z n]) (wrap_id (by omega) (by omega)), rfl, rfl, rfl⟩
    · have h8 : 8 ≤ p := by have := of_decide_eq_false hlt; omega
      refine ⟨2 + 1, ⟨by decide, fun t h1 h2 ⟨i, hi, hc⟩ => ?_⟩, by decide, [0, 1], rfl, ⟨vi (by decide), trivial⟩, rfl, rfl, rfl, rfl⟩
      by_cases hia : i = 2
      · subst hia
        have e : (true, true) = (t.s, t.dei) := hc
        simp only [Prod.mk.injEq] at e
        exact hP t h1 h2 e.1.symm e.2.symm (by have := h1.2.1; omega)
      · exact hA t h1 h2 ⟨i, by omega, hc⟩
  ·
    refine ⟨⟨by show (0 : Int) ≤ ((3 : Nat) : Int); decide, by show ((3 : Nat) : Int) < ((4 : Nat) : Int); decide⟩, ?_⟩
    change LoopW _ _ _ _ _ _ _
    apply loop_rule [] (α := Nat) (fun _ => []) (fun p => [.cells 35 (TagV.zero.cells.map .v), tag16 n, tag1 false true p n]) (fun _ => g2) (fun p => p ≤ 8 ∧ noneP s n false true p) (fun p => 8 - p) 0
    · intro x; kernel_rfl
    · exact ⟨by decide, fun t h1 _ _ _ h => by have := h1.1; omega⟩
    · trivial
    · rfl
    · rfl
    rintro p ⟨hp, hP⟩
    refine bsplit_of (fun (hlt : decide ((p : Int) < 8) = true) => ?_) (fun (hlt : decide ((p : Int) < 8) = false) => ?_)
    · have hlt' : p < 8 := by have := of_decide_eq_true hlt; omega
      have next : tagT ⟨false, p, true, n⟩ ≠ s ∨ ¬ tagP ⟨false, p, true, n⟩ → noneP s n false true (p + 1) := fun h t h1 h2 h3 h4 h5 => by
        by_cases hpp : t.pcp = p
        · have e : t = ⟨false, p, true, n⟩ := by cases t; simp only [TagV.mk.injEq] at *; exact ⟨h3, hpp, h4, h2⟩
          rcases h with h | h
          · rw [e]; exact h
          · exact absurd (e ▸ h1) h
        · exact hP t h1 h2 h3 h4 (by omega)
      by_cases hok : tagP ⟨false, p, true, n⟩
      · refine (tagTextR_good ⟨false, p, true, n⟩ g2 hok hT2).call rfl rfl rfl ?_
        refine bsplit_of (fun (h : ((tagT ⟨false, p, true, n⟩).toList == s.toList) = true) => ?_) (fun (h : ((tagT ⟨false, p, true, n⟩).toList == s.toList) = false) => ?_)
        · obtain ⟨rfl, rfl⟩ := hit ⟨false, p, true, n⟩ hok (by rw [str_beq] at h; simpa using h)
          exact ⟨rfl, rfl, hg2⟩
        · rw [str_beq, decide_eq_false_iff_not] at h
          exact ⟨p + 1, ⟨hlt', next (.inl h)⟩, by omega, [0, 1, 2], rfl, trivial, congrArg (fun z => [Chunk.cells 35 (TagV.zero.cells.map .v), tag16 n, tag1 false true z n]) (wrap_id (by omega) (by omega)), rfl, rfl, rfl⟩
      · refine (tagTextR_bad ⟨false, p, true, n⟩ g2 hok).call rfl rfl rfl ?_
        exact ⟨p + 1, ⟨hlt', next (.inr hok)⟩, by omega, [0, 1, 2], rfl, trivial, congrArg (fun z => [Chunk.cells 35 (TagV.zero.cells.map .v), tag16 n, tag1 false true z n]) (wrap_id (by omega) (by omega)), rfl, rfl, rfl⟩
    · have h8 : 8 ≤ p := by have := of_decide_eq_false hlt; omega
      refine ⟨3 + 1, ⟨by decide, fun t h1 h2 ⟨i, hi, hc⟩ => ?_⟩, by decide, [0, 1], rfl, ⟨vi (by decide), trivial⟩, rfl, rfl, rfl, rfl⟩
      by_cases hia : i = 3
      · subst hia
        have e : (false, true) = (t.s, t.dei) := hc
        simp only [Prod.mk.injEq] at e
        exact hP t h1 h2 e.1.symm e.2.symm (by have := h1.2.1; omega)
      · exact hA t h1 h2 ⟨i, by omega, hc⟩
  · obtain ⟨rfl, rfl⟩ := miss fun t h1 h2 => hA t h1 (hvid t h1 h2) (comb_all t.s t.dei) h2
    exact ⟨rfl, rfl, hg2⟩

noncomputable def txS (t : TagV) : ByteArray := if tagP t then tagT t else ⟨#[]⟩
noncomputable def txE (t : TagV) : Int := if tagP t then 0 else 1
theorem tagText_c (t : TagV) (g : G) (hT : TabVar g) : Tells Tryd.prog 11 [.agg (t.cells.map .v)] g (.tup [.v (.string (txS t)), .v (nilM (txE t))]) := by
  by_cases h : tagP t
  · rw [txS, txE, if_pos h, if_pos h]; exact tagText_good t g h hT
  · rw [txS, txE, if_neg h, if_neg h]; exact tagText_bad t g h
theorem tagTextR_c (t : TagV) (g : G) (hT : TabVar g) : Tells Tryd.prog 10 [.agg (t.cells.map .v)] g (.tup [.v (.string (txS t)), .v (.int .i64 (txE t))]) := by
  by_cases h : tagP t
  · rw [txS, txE, if_pos h, if_pos h]; exact tagTextR_good t g h hT
  · rw [txS, txE, if_neg h, if_neg h]; exact tagTextR_bad t g h
theorem tagEq_refl (t : TagV) : t.eq t = true := by simp [TagV.eq]
/-- The law TagTexts. -/
theorem tagTexts_c (t : TagV) (s : ByteArray) (g : G) (_ : t.ok g) (_ : sok s) (hT : TabVar g) (hS : SynVar g) (hM : MaxVar g) (hE : ErrVar g) : Meets Tryd.prog 4 [.agg (t.cells.map .v), .v (.string s)] [] g (fun o _ _ => o = .ret (.v (.bool true))) := by
  refine meets_of mixedS Tryd.func4 (by kernel_rfl) x4_ok (some []) ?_
  refine bsplit_of (fun _ => rfl) (fun (h : decide ((s.size : Int) > 100) = false) => ?_)
  have hs : s.size ≤ 1000000 := by have := of_decide_eq_false h; omega
  refine (tagTextR_c t g hT).call rfl rfl rfl ?_
  refine (tagText_c t g hT).call rfl rfl rfl ?_
  refine (tagParseR_c s hs g hT).call0 rfl rfl 1 rfl ?_
  rintro o L1 g2 ⟨rfl, rfl, hg2⟩
  have hT2 : TabVar g2 := fun w him => hT w fun b o hb => him b o (hg2 b o hb)
  have hM2 : MaxVar g2 := hM.imp fun _ h => G.at.mono hg2 h
  have hS2 : SynVar g2 := ⟨hS.1.imp fun _ h => h.imp fun _ h => G.at.mono hg2 h, hS.2.imp fun _ h => h.imp fun _ h => G.at.mono hg2 h⟩
  have hE2 : ErrVar g2 := G.at.mono hg2 hE
  refine (tagParse_c s hs g2 hM2 hS2 hT2).call rfl rfl rfl ?_
  refine (bare_c _ _ _ (txE t) g2 hE2 (errP_nilM _)).call rfl rfl rfl ?_
  refine bsplit_of (fun _ => ?_) (fun h => absurd h (by simp))
  refine bsplit_of (fun _ => ?_) (fun (h : ((txS t).toList == (txS t).toList) = false) => absurd h (by simp))
  refine (bare_c _ _ _ (parT s).2 g2 hE2 (errP_nilM _)).call rfl rfl rfl ?_
  refine bsplit_of (fun _ => ?_) (fun h => absurd h (by simp))
  exact rb (show true = (false ^^ (parT s).1.eq (parT s).1) by rw [tagEq_refl]; rfl)
end Go.Proofs.YtmbbhodikiikeaaDoor
