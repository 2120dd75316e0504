/- The reference of wire.Reader: what it tells of a row of operations. Conditions: that the table of powers of ten is as laid. -/
import Derived.Test.YthajjbcnemdacaaDoorWrB
namespace Go.Proofs.YthajjbcnemdacaaDoor
open Go.Sx
set_option maxRecDepth 100000
set_option maxHeartbeats 8000000
attribute [local irreducible] Meets
theorem num64_nil (l : List UInt8) : num64 (l.take 0) = 0 := rfl
attribute [local irreducible] numS boolS num64

def strC (s : ByteArray) : List Value := [.string s]
def wrXs (l : List ByteArray) : List Value := l.flatMap strC
def tkS (s : ByteArray) (off : Int) (r : RdV) : List Chunk := [faC r, .cells 58 [noteV 0], .cells 3 [.v (.int .i64 off)], .cells 3 [.v (.int .i64 r.at_)], .cells 9 [.v (.string s)]]
theorem tkS_eq {s : ByteArray} {off : Int} {r : RdV} (h : RdOk s off r) : tkS s off r = tkL r := by rw [← h.1, ← h.2.1]; rfl
/-- What the reference holds, and an operation. -/
def wrL (s : ByteArray) (off : Int) (r : RdV) (c : Chunk) (x : ReadV) : List Chunk := [.cells 9 [.v (.string s)], .cells 3 [.v (.int .i64 off)], faC r, .cells 3 [.v (.int .i64 r.at_)], .cells 58 [noteV 2], c, .cells 49 (x.cells.map .v)]
def wrL0 (s : ByteArray) (off : Int) (r : RdV) (c : Chunk) : List Chunk := [.cells 9 [.v (.string s)], .cells 3 [.v (.int .i64 off)], faC r, .cells 3 [.v (.int .i64 r.at_)], .cells 58 [noteV 2], c]
def RdI (s : ByteArray) (off : Int) (r : RdV) : Prop := RdOk s off r ∧ s.size ≤ 100 ∧ 0 ≤ off ∧ off ≤ 1099511627776
theorem RdI.rd {s : ByteArray} {off : Int} {r : RdV} (h : RdI s off r) : r.ok := h.1.rd h.2.1 h.2.2.1 h.2.2.2
theorem takeS_c {s : ByteArray} {off : Int} {r : RdV} (h : RdI s off r) (n : Int) (b : Bool) {T : ByteArray} {R : RdV} (hT : tkR r b n = (T, R)) (g : G) : Meets Tryd.prog 52 [.v (.int .i64 n), .v (.bool b), .ptr 0 0, .ptr 1 0, .ptr 2 0, .ptr 3 0, .ptr 4 0] (tkS s off r) g (fun o L' g' => o = .ret (.v (.string T)) ∧ L' = tkS s off R ∧ g' = g) := by
  have h2 := tk_ok h.1 b n
  have := take_c r h.rd h.1.2.2.2 n b g
  rw [hT] at this h2
  rw [tkS_eq h.1, tkS_eq h2]
  exact this
theorem tk_len {s : ByteArray} {off : Int} {r : RdV} (h : RdOk s off r) (b : Bool) (n : Int) : (tkR r b n).1.size ≤ s.size := by
  unfold tkR
  split
  · exact Nat.zero_le _
  · exact bytes_len h n
theorem getD_some {s : ByteArray} {i : Nat} (h : i < s.size) : s.data.toList[i]? = some (s.data.toList.getD i 0) := by
  have hl : s.data.toList.length = s.size := by rw [Array.length_toList]; rfl
  obtain ⟨b, hb⟩ : ∃ b, s.data.toList[i]? = some b := lt_some (by omega)
  rw [hb, getD_of hb]
theorem byte_getD {g : G} {ad : Addr} {s : ByteArray} (h : g.at ad (s.data.toList.map fun b => Value.int .u8 b.toNat)) {k : Nat} (hk : k < s.size) : g.at (ad.add (k * 1)) [.int .u8 (s.data.toList.getD k 0).toNat] := by
  obtain ⟨b, hb, hat⟩ := byte_at h hk
  rw [getD_of hb]
  exact hat
theorem fail_at (r : RdV) (n pl : Int) : (r.fail n pl).at_ = r.at_ := by unfold RdV.fail; split <;> rfl
/-- An operation of the reference's. -/
def StepOk (s : ByteArray) (off : Int) (r : RdV) (x : ReadV) (T : ByteArray) (R : RdV) : Prop := wrStep r x = (T, R)

theorem reads_b (s : ByteArray) (off : Int) (l : SliceV ReadV) (g : G) (hl : l.ok 2 ReadV.cells (ReadV.ok g) g) (hT : TabVar g) (hs : s.size ≤ 100) (h0 : 0 ≤ off) (h1 : off ≤ 1099511627776) (hN : l.l.length ≤ 1000) : Meets Tryd.prog 24 [.v (.string s), .v (.int .i64 off), .v (.slice l.a l.l.length l.c)] [] g (fun o L' g' =>
    (∃ (m : List ByteArray) (cap : Nat) (sp : List Value), o = .ret (.tup [grS 0 m.length cap, .agg [.v (.int .i64 (fa (wrEnd l.l ⟨s, 0, off, none⟩)).1), .v (.int .i64 (fa (wrEnd l.l ⟨s, 0, off, none⟩)).2)]]) ∧ L' = grL 9 m.length (m.flatMap strC) sp ∧ grOk 1 m.length cap (m.flatMap strC) sp ∧ m = wrOut l.l ⟨s, 0, off, none⟩ ∧ G.le g g') ∨ False) := by
  have hlen := hl.len
  obtain ⟨r0, hr0⟩ : ∃ r0, RdV.mk s 0 off none = r0 := ⟨_, rfl⟩
  have hI0 : RdI s off r0 := by subst hr0; exact ⟨⟨rfl, rfl, Nat.zero_le _, nofun⟩, hs, h0, h1⟩
  rw [hr0]
  refine meets_ofJ mixedW Tryd.func24 (by kernel_rfl) x24_ok none ?_
  refine (good_c g).call rfl rfl rfl ?_
  change LoopW _ _ _ _ _ _ _
  refine loop_gone ?_
  obtain ⟨g0, hg0⟩ : ∃ g0, g = g0 := ⟨_, rfl⟩
  apply loop_rule [5] (α := Nat × Nat × List ByteArray × Nat × List Value × G) (fun y => [(6, grS 5 y.2.1 y.2.2.2.1), (24, .v (.int .i64 y.1))]) (fun y => wrL0 s off (wrEnd (l.l.take y.1) r0) (grC 9 y.2.1 (wrXs y.2.2.1) y.2.2.2.2.1)) (fun y => y.2.2.2.2.2) (fun y => y.1 ≤ l.l.length ∧ (y.2.2.1.length = y.2.1 ∧ grOk 1 y.2.1 y.2.2.2.1 (wrXs y.2.2.1) y.2.2.2.2.1) ∧ y.2.2.1 = wrOut (l.l.take y.1) r0 ∧ G.le g y.2.2.2.2.2) (fun y => l.l.length - y.1) (0, 0, [], 0, [], g)
  · intro x
    obtain ⟨k, n, l, cap, sp, g⟩ := x
    cases n <;> kernel_rfl
  · exact ⟨Nat.zero_le _, ⟨rfl, grOk.zero 1⟩, rfl, le_refl g⟩
  · exact ⟨rfl, rfl, trivial⟩
  · subst hr0; rfl
  · rfl
  intro y hy
  obtain ⟨k, n, m, cap, sp, g⟩ := y
  obtain ⟨hk, ⟨hm, ho⟩, hmr, hle⟩ := hy
  dsimp only at hk hm ho hmr hle
  obtain ⟨r, hr⟩ : ∃ r, wrEnd (l.l.take k) r0 = r := ⟨_, rfl⟩
  have hI : RdI s off r := ⟨by rw [← hr]; exact end_ok _ hI0.1, hI0.2⟩
  have hT := hT.mono hle
  have hl := hl.mono hle (Q' := ReadV.ok g) (fun x h => h)
  rcases n with _ | n
  · obtain rfl : m = [] := List.eq_nil_of_length_eq_zero hm
    refine bsplit_of (fun hlt => ?_) (fun hlt => ?_)
    ·
      have hlt' : k < l.l.length := by have := of_decide_eq_true hlt; omega
      obtain ⟨ad, x, ha, hx, hat, hxok⟩ := hl.elem (fun _ => rfl) hlt'
      refine ⟨⟨by omega, by omega⟩, ad, ha, ?_⟩
      refine ⟨x.cells, rfl, hat, ?_⟩
      change vC _ _ _ _ (wrL0 s off (wrEnd (l.l.take k) r0) _ ++ _) _ _
      rw [hr]
      obtain ⟨⟨T, R⟩, hTR⟩ : ∃ y, wrStep r x = y := ⟨_, rfl⟩
      have hR : RdI s off R := ⟨by have := step_ok hI.1 x; rw [hTR] at this; exact this, hI.2⟩
      have hTs : T.size ≤ 300 := by have := step_size hI.1 hI.2.1 hI.2.2.1 hI.2.2.2 x; rw [hTR] at this; exact this
      change JoinW _ _ _ _ _ _ _
      refine join_rule [] (α := G) (fun _ => [(13, .v (.string T))]) (fun _ => wrL s off R (Chunk.gone) x) (fun y => y) (fun y => G.le g y) (fun y => by kernel_rfl) ?_ ?_
      · refine bsplit_of (fun h0 => ?_) (fun h0 => ?_)
        · have e : tkR r false x.n = (T, R) := by rw [← hTR, wrStep, if_pos (by simpa using h0)]; exact tkR_any (by simp)
          refine (takeS_c hI x.n false e g).callS [2, 4, 1, 3, 0] 7 rfl rfl rfl rfl ?_
          rintro o L1 g' ⟨rfl, rfl, rfl⟩ _
          exact ⟨_, le_refl _, [0, 1, 2, 3, 4, 5, 6], rfl, ⟨rfl, trivial⟩, rfl, rfl, rfl, rfl⟩
        have h0 : ¬ x.what = 0 := by simpa using h0
        refine bsplit_of (fun h1 => ?_) (fun h1 => ?_)
        · have h1' : x.what = 1 := by simpa using h1
          obtain ⟨⟨t, R'⟩, hq⟩ : ∃ y, tkR r true x.n = y := ⟨_, rfl⟩
          have e : (numS (num64 t.data.toList), R') = (T, R) := by rw [← hTR, wrStep, if_neg h0, if_pos h1', hq]
          cases e
          have hl' : t.data.toList.length = t.size := by rw [Array.length_toList]; rfl
          have ht : t.size ≤ 100 := by have := tk_len hI.1 true x.n; rw [hq] at this; exact Nat.le_trans this hI.2.1
          refine (takeS_c hI x.n true hq g).callS [2, 4, 1, 3, 0] 7 rfl rfl rfl rfl ?_
          rintro o L1 g' ⟨rfl, rfl, rfl⟩ _
          refine prim_bytes (e := 5) (by kernel_rfl) (by kernel_rfl) (by kernel_rfl) rfl (fun g2 ad2 cap2 hg2 hat2 => ?_)
          have hb1 : ∀ j, j < t.size → t.data.toList[j]? = some (t.data.toList.getD j 0) := fun j hj => getD_some hj
          have hb2 : ∀ j, j < t.size → g2.at (ad2.add (j * 1)) [.int .u8 (t.data.toList.getD j 0).toNat] := fun j hj => byte_getD hat2 hj
          change LoopW _ _ _ _ _ _ _
          apply loop_rule [] (α := Nat) (fun k => [(44, .v (.int .i64 k)), (14, .v (.int .i64 (num64 (t.data.toList.take k))))]) (fun _ => wrL s off R (Chunk.gone) x) (fun _ => g2) (fun k => k ≤ t.size) (fun k => t.size - k) 0
          · intro x; kernel_rfl
          · exact Nat.zero_le _
          · exact ⟨rfl, vi (num64_nil _).symm, trivial⟩
          · rfl
          · rfl
          intro j hj
          refine bsplit_of (fun (hlt : decide (((j : Nat) : Int) < (t.size : Int)) = true) => ?_) (fun (hlt : decide (((j : Nat) : Int) < (t.size : Int)) = false) => ?_)
          · have hlt' : j < t.size := by have := of_decide_eq_true hlt; omega
            refine ⟨⟨by omega, by show ((j : Nat) : Int) < (t.size : Int); omega⟩, ad2, rfl, ?_⟩
            refine ⟨[.int .u8 (t.data.toList.getD j 0).toNat], rfl, hb2 j hlt', ?_⟩
            refine ⟨by decide, ?_⟩
            exact ⟨j + 1, hlt', by omega, [0, 1, 2, 3, 4, 5, 6], rfl, ⟨vi (wrap_id (by omega) (by omega)), vi (num64_take (hb1 j hlt')).symm, trivial⟩, rfl, rfl, rfl, rfl⟩
          · have ej : t.data.toList.take j = t.data.toList := List.take_of_length_le (by have := of_decide_eq_false hlt; omega)
            have hi : Tells Tryd.prog 26 [.v (.int .i64 (num64 (t.data.toList.take j)))] g2 (.v (.string (numS (num64 t.data.toList)))) := by
              rw [ej]
              exact itoa_c _ (num64_rng _).1 (num64_rng _).2 g2 (hT.mono hg2)
            refine hi.call rfl rfl rfl ?_
            exact ⟨g2, hg2, [0, 1, 2, 3, 4, 5, 6], rfl, ⟨rfl, trivial⟩, rfl, rfl, rfl, rfl⟩
        have h1 : ¬ x.what = 1 := by simpa using h1
        refine bsplit_of (fun h2 => ?_) (fun h2 => ?_)
        · have h2' : x.what = 2 := by simpa using h2
          have e : (boolS r.zeros.err.isNone, r.zeros) = (T, R) := by rw [← hTR, wrStep, if_neg h0, if_neg h1, if_pos h2']
          cases hq : r.err with
          | some p =>
            have hi : Tells Tryd.prog 51 [.agg [.v (.int .i64 (fa r).1), .v (.int .i64 (fa r).2)]] g (.v (.bool false)) := by
              have := isR_c r hI.1.2.2.2 g
              rw [hq] at this
              exact this
            rw [RdV.zeros_err hq, hq] at e
            cases e
            change LoopW _ _ _ _ _ _ _
            apply loop_rule [] (α := Unit) (fun _ => []) (fun _ => wrL s off r (Chunk.gone) x) (fun _ => g) (fun _ => True) (fun _ => 0) ()
            · intro x; kernel_rfl
            · trivial
            · exact trivial
            · rfl
            · rfl
            intro _ _
            refine hi.call rfl rfl rfl ?_
            refine hi.call rfl rfl rfl ?_
            refine (boolS_c false g).call rfl rfl rfl ?_
            exact ⟨g, le_refl g, [0, 1, 2, 3, 4, 5, 6], rfl, ⟨rfl, trivial⟩, rfl, rfl, rfl, rfl⟩
          | none =>
            obtain ⟨rs, a, ro, re⟩ := r
            have hq : re = none := hq
            have es : s = rs := hI.1.1.symm
            have eo : off = ro := hI.1.2.1.symm
            subst hq es eo
            have ha : a ≤ s.size := hI.1.2.2.1
            have hs1 := hI.2.1
            have hdrop : ∀ j, ((RdV.mk s a off none).rest)[j]? = s.data.toList[a + j]? := fun j => by simp [RdV.rest]
            have hl' : s.data.toList.length = s.size := by rw [Array.length_toList]; rfl
            have hb1 : ∀ i, i < s.size → s.data.toList[i]? = some (s.data.toList.getD i 0) := fun i hi => getD_some hi
            change LoopW _ _ _ _ _ _ _
            apply loop_rule [] (α := Nat) (fun _ => []) (fun j => wrL s off ⟨s, a + j, off, none⟩ (Chunk.gone) x) (fun _ => g) (fun j => a + j ≤ s.size ∧ ∀ i, i < j → s.data.toList[a + i]? = some 0) (fun j => s.size - (a + j)) 0
            · intro x; kernel_rfl
            · exact ⟨ha, fun i hi => by omega⟩
            · exact trivial
            · rfl
            · rfl
            intro j hj
            refine (is_c 0 (-1) g).call rfl rfl rfl ?_
            refine bsplit_of (fun (hlt : decide (((a + j : Nat) : Int) < (s.size : Int)) = true) => ?_) (fun (hlt : decide (((a + j : Nat) : Int) < (s.size : Int)) = false) => ?_)
            · have hlt' : a + j < s.size := by have := of_decide_eq_true hlt; omega
              have hb := hb1 _ hlt'
              have hbD : s.data.toList.getD (Int.toNat ((a + j : Nat) : Int)) 0 = s.data.toList.getD (a + j) 0 := by rw [Int.toNat_natCast]
              refine ⟨⟨Int.natCast_nonneg _, by show ((a + j : Nat) : Int) < (s.size : Int); omega⟩, ?_⟩
              refine bsplit_of (fun hne => ?_) (fun hne => ?_)
              · have hne' : s.data.toList.getD (a + j) 0 ≠ 0 := by
                  rw [hbD] at hne
                  intro e
                  rw [e] at hne
                  simp at hne
                have w : IntKind.i64.wrap (off + ((a + j : Nat) : Int)) = off + ((a + j : Nat) : Int) := wrap_id (by have := hI.2.2; omega) (by have := hI.2.2; omega)
                have hz : zat (RdV.rest ⟨s, a, off, none⟩) = j := zat_eq _ j (fun i hi => by rw [hdrop]; exact hj.2 i hi) (.inr ⟨_, by rw [hdrop]; exact hb, hne'⟩)
                have ez : RdV.zeros ⟨s, a, off, none⟩ = ⟨s, a + j, off, some (15, IntKind.i64.wrap (off + ((a + j : Nat) : Int)))⟩ := by
                  rw [w]
                  simp only [RdV.zeros, hz]
                  rw [if_neg (by omega)]
                rw [ez] at e
                have eT := (Prod.mk.inj e).1
                have eR := (Prod.mk.inj e).2
                refine (noteN_c ⟨s, a + j, off, none⟩ nofun rfl 15 _ g).callS [2] 7 rfl rfl rfl rfl ?_
                rintro o L1 g' ⟨rfl, rfl, rfl⟩ _
                refine (is_c 15 _ _).call rfl rfl rfl ?_
                refine (boolS_c false _).call rfl rfl rfl ?_
                refine ⟨_, le_refl _, [0, 1, 2, 3, 4, 5, 6], rfl, ⟨congrArg (fun z => SV.v (.string z)) eT, trivial⟩, ?_, rfl, rfl, rfl⟩
                exact congrArg (fun z => wrL s off z (Chunk.gone) x) eR
              · have hb0 : s.data.toList.getD (a + j) 0 = 0 := by
                  rw [hbD] at hne
                  simp at hne
                  exact UInt8.toNat_inj.1 (by simpa using hne)
                refine ⟨j + 1, ⟨by omega, fun i hi => ?_⟩, by omega, [0, 1, 2, 3, 4, 5, 6], rfl, trivial, ?_, rfl, rfl, rfl⟩
                · by_cases hjk : i = j
                  · subst hjk; rw [hb, hb0]
                  · exact hj.2 i (by omega)
                · exact congrArg (fun z : Int => [Chunk.cells 9 [.v (.string s)], .cells 3 [.v (.int .i64 off)], faC ⟨s, a + j, off, none⟩, .cells 3 [.v (.int .i64 z)], .cells 58 [noteV 2], Chunk.gone, .cells 49 (x.cells.map .v)]) (by show IntKind.i64.wrap (((a + j : Nat) : Int) + 1) = ((a + (j + 1) : Nat) : Int); rw [wrap_id (by omega) (by omega)]; omega)
            · have hend : a + j = s.size := by have := of_decide_eq_false hlt; have := hj.1; omega
              have hz : zat (RdV.rest ⟨s, a, off, none⟩) = j := zat_eq _ j (fun i hi => by rw [hdrop]; exact hj.2 i hi) (.inl (by simp only [RdV.rest, List.length_drop]; omega))
              have ez : RdV.zeros ⟨s, a, off, none⟩ = ⟨s, a + j, off, none⟩ := by
                simp only [RdV.zeros, hz]
                rw [if_pos hend, hend]
              rw [ez] at e
              have eT := (Prod.mk.inj e).1
              have eR := (Prod.mk.inj e).2
              refine (is_c 0 (-1) g).call rfl rfl rfl ?_
              refine (boolS_c true g).call rfl rfl rfl ?_
              refine ⟨g, le_refl g, [0, 1, 2, 3, 4, 5, 6], rfl, ⟨congrArg (fun z => SV.v (.string z)) eT, trivial⟩, ?_, rfl, rfl, rfl⟩
              exact congrArg (fun z => wrL s off z (Chunk.gone) x) eR
        have h2 : ¬ x.what = 2 := by simpa using h2
        refine bsplit_of (fun h3 => ?_) (fun h3 => ?_)
        · have h3' : x.what = 3 := by simpa using h3
          obtain ⟨⟨t, R'⟩, hq⟩ : ∃ y, r.bytes x.n = y := ⟨_, rfl⟩
          have e : (numS r.place ++ spS ++ numS t.size ++ spS ++ t ++ spS ++ numS (fa R').1, R') = (T, R) := by rw [← hTR, wrStep, if_neg h0, if_neg h1, if_neg h2, if_pos h3', hq]
          cases e
          have hts : t.size ≤ 100 := by have := bytes_len hI.1 x.n; rw [hq] at this; exact Nat.le_trans this hI.2.1
          have hp := hI.1.place hI.2.1 hI.2.2.1 hI.2.2.2
          have hf := hR.1.fa
          haveI : Sz t 100 := ⟨hts⟩
          haveI : Sz (numS r.place) 21 := ⟨numS_size (by omega) (by omega)⟩
          haveI : Sz (numS (t.size : Int)) 21 := ⟨numS_size (by omega) (by omega)⟩
          haveI : Sz (numS (fa R).1) 21 := ⟨numS_size (by omega) (by omega)⟩
          have wp : IntKind.i64.wrap (off + r.at_) = r.place := by
            have e : r.place = off + r.at_ := by rw [← hI.1.2.1]; rfl
            rw [e] at hp ⊢
            exact wrap_id (by omega) (by omega)
          have hi : Tells Tryd.prog 26 [.v (.int .i64 (IntKind.i64.wrap (off + r.at_)))] g (.v (.string (numS r.place))) := by rw [wp]; exact itoa_c _ (by omega) (by omega) g hT
          have e2 : tkR r false x.n = (t, R) := (tkR_any (by simp)).trans hq
          refine (takeS_c hI x.n false e2 g).callS [2, 4, 1, 3, 0] 7 rfl rfl rfl rfl ?_
          rintro o L1 g' ⟨rfl, rfl, rfl⟩ _
          refine hi.call rfl rfl rfl ?_
          refine ⟨szOk rfl, ?_⟩
          refine (itoa_c (t.size : Int) (by omega) (by omega) _ hT).call rfl rfl rfl ?_
          refine ⟨szOk rfl, ?_⟩
          refine ⟨szOk rfl, ?_⟩
          refine ⟨szOk rfl, ?_⟩
          refine ⟨szOk rfl, ?_⟩
          refine (itoa_c (fa R).1 (by omega) (by omega) _ hT).call rfl rfl rfl ?_
          refine ⟨szOk rfl, ?_⟩
          exact ⟨_, le_refl _, [0, 1, 2, 3, 4, 5, 6], rfl, ⟨rfl, trivial⟩, rfl, rfl, rfl, rfl⟩
        have h3 : ¬ x.what = 3 := by simpa using h3
        refine bsplit_of (fun h4 => ?_) (fun h4 => ?_)
        · have e : (emp, r.fail 6 x.n) = (T, R) := by rw [← hTR, wrStep, if_neg h0, if_neg h1, if_neg h2, if_neg h3, if_pos (by simpa using h4)]
          cases e
          refine (note_c r hI.1.2.2.2 6 x.n g).callS [2] 7 rfl rfl rfl rfl ?_
          rintro o L1 g' ⟨rfl, rfl, rfl⟩ _
          refine ⟨_, le_refl _, [0, 1, 2, 3, 4, 5, 6], rfl, ⟨rfl, trivial⟩, ?_, rfl, rfl, rfl⟩
          exact congrArg (fun a : Nat => [Chunk.cells 9 [.v (.string s)], .cells 3 [.v (.int .i64 off)], faC (r.fail 6 x.n), .cells 3 [.v (.int .i64 a)], .cells 58 [noteV 2], Chunk.gone, .cells 49 (x.cells.map .v)]) (fail_at r 6 x.n).symm
        have e : (emp, r) = (T, R) := by rw [← hTR, wrStep, if_neg h0, if_neg h1, if_neg h2, if_neg h3, if_neg (by simpa using h4)]
        cases e
        exact ⟨_, le_refl _, [0, 1, 2, 3, 4, 5, 6], rfl, ⟨rfl, trivial⟩, rfl, rfl, rfl, rfl⟩
      intro g2 hle2
      have hT2 := hT.mono hle2
      have hp := hR.1.place hR.2.1 hR.2.2.1 hR.2.2.2
      have hat1 := hR.1.2.2.1
      have hRs : R.s.size ≤ 100 := by rw [hR.1.1]; exact hR.2.1
      haveI : Sz T 300 := ⟨hTs⟩
      have w1 : IntKind.i64.wrap ((s.size : Int) - R.at_) = (R.s.size : Int) - R.at_ := by rw [← hR.1.1]; exact wrap_id (by omega) (by omega)
      have w2 : IntKind.i64.wrap (off + R.at_) = R.place := by
        have e : R.place = off + R.at_ := by rw [← hR.1.2.1]; rfl
        rw [e] at hp ⊢
        exact wrap_id (by omega) (by omega)
      haveI : Sz (numS ((R.s.size : Int) - R.at_)) 21 := ⟨numS_size (by omega) (by omega)⟩
      haveI : Sz (numS R.place) 21 := ⟨numS_size (by omega) (by omega)⟩
      have hi1 : Tells Tryd.prog 26 [.v (.int .i64 (IntKind.i64.wrap ((s.size : Int) - R.at_)))] g2 (.v (.string (numS ((R.s.size : Int) - R.at_)))) := by rw [w1]; exact itoa_c _ (by omega) (by omega) g2 hT2
      have hi2 : Tells Tryd.prog 26 [.v (.int .i64 (IntKind.i64.wrap (off + R.at_)))] g2 (.v (.string (numS R.place))) := by rw [w2]; exact itoa_c _ (by omega) (by omega) g2 hT2
      have hend : wrEnd (l.l.take (k + 1)) r0 = R := by rw [wrEnd_take hx, hr, hTR]
      have hout : wrOut (l.l.take (k + 1)) r0 = wrOut (l.l.take k) r0 ++ [wrText (T, R)] := by rw [wrOut_take hx, hr, hTR]
      refine ⟨szOk rfl, ?_⟩
      refine hi1.call rfl rfl rfl ?_
      refine ⟨szOk rfl, ?_⟩
      refine ⟨szOk rfl, ?_⟩
      refine hi2.call rfl rfl rfl ?_
      refine ⟨szOk rfl, ?_⟩
      refine ⟨by show 0 + 1 * 1 ≤ 1; decide, fun u hu => by simp at hu; subst hu; rfl, ?_⟩
      refine ⟨by decide, fun cap2 sp2 k1 k2 k3 => ?_⟩
      refine ⟨(k + 1, 1, [wrText (T, R)], cap2, sp2, g2), ⟨hlt', ⟨rfl, gr_first rfl k1 k2 k3⟩, by rw [hout, ← hmr]; rfl, le_trans hle hle2⟩, by show l.l.length - (k + 1) < l.l.length - k; omega, [0, 1, 2, 3, 4, 8], rfl, ⟨rfl, vi (wrap_id (by omega) (by omega)), trivial⟩, ?_, rfl, rfl, rfl⟩
      exact congrArg (fun r => wrL0 s off r (.vals 9 (strC (wrText (T, R)) ++ sp2))) hend.symm
    · obtain rfl : k = l.l.length := by have := of_decide_eq_false hlt; omega
      rw [List.take_length] at hmr
      have hE : wrEnd (l.l.take l.l.length) r0 = wrEnd l.l r0 := by rw [List.take_length]
      exact ⟨[], .inl ⟨[], 0, [], congrArg (fun r : RdV => Out.ret (.tup [grS 0 0 0, .agg [.v (.int .i64 (fa r).1), .v (.int .i64 (fa r).2)]])) hE, rfl, grOk.zero 1, hmr, hle⟩⟩
  · have hg := gr_bounds ho
    have hll := wrOut_len (l.l.take k) r0
    rw [← hmr, hm, List.length_take] at hll
    refine bsplit_of (fun hlt => ?_) (fun hlt => ?_)
    ·
      have hlt' : k < l.l.length := by have := of_decide_eq_true hlt; omega
      obtain ⟨ad, x, ha, hx, hat, hxok⟩ := hl.elem (fun _ => rfl) hlt'
      refine ⟨⟨by omega, by omega⟩, ad, ha, ?_⟩
      refine ⟨x.cells, rfl, hat, ?_⟩
      change vC _ _ _ _ (wrL0 s off (wrEnd (l.l.take k) r0) _ ++ _) _ _
      rw [hr]
      obtain ⟨⟨T, R⟩, hTR⟩ : ∃ y, wrStep r x = y := ⟨_, rfl⟩
      have hR : RdI s off R := ⟨by have := step_ok hI.1 x; rw [hTR] at this; exact this, hI.2⟩
      have hTs : T.size ≤ 300 := by have := step_size hI.1 hI.2.1 hI.2.2.1 hI.2.2.2 x; rw [hTR] at this; exact this
      change JoinW _ _ _ _ _ _ _
      refine join_rule [] (α := G) (fun _ => [(13, .v (.string T))]) (fun _ => wrL s off R (Chunk.vals 9 (wrXs m ++ sp)) x) (fun y => y) (fun y => G.le g y) (fun y => by kernel_rfl) ?_ ?_
      · refine bsplit_of (fun h0 => ?_) (fun h0 => ?_)
        · have e : tkR r false x.n = (T, R) := by rw [← hTR, wrStep, if_pos (by simpa using h0)]; exact tkR_any (by simp)
          refine (takeS_c hI x.n false e g).callS [2, 4, 1, 3, 0] 7 rfl rfl rfl rfl ?_
          rintro o L1 g' ⟨rfl, rfl, rfl⟩ _
          exact ⟨_, le_refl _, [0, 1, 2, 3, 4, 5, 6], rfl, ⟨rfl, trivial⟩, rfl, rfl, rfl, rfl⟩
        have h0 : ¬ x.what = 0 := by simpa using h0
        refine bsplit_of (fun h1 => ?_) (fun h1 => ?_)
        · have h1' : x.what = 1 := by simpa using h1
          obtain ⟨⟨t, R'⟩, hq⟩ : ∃ y, tkR r true x.n = y := ⟨_, rfl⟩
          have e : (numS (num64 t.data.toList), R') = (T, R) := by rw [← hTR, wrStep, if_neg h0, if_pos h1', hq]
          cases e
          have hl' : t.data.toList.length = t.size := by rw [Array.length_toList]; rfl
          have ht : t.size ≤ 100 := by have := tk_len hI.1 true x.n; rw [hq] at this; exact Nat.le_trans this hI.2.1
          refine (takeS_c hI x.n true hq g).callS [2, 4, 1, 3, 0] 7 rfl rfl rfl rfl ?_
          rintro o L1 g' ⟨rfl, rfl, rfl⟩ _
          refine prim_bytes (e := 5) (by kernel_rfl) (by kernel_rfl) (by kernel_rfl) rfl (fun g2 ad2 cap2 hg2 hat2 => ?_)
          have hb1 : ∀ j, j < t.size → t.data.toList[j]? = some (t.data.toList.getD j 0) := fun j hj => getD_some hj
          have hb2 : ∀ j, j < t.size → g2.at (ad2.add (j * 1)) [.int .u8 (t.data.toList.getD j 0).toNat] := fun j hj => byte_getD hat2 hj
          change LoopW _ _ _ _ _ _ _
          apply loop_rule [] (α := Nat) (fun k => [(44, .v (.int .i64 k)), (14, .v (.int .i64 (num64 (t.data.toList.take k))))]) (fun _ => wrL s off R (Chunk.vals 9 (wrXs m ++ sp)) x) (fun _ => g2) (fun k => k ≤ t.size) (fun k => t.size - k) 0
          · intro x; kernel_rfl
          · exact Nat.zero_le _
          · exact ⟨rfl, vi (num64_nil _).symm, trivial⟩
          · rfl
          · rfl
          intro j hj
          refine bsplit_of (fun (hlt : decide (((j : Nat) : Int) < (t.size : Int)) = true) => ?_) (fun (hlt : decide (((j : Nat) : Int) < (t.size : Int)) = false) => ?_)
          · have hlt' : j < t.size := by have := of_decide_eq_true hlt; omega
            refine ⟨⟨by omega, by show ((j : Nat) : Int) < (t.size : Int); omega⟩, ad2, rfl, ?_⟩
            refine ⟨[.int .u8 (t.data.toList.getD j 0).toNat], rfl, hb2 j hlt', ?_⟩
            refine ⟨by decide, ?_⟩
            exact ⟨j + 1, hlt', by omega, [0, 1, 2, 3, 4, 5, 6], rfl, ⟨vi (wrap_id (by omega) (by omega)), vi (num64_take (hb1 j hlt')).symm, trivial⟩, rfl, rfl, rfl, rfl⟩
          · have ej : t.data.toList.take j = t.data.toList := List.take_of_length_le (by have := of_decide_eq_false hlt; omega)
            have hi : Tells Tryd.prog 26 [.v (.int .i64 (num64 (t.data.toList.take j)))] g2 (.v (.string (numS (num64 t.data.toList)))) := by
              rw [ej]
              exact itoa_c _ (num64_rng _).1 (num64_rng _).2 g2 (hT.mono hg2)
            refine hi.call rfl rfl rfl ?_
            exact ⟨g2, hg2, [0, 1, 2, 3, 4, 5, 6], rfl, ⟨rfl, trivial⟩, rfl, rfl, rfl, rfl⟩
        have h1 : ¬ x.what = 1 := by simpa using h1
        refine bsplit_of (fun h2 => ?_) (fun h2 => ?_)
        · have h2' : x.what = 2 := by simpa using h2
          have e : (boolS r.zeros.err.isNone, r.zeros) = (T, R) := by rw [← hTR, wrStep, if_neg h0, if_neg h1, if_pos h2']
          cases hq : r.err with
          | some p =>
            have hi : Tells Tryd.prog 51 [.agg [.v (.int .i64 (fa r).1), .v (.int .i64 (fa r).2)]] g (.v (.bool false)) := by
              have := isR_c r hI.1.2.2.2 g
              rw [hq] at this
              exact this
            rw [RdV.zeros_err hq, hq] at e
            cases e
            change LoopW _ _ _ _ _ _ _
            apply loop_rule [] (α := Unit) (fun _ => []) (fun _ => wrL s off r (Chunk.vals 9 (wrXs m ++ sp)) x) (fun _ => g) (fun _ => True) (fun _ => 0) ()
            · intro x; kernel_rfl
            · trivial
            · exact trivial
            · rfl
            · rfl
            intro _ _
            refine hi.call rfl rfl rfl ?_
            refine hi.call rfl rfl rfl ?_
            refine (boolS_c false g).call rfl rfl rfl ?_
            exact ⟨g, le_refl g, [0, 1, 2, 3, 4, 5, 6], rfl, ⟨rfl, trivial⟩, rfl, rfl, rfl, rfl⟩
          | none =>
            obtain ⟨rs, a, ro, re⟩ := r
            have hq : re = none := hq
            have es : s = rs := hI.1.1.symm
            have eo : off = ro := hI.1.2.1.symm
            subst hq es eo
            have ha : a ≤ s.size := hI.1.2.2.1
            have hs1 := hI.2.1
            have hdrop : ∀ j, ((RdV.mk s a off none).rest)[j]? = s.data.toList[a + j]? := fun j => by simp [RdV.rest]
            have hl' : s.data.toList.length = s.size := by rw [Array.length_toList]; rfl
            have hb1 : ∀ i, i < s.size → s.data.toList[i]? = some (s.data.toList.getD i 0) := fun i hi => getD_some hi
            change LoopW _ _ _ _ _ _ _
            apply loop_rule [] (α := Nat) (fun _ => []) (fun j => wrL s off ⟨s, a + j, off, none⟩ (Chunk.vals 9 (wrXs m ++ sp)) x) (fun _ => g) (fun j => a + j ≤ s.size ∧ ∀ i, i < j → s.data.toList[a + i]? = some 0) (fun j => s.size - (a + j)) 0
            · intro x; kernel_rfl
            · exact ⟨ha, fun i hi => by omega⟩
            · exact trivial
            · rfl
            · rfl
            intro j hj
            refine (is_c 0 (-1) g).call rfl rfl rfl ?_
            refine bsplit_of (fun (hlt : decide (((a + j : Nat) : Int) < (s.size : Int)) = true) => ?_) (fun (hlt : decide (((a + j : Nat) : Int) < (s.size : Int)) = false) => ?_)
            · have hlt' : a + j < s.size := by have := of_decide_eq_true hlt; omega
              have hb := hb1 _ hlt'
              have hbD : s.data.toList.getD (Int.toNat ((a + j : Nat) : Int)) 0 = s.data.toList.getD (a + j) 0 := by rw [Int.toNat_natCast]
              refine ⟨⟨Int.natCast_nonneg _, by show ((a + j : Nat) : Int) < (s.size : Int); omega⟩, ?_⟩
              refine bsplit_of (fun hne => ?_) (fun hne => ?_)
              · have hne' : s.data.toList.getD (a + j) 0 ≠ 0 := by
                  rw [hbD] at hne
                  intro e
                  rw [e] at hne
                  simp at hne
                have w : IntKind.i64.wrap (off + ((a + j : Nat) : Int)) = off + ((a + j : Nat) : Int) := wrap_id (by have := hI.2.2; omega) (by have := hI.2.2; omega)
                have hz : zat (RdV.rest ⟨s, a, off, none⟩) = j := zat_eq _ j (fun i hi => by rw [hdrop]; exact hj.2 i hi) (.inr ⟨_, by rw [hdrop]; exact hb, hne'⟩)
                have ez : RdV.zeros ⟨s, a, off, none⟩ = ⟨s, a + j, off, some (15, IntKind.i64.wrap (off + ((a + j : Nat) : Int)))⟩ := by
                  rw [w]
                  simp only [RdV.zeros, hz]
                  rw [if_neg (by omega)]
                rw [ez] at e
                have eT := (Prod.mk.inj e).1
                have eR := (Prod.mk.inj e).2
                refine (noteN_c ⟨s, a + j, off, none⟩ nofun rfl 15 _ g).callS [2] 7 rfl rfl rfl rfl ?_
                rintro o L1 g' ⟨rfl, rfl, rfl⟩ _
                refine (is_c 15 _ _).call rfl rfl rfl ?_
                refine (boolS_c false _).call rfl rfl rfl ?_
                refine ⟨_, le_refl _, [0, 1, 2, 3, 4, 5, 6], rfl, ⟨congrArg (fun z => SV.v (.string z)) eT, trivial⟩, ?_, rfl, rfl, rfl⟩
                exact congrArg (fun z => wrL s off z (Chunk.vals 9 (wrXs m ++ sp)) x) eR
              · have hb0 : s.data.toList.getD (a + j) 0 = 0 := by
                  rw [hbD] at hne
                  simp at hne
                  exact UInt8.toNat_inj.1 (by simpa using hne)
                refine ⟨j + 1, ⟨by omega, fun i hi => ?_⟩, by omega, [0, 1, 2, 3, 4, 5, 6], rfl, trivial, ?_, rfl, rfl, rfl⟩
                · by_cases hjk : i = j
                  · subst hjk; rw [hb, hb0]
                  · exact hj.2 i (by omega)
                · exact congrArg (fun z : Int => [Chunk.cells 9 [.v (.string s)], .cells 3 [.v (.int .i64 off)], faC ⟨s, a + j, off, none⟩, .cells 3 [.v (.int .i64 z)], .cells 58 [noteV 2], Chunk.vals 9 (wrXs m ++ sp), .cells 49 (x.cells.map .v)]) (by show IntKind.i64.wrap (((a + j : Nat) : Int) + 1) = ((a + (j + 1) : Nat) : Int); rw [wrap_id (by omega) (by omega)]; omega)
            · have hend : a + j = s.size := by have := of_decide_eq_false hlt; have := hj.1; omega
              have hz : zat (RdV.rest ⟨s, a, off, none⟩) = j := zat_eq _ j (fun i hi => by rw [hdrop]; exact hj.2 i hi) (.inl (by simp only [RdV.rest, List.length_drop]; omega))
              have ez : RdV.zeros ⟨s, a, off, none⟩ = ⟨s, a + j, off, none⟩ := by
                simp only [RdV.zeros, hz]
                rw [if_pos hend, hend]
              rw [ez] at e
              have eT := (Prod.mk.inj e).1
              have eR := (Prod.mk.inj e).2
              refine (is_c 0 (-1) g).call rfl rfl rfl ?_
              refine (boolS_c true g).call rfl rfl rfl ?_
              refine ⟨g, le_refl g, [0, 1, 2, 3, 4, 5, 6], rfl, ⟨congrArg (fun z => SV.v (.string z)) eT, trivial⟩, ?_, rfl, rfl, rfl⟩
              exact congrArg (fun z => wrL s off z (Chunk.vals 9 (wrXs m ++ sp)) x) eR
        have h2 : ¬ x.what = 2 := by simpa using h2
        refine bsplit_of (fun h3 => ?_) (fun h3 => ?_)
        · have h3' : x.what = 3 := by simpa using h3
          obtain ⟨⟨t, R'⟩, hq⟩ : ∃ y, r.bytes x.n = y := ⟨_, rfl⟩
          have e : (numS r.place ++ spS ++ numS t.size ++ spS ++ t ++ spS ++ numS (fa R').1, R') = (T, R) := by rw [← hTR, wrStep, if_neg h0, if_neg h1, if_neg h2, if_pos h3', hq]
          cases e
          have hts : t.size ≤ 100 := by have := bytes_len hI.1 x.n; rw [hq] at this; exact Nat.le_trans this hI.2.1
          have hp := hI.1.place hI.2.1 hI.2.2.1 hI.2.2.2
          have hf := hR.1.fa
          haveI : Sz t 100 := ⟨hts⟩
          haveI : Sz (numS r.place) 21 := ⟨numS_size (by omega) (by omega)⟩
          haveI : Sz (numS (t.size : Int)) 21 := ⟨numS_size (by omega) (by omega)⟩
          haveI : Sz (numS (fa R).1) 21 := ⟨numS_size (by omega) (by omega)⟩
          have wp : IntKind.i64.wrap (off + r.at_) = r.place := by
            have e : r.place = off + r.at_ := by rw [← hI.1.2.1]; rfl
            rw [e] at hp ⊢
            exact wrap_id (by omega) (by omega)
          have hi : Tells Tryd.prog 26 [.v (.int .i64 (IntKind.i64.wrap (off + r.at_)))] g (.v (.string (numS r.place))) := by rw [wp]; exact itoa_c _ (by omega) (by omega) g hT
          have e2 : tkR r false x.n = (t, R) := (tkR_any (by simp)).trans hq
          refine (takeS_c hI x.n false e2 g).callS [2, 4, 1, 3, 0] 7 rfl rfl rfl rfl ?_
          rintro o L1 g' ⟨rfl, rfl, rfl⟩ _
          refine hi.call rfl rfl rfl ?_
          refine ⟨szOk rfl, ?_⟩
          refine (itoa_c (t.size : Int) (by omega) (by omega) _ hT).call rfl rfl rfl ?_
          refine ⟨szOk rfl, ?_⟩
          refine ⟨szOk rfl, ?_⟩
          refine ⟨szOk rfl, ?_⟩
          refine ⟨szOk rfl, ?_⟩
          refine (itoa_c (fa R).1 (by omega) (by omega) _ hT).call rfl rfl rfl ?_
          refine ⟨szOk rfl, ?_⟩
          exact ⟨_, le_refl _, [0, 1, 2, 3, 4, 5, 6], rfl, ⟨rfl, trivial⟩, rfl, rfl, rfl, rfl⟩
        have h3 : ¬ x.what = 3 := by simpa using h3
        refine bsplit_of (fun h4 => ?_) (fun h4 => ?_)
        · have e : (emp, r.fail 6 x.n) = (T, R) := by rw [← hTR, wrStep, if_neg h0, if_neg h1, if_neg h2, if_neg h3, if_pos (by simpa using h4)]
          cases e
          refine (note_c r hI.1.2.2.2 6 x.n g).callS [2] 7 rfl rfl rfl rfl ?_
          rintro o L1 g' ⟨rfl, rfl, rfl⟩ _
          refine ⟨_, le_refl _, [0, 1, 2, 3, 4, 5, 6], rfl, ⟨rfl, trivial⟩, ?_, rfl, rfl, rfl⟩
          exact congrArg (fun a : Nat => [Chunk.cells 9 [.v (.string s)], .cells 3 [.v (.int .i64 off)], faC (r.fail 6 x.n), .cells 3 [.v (.int .i64 a)], .cells 58 [noteV 2], Chunk.vals 9 (wrXs m ++ sp), .cells 49 (x.cells.map .v)]) (fail_at r 6 x.n).symm
        have e : (emp, r) = (T, R) := by rw [← hTR, wrStep, if_neg h0, if_neg h1, if_neg h2, if_neg h3, if_neg (by simpa using h4)]
        cases e
        exact ⟨_, le_refl _, [0, 1, 2, 3, 4, 5, 6], rfl, ⟨rfl, trivial⟩, rfl, rfl, rfl, rfl⟩
      intro g2 hle2
      have hT2 := hT.mono hle2
      have hp := hR.1.place hR.2.1 hR.2.2.1 hR.2.2.2
      have hat1 := hR.1.2.2.1
      have hRs : R.s.size ≤ 100 := by rw [hR.1.1]; exact hR.2.1
      haveI : Sz T 300 := ⟨hTs⟩
      have w1 : IntKind.i64.wrap ((s.size : Int) - R.at_) = (R.s.size : Int) - R.at_ := by rw [← hR.1.1]; exact wrap_id (by omega) (by omega)
      have w2 : IntKind.i64.wrap (off + R.at_) = R.place := by
        have e : R.place = off + R.at_ := by rw [← hR.1.2.1]; rfl
        rw [e] at hp ⊢
        exact wrap_id (by omega) (by omega)
      haveI : Sz (numS ((R.s.size : Int) - R.at_)) 21 := ⟨numS_size (by omega) (by omega)⟩
      haveI : Sz (numS R.place) 21 := ⟨numS_size (by omega) (by omega)⟩
      have hi1 : Tells Tryd.prog 26 [.v (.int .i64 (IntKind.i64.wrap ((s.size : Int) - R.at_)))] g2 (.v (.string (numS ((R.s.size : Int) - R.at_)))) := by rw [w1]; exact itoa_c _ (by omega) (by omega) g2 hT2
      have hi2 : Tells Tryd.prog 26 [.v (.int .i64 (IntKind.i64.wrap (off + R.at_)))] g2 (.v (.string (numS R.place))) := by rw [w2]; exact itoa_c _ (by omega) (by omega) g2 hT2
      have hend : wrEnd (l.l.take (k + 1)) r0 = R := by rw [wrEnd_take hx, hr, hTR]
      have hout : wrOut (l.l.take (k + 1)) r0 = wrOut (l.l.take k) r0 ++ [wrText (T, R)] := by rw [wrOut_take hx, hr, hTR]
      refine ⟨szOk rfl, ?_⟩
      refine hi1.call rfl rfl rfl ?_
      refine ⟨szOk rfl, ?_⟩
      refine ⟨szOk rfl, ?_⟩
      refine hi2.call rfl rfl rfl ?_
      refine ⟨szOk rfl, ?_⟩
      refine ⟨by show 0 + 1 * 1 ≤ 1; decide, fun u hu => by simp at hu; subst hu; rfl, ?_⟩
      refine ⟨wrXs m, sp, rfl, hg.1, ⟨hg.2.1, hg.2.2.1, hg.2.2.2⟩, by omega, fun cap2 sp2 k1 k2 k3 => ?_⟩
      refine ⟨(k + 1, n + 1 + 1, m ++ [wrText (T, R)], cap2, sp2, g2), ⟨hlt', ⟨by simp [hm], by rw [wrXs, flat_app]; exact gr_next ho rfl k1 k2 k3⟩, by rw [hout, ← hmr], le_trans hle hle2⟩, by show l.l.length - (k + 1) < l.l.length - k; omega, [0, 1, 2, 3, 4, 8], rfl, ⟨rfl, vi (wrap_id (by omega) (by omega)), trivial⟩, ?_, rfl, rfl, rfl⟩
      exact (congrArg (fun c => wrL0 s off R (.vals 9 c)) (flat_app2 strC m (wrText (T, R)) sp2).symm).trans (congrArg (fun r => wrL0 s off r (.vals 9 (wrXs (m ++ [wrText (T, R)]) ++ sp2))) hend.symm)
    · obtain rfl : k = l.l.length := by have := of_decide_eq_false hlt; omega
      rw [List.take_length] at hmr
      have hE : wrEnd (l.l.take l.l.length) r0 = wrEnd l.l r0 := by rw [List.take_length]
      refine ⟨[5], .inl ⟨m, cap, sp, ?_, ?_, ?_, hmr, hle⟩⟩
      · rw [hm]; exact congrArg (fun r : RdV => Out.ret (.tup [grS 0 (n + 1) cap, .agg [.v (.int .i64 (fa r).1), .v (.int .i64 (fa r).2)]])) hE
      · rw [hm]; rfl
      · rw [hm]; exact ho
theorem reads_c (s : ByteArray) (off : Int) (l : SliceV ReadV) (g : G) (hl : l.ok 2 ReadV.cells (ReadV.ok g) g) (hT : TabVar g) (hs : s.size ≤ 100) (h0 : 0 ≤ off) (h1 : off ≤ 1099511627776) (hN : l.l.length ≤ 1000) : Meets Tryd.prog 24 [.v (.string s), .v (.int .i64 off), .v (.slice l.a l.l.length l.c)] [] g (fun o L' g' =>
    (∃ m : SliceV ByteArray, m.l = wrOut l.l ⟨s, 0, off, none⟩ ∧ o = .ret (.tup [.v (.slice m.a m.l.length m.c), .agg [.v (.int .i64 (fa (wrEnd l.l ⟨s, 0, off, none⟩)).1), .v (.int .i64 (fa (wrEnd l.l ⟨s, 0, off, none⟩)).2)]]) ∧ L' = [] ∧ m.ok 1 strC (fun _ => True) g' ∧ G.le g g') ∨ False) :=
  Meets.freezeSl 1 strC 9 (fun x => .tup [x, .agg [.v (.int .i64 (fa (wrEnd l.l ⟨s, 0, off, none⟩)).1), .v (.int .i64 (fa (wrEnd l.l ⟨s, 0, off, none⟩)).2)]]) (fun _ => True) (fun m => m = wrOut l.l ⟨s, 0, off, none⟩) (fun _ _ _ => False) (fun _ _ _ => rfl) (fun _ _ _ _ => trivial) (reads_b s off l g hl hT hs h0 h1 hN)
end Go.Proofs.YthajjbcnemdacaaDoor
