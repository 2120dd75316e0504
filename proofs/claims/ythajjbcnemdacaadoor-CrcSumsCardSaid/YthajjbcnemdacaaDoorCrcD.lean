/- ref.Crc: what it returns. Conditions: the text's length. -/
import Derived.Test.YthajjbcnemdacaaDoorCrcB
namespace Go.Proofs.YthajjbcnemdacaaDoor
open Go.Sx Go.Lib
set_option maxRecDepth 100000
set_option maxHeartbeats 8000000
attribute [local irreducible] Meets
attribute [local instance] Classical.propDecidable

theorem vB_app (bs : List Bool) (b : Bool) (sp : List Value) {v : Int} (h : v = b2i b) : vB bs ++ ([Value.int .i64 v] ++ sp) = vB (bs ++ [b]) ++ sp := by subst h; simp [vB]
theorem grB_next {n cap cap2 : Nat} {bs : List Bool} {b : Bool} {sp sp2 : List Value} (h : grOk 1 (n + 1) cap (vB bs) sp) (h1 : n + 1 + 1 ≤ cap2) (h2 : cap2 ≤ 9223372036854775807) (h3 : sp2.length = (cap2 - (n + 1 + 1)) * 1) : grOk 1 (n + 1 + 1) cap2 (vB (bs ++ [b])) sp2 := by
  have := gr_next (news := [.int .i64 (b2i b)]) h rfl h1 h2 h3
  rw [show vB (bs ++ [b]) = vB bs ++ [.int .i64 (b2i b)] by simp [vB]]
  exact this
theorem offN (i : Nat) : 0 + ((i : Int)).toNat * 1 = i := by simp
def bitF (l : List UInt8) (j : Nat) : Bool := !(crcR l).getLsbD j
theorem orB_crc (s : ByteArray) : orB (bitF s.data.toList) 32 = crcS s := by
  apply BitVec.eq_of_getLsbD_eq
  intro j hj
  rw [orB_get _ _ _ (Nat.le_refl _), crcS, BitVec.getLsbD_not, bitF]
attribute [local irreducible] crcR divB partF polyB orB crcS textBits byteBits

theorem crcRef_c (s : ByteArray) (hs : s.size ≤ 300) (g : G) : Meets Tryd.prog 10 [.v (.string s)] [] g (fun o L' g' => o = .ret (.v (.int .u32 (u32I (crcS s)))) ∧ L' = [] ∧ G.le g g') := by
  have hl : s.data.toList.length = s.size := by rw [Array.length_toList]; rfl
  refine meets_of mixedR Tryd.func10 (by kernel_rfl) x10_ok (some []) ?_
  refine prim_bytes (e := 5) (by kernel_rfl) (by kernel_rfl) (by kernel_rfl) rfl (fun g2 ad2 cap0 hg2 hat => ?_)
  change LoopW _ _ _ _ _ _ _
  refine loop_gone ?_
  apply loop_rule [0] (α := Nat × Nat × Nat × List Value × List Bool) (fun y => [(16, .v (.int .i64 y.1)), (3, grS 0 y.2.1 y.2.2.1)]) (fun y => [grC 3 y.2.1 (vB y.2.2.2.2) y.2.2.2.1]) (fun _ => g2) (fun y => y.1 ≤ s.size ∧ y.2.1 = 8 * y.1 ∧ y.2.2.2.2 = textBits (s.data.toList.take y.1) ∧ grOk 1 y.2.1 y.2.2.1 (vB y.2.2.2.2) y.2.2.2.1) (fun y => s.size - y.1) (0, 0, 0, [], [])
  · intro x
    obtain ⟨k, n, cap, sp, bs⟩ := x
    cases n <;> kernel_rfl
  · exact ⟨Nat.zero_le _, rfl, by rw [List.take_zero]; unfold textBits; rfl, grOk.zero 1⟩
  · exact ⟨rfl, rfl, trivial⟩
  · rfl
  · rfl
  rintro ⟨k, n, cap, sp, bs⟩ ⟨hk, hn, hbs, ho⟩
  dsimp only at hk hn hbs ho
  rcases n with _ | n
  · refine bsplit_of (fun hlt => ?_) (fun hlt => ?_)
    · have hlt' : k < s.size := by simpa using hlt
      obtain ⟨b, hb, hat2⟩ := byteR hat hlt'
      refine ⟨⟨by omega, by omega⟩, ad2, rfl, ?_⟩
      refine ⟨[.int .u8 b.toNat], rfl, hat2, ?_⟩
      have hnx : textBits (s.data.toList.take (k + 1)) = bs ++ byteBits b := by rw [take_snoc hb, textBits_snoc, hbs]
      change LoopW _ _ _ _ _ _ _
      apply loop_rule [0] (α := Nat × Nat × Nat × List Value × List Bool) (fun y => [(20, .v (.int .i64 y.1)), (3, grS 0 y.2.1 y.2.2.1)]) (fun y => [grC 3 y.2.1 (vB y.2.2.2.2) y.2.2.2.1]) (fun _ => g2) (fun y => y.1 ≤ 8 ∧ y.2.1 = 8 * k + y.1 ∧ y.2.2.2.2 = bs ++ (byteBits b).take y.1 ∧ grOk 1 y.2.1 y.2.2.1 (vB y.2.2.2.2) y.2.2.2.1) (fun y => 8 - y.1) (0, 0, cap, sp, bs)
      · intro x
        obtain ⟨i, n, cap, sp, bs⟩ := x
        cases n <;> kernel_rfl
      · exact ⟨Nat.zero_le _, hn, by rw [List.take_zero, List.append_nil], ho⟩
      · exact ⟨rfl, rfl, trivial⟩
      · rfl
      · rfl
      rintro ⟨i, n2, cap2, sp2, bs2⟩ ⟨hi, hn2, hbs2, ho2⟩
      dsimp only at hi hn2 hbs2 ho2
      rcases n2 with _ | n2
      · have hi8 : i < 8 := by omega
        have hbn : bs2 = [] := by
          have := ho2.1
          rw [vB_len] at this
          exact List.eq_nil_of_length_eq_zero (by omega)
        subst hbn
        refine bsplit_of (fun _ => ?_) (fun (h : decide ((i : Int) < 8) = false) => absurd (of_decide_eq_false h) (by omega))
        refine ⟨by omega, ?_⟩
        refine ⟨by show 0 + 1 * 1 ≤ 1; decide, fun u hu => by simp at hu; subst hu; rfl, ?_⟩
        refine ⟨by decide, fun cap3 sp3 k1 k2 k3 => ?_⟩
        refine ⟨(i + 1, 1, cap3, sp3, [b.toNat.testBit i]), ⟨hi8, by show 1 = 8 * k + (i + 1); omega, ?_, gr_first rfl k1 k2 k3⟩, by show 8 - (i + 1) < 8 - i; omega, [2], rfl, ⟨vi (wrap_id (by omega) (by omega)), rfl, trivial⟩, ?_, rfl, rfl, rfl⟩
        · show [b.toNat.testBit i] = bs ++ (byteBits b).take (i + 1)
          rw [byteBits_take b hi8, ← List.append_assoc, ← hbs2]; rfl
        · exact congrArg (fun v => [Chunk.vals 3 ([Value.int .i64 v] ++ sp3)]) (bitI b hi8)
      · refine bsplit_of (fun hlt3 => ?_) (fun hlt3 => ?_)
        · have hi8 : i < 8 := by have := of_decide_eq_true hlt3; omega
          refine ⟨by omega, ?_⟩
          refine ⟨by show 0 + 1 * 1 ≤ 1; decide, fun u hu => by simp at hu; subst hu; rfl, ?_⟩
          have hg := gr_bounds ho2
          refine ⟨vB bs2, sp2, rfl, hg.1, ⟨hg.2.1, hg.2.2.1, hg.2.2.2⟩, by show (n2 + 1 + 1) * 8 ≤ 140737488355328; omega, fun cap3 sp3 k1 k2 k3 => ?_⟩
          refine ⟨(i + 1, n2 + 1 + 1, cap3, sp3, bs2 ++ [b.toNat.testBit i]), ⟨hi8, by show n2 + 1 + 1 = 8 * k + (i + 1); omega, ?_, grB_next ho2 k1 k2 k3⟩, by show 8 - (i + 1) < 8 - i; omega, [2], rfl, ⟨vi (wrap_id (by omega) (by omega)), rfl, trivial⟩, ?_, rfl, rfl, rfl⟩
          · show bs2 ++ [b.toNat.testBit i] = bs ++ (byteBits b).take (i + 1)
            rw [byteBits_take b hi8, ← List.append_assoc, ← hbs2]
          · exact congrArg (fun c => [Chunk.vals 3 c]) (vB_app bs2 _ sp3 (bitI b hi8))
        · have hi8 : i = 8 := by have := of_decide_eq_false hlt3; omega
          subst hi8
          have hb8 : bs2 = textBits (s.data.toList.take (k + 1)) := by rw [hbs2, hnx, List.take_of_length_le (by rw [byteBits_len]; omega)]
          exact ⟨(k + 1, n2 + 1, cap2, sp2, bs2), ⟨hlt', by show n2 + 1 = 8 * (k + 1); omega, hb8, ho2⟩, by show s.size - (k + 1) < s.size - k; omega, [0], rfl, ⟨vi (wrap_id (by omega) (by omega)), rfl, trivial⟩, rfl, rfl, rfl, rfl⟩
    have hks : k = s.size := by have := of_decide_eq_false hlt; omega
    obtain ⟨m, hm⟩ : ∃ m, m = textBits s.data.toList := ⟨_, rfl⟩
    have hm0 : m.length = 0 := by rw [hm, textBits_len, hl]; omega
    refine prim_appZ0 (t := 63) (u := 3) (e := 3) (i := Tryd.t3) (ku := .i64) (z := .int .i64 0) rfl rfl rfl (by kernel_rfl) (by kernel_rfl) (by kernel_rfl) (by kernel_rfl) rfl rfl (m := 32) 1 rfl (by kernel_rfl) (by decide) (by decide) (by decide) rfl (fun cap sp k1 k2 k3 => ?_)
    have hcells : List.replicate 32 (Value.int .i64 0) ++ sp = cellF (m.length + 32) (flipF m 0) ++ sp := by
      have h0 : flipF m 0 = msg m := funext fun q => by rw [flipF, if_neg (by omega)]
      have e0 : m = [] := List.eq_nil_of_length_eq_zero hm0
      rw [h0, ← vB_zeros, e0]; rfl
    have hN : 32 = m.length + 32 := by omega
    clear hk hn
    have hml : m.length ≤ 2400 := by rw [hm, textBits_len, hl]; omega
    have hcM : cap ≥ m.length + 32 := by omega
    change LoopW _ _ _ _ _ _ _
    apply loop_rule [] (α := Nat) (fun i => [(35, .v (.int .i64 i))]) (fun i => [.gone, .vals 3 (cellF (m.length + 32) (flipF m i) ++ sp)]) (fun _ => g2) (fun i => i ≤ 32) (fun i => 32 - i) 0
    · intro x; kernel_rfl
    · decide
    · exact ⟨rfl, trivial⟩
    · exact congrArg (fun c => [Chunk.gone, .vals 3 c]) hcells
    · rfl
    intro i hi
    refine bsplit_of (fun hlt => ?_) (fun hlt => ?_)
    · have hi32 : i < 32 := by have := of_decide_eq_true hlt; omega
      refine ⟨⟨by omega, by omega⟩, ?_⟩
      refine load1_at (x := .int .i64 (b2i (flipF m i i))) (by rw [offN]; exact cellF_get (by omega) sp) ?_
      refine ⟨⟨by omega, by omega⟩, ?_⟩
      refine ⟨rfl, fun u hu => by simp [Value.cells] at hu; subst hu; rfl, by rw [List.length_append, cellF_len, offN]; omega, ?_⟩
      refine ⟨i + 1, hi32, by omega, [0, 1], rfl, ⟨vi (wrap_id (by omega) (by omega)), trivial⟩, ?_, rfl, rfl, rfl⟩
      refine congrArg (fun c => [Chunk.gone, .vals 3 c]) ?_
      rw [offN]
      refine cellF_set (F := flipF m i) (F' := flipF m (i + 1)) (by omega) (fun q hq => ?_) sp ?_
      · have : (q < i + 1) = (q < i) := by simp only [eq_iff_iff]; omega
        simp only [flipF, this]
      · have e1 : flipF m i i = msg m i := by rw [flipF, if_neg (by omega)]
        have e2 : flipF m (i + 1) i = !msg m i := by rw [flipF, if_pos (by omega)]
        rw [e2, ← flip_i, ← e1]
    have hi32 : i = 32 := by have := of_decide_eq_false hlt; omega
    subst hi32
    have eF : flipF m 32 = divB m 0 := funext fun q => by rw [divB_zero, flipF]
    rw [eF]
    clear hlt hi eF hcells
    change LoopW _ _ _ _ _ _ _
    apply loop_rule [] (α := Nat) (fun i => [(8, .v (.int .i64 i))]) (fun i => [.gone, .vals 3 (cellF (m.length + 32) (divB m i) ++ sp)]) (fun _ => g2) (fun i => i ≤ m.length) (fun i => m.length - i) 0
    · intro x; kernel_rfl
    · exact Nat.zero_le _
    · exact ⟨rfl, trivial⟩
    · rfl
    · rfl
    intro i hi
    have hw : IntKind.i64.wrap ((i : Int) + 32) = ((i + 32 : Nat) : Int) := by rw [wrap_id (by omega) (by omega)]; omega
    refine bsplit_of (fun hlt => ?_) (fun hlt => ?_)
    · have him : i < m.length := by
        have := of_decide_eq_true hlt
        rw [hw] at this
        omega
      refine ⟨⟨by omega, by omega⟩, ?_⟩
      refine load1_at (x := .int .i64 (b2i (divB m i i))) (by rw [offN]; exact cellF_get (by omega) sp) ?_
      refine bsplit_of (fun (hb : (b2i (divB m i i) == 1) = true) => ?_) (fun (hb : (b2i (divB m i i) == 1) = false) => ?_)
      · have hbt : divB m i i = true := by revert hb; cases divB m i i <;> simp [b2i]
        refine prim_rangeS 2 rfl (by kernel_rfl) rfl ?_
        change LoopW _ _ _ _ _ _ _
        apply loop_rule [] (α := Nat) (fun _ => []) (fun k => [.gone, .vals 3 (cellF (m.length + 32) (partF m i k) ++ sp), .raw (.stringIter polyS k)]) (fun _ => g2) (fun k => k ≤ 33) (fun k => 33 - k) 0
        · intro x; kernel_rfl
        · decide
        · trivial
        · exact congrArg (fun F => [Chunk.gone, .vals 3 (cellF (m.length + 32) F ++ sp), .raw (.stringIter polyS 0)]) (funext fun q => (part_zero m i q).symm)
        · rfl
        intro k hk
        by_cases hk33 : k < 33
        · refine prim_nextS (b := 2) (pos := k) (s := polyS) rfl hk33 (poly_get hk33) rfl ?_
          have hwk : IntKind.i64.wrap ((i : Int) + (k : Int)) = ((i + k : Nat) : Int) := by rw [wrap_id (by omega) (by omega)]; omega
          refine ⟨⟨by rw [hwk]; omega, by rw [hwk]; omega⟩, ?_⟩
          refine load1_at (x := .int .i64 (b2i (partF m i k (i + k)))) (by rw [hwk, offN]; exact cellF_get (by omega) sp) ?_
          refine ⟨⟨by omega, by show (k : Int) < ((33 : Nat) : Int); omega⟩, ?_⟩
          refine ⟨⟨by rw [hwk]; omega, by rw [hwk]; omega⟩, ?_⟩
          refine ⟨rfl, fun u hu => by simp [Value.cells] at hu; subst hu; rfl, by rw [List.length_append, cellF_len, hwk, offN]; omega, ?_⟩
          refine ⟨k + 1, hk33, by omega, [0, 1, 2], rfl, trivial, ?_, rfl, rfl, rfl⟩
          refine congrArg (fun c => [Chunk.gone, .vals 3 c, .raw (.stringIter polyS (k + 1))]) ?_
          rw [hwk, offN]
          refine cellF_set (F := partF m i k) (F' := partF m i (k + 1)) (by omega) (fun q hq => part_same m i k q hq) sp ?_
          rw [part_next, ← xorI, ← poly_i k hk33]; rfl
        · have hk0 : k = 33 := by omega
          subst hk0
          refine prim_nextS_end (b := 2) (pos := 33) (s := polyS) rfl (by decide) rfl ?_
          refine ⟨i + 1, him, by omega, [0, 1], rfl, ⟨vi (wrap_id (by omega) (by omega)), trivial⟩, ?_, rfl, rfl, rfl⟩
          exact congrArg (fun F => [Chunk.gone, .vals 3 (cellF (m.length + 32) F ++ sp)]) (funext fun q => part_end him hbt q)
      · have hbf : divB m i i = false := by revert hb; cases divB m i i <;> simp [b2i]
        refine ⟨i + 1, him, by omega, [0, 1], rfl, ⟨vi (wrap_id (by omega) (by omega)), trivial⟩, ?_, rfl, rfl, rfl⟩
        exact congrArg (fun F => [Chunk.gone, .vals 3 (cellF (m.length + 32) F ++ sp)]) (funext fun q => by rw [div_next him, hbf]; simp)
    have him : i = m.length := by
      have := of_decide_eq_false hlt
      rw [hw] at this
      omega
    subst him
    clear hlt hi hw
    have hwl : IntKind.i64.wrap (((32 : Nat) : Int) - 32) = (m.length : Int) := by rw [wrap_id (by omega) (by omega)]; omega
    have hln : (32 : Nat) - (IntKind.i64.wrap (((32 : Nat) : Int) - 32)).toNat = 32 := by rw [hwl]; omega
    refine ⟨by rw [hwl]; omega, ?_⟩
    change LoopW _ _ _ _ _ _ _
    apply loop_rule [] (α := Nat) (fun j => [(81, .v (.int .i64 j)), (10, .v (.int .u32 (u32I (orB (bitF s.data.toList) j))))]) (fun _ => [.gone, .vals 3 (cellF (m.length + 32) (divB m m.length) ++ sp)]) (fun _ => g2) (fun j => j ≤ 32) (fun j => 32 - j) 0
    · intro x; kernel_rfl
    · decide
    · exact ⟨rfl, vi (by unfold orB; rfl), trivial⟩
    · rfl
    · rfl
    intro j hj
    refine bsplit_of (fun hlt => ?_) (fun hlt => ?_)
    · have hj32 : j < 32 := by have := of_decide_eq_true hlt; rw [hln] at this; omega
      have hoff : (0 + moved true cap (IntKind.i64.wrap (((32 : Nat) : Int) - 32)).toNat 1) + ((j : Nat) : Int).toNat * 1 = m.length + j := by
        rw [hwl, moved]
        rw [if_neg (by omega)]
        omega
      refine ⟨⟨by omega, by rw [hln]; omega⟩, ?_⟩
      refine load1_at (x := .int .i64 (b2i (divB m m.length (m.length + j)))) (by rw [hoff]; exact cellF_get (by omega) sp) ?_
      have hbit : divB m m.length (m.length + j) = (crcR s.data.toList).getLsbD j := by rw [div_end m j hj32, hm, ← crcR_bits]
      rw [hbit]
      refine bsplit_of (fun (hb : (b2i ((crcR s.data.toList).getLsbD j) == 0) = true) => ?_) (fun (hb : (b2i ((crcR s.data.toList).getLsbD j) == 0) = false) => ?_)
      · have hf : bitF s.data.toList j = true := by rw [bitF]; revert hb; cases (crcR s.data.toList).getLsbD j <;> simp [b2i]
        refine ⟨by omega, ?_⟩
        refine ⟨j + 1, hj32, by omega, [0, 1], rfl, ⟨vi (wrap_id (by omega) (by omega)), vi ?_, trivial⟩, rfl, rfl, rfl, rfl⟩
        show IntKind.u32.wrap ((BitVec.ofInt IntKind.u32.bits (u32I (orB (bitF s.data.toList) j)) ||| BitVec.ofInt IntKind.u32.bits (IntKind.u32.wrap ((1 : Int) * 2 ^ (min (j : Int).toNat IntKind.u32.bits)))).toNat : Int) = _
        rw [shl32 hj32, or32, orB, if_pos hf]
      · have hf : ¬ bitF s.data.toList j = true := by rw [bitF]; revert hb; cases (crcR s.data.toList).getLsbD j <;> simp [b2i]
        refine ⟨j + 1, hj32, by omega, [0, 1], rfl, ⟨vi (wrap_id (by omega) (by omega)), vi ?_, trivial⟩, rfl, rfl, rfl, rfl⟩
        rw [orB, if_neg hf]
    · have hj32 : j = 32 := by have := of_decide_eq_false hlt; rw [hln] at this; omega
      subst hj32
      exact ⟨ri (by rw [orB_crc]), rfl, hg2⟩
  · refine bsplit_of (fun hlt => ?_) (fun hlt => ?_)
    · have hlt' : k < s.size := by simpa using hlt
      obtain ⟨b, hb, hat2⟩ := byteR hat hlt'
      refine ⟨⟨by omega, by omega⟩, ad2, rfl, ?_⟩
      refine ⟨[.int .u8 b.toNat], rfl, hat2, ?_⟩
      have hnx : textBits (s.data.toList.take (k + 1)) = bs ++ byteBits b := by rw [take_snoc hb, textBits_snoc, hbs]
      change LoopW _ _ _ _ _ _ _
      apply loop_rule [0] (α := Nat × Nat × Nat × List Value × List Bool) (fun y => [(20, .v (.int .i64 y.1)), (3, grS 0 y.2.1 y.2.2.1)]) (fun y => [grC 3 y.2.1 (vB y.2.2.2.2) y.2.2.2.1]) (fun _ => g2) (fun y => y.1 ≤ 8 ∧ y.2.1 = 8 * k + y.1 ∧ y.2.2.2.2 = bs ++ (byteBits b).take y.1 ∧ grOk 1 y.2.1 y.2.2.1 (vB y.2.2.2.2) y.2.2.2.1) (fun y => 8 - y.1) (0, n + 1, cap, sp, bs)
      · intro x
        obtain ⟨i, n, cap, sp, bs⟩ := x
        cases n <;> kernel_rfl
      · exact ⟨Nat.zero_le _, hn, by rw [List.take_zero, List.append_nil], ho⟩
      · exact ⟨rfl, rfl, trivial⟩
      · rfl
      · rfl
      rintro ⟨i, n2, cap2, sp2, bs2⟩ ⟨hi, hn2, hbs2, ho2⟩
      dsimp only at hi hn2 hbs2 ho2
      rcases n2 with _ | n2
      · have hi8 : i < 8 := by omega
        have hbn : bs2 = [] := by
          have := ho2.1
          rw [vB_len] at this
          exact List.eq_nil_of_length_eq_zero (by omega)
        subst hbn
        refine bsplit_of (fun _ => ?_) (fun (h : decide ((i : Int) < 8) = false) => absurd (of_decide_eq_false h) (by omega))
        refine ⟨by omega, ?_⟩
        refine ⟨by show 0 + 1 * 1 ≤ 1; decide, fun u hu => by simp at hu; subst hu; rfl, ?_⟩
        refine ⟨by decide, fun cap3 sp3 k1 k2 k3 => ?_⟩
        refine ⟨(i + 1, 1, cap3, sp3, [b.toNat.testBit i]), ⟨hi8, by show 1 = 8 * k + (i + 1); omega, ?_, gr_first rfl k1 k2 k3⟩, by show 8 - (i + 1) < 8 - i; omega, [2], rfl, ⟨vi (wrap_id (by omega) (by omega)), rfl, trivial⟩, ?_, rfl, rfl, rfl⟩
        · show [b.toNat.testBit i] = bs ++ (byteBits b).take (i + 1)
          rw [byteBits_take b hi8, ← List.append_assoc, ← hbs2]; rfl
        · exact congrArg (fun v => [Chunk.vals 3 ([Value.int .i64 v] ++ sp3)]) (bitI b hi8)
      · refine bsplit_of (fun hlt3 => ?_) (fun hlt3 => ?_)
        · have hi8 : i < 8 := by have := of_decide_eq_true hlt3; omega
          refine ⟨by omega, ?_⟩
          refine ⟨by show 0 + 1 * 1 ≤ 1; decide, fun u hu => by simp at hu; subst hu; rfl, ?_⟩
          have hg := gr_bounds ho2
          refine ⟨vB bs2, sp2, rfl, hg.1, ⟨hg.2.1, hg.2.2.1, hg.2.2.2⟩, by show (n2 + 1 + 1) * 8 ≤ 140737488355328; omega, fun cap3 sp3 k1 k2 k3 => ?_⟩
          refine ⟨(i + 1, n2 + 1 + 1, cap3, sp3, bs2 ++ [b.toNat.testBit i]), ⟨hi8, by show n2 + 1 + 1 = 8 * k + (i + 1); omega, ?_, grB_next ho2 k1 k2 k3⟩, by show 8 - (i + 1) < 8 - i; omega, [2], rfl, ⟨vi (wrap_id (by omega) (by omega)), rfl, trivial⟩, ?_, rfl, rfl, rfl⟩
          · show bs2 ++ [b.toNat.testBit i] = bs ++ (byteBits b).take (i + 1)
            rw [byteBits_take b hi8, ← List.append_assoc, ← hbs2]
          · exact congrArg (fun c => [Chunk.vals 3 c]) (vB_app bs2 _ sp3 (bitI b hi8))
        · have hi8 : i = 8 := by have := of_decide_eq_false hlt3; omega
          subst hi8
          have hb8 : bs2 = textBits (s.data.toList.take (k + 1)) := by rw [hbs2, hnx, List.take_of_length_le (by rw [byteBits_len]; omega)]
          exact ⟨(k + 1, n2 + 1, cap2, sp2, bs2), ⟨hlt', by show n2 + 1 = 8 * (k + 1); omega, hb8, ho2⟩, by show s.size - (k + 1) < s.size - k; omega, [0], rfl, ⟨vi (wrap_id (by omega) (by omega)), rfl, trivial⟩, rfl, rfl, rfl, rfl⟩
    have hks : k = s.size := by have := of_decide_eq_false hlt; omega
    obtain ⟨m, hm⟩ : ∃ m, m = textBits s.data.toList := ⟨_, rfl⟩
    have hbm : m = bs := by rw [hbs, hm, List.take_of_length_le (by omega)]
    subst hbm
    have hmn : m.length = n + 1 := by rw [hm, textBits_len, hl]; omega
    have hg := gr_bounds ho
    refine prim_appZ1 (t := 63) (u := 3) (e := 3) (i := Tryd.t3) (ku := .i64) (z := .int .i64 0) rfl rfl rfl (by kernel_rfl) (by kernel_rfl) (by kernel_rfl) (by kernel_rfl) rfl rfl (by kernel_rfl) (m := 32) 1 rfl (b := 0) (n := n + 1) (cap := cap) (vB m) sp rfl (by rw [vB_len]; exact hmn) (by rw [← List.length_append]; have := hg.2.1; omega) hg.2.2.2 (by decide) (by show (n + 1 + 32) * 8 ≤ 140737488355328; omega) (by omega) rfl (fun cap sp k1 k2 k3 => ?_)
    have hcells : vB m ++ (List.replicate 32 (Value.int .i64 0) ++ sp) = cellF (m.length + 32) (flipF m 0) ++ sp := by
      have h0 : flipF m 0 = msg m := funext fun q => by rw [flipF, if_neg (by omega)]
      rw [h0, ← vB_zeros, List.append_assoc]
    have hN : n + 1 + 32 = m.length + 32 := by omega
    clear hk hn
    have hml : m.length ≤ 2400 := by rw [hm, textBits_len, hl]; omega
    have hcM : cap ≥ m.length + 32 := by omega
    change LoopW _ _ _ _ _ _ _
    apply loop_rule [] (α := Nat) (fun i => [(35, .v (.int .i64 i))]) (fun i => [.gone, .vals 3 (cellF (m.length + 32) (flipF m i) ++ sp)]) (fun _ => g2) (fun i => i ≤ 32) (fun i => 32 - i) 0
    · intro x; kernel_rfl
    · decide
    · exact ⟨rfl, trivial⟩
    · exact congrArg (fun c => [Chunk.gone, .vals 3 c]) hcells
    · rfl
    intro i hi
    refine bsplit_of (fun hlt => ?_) (fun hlt => ?_)
    · have hi32 : i < 32 := by have := of_decide_eq_true hlt; omega
      refine ⟨⟨by omega, by omega⟩, ?_⟩
      refine load1_at (x := .int .i64 (b2i (flipF m i i))) (by rw [offN]; exact cellF_get (by omega) sp) ?_
      refine ⟨⟨by omega, by omega⟩, ?_⟩
      refine ⟨rfl, fun u hu => by simp [Value.cells] at hu; subst hu; rfl, by rw [List.length_append, cellF_len, offN]; omega, ?_⟩
      refine ⟨i + 1, hi32, by omega, [0, 1], rfl, ⟨vi (wrap_id (by omega) (by omega)), trivial⟩, ?_, rfl, rfl, rfl⟩
      refine congrArg (fun c => [Chunk.gone, .vals 3 c]) ?_
      rw [offN]
      refine cellF_set (F := flipF m i) (F' := flipF m (i + 1)) (by omega) (fun q hq => ?_) sp ?_
      · have : (q < i + 1) = (q < i) := by simp only [eq_iff_iff]; omega
        simp only [flipF, this]
      · have e1 : flipF m i i = msg m i := by rw [flipF, if_neg (by omega)]
        have e2 : flipF m (i + 1) i = !msg m i := by rw [flipF, if_pos (by omega)]
        rw [e2, ← flip_i, ← e1]
    have hi32 : i = 32 := by have := of_decide_eq_false hlt; omega
    subst hi32
    have eF : flipF m 32 = divB m 0 := funext fun q => by rw [divB_zero, flipF]
    rw [eF]
    clear hlt hi eF hcells
    change LoopW _ _ _ _ _ _ _
    apply loop_rule [] (α := Nat) (fun i => [(8, .v (.int .i64 i))]) (fun i => [.gone, .vals 3 (cellF (m.length + 32) (divB m i) ++ sp)]) (fun _ => g2) (fun i => i ≤ m.length) (fun i => m.length - i) 0
    · intro x; kernel_rfl
    · exact Nat.zero_le _
    · exact ⟨rfl, trivial⟩
    · rfl
    · rfl
    intro i hi
    have hw : IntKind.i64.wrap ((i : Int) + 32) = ((i + 32 : Nat) : Int) := by rw [wrap_id (by omega) (by omega)]; omega
    refine bsplit_of (fun hlt => ?_) (fun hlt => ?_)
    · have him : i < m.length := by
        have := of_decide_eq_true hlt
        rw [hw] at this
        omega
      refine ⟨⟨by omega, by omega⟩, ?_⟩
      refine load1_at (x := .int .i64 (b2i (divB m i i))) (by rw [offN]; exact cellF_get (by omega) sp) ?_
      refine bsplit_of (fun (hb : (b2i (divB m i i) == 1) = true) => ?_) (fun (hb : (b2i (divB m i i) == 1) = false) => ?_)
      · have hbt : divB m i i = true := by revert hb; cases divB m i i <;> simp [b2i]
        refine prim_rangeS 2 rfl (by kernel_rfl) rfl ?_
        change LoopW _ _ _ _ _ _ _
        apply loop_rule [] (α := Nat) (fun _ => []) (fun k => [.gone, .vals 3 (cellF (m.length + 32) (partF m i k) ++ sp), .raw (.stringIter polyS k)]) (fun _ => g2) (fun k => k ≤ 33) (fun k => 33 - k) 0
        · intro x; kernel_rfl
        · decide
        · trivial
        · exact congrArg (fun F => [Chunk.gone, .vals 3 (cellF (m.length + 32) F ++ sp), .raw (.stringIter polyS 0)]) (funext fun q => (part_zero m i q).symm)
        · rfl
        intro k hk
        by_cases hk33 : k < 33
        · refine prim_nextS (b := 2) (pos := k) (s := polyS) rfl hk33 (poly_get hk33) rfl ?_
          have hwk : IntKind.i64.wrap ((i : Int) + (k : Int)) = ((i + k : Nat) : Int) := by rw [wrap_id (by omega) (by omega)]; omega
          refine ⟨⟨by rw [hwk]; omega, by rw [hwk]; omega⟩, ?_⟩
          refine load1_at (x := .int .i64 (b2i (partF m i k (i + k)))) (by rw [hwk, offN]; exact cellF_get (by omega) sp) ?_
          refine ⟨⟨by omega, by show (k : Int) < ((33 : Nat) : Int); omega⟩, ?_⟩
          refine ⟨⟨by rw [hwk]; omega, by rw [hwk]; omega⟩, ?_⟩
          refine ⟨rfl, fun u hu => by simp [Value.cells] at hu; subst hu; rfl, by rw [List.length_append, cellF_len, hwk, offN]; omega, ?_⟩
          refine ⟨k + 1, hk33, by omega, [0, 1, 2], rfl, trivial, ?_, rfl, rfl, rfl⟩
          refine congrArg (fun c => [Chunk.gone, .vals 3 c, .raw (.stringIter polyS (k + 1))]) ?_
          rw [hwk, offN]
          refine cellF_set (F := partF m i k) (F' := partF m i (k + 1)) (by omega) (fun q hq => part_same m i k q hq) sp ?_
          rw [part_next, ← xorI, ← poly_i k hk33]; rfl
        · have hk0 : k = 33 := by omega
          subst hk0
          refine prim_nextS_end (b := 2) (pos := 33) (s := polyS) rfl (by decide) rfl ?_
          refine ⟨i + 1, him, by omega, [0, 1], rfl, ⟨vi (wrap_id (by omega) (by omega)), trivial⟩, ?_, rfl, rfl, rfl⟩
          exact congrArg (fun F => [Chunk.gone, .vals 3 (cellF (m.length + 32) F ++ sp)]) (funext fun q => part_end him hbt q)
      · have hbf : divB m i i = false := by revert hb; cases divB m i i <;> simp [b2i]
        refine ⟨i + 1, him, by omega, [0, 1], rfl, ⟨vi (wrap_id (by omega) (by omega)), trivial⟩, ?_, rfl, rfl, rfl⟩
        exact congrArg (fun F => [Chunk.gone, .vals 3 (cellF (m.length + 32) F ++ sp)]) (funext fun q => by rw [div_next him, hbf]; simp)
    have him : i = m.length := by
      have := of_decide_eq_false hlt
      rw [hw] at this
      omega
    subst him
    clear hlt hi hw
    have hwl : IntKind.i64.wrap (((n + 1 + 32 : Nat) : Int) - 32) = (m.length : Int) := by rw [wrap_id (by omega) (by omega)]; omega
    have hln : (n + 1 + 32 : Nat) - (IntKind.i64.wrap (((n + 1 + 32 : Nat) : Int) - 32)).toNat = 32 := by rw [hwl]; omega
    refine ⟨by rw [hwl]; omega, ?_⟩
    change LoopW _ _ _ _ _ _ _
    apply loop_rule [] (α := Nat) (fun j => [(81, .v (.int .i64 j)), (10, .v (.int .u32 (u32I (orB (bitF s.data.toList) j))))]) (fun _ => [.gone, .vals 3 (cellF (m.length + 32) (divB m m.length) ++ sp)]) (fun _ => g2) (fun j => j ≤ 32) (fun j => 32 - j) 0
    · intro x; kernel_rfl
    · decide
    · exact ⟨rfl, vi (by unfold orB; rfl), trivial⟩
    · rfl
    · rfl
    intro j hj
    refine bsplit_of (fun hlt => ?_) (fun hlt => ?_)
    · have hj32 : j < 32 := by have := of_decide_eq_true hlt; rw [hln] at this; omega
      have hoff : (0 + moved true cap (IntKind.i64.wrap (((n + 1 + 32 : Nat) : Int) - 32)).toNat 1) + ((j : Nat) : Int).toNat * 1 = m.length + j := by
        rw [hwl, moved]
        rw [if_neg (by omega)]
        omega
      refine ⟨⟨by omega, by rw [hln]; omega⟩, ?_⟩
      refine load1_at (x := .int .i64 (b2i (divB m m.length (m.length + j)))) (by rw [hoff]; exact cellF_get (by omega) sp) ?_
      have hbit : divB m m.length (m.length + j) = (crcR s.data.toList).getLsbD j := by rw [div_end m j hj32, hm, ← crcR_bits]
      rw [hbit]
      refine bsplit_of (fun (hb : (b2i ((crcR s.data.toList).getLsbD j) == 0) = true) => ?_) (fun (hb : (b2i ((crcR s.data.toList).getLsbD j) == 0) = false) => ?_)
      · have hf : bitF s.data.toList j = true := by rw [bitF]; revert hb; cases (crcR s.data.toList).getLsbD j <;> simp [b2i]
        refine ⟨by omega, ?_⟩
        refine ⟨j + 1, hj32, by omega, [0, 1], rfl, ⟨vi (wrap_id (by omega) (by omega)), vi ?_, trivial⟩, rfl, rfl, rfl, rfl⟩
        show IntKind.u32.wrap ((BitVec.ofInt IntKind.u32.bits (u32I (orB (bitF s.data.toList) j)) ||| BitVec.ofInt IntKind.u32.bits (IntKind.u32.wrap ((1 : Int) * 2 ^ (min (j : Int).toNat IntKind.u32.bits)))).toNat : Int) = _
        rw [shl32 hj32, or32, orB, if_pos hf]
      · have hf : ¬ bitF s.data.toList j = true := by rw [bitF]; revert hb; cases (crcR s.data.toList).getLsbD j <;> simp [b2i]
        refine ⟨j + 1, hj32, by omega, [0, 1], rfl, ⟨vi (wrap_id (by omega) (by omega)), vi ?_, trivial⟩, rfl, rfl, rfl, rfl⟩
        rw [orB, if_neg hf]
    · have hj32 : j = 32 := by have := of_decide_eq_false hlt; rw [hln] at this; omega
      subst hj32
      exact ⟨ri (by rw [orB_crc]), rfl, hg2⟩
end Go.Proofs.YthajjbcnemdacaaDoor
