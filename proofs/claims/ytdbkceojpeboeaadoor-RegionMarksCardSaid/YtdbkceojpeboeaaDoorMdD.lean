/- ref.Md5: what it returns. Conditions: the text is not longer than 10000 bytes. -/
import Derived.Test.YtdbkceojpeboeaaDoorXmdd
import Derived.Test.YtdbkceojpeboeaaDoorMdM
namespace Go.Proofs.YtdbkceojpeboeaaDoor
open Go.Sx
set_option maxRecDepth 100000
set_option maxHeartbeats 8000000
attribute [local irreducible] Meets

structure OS where
  j : Nat
  off : Nat
  n : Nat
  cap : Nat
  g : G
def mdA (H : Md) (M : Md) (i : Nat) (q : Nat) : BitVec 32 := if q < i then mdWord H q + mdWord M q else mdWord H q
theorem wF_congr {M : Nat} {F F' : Nat → BitVec 32} (h : ∀ q, q < M → F q = F' q) : wF M F = wF M F' := by
  unfold wF
  exact List.map_congr_left fun q hq => by rw [h q (List.mem_range.1 hq)]
theorem gTail (a b i : Nat) (ha : a < 8) (hb : b < 8) (hi : i < 64) : (IntKind.i64.wrap (IntKind.i64.wrap ((a : Int) * (i : Int)) + (b : Int))).tmod 16 = (((a * i + b) % 16 : Nat) : Int) := by
  have hle : a * i ≤ 8 * 64 := Nat.mul_le_mul (by omega) (by omega)
  rw [show (a : Int) * (i : Int) = ((a * i : Nat) : Int) by push_cast; rfl]
  generalize a * i = p at *
  rw [show IntKind.i64.wrap ((p : Nat) : Int) = (p : Int) from wrap_id (by omega) (by omega), wrap_id (by omega) (by omega), Int.tmod_eq_emod_of_nonneg (by omega)]
  omega
theorem mdRef_c (s : ByteArray) (hs : s.size ≤ 10000) (g : G) : Meets Tryd.prog 6 [.v (.string s)] [] g (fun o L' g' => o = .ret (.v (.string (mdSum s))) ∧ L' = [] ∧ G.le g g') := by
  have hl : s.data.toList.length = s.size := by rw [Array.length_toList]; rfl
  obtain ⟨l, hL⟩ : ∃ l, s.data.toList = l := ⟨_, rfl⟩
  have hll : l.length = s.size := by rw [← hL]; exact hl
  have hz := mdZ_lt l.length
  have hP := mdPad_len l
  have hn : IntKind.u64.wrap (IntKind.u64.wrap (s.size : Int) * 8) = ((8 * s.size : Nat) : Int) := by
    rw [u64id (n := s.size) (by omega), show (s.size : Int) * 8 = ((8 * s.size : Nat) : Int) by omega, u64id (by omega)]
  refine meets_ofJ mixedM Tryd.func6 (by kernel_rfl) x6_ok (some []) ?_
  refine prim_bytesR 0 rfl (e := 5) (by kernel_rfl) (by kernel_rfl) (by kernel_rfl) rfl (by omega) fun cap0 sp0 fz0 k1 k2 k3 k4 => ?_
  rw [hL] at k4
  refine ⟨by decide, ?_⟩
  refine ⟨fun u hu => by simp at hu; subst hu; rfl, ?_⟩
  refine ⟨s.data.toList.map bI, sp0, rfl, by rw [List.length_map, hl, Nat.mul_one], ⟨by rw [List.length_append, List.length_map, hl, k3, Nat.mul_one]; omega, k1, k2⟩, by rw [← hL] at k4; exact k4, by omega, fun cap sp fz1 h1 h2 h3 h4 => ?_⟩
  rw [hL]
  rw [hL] at h4
  change LoopW _ _ _ _ _ _ _ _ _ _
  apply loop_rule [2] (α := Nat × BS) (fun y => [(4, .slc 2 0 y.2.n y.2.cap)]) (fun y => [.gone, .cells 5 [.v (.int .u8 128)], .row 5 y.2.cs y.2.fz]) (fun _ => g) (fun y => y.2.xs = l ++ [128] ++ List.replicate y.1 0 ∧ y.1 ≤ mdZ l.length ∧ y.2.ok) (fun y => mdZ l.length - y.1) (0, ⟨l ++ [128], s.size + 1, cap, l.map bI ++ ([Value.int .u8 128] ++ sp), fz1⟩)
  · intro x; kernel_rfl
  · exact ⟨by simp, Nat.zero_le _, BS.push (v := 128) (b := 128) hll.symm rfl h1 h2 h3 h4⟩
  · exact ⟨rfl, trivial⟩
  · rfl
  · rfl
  rintro ⟨k, xs, n, cap1, cs, fz2⟩ ⟨hx0, hk0, hok⟩
  have hx : xs = l ++ [128] ++ List.replicate k 0 := hx0
  have hk : k ≤ mdZ l.length := hk0
  have hnx : n = l.length + 1 + k := by have := hok.1; rw [hx] at this; simp at this; omega
  have hmod : ((n : Int)).tmod 64 = ((n % 64 : Nat) : Int) := by rw [Int.tmod_eq_emod_of_nonneg (by omega)]; omega
  refine ⟨by decide, ?_⟩
  refine bsplit_of (fun (hlt : (((n : Int)).tmod 64 != 56) = true) => ?_) (fun (hlt : (((n : Int)).tmod 64 != 56) = false) => ?_)
  · have hkz : k < mdZ l.length := by
      rw [hmod] at hlt
      have : ¬ ((n % 64 : Nat) : Int) = 56 := by simpa using hlt
      rcases Nat.lt_or_ge k (mdZ l.length) with h | h
      · exact h
      · refine absurd ?_ this
        have : k = mdZ l.length := by omega
        rw [hnx, this]
        unfold mdZ
        omega
    obtain ⟨e1, ⟨sp1, e2⟩, e3, e4, e5, e6⟩ := hok
    have e1 : n = xs.length := e1
    have e2 : cs = xs.map bI ++ sp1 := e2
    have e3 : cs.length = cap1 := e3
    refine ⟨by decide, ?_⟩
    refine ⟨fun u hu => by simp at hu; subst hu; rfl, ?_⟩
    refine ⟨xs.map bI, sp1, e2, by rw [List.length_map, Nat.mul_one, e1], ⟨by rw [Nat.mul_one]; exact e3, e4, e5⟩, e6, by show (n + 1) * 1 ≤ _; omega, fun cap2 sp2 fz3 k1 k2 k3 k4 => ?_⟩
    exact ⟨(k + 1, ⟨xs ++ [0], n + 1, cap2, xs.map bI ++ ([Value.int .u8 0] ++ sp2), fz3⟩), ⟨by show xs ++ [0] = _; rw [hx, List.replicate_succ']; simp, hkz, BS.push (v := 0) (b := 0) e1 rfl k1 k2 k3 k4⟩, by show mdZ l.length - (k + 1) < mdZ l.length - k; omega, [0, 1, 4], rfl, ⟨rfl, trivial⟩, rfl, rfl, rfl, rfl⟩
  have hkz : k = mdZ l.length := by
    rw [hmod] at hlt
    have : ((n % 64 : Nat) : Int) = 56 := by simpa using hlt
    unfold mdZ at hk hz ⊢
    omega
  subst hkz
  change LoopW _ _ _ _ _ _ _ _ _ _
  apply loop_rule [2] (α := Nat × BS) (fun y => [(37, .v (.int .i64 y.1)), (3, .v (.int .u64 ((8 * s.size / 256 ^ y.1 : Nat) : Int))), (4, .slc 2 0 y.2.n y.2.cap)]) (fun y => [.gone, .cells 5 [.v (.int .u8 128)], .row 5 y.2.cs y.2.fz]) (fun _ => g) (fun y => y.2.xs = mdHead l ++ mdLen l y.1 ∧ y.1 ≤ 8 ∧ y.2.ok) (fun y => 8 - y.1) (0, ⟨xs, n, cap1, cs, fz2⟩)
  · intro x; kernel_rfl
  · exact ⟨by show xs = _; rw [hx]; simp [mdHead, mdLen], Nat.zero_le _, hok⟩
  · exact ⟨rfl, vi (by rw [hn, Nat.pow_zero, Nat.div_one]), rfl, trivial⟩
  · rfl
  · rfl
  clear hok hnx hmod hlt hx hk hx0 hk0
  rintro ⟨k, xs, n, cap1, cs, fz2⟩ ⟨hx0, hk0, hok⟩
  have hx : xs = mdHead l ++ mdLen l k := hx0
  have hk : k ≤ 8 := hk0
  have hnx : n = l.length + 1 + mdZ l.length + k := by have := hok.1; rw [hx, List.length_append, mdHead_len, mdLen_len] at this; exact this
  refine bsplit_of (fun (hlt : decide ((k : Int) < 8) = true) => ?_) (fun (hlt : decide ((k : Int) < 8) = false) => ?_)
  · have hk8 : k < 8 := by have : ((k : Int) < 8) := of_decide_eq_true hlt; omega
    obtain ⟨e1, ⟨sp1, e2⟩, e3, e4, e5, e6⟩ := hok
    have e1 : n = xs.length := e1
    have e2 : cs = xs.map bI ++ sp1 := e2
    have e3 : cs.length = cap1 := e3
    refine ⟨by decide, ?_⟩
    refine ⟨Nat.le_refl _, ?_⟩
    refine ⟨fun u hu => by simp at hu; subst hu; rfl, ?_⟩
    refine ⟨xs.map bI, sp1, e2, by rw [List.length_map, Nat.mul_one, e1], ⟨by rw [Nat.mul_one]; exact e3, e4, e5⟩, e6, by show (n + 1) * 1 ≤ _; omega, fun cap2 sp2 fz3 k1 k2 k3 k4 => ?_⟩
    refine ⟨by decide, ?_⟩
    exact ⟨(k + 1, ⟨xs ++ [leB (8 * s.size) k], n + 1, cap2, xs.map bI ++ ([Value.int .u8 (IntKind.u8.wrap (((8 * s.size / 256 ^ k : Nat) : Int).tmod 256))] ++ sp2), fz3⟩), ⟨by show xs ++ [_] = _; rw [hx, mdLen_next, List.append_assoc, hll], hk8, BS.push e1 (low8 _) k1 k2 k3 k4⟩, by show 8 - (k + 1) < 8 - k; omega, [0, 1, 4], rfl, ⟨vi (show IntKind.i64.wrap ((k : Int) + 1) = ((k + 1 : Nat) : Int) from by rw [wrap_id (by omega) (by omega)]; omega), vi (shr8 (8 * s.size) k (by omega)), rfl, trivial⟩, rfl, rfl, rfl, rfl⟩
  have hk8 : k = 8 := by have : ¬ ((k : Int) < 8) := of_decide_eq_false hlt; omega
  subst hk8
  have hx : xs = mdPad l := hx
  subst hx
  have hnB : n = 64 * mdBlks l.length := by rw [← hP]; exact hok.1
  change TurnW _ _ _ _ _ _ _
  refine turn_vals 3 34 (wF 4 (mdWord mdH0)) (by kernel_rfl) ?_
  refine prim_makeMap 4 rfl rfl ?_
  refine prim_insert (kt := 3) (et := 3) (d := .int .i64) (by kernel_rfl) (by kernel_rfl) (by kernel_rfl) rfl rfl rfl ?_
  refine prim_insert (kt := 3) (et := 3) (d := .int .i64) (by kernel_rfl) (by kernel_rfl) (by kernel_rfl) rfl rfl rfl ?_
  refine prim_insert (kt := 3) (et := 3) (d := .int .i64) (by kernel_rfl) (by kernel_rfl) (by kernel_rfl) rfl rfl rfl ?_
  refine prim_insert (kt := 3) (et := 3) (d := .int .i64) (by kernel_rfl) (by kernel_rfl) (by kernel_rfl) rfl rfl rfl ?_
  refine prim_insert (kt := 3) (et := 3) (d := .int .i64) (by kernel_rfl) (by kernel_rfl) (by kernel_rfl) rfl rfl rfl ?_
  refine prim_insert (kt := 3) (et := 3) (d := .int .i64) (by kernel_rfl) (by kernel_rfl) (by kernel_rfl) rfl rfl rfl ?_
  refine prim_insert (kt := 3) (et := 3) (d := .int .i64) (by kernel_rfl) (by kernel_rfl) (by kernel_rfl) rfl rfl rfl ?_
  refine prim_insert (kt := 3) (et := 3) (d := .int .i64) (by kernel_rfl) (by kernel_rfl) (by kernel_rfl) rfl rfl rfl ?_
  refine prim_insert (kt := 3) (et := 3) (d := .int .i64) (by kernel_rfl) (by kernel_rfl) (by kernel_rfl) rfl rfl rfl ?_
  refine prim_insert (kt := 3) (et := 3) (d := .int .i64) (by kernel_rfl) (by kernel_rfl) (by kernel_rfl) rfl rfl rfl ?_
  refine prim_insert (kt := 3) (et := 3) (d := .int .i64) (by kernel_rfl) (by kernel_rfl) (by kernel_rfl) rfl rfl rfl ?_
  refine prim_insert (kt := 3) (et := 3) (d := .int .i64) (by kernel_rfl) (by kernel_rfl) (by kernel_rfl) rfl rfl rfl ?_
  refine prim_insert (kt := 3) (et := 3) (d := .int .i64) (by kernel_rfl) (by kernel_rfl) (by kernel_rfl) rfl rfl rfl ?_
  refine prim_insert (kt := 3) (et := 3) (d := .int .i64) (by kernel_rfl) (by kernel_rfl) (by kernel_rfl) rfl rfl rfl ?_
  refine prim_insert (kt := 3) (et := 3) (d := .int .i64) (by kernel_rfl) (by kernel_rfl) (by kernel_rfl) rfl rfl rfl ?_
  refine prim_insert (kt := 3) (et := 3) (d := .int .i64) (by kernel_rfl) (by kernel_rfl) (by kernel_rfl) rfl rfl rfl ?_
  clear hx0 hk0 hx hk hlt hnx
  change LoopW _ _ _ _ _ _ _ _ _ _
  apply loop_rule [] (α := OS) (fun y => [(4, .slc 2 y.off y.n y.cap)]) (fun y => [.gone, .cells 5 [.v (.int .u8 128)], .row 5 cs fz2, .vals 34 (wF 4 (mdWord (mdRun (mdPad l) y.j))), .raw (.map mdMap 16)]) (fun y => y.g) (fun y => y.j ≤ mdBlks l.length ∧ y.n = 64 * (mdBlks l.length - y.j) ∧ (y.j < mdBlks l.length → y.off = 64 * y.j) ∧ y.n ≤ y.cap ∧ G.le g y.g) (fun y => mdBlks l.length - y.j) ⟨0, 0, n, cap1, g⟩
  · intro x; kernel_rfl
  · exact ⟨Nat.zero_le _, hnB, fun _ => rfl, hok.2.2.2.1, fun _ _ h => h⟩
  · exact ⟨rfl, trivial⟩
  · rfl
  · rfl
  rintro ⟨j, off, m, cap3, g1⟩ ⟨hj, hm, hoff, hcap, hle⟩
  have hj : j ≤ mdBlks l.length := hj
  have hm : m = 64 * (mdBlks l.length - j) := hm
  have hoff : j < mdBlks l.length → off = 64 * j := hoff
  have hle : G.le g g1 := hle
  refine bsplit_of (fun (hlt : decide ((m : Int) > 0) = true) => ?_) (fun (hlt : decide ((m : Int) > 0) = false) => ?_)
  · have hjb : j < mdBlks l.length := by have : ((m : Int) > 0) := of_decide_eq_true hlt; omega
    have hoff : off = 64 * j := hoff hjb
    have hcell : ∀ q, q < 64 → cs[off + q]? = some (bI ((mdPad l).getD (64 * j + q) 0)) := fun q hq => by
      rw [hoff]; exact BS.at (y := ⟨mdPad l, n, cap1, cs, fz2⟩) hok (by show _ < (mdPad l).length; omega)
    obtain ⟨H, hH⟩ : ∃ H, mdRun (mdPad l) j = H := ⟨_, rfl⟩
    obtain ⟨w, hw⟩ : ∃ w, mdW (((mdPad l).drop (64 * j)).take 64) = w := ⟨_, rfl⟩
    refine ⟨⟨by decide, by decide⟩, ?_⟩
    refine load1_at (x := .int .u32 (u32I (mdWord (mdRun (mdPad l) j) 0))) rfl ?_
    refine ⟨⟨by decide, by decide⟩, ?_⟩
    refine load1_at (x := .int .u32 (u32I (mdWord (mdRun (mdPad l) j) 1))) rfl ?_
    refine ⟨⟨by decide, by decide⟩, ?_⟩
    refine load1_at (x := .int .u32 (u32I (mdWord (mdRun (mdPad l) j) 2))) rfl ?_
    refine ⟨⟨by decide, by decide⟩, ?_⟩
    refine load1_at (x := .int .u32 (u32I (mdWord (mdRun (mdPad l) j) 3))) rfl ?_
    change LoopW _ _ _ _ _ _ _ _ _ _
    apply loop_rule [] (α := Nat × G) (fun y => [(68, .v (.int .i64 y.1)), (7, .v (.int .u32 (u32I (mdN w y.1 H).a))), (8, .v (.int .u32 (u32I (mdN w y.1 H).b))), (9, .v (.int .u32 (u32I (mdN w y.1 H).c))), (10, .v (.int .u32 (u32I (mdN w y.1 H).d)))]) (fun _ => [.gone, .cells 5 [.v (.int .u8 128)], .row 5 cs fz2, .vals 34 (wF 4 (mdWord H)), .raw (.map mdMap 16)]) (fun y => y.2) (fun y => y.1 ≤ 64 ∧ G.le g y.2) (fun y => 64 - y.1) (0, g1)
    · intro x; kernel_rfl
    · exact ⟨Nat.zero_le _, hle⟩
    · exact ⟨rfl, by rw [← hH]; rfl, by rw [← hH]; rfl, by rw [← hH]; rfl, by rw [← hH]; rfl, trivial⟩
    · rw [← hH]
    · rfl
    rintro ⟨i, g2⟩ ⟨hi, hle2⟩
    have hi : i ≤ 64 := hi
    have hle2 : G.le g g2 := hle2
    refine bsplit_of (fun (hlt : decide ((i : Int) < 64) = true) => ?_) (fun (hlt : decide ((i : Int) < 64) = false) => ?_)
    · have hi64 : i < 64 := by have : ((i : Int) < 64) := of_decide_eq_true hlt; omega
      obtain ⟨M, hM⟩ : ∃ M, mdN w i H = M := ⟨_, rfl⟩
      change JoinW _ _ _ _ _ _ _ _ _ _
      refine join_rule [] (α := Unit) (fun _ => [(12, .v (.int .u32 (u32I (mdF i (mdN w i H).b (mdN w i H).c (mdN w i H).d)))), (13, .v (.int .i64 (mdG i : Nat)))]) (fun _ => [.gone, .cells 5 [.v (.int .u8 128)], .row 5 cs fz2, .vals 34 (wF 4 (mdWord H)), .raw (.map mdMap 16)]) (fun _ => g2) (fun _ => True) (fun y => by kernel_rfl) ?_ ?_
      · refine bsplit_of (fun (k0 : decide ((i : Int) < 16) = true) => ?_) (fun (k0 : decide ((i : Int) < 16) = false) => ?_)
        · have h1 : i < 16 := by have := of_decide_eq_true k0; omega
          exact ⟨(), trivial, [0, 1, 2, 3, 4], rfl, ⟨vi (by rw [xor32, and32, xor32, mdF_ref, if_pos h1]), vi (show (i : Int) = ((mdG i : Nat) : Int) from by rw [mdG, if_pos h1]), trivial⟩, rfl, rfl, rfl, rfl⟩
        have h1 : ¬ i < 16 := by have := of_decide_eq_false k0; omega
        refine bsplit_of (fun (k1 : decide ((i : Int) < 32) = true) => ?_) (fun (k1 : decide ((i : Int) < 32) = false) => ?_)
        · have h2 : i < 32 := by have := of_decide_eq_true k1; omega
          refine ⟨by decide, ?_⟩
          exact ⟨(), trivial, [0, 1, 2, 3, 4], rfl, ⟨vi (by rw [xor32, and32, xor32, mdF_ref, if_neg h1, if_pos h2]), vi (show (IntKind.i64.wrap (IntKind.i64.wrap (5 * (i : Int)) + 1)).tmod 16 = ((mdG i : Nat) : Int) from by rw [mdG, if_neg h1, if_pos h2]; exact gTail 5 1 i (by omega) (by omega) hi64), trivial⟩, rfl, rfl, rfl, rfl⟩
        have h2 : ¬ i < 32 := by have := of_decide_eq_false k1; omega
        refine bsplit_of (fun (k2 : decide ((i : Int) < 48) = true) => ?_) (fun (k2 : decide ((i : Int) < 48) = false) => ?_)
        · have h3 : i < 48 := by have := of_decide_eq_true k2; omega
          refine ⟨by decide, ?_⟩
          exact ⟨(), trivial, [0, 1, 2, 3, 4], rfl, ⟨vi (by rw [xor32, xor32, mdF_ref, if_neg h1, if_neg h2, if_pos h3]), vi (show (IntKind.i64.wrap (IntKind.i64.wrap (3 * (i : Int)) + 5)).tmod 16 = ((mdG i : Nat) : Int) from by rw [mdG, if_neg h1, if_neg h2, if_pos h3]; exact gTail 3 5 i (by omega) (by omega) hi64), trivial⟩, rfl, rfl, rfl, rfl⟩
        have h3 : ¬ i < 48 := by have := of_decide_eq_false k2; omega
        refine ⟨by decide, ?_⟩
        exact ⟨(), trivial, [0, 1, 2, 3, 4], rfl, ⟨vi (by rw [show (4294967295 : Int) = u32I 0xffffffff#32 from rfl, xor32, or32, xor32, mdF_ref, if_neg h1, if_neg h2, if_neg h3]), vi (show (IntKind.i64.wrap (7 * (i : Int))).tmod 16 = ((mdG i : Nat) : Int) from by rw [mdG, if_neg h1, if_neg h2, if_neg h3]; rw [show IntKind.i64.wrap (7 * (i : Int)) = ((7 * i : Nat) : Int) from by rw [wrap_id (by omega) (by omega)]; omega, Int.tmod_eq_emod_of_nonneg (by omega)]; omega), trivial⟩, rfl, rfl, rfl, rfl⟩
      intro _ _
      have hg16 : mdG i < 16 := mdG_lt hi64
      have hgI : ∀ q : Nat, q < 4 → IntKind.i64.wrap (IntKind.i64.wrap (4 * ((mdG i : Nat) : Int)) + (q : Int)) = ((4 * mdG i + q : Nat) : Int) := fun q hq => by
        rw [show IntKind.i64.wrap (4 * ((mdG i : Nat) : Int)) = 4 * ((mdG i : Nat) : Int) from wrap_id (by omega) (by omega), wrap_id (by omega) (by omega)]; omega
      have hg0 : IntKind.i64.wrap (4 * ((mdG i : Nat) : Int)) = ((4 * mdG i : Nat) : Int) := by rw [wrap_id (by omega) (by omega)]; omega
      have hm64 : 64 ≤ m := by omega
      refine ⟨⟨show (0 : Int) ≤ IntKind.i64.wrap (4 * ((mdG i : Nat) : Int)) from by rw [hg0]; omega, show IntKind.i64.wrap (4 * ((mdG i : Nat) : Int)) < (m : Int) from by rw [hg0]; omega⟩, ?_⟩
      refine load1_at (x := bI ((mdPad l).getD (64 * j + 4 * mdG i) 0)) (show cs[off + (IntKind.i64.wrap (4 * ((mdG i : Nat) : Int))).toNat * 1]? = _ from by rw [hg0, Int.toNat_natCast, Nat.mul_one]; exact hcell _ (by omega)) ?_
      refine ⟨⟨show (0 : Int) ≤ IntKind.i64.wrap (IntKind.i64.wrap (4 * ((mdG i : Nat) : Int)) + ((1 : Nat) : Int)) from by rw [hgI 1 (by decide)]; omega, show IntKind.i64.wrap (IntKind.i64.wrap (4 * ((mdG i : Nat) : Int)) + ((1 : Nat) : Int)) < (m : Int) from by rw [hgI 1 (by decide)]; omega⟩, ?_⟩
      refine load1_at (x := bI ((mdPad l).getD (64 * j + (4 * mdG i + 1)) 0)) (show cs[off + (IntKind.i64.wrap (IntKind.i64.wrap (4 * ((mdG i : Nat) : Int)) + ((1 : Nat) : Int))).toNat * 1]? = _ from by rw [hgI 1 (by decide), Int.toNat_natCast, Nat.mul_one]; exact hcell _ (by omega)) ?_
      refine ⟨⟨show (0 : Int) ≤ IntKind.i64.wrap (IntKind.i64.wrap (4 * ((mdG i : Nat) : Int)) + ((2 : Nat) : Int)) from by rw [hgI 2 (by decide)]; omega, show IntKind.i64.wrap (IntKind.i64.wrap (4 * ((mdG i : Nat) : Int)) + ((2 : Nat) : Int)) < (m : Int) from by rw [hgI 2 (by decide)]; omega⟩, ?_⟩
      refine load1_at (x := bI ((mdPad l).getD (64 * j + (4 * mdG i + 2)) 0)) (show cs[off + (IntKind.i64.wrap (IntKind.i64.wrap (4 * ((mdG i : Nat) : Int)) + ((2 : Nat) : Int))).toNat * 1]? = _ from by rw [hgI 2 (by decide), Int.toNat_natCast, Nat.mul_one]; exact hcell _ (by omega)) ?_
      refine ⟨⟨show (0 : Int) ≤ IntKind.i64.wrap (IntKind.i64.wrap (4 * ((mdG i : Nat) : Int)) + ((3 : Nat) : Int)) from by rw [hgI 3 (by decide)]; omega, show IntKind.i64.wrap (IntKind.i64.wrap (4 * ((mdG i : Nat) : Int)) + ((3 : Nat) : Int)) < (m : Int) from by rw [hgI 3 (by decide)]; omega⟩, ?_⟩
      refine load1_at (x := bI ((mdPad l).getD (64 * j + (4 * mdG i + 3)) 0)) (show cs[off + (IntKind.i64.wrap (IntKind.i64.wrap (4 * ((mdG i : Nat) : Int)) + ((3 : Nat) : Int))).toNat * 1]? = _ from by rw [hgI 3 (by decide), Int.toNat_natCast, Nat.mul_one]; exact hcell _ (by omega)) ?_
      refine (sine_c i hi64 g2).call0 rfl rfl 5 rfl ?_
      rintro o L1 g3 ⟨rfl, rfl, hle3⟩
      refine ⟨by decide, ?_⟩
      refine ⟨by decide, ?_⟩
      refine prim_lookup (some (4 * (i / 16) + i % 4, .int .i64 (mdR i : Nat))) (kt := 3) (et := 3) (d := .int .i64) (z := .int .i64 0) (i := Tryd.t3) (by kernel_rfl) (by kernel_rfl) (by kernel_rfl) (by kernel_rfl) rfl rfl rfl (mdLook_at hi64) ?_
      have hR := mdR_lt i hi64
      refine ⟨show (0 : Int) ≤ ((mdR i : Nat) : Int) from by omega, ?_⟩
      refine ⟨show (0 : Int) ≤ IntKind.i64.wrap (32 - ((mdR i : Nat) : Int)) from by rw [wrap_id (by omega) (by omega)]; omega, ?_⟩
      refine ⟨(i + 1, g3), ⟨hi64, fun b o h => hle3 b o (hle2 b o h)⟩, by show 64 - (i + 1) < 64 - i; omega, [0, 1, 2, 3, 4], rfl, ⟨vi (show IntKind.i64.wrap ((i : Int) + 1) = ((i + 1 : Nat) : Int) from by rw [wrap_id (by omega) (by omega)]; omega), rfl, vi ?_, rfl, rfl, trivial⟩, rfl, rfl, rfl, rfl⟩
      have hS := refStep w i M hi64
      rw [← hw, ← wsum (mdPad l) j (mdG i) hg16, hw] at hS
      rw [hM]
      refine Eq.trans hS ?_
      show _ = u32I (mdStep w i (mdN w i H)).b
      rw [hM]
    have hi64 : i = 64 := by have : ¬ ((i : Int) < 64) := of_decide_eq_false hlt; omega
    subst hi64
    obtain ⟨M, hM⟩ : ∃ M, mdN w 64 H = M := ⟨_, rfl⟩
    change LoopW _ _ _ _ _ _ _ _ _ _
    apply loop_rule [] (α := Nat) (fun i => [(186, .v (.int .i64 i))]) (fun i => [.gone, .cells 5 [.v (.int .u8 128)], .row 5 cs fz2, .vals 34 (wF 4 (mdA H M i)), .raw (.map mdMap 16), .cells 34 [.v (.int .u32 (u32I M.a)), .v (.int .u32 (u32I M.b)), .v (.int .u32 (u32I M.c)), .v (.int .u32 (u32I M.d))]]) (fun _ => g2) (fun i => i ≤ 4) (fun i => 4 - i) 0
    · intro x; kernel_rfl
    · exact Nat.zero_le _
    · exact ⟨rfl, trivial⟩
    · rw [← hM]; rfl
    · rfl
    intro i hi
    refine bsplit_of (fun (hlt : decide ((i : Int) < 4) = true) => ?_) (fun (hlt : decide ((i : Int) < 4) = false) => ?_)
    · have hi4 : i < 4 := by have : ((i : Int) < 4) := of_decide_eq_true hlt; omega
      have hB : (0 : Int) ≤ ((i : Nat) : Int) ∧ ((i : Nat) : Int) < ((4 : Nat) : Int) := ⟨by omega, by omega⟩
      refine ⟨hB, ?_⟩
      refine load1_cV (c := wordV M) (x := .int .u32 (u32I (mdWord M i))) rfl (show (wordV M)[0 + ((i : Int)).toNat * 1]? = _ from by rw [offN]; exact wordV_get M hi4) ?_
      refine ⟨hB, ?_⟩
      refine load1_at (x := .int .u32 (u32I (mdWord H i))) (show (wF 4 (mdA H M i))[0 + ((i : Int)).toNat * 1]? = _ from by rw [offN, wF_get hi4, mdA, if_neg (Nat.lt_irrefl i)]) ?_
      refine ⟨hB, ?_⟩
      refine ⟨rfl, fun u hu => by simp [Value.cells] at hu; subst hu; rfl, show 0 + ((i : Int)).toNat * 1 + 1 ≤ (wF 4 (mdA H M i)).length from by rw [wF_len, offN]; omega, ?_⟩
      refine ⟨i + 1, hi4, by show 4 - (i + 1) < 4 - i; omega, [0, 1, 2, 3, 4, 5], rfl, ⟨vi (show IntKind.i64.wrap ((i : Int) + 1) = ((i + 1 : Nat) : Int) from by rw [wrap_id (by omega) (by omega)]; omega), trivial⟩, ?_, rfl, rfl, rfl⟩
      refine congrArg (fun c => [Chunk.gone, .cells 5 [.v (.int .u8 128)], .row 5 cs fz2, .vals 34 c, .raw (.map mdMap 16), .cells 34 [.v (.int .u32 (u32I M.a)), .v (.int .u32 (u32I M.b)), .v (.int .u32 (u32I M.c)), .v (.int .u32 (u32I M.d))]]) ?_
      rw [offN]
      refine wF_set (F := mdA H M i) (F' := mdA H M (i + 1)) hi4 (fun q hq => ?_) ?_
      · have : (q < i + 1) = (q < i) := by simp only [eq_iff_iff]; omega
        unfold mdA
        simp only [this]
      · show Value.int .u32 (IntKind.u32.wrap (u32I (mdWord H i) + u32I (mdWord M i))) = _
        rw [add32, mdA, if_pos (by omega)]
    have hi4 : i = 4 := by have : ¬ ((i : Int) < 4) := of_decide_eq_false hlt; omega
    subst hi4
    have hm64 : 64 ≤ m := by omega
    have hcap3 : m ≤ cap3 := hcap
    refine ⟨⟨by decide, show (64 : Int) ≤ (m : Int) from by omega⟩, ?_⟩
    refine ⟨⟨j + 1, off + moved true cap3 64 1, m - 64, cap3 - 64, g2⟩, ⟨hjb, by show m - 64 = 64 * (mdBlks l.length - (j + 1)); omega, fun h => ?_, by show m - 64 ≤ cap3 - 64; omega, hle2⟩, by show mdBlks l.length - (j + 1) < mdBlks l.length - j; omega, [0, 1, 2, 3, 4], rfl, ⟨rfl, trivial⟩, ?_, rfl, rfl, rfl⟩
    · have h : j + 1 < mdBlks l.length := h
      show off + moved true cap3 64 1 = 64 * (j + 1)
      have : ¬ cap3 = 64 := by omega
      simp only [moved, if_neg this]
      omega
    · have e : wF 4 (mdA H M 4) = wF 4 (mdWord (mdRun (mdPad l) (j + 1))) := wF_congr fun q hq => by
        rw [mdA, if_pos hq, mdRun, hH, hw, mdWord_add H M w hM]
      show [Chunk.gone, .cells 5 [.v (.int .u8 128)], .row 5 cs fz2, .vals 34 (wF 4 (mdA H M 4)), .raw (.map mdMap 16)] = _
      rw [e]
      rfl
  have hjB : j = mdBlks l.length := by have : ¬ ((m : Int) > 0) := of_decide_eq_false hlt; omega
  subst hjB
  obtain ⟨H, hH⟩ : ∃ H, mdRun (mdPad l) (mdBlks l.length) = H := ⟨_, rfl⟩
  have hHS : mdSum s = ofL (mdOut H 16) := by rw [mdSum, hL, ← hll, hH]
  rw [hHS]
  change LoopW _ _ _ _ _ _ _ _ _ _
  apply loop_rule [] (α := Nat) (fun i => [(201, .v (.int .i64 i)), (19, .v (.string (ofL (mdOut H (4 * i)))))]) (fun _ => [.gone, .cells 5 [.v (.int .u8 128)], .row 5 cs fz2, .vals 34 (wF 4 (mdWord H)), .raw (.map mdMap 16)]) (fun _ => g1) (fun i => i ≤ 4) (fun i => 4 - i) 0
  · intro x; kernel_rfl
  · exact Nat.zero_le _
  · exact ⟨rfl, rfl, trivial⟩
  · rw [← hH]
  · rfl
  intro i hi
  refine bsplit_of (fun (hlt : decide ((i : Int) < 4) = true) => ?_) (fun (hlt : decide ((i : Int) < 4) = false) => ?_)
  · have hi4 : i < 4 := by have : ((i : Int) < 4) := of_decide_eq_true hlt; omega
    have hB : (0 : Int) ≤ ((i : Nat) : Int) ∧ ((i : Nat) : Int) < ((4 : Nat) : Int) := ⟨by omega, by omega⟩
    have hwl := (mdWord H i).isLt
    refine ⟨hB, ?_⟩
    refine load1_at (x := .int .u32 (u32I (mdWord H i))) (show (wF 4 (mdWord H))[0 + ((i : Int)).toNat * 1]? = _ from by rw [offN, wF_get hi4]) ?_
    change LoopW _ _ _ _ _ _ _ _ _ _
    apply loop_rule [] (α := Nat) (fun k => [(205, .v (.int .i64 k)), (19, .v (.string (ofL (mdOut H (4 * i + k))))), (21, .v (.int .u32 (((mdWord H i).toNat / 256 ^ k : Nat) : Int)))]) (fun _ => [.gone, .cells 5 [.v (.int .u8 128)], .row 5 cs fz2, .vals 34 (wF 4 (mdWord H)), .raw (.map mdMap 16)]) (fun _ => g1) (fun k => k ≤ 4) (fun k => 4 - k) 0
    · intro x; kernel_rfl
    · exact Nat.zero_le _
    · exact ⟨rfl, rfl, vi (by rw [Nat.pow_zero, Nat.div_one]; rfl), trivial⟩
    · rfl
    · rfl
    intro k hk
    refine bsplit_of (fun (hlt : decide ((k : Int) < 4) = true) => ?_) (fun (hlt : decide ((k : Int) < 4) = false) => ?_)
    · have hk4 : k < 4 := by have : ((k : Int) < 4) := of_decide_eq_true hlt; omega
      refine ⟨by decide, ?_⟩
      refine ⟨by show (ofL (mdOut H (4 * i + k))).size + 1 ≤ _; rw [ofL_size]; simp [mdOut]; omega, ?_⟩
      refine ⟨by decide, ?_⟩
      refine ⟨k + 1, hk4, by show 4 - (k + 1) < 4 - k; omega, [0, 1, 2, 3, 4], rfl, ⟨vi (show IntKind.i64.wrap ((k : Int) + 1) = ((k + 1 : Nat) : Int) from by rw [wrap_id (by omega) (by omega)]; omega), vs ?_, vi (shr8w (mdWord H i).toNat k hwl), trivial⟩, rfl, rfl, rfl, rfl⟩
      show ofL (mdOut H (4 * i + k)) ++ bytesOfInts [IntKind.u8.wrap ((((mdWord H i).toNat / 256 ^ k : Nat) : Int).tmod 256)] = ofL (mdOut H (4 * i + k + 1))
      rw [low8, mdOut_next, ← ofL_app]
      refine congrArg (fun x => ofL (mdOut H (4 * i + k)) ++ x) ?_
      show ofL [UInt8.ofNat (((UInt8.ofNat ((mdWord H i).toNat / 256 ^ k)).toNat : Nat) : Int).toNat] = _
      rw [Int.toNat_natCast, UInt8.ofNat_toNat, mdOutB, show (4 * i + k) / 4 = i by omega, show (4 * i + k) % 4 = k by omega]
    have hk4 : k = 4 := by have : ¬ ((k : Int) < 4) := of_decide_eq_false hlt; omega
    subst hk4
    exact ⟨i + 1, hi4, by show 4 - (i + 1) < 4 - i; omega, [0, 1, 2, 3, 4], rfl, ⟨vi (show IntKind.i64.wrap ((i : Int) + 1) = ((i + 1 : Nat) : Int) from by rw [wrap_id (by omega) (by omega)]; omega), rfl, trivial⟩, rfl, rfl, rfl, rfl⟩
  have hi4 : i = 4 := by have : ¬ ((i : Int) < 4) := of_decide_eq_false hlt; omega
  subst hi4
  exact ⟨rfl, rfl, hle⟩
end Go.Proofs.YtdbkceojpeboeaaDoor
