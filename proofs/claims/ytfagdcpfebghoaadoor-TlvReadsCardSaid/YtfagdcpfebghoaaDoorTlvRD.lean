/- tlv.Read, the law TlvReads: what each returns. Conditions: the text is not longer than 10^9 bytes; of the law: the variable errors.errorType is as laid. -/
import Derived.Test.YtfagdcpfebghoaaDoorTlvRC
namespace Go.Proofs.YtfagdcpfebghoaaDoor
open Go.Sx
set_option maxRecDepth 100000
set_option maxHeartbeats 8000000
attribute [local irreducible] Meets

/-- Two slices that grew are given up with the function's end. -/
theorem freeze2 {f : FuncId} {args : List SV} {g : G} (d : SV) (hd : ∀ k b, d.frz k b = d) (R : List (TlvV × Int) → Value → Prop) (E : Out → List Chunk → G → Prop)
    (h : Meets Tryd.prog f args [] g (fun o L' g' => (∃ l c cap sp cap2 sp2, o = .ret (.tup [grS 0 l.length cap, grS 1 l.length cap2, .v c, d]) ∧ L' = tlvL l.length (tlvXs l ++ sp) (tlvAs l ++ sp2) ∧ grOk 2 l.length cap (tlvXs l) sp ∧ grOk 1 l.length cap2 (tlvAs l) sp2 ∧ R l c ∧ G.le g g') ∨ E o L' g')) :
    Meets Tryd.prog f args [] g (fun o L' g' => (∃ l c, ∃ a : SliceV TlvV, ∃ b : SliceV Int, R l c ∧ a.l = l.map Prod.fst ∧ b.l = l.map Prod.snd ∧ o = .ret (.tup [.v (.slice a.a a.l.length a.c), .v (.slice b.a b.l.length b.c), .v c, d]) ∧ L' = [] ∧ a.ok 2 TlvV.cells (fun _ => True) g' ∧ b.ok 1 (intC .i64) (fun _ => True) g' ∧ G.le g g') ∨ E o L' g') := by
  refine Meets.freezeV (post := fun o L' g' => (∃ l c cap sp, ∃ b : SliceV Int, b.l = l.map Prod.snd ∧ o = .ret (.tup [grS 0 l.length cap, .v (.slice b.a b.l.length b.c), .v c, d]) ∧ L' = grL 102 l.length (tlvXs l) sp ∧ grOk 2 l.length cap (tlvXs l) sp ∧ b.ok 1 (intC .i64) (fun _ => True) g' ∧ R l c ∧ G.le g g') ∨ E o L' g') (Meets.freezeV h ?_) ?_
  · intro o L' g' hk
    rcases hk with ⟨l, c, cap, sp, cap2, sp2, rfl, rfl, ho1, ho2, hR, hle⟩ | hE
    · rcases l with _ | ⟨x, l⟩
      · exact .inl (.inl ⟨[], c, 0, [], ⟨none, [], 0⟩, rfl, rfl, rfl, grOk.zero 2, sliceV_nil _ _ _ _, hR, hle⟩)
      · refine .inr ⟨[.vals 102 (tlvXs (x :: l) ++ sp)], 3, tlvAs (x :: l) ++ sp2, rfl, Nat.zero_le _, fun b g'' hl hb => .inl ⟨x :: l, c, cap, sp, ⟨some ⟨b, 0, none⟩, (x :: l).map Prod.snd, cap2⟩, rfl, ?_, rfl, ho1, sliceV_frz (by rw [List.length_map]; exact ho2) hb (fun _ _ => trivial), hR, le_trans hle hl⟩⟩
        show Out.ret (.tup [.slc 0 0 (l.length + 1) cap, .v (.slice (some ⟨b, 0, none⟩) (l.length + 1) cap2), .v c, d.frz 1 b]) = .ret (.tup [.slc 0 0 (l.length + 1) cap, .v (.slice (some ⟨b, 0, none⟩) ((x :: l).map Prod.snd).length cap2), .v c, d])
        rw [hd, List.length_map]
        rfl
    · exact .inl (.inr hE)
  · intro o L' g' hk
    rcases hk with ⟨l, c, cap, sp, b, hb, rfl, rfl, ho1, hok, hR, hle⟩ | hE
    · rcases l with _ | ⟨x, l⟩
      · exact .inl (.inl ⟨[], c, ⟨none, [], 0⟩, b, hR, rfl, hb, rfl, rfl, sliceV_nil _ _ _ _, hok, hle⟩)
      · refine .inr ⟨[], 102, tlvXs (x :: l) ++ sp, rfl, Nat.zero_le _, fun k g'' hl hk => .inl ⟨x :: l, c, ⟨some ⟨k, 0, none⟩, (x :: l).map Prod.fst, cap⟩, b, hR, rfl, hb, ?_, rfl, sliceV_frz (by rw [List.length_map]; exact ho1) hk (fun _ _ => trivial), SliceV.ok.mono hok hl fun _ h => h, le_trans hle hl⟩⟩
        show Out.ret (.tup [.v (.slice (some ⟨k, 0, none⟩) (l.length + 1) cap), .v (.slice b.a b.l.length b.c), .v c, d.frz 0 k]) = .ret (.tup [.v (.slice (some ⟨k, 0, none⟩) ((x :: l).map Prod.fst).length cap), .v (.slice b.a b.l.length b.c), .v c, d])
        rw [hd, List.length_map]
        rfl
    · exact .inl (.inr hE)

theorem refTlvRead_c (s : ByteArray) (g : G) (hs : s.size ≤ 1000000000) : Meets Tryd.prog 63 [.v (.string s)] [] g (fun o L' g' =>
    (∃ l c, ∃ a : SliceV TlvV, ∃ b : SliceV Int, (∃ e : Int, c = .int .i64 e ∧ ∃ cu, cuTlvs (s.size + 1) [] (cur0 s) = .ok (l, e) cu) ∧ a.l = l.map Prod.fst ∧ b.l = l.map Prod.snd ∧ o = .ret (.tup [.v (.slice a.a a.l.length a.c), .v (.slice b.a b.l.length b.c), .v c, .agg [.v (.int .i64 0), .v (.int .i64 (-1))]]) ∧ L' = [] ∧ a.ok 2 TlvV.cells (fun _ => True) g' ∧ b.ok 1 (intC .i64) (fun _ => True) g' ∧ G.le g g') ∨
    (∃ e pl cu, cuTlvs (s.size + 1) [] (cur0 s) = .thr e pl cu ∧ o = .ret (.tup [.v (.slice none 0 0), .v (.slice none 0 0), .v (.int .i64 0), .agg [.v (.int .i64 e), .v (.int .i64 pl)]]) ∧ L' = [] ∧ G.le g g')) := by
  refine freeze2 (.agg [.v (.int .i64 0), .v (.int .i64 (-1))]) (fun _ _ => rfl) (fun l c => ∃ e : Int, c = .int .i64 e ∧ ∃ cu, cuTlvs (s.size + 1) [] (cur0 s) = .ok (l, e) cu) _ ((refTlvRead_b s g hs).mono fun o L' g' h => ?_)
  rcases hm : cuTlvs (s.size + 1) [] (cur0 s) with ⟨⟨l, e⟩, cu⟩ | ⟨e, pl, cu⟩
  · rw [hm] at h
    obtain ⟨cap, sp, cap2, sp2, h1, h2, h3, h4, h5⟩ := h
    exact .inl ⟨l, .int .i64 e, cap, sp, cap2, sp2, h1, h2, h4, h5, ⟨e, rfl, cu, rfl⟩, h3⟩
  · rw [hm] at h
    exact .inr ⟨e, pl, cu, rfl, h.1, h.2.1, h.2.2⟩

theorem bytes_fwd {r r' : RdV} {n : Nat} (h : (r.bytes n).2 = r') (h0 : r.err = none) (h1 : r'.err = none) : r'.at_ = r.at_ + n ∧ r'.s = r.s ∧ r'.off = r.off := by
  by_cases k : (r.s.size : Int) - r.at_ < n
  · rw [RdV.bytes_short h0 (by omega) k] at h
    subst h; cases h1
  · rw [RdV.bytes_good h0 (by omega) k] at h
    subst h
    exact ⟨by simp, rfl, rfl⟩
theorem rdTlvs_dead {r : RdV} {p : Int × Int} (h : r.err = some p) : ∀ k l, (rdTlvs k l r).2 = r
  | 0, _ => rfl
  | k + 1, l => by rw [rdTlvs, rdIfOk_some h]

theorem shr9 {n : Nat} (h : n < 65536) : (n : Int).fdiv (2 ^ (min (Int.toNat 9) IntKind.i64.bits)) = ((n / 512 : Nat) : Int) := by
  show (n : Int).fdiv (2 ^ (min 9 IntKind.i64.bits)) = _
  rw [shr64 (by decide)]; omega
theorem tlvOf_shr {n : Nat} (h : n < 65536) (s : ByteArray) : tlvOf n s = ⟨(n : Int).fdiv (2 ^ (min (Int.toNat 9) IntKind.i64.bits)), s⟩ := by rw [shr9 h]; rfl
theorem and511 {n : Nat} (h : n < 65536) : IntKind.i64.wrap ((BitVec.ofInt IntKind.i64.bits (n : Int) &&& BitVec.ofInt IntKind.i64.bits 511).toNat : Int) = ((n % 512 : Nat) : Int) := by
  have := and64 (a := n) (b := 511) (by omega) (by decide)
  rw [show n &&& 511 = n % 512 from Nat.and_two_pow_sub_one_eq_mod n 9] at this
  exact this
def meas (k : Nat) : Option (Int × Int) → Nat
  | none => k + 1
  | some _ => k
theorem meas_lt (k : Nat) (e : Option (Int × Int)) : meas k e < meas (k + 1) none := by cases e <;> simp only [meas] <;> omega
theorem tlvRead_b (s : ByteArray) (g : G) (hs : s.size ≤ 1000000000) : Meets Tryd.prog 64 [.v (.string s)] [] g (fun o L' g' => 
    (∃ l c cap sp cap2 sp2, o = .ret (.tup [grS 0 l.length cap, grS 1 l.length cap2, .v c, .v .nilIface]) ∧ L' = tlvL l.length (tlvXs l ++ sp) (tlvAs l ++ sp2) ∧ grOk 2 l.length cap (tlvXs l) sp ∧ grOk 1 l.length cap2 (tlvAs l) sp2 ∧ (∃ e : Int, c = .int .i64 e ∧ ∃ r : RdV, r.err = none ∧ rdTlvs (s.size + 1) [] (rd0 s) = ((l, e), r)) ∧ G.le g g') ∨
    (∃ p v, (rdTlvs (s.size + 1) [] (rd0 s)).2.err = some p ∧ o = .ret (.tup [.v (.slice none 0 0), .v (.slice none 0 0), .v (.int .i64 0), .v v]) ∧ L' = [] ∧ errAt g' v (some p) ∧ G.le g g')) := by
  have hR0 := rd0_at (show s.size ≤ 1000000000000 by omega) g
  have hs0 : (rd0 s).s = s ∧ (rd0 s).at_ = 0 ∧ (rd0 s).off = 0 := ⟨rfl, rfl, rfl⟩
  generalize hM : rdTlvs (s.size + 1) [] (rd0 s) = M
  obtain ⟨r0, hr0⟩ : ∃ r0, rd0 s = r0 := ⟨_, rfl⟩
  have he0 : r0.err = none := by rw [← hr0]; rfl
  rw [hr0] at hM hR0 hs0
  refine meets_of mixedW Tryd.func64 (by kernel_rfl) x64_ok none ?_
  refine (new_c s 0 g).call0 rfl rfl 0 rfl ?_
  rintro o L1 g0 ⟨rfl, rfl, rfl⟩
  change LoopW _ _ _ _ _ _ _
  refine loop_gone (loop_gone ?_)
  apply loop_rule [1, 2] (α := TlvSt × RdV × Value × G) (fun y => [(7, grS 1 y.1.n y.1.cap), (8, grS 2 y.1.n y.1.cap2)]) (fun y => [rdC y.2.1 y.2.2.1, grC 102 y.1.n (tlvXs y.1.l) y.1.sp, grC 3 y.1.n (tlvAs y.1.l) y.1.sp2]) (fun y => y.2.2.2)
    (fun y => y.1.ok ∧ RdAt g0 y.2.2.2 y.2.2.1 y.2.1 ∧ (y.2.1.err = none → (y.2.1.s = s ∧ y.2.1.off = 0) ∧ 2 * y.1.n ≤ y.2.1.at_ ∧ s.size < 2 * y.1.k + y.2.1.at_ ∧ rdTlvs y.1.k y.1.l y.2.1 = M) ∧ (y.2.1.err ≠ none → M.2.err = y.2.1.err)) (fun y => meas y.1.k y.2.1.err) (⟨s.size + 1, 0, [], 0, [], 0, []⟩, r0, .nilIface, _)
  · intro x
    obtain ⟨⟨k, n, l, cap, sp, cap2, sp2⟩, c, v, gl⟩ := x
    cases n <;> kernel_rfl
  · exact ⟨⟨rfl, grOk.zero 2, grOk.zero 1⟩, hR0, fun _ => ⟨⟨hs0.1, hs0.2.2⟩, Nat.zero_le _, by show s.size < 2 * (s.size + 1) + r0.at_; omega, hM⟩, fun h => absurd he0 h⟩
  · exact ⟨rfl, rfl, trivial⟩
  · rw [← hr0]; rfl
  · rfl
  clear hM
  intro y hy
  obtain ⟨⟨k, n, l, cap, sp, cap2, sp2⟩, rL, vL, gl⟩ := y
  obtain ⟨⟨hl, ho1, ho2⟩, hR, hgood, hbad⟩ := hy
  dsimp only at hl ho1 ho2 hR hgood hbad
  rcases n with _ | n
  · obtain rfl : l = [] := List.eq_nil_of_length_eq_zero hl
    refine (err_k hR).callS [0] 3 rfl rfl rfl rfl ?_
    rintro o L1 gE ⟨rfl, rfl, rfl⟩ _
    rcases he : rL.err with _ | p
    rotate_left
    · obtain ⟨ad, rfl, hat⟩ := hR.some he
      have hM := hbad (by rw [he]; simp)
      refine (err_k hR).callS [0] 3 rfl rfl rfl rfl ?_
      rintro o L1 gE ⟨rfl, rfl, rfl⟩ _
      exact ⟨[], .inr ⟨p, _, by rw [hM, he], rfl, rfl, ⟨ad, rfl, hat⟩, hR.1⟩⟩
    obtain rfl := hR.nil he
    obtain ⟨⟨hsS, hoff⟩, hat, hk, hM⟩ := hgood he
    have hsz : rL.at_ ≤ s.size := by rw [← hsS]; exact hR.2.1.1
    obtain ⟨k, rfl⟩ : ∃ j, k = j + 1 := ⟨k - 1, by omega⟩
    rw [rdTlvs, rdIfOk_none he, RM.bind_eq (show rdAt rL = (rL.place, rL) from rfl)] at hM
    refine (at_k hR).callS [0] 3 rfl rfl rfl rfl ?_
    rintro o L1 gA ⟨rfl, rfl, rfl⟩ _
    refine (num_k hR 2 (by decide) (by decide)).callS [0] 3 rfl rfl rfl rfl ?_
    intro o L1 g1 hq _
    rcases hx1 : rdNum 2 rL with ⟨x1, r1⟩
    rw [hx1] at hq
    dsimp only at hq
    first | rw [RM.bind_eq hx1] at hM | skip
    obtain ⟨rfl, v1, rfl, hR1⟩ := hq
    have hlt := rdNum_lt 2 rL
    rw [hx1] at hlt
    have hlt : x1 < 65536 := hlt
    have hn1 : (rL.bytes (2 : Nat)).2 = r1 := (congrArg Prod.snd hx1 : (rL.num 2).2 = r1)
    refine (err_k hR1).callS [0] 3 rfl rfl rfl rfl ?_
    rintro o L1 gF ⟨rfl, rfl, rfl⟩ _
    have hbytes := bytes_k hR1 (x1 % 512) (by omega)
    rw [← and511 hlt] at hbytes
    rcases he1 : r1.err with _ | p
    · obtain rfl := hR1.nil he1
      obtain ⟨fa, fs, fo⟩ := bytes_fwd hn1 he he1
      rw [rdIfOk_none he1] at hM
      refine ⟨by decide, ?_⟩
      rcases Nat.lt_or_ge x1 512 with k5 | k5
      · rw [if_pos k5] at hM
        refine bsplit_of (fun _ => ?_) (fun h => absurd h (by rw [shr9 hlt, Nat.div_eq_of_lt k5]; simp))
        rcases Nat.eq_zero_or_pos x1 with rfl | kp
        · refine (zeros_k hR1).callS [0] 3 rfl rfl rfl rfl ?_
          rintro o L1 gZ ⟨rfl, vZ, rfl, hRZ⟩ _
          have hM : (([], rL.place), r1.zeros) = M := hM
          obtain ⟨rz, hz⟩ : ∃ rz, r1.zeros = rz := ⟨_, rfl⟩
          rw [hz] at hRZ hM ⊢
          rcases hez : rz.err with _ | p
          · exact ⟨[], .inl ⟨[], .int .i64 rL.place, 0, [], 0, [], rfl, rfl, grOk.zero 2, grOk.zero 1, ⟨_, rfl, rz, hez, hM.symm⟩, hRZ.1⟩⟩
          · obtain ⟨ad, rfl, hat⟩ := hRZ.some hez
            refine (err_k hRZ).callS [0] 3 rfl rfl rfl rfl ?_
            rintro o L1 gE ⟨rfl, rfl, rfl⟩ _
            exact ⟨[], .inr ⟨p, _, by rw [← hM]; exact hez, rfl, rfl, ⟨ad, rfl, hat⟩, hRZ.1⟩⟩
        · have hb : decide (0 < x1) = true := decide_eq_true kp
          rw [hb] at hM
          have hM : (([], rL.place), (r1.fail 3 rL.place).zeros) = M := hM
          have hef : (r1.fail 3 rL.place).err = some (3, rL.place) := by rw [RdV.fail, he1]
          rw [RdV.zeros_err hef] at hM
          refine bsplit_of (fun _ => ?_) (fun h => absurd h (by simp; omega))
          refine (fail_k hR1 3 rL.place).callS [0] 3 rfl rfl rfl rfl ?_
          rintro o L1 gZ ⟨rfl, vZ, rfl, hRZ⟩ _
          obtain ⟨ad, rfl, hat⟩ := hRZ.some hef
          refine (zeros_k hRZ).callS [0] 3 rfl rfl rfl rfl ?_
          rintro o L1 gY ⟨rfl, vY, rfl, hRY⟩ _
          rw [RdV.zeros_err hef] at hRY ⊢
          obtain ⟨ad, rfl, hat⟩ := hRY.some hef
          rw [hef]
          refine (err_k hRY).callS [0] 3 rfl rfl rfl rfl ?_
          rintro o L1 gE ⟨rfl, rfl, rfl⟩ _
          exact ⟨[], .inr ⟨(3, rL.place), _, by rw [← hM]; exact hef, rfl, rfl, ⟨ad, rfl, hat⟩, hRY.1⟩⟩
      · rw [if_neg (by omega)] at hM
        refine bsplit_of (fun h => absurd h (by rw [shr9 hlt]; simp; omega)) (fun _ => ?_)
        refine ⟨by decide, ?_⟩
        refine hbytes.callS [0] 3 rfl rfl rfl rfl ?_
        intro o L1 g2 hq _
        rcases hx2 : rdBytes (x1 % 512) r1 with ⟨x2, r2⟩
        rw [hx2] at hq
        dsimp only at hq
        rw [RM.bind_eq hx2, tlvOf_shr hlt] at hM
        obtain ⟨rfl, v2, rfl, hR2⟩ := hq
        have hn2 : (r1.bytes ((x1 % 512 : Nat) : Int)).2 = r2 := congrArg Prod.snd hx2
        have good : r2.err = none → (r2.s = s ∧ r2.off = 0) ∧ 2 * (0 + 1) ≤ r2.at_ ∧ s.size < 2 * k + r2.at_ ∧ rdTlvs k ([] ++ [(⟨(x1 : Int).fdiv (2 ^ (min (Int.toNat 9) IntKind.i64.bits)), x2⟩, rL.place)]) r2 = M := fun e2 => by
          obtain ⟨fa2, fs2, fo2⟩ := bytes_fwd hn2 he1 e2
          exact ⟨⟨by rw [fs2, fs, hsS], by rw [fo2, fo, hoff]⟩, by omega, by omega, hM⟩
        have bad : r2.err ≠ none → M.2.err = r2.err := fun e2 => by
          rcases h2 : r2.err with _ | p
          · exact absurd h2 e2
          · rw [← hM, rdTlvs_dead h2, h2]
        refine ⟨by show 0 + 1 * 2 ≤ 2; decide, fun u hu => by simp at hu; rcases hu with rfl | rfl <;> rfl, ?_⟩
        refine ⟨by decide, fun cap sp k1 k2 k3 => ?_⟩
        refine ⟨by show 0 + 1 * 1 ≤ 1; decide, fun u hu => by simp at hu; subst hu; rfl, ?_⟩
        refine ⟨by decide, fun cap2 sp2 k4 k5 k6 => ?_⟩
        exact ⟨(⟨k, 1, [(⟨(x1 : Int).fdiv (2 ^ (min (Int.toNat 9) IntKind.i64.bits)), x2⟩, rL.place)], cap, sp, cap2, sp2⟩, r2, v2, g2), ⟨⟨rfl, gr_first rfl k1 k2 k3, gr_first rfl k4 k5 k6⟩, hR2, good, bad⟩, by show meas k r2.err < meas (k + 1) none; exact meas_lt k _, [0, 5, 7], rfl, ⟨rfl, rfl, trivial⟩, rfl, rfl, rfl, rfl⟩
    · obtain ⟨ad, rfl, hat⟩ := hR1.some he1
      rw [rdIfOk_some he1] at hM
      refine ⟨by decide, ?_⟩
      refine hbytes.callS [0] 3 rfl rfl rfl rfl ?_
      intro o L1 g2 hq _
      rcases hx2 : rdBytes (x1 % 512) r1 with ⟨x2, r2⟩
      rw [hx2] at hq
      dsimp only at hq
      obtain ⟨rfl, v2, rfl, hR2⟩ := hq
      have hn2 : (r1.bytes ((x1 % 512 : Nat) : Int)).2 = r2 := congrArg Prod.snd hx2
      rw [RdV.bytes_dead he1] at hn2
      have hn2 : r1 = r2 := hn2
      have good : r2.err = none → (r2.s = s ∧ r2.off = 0) ∧ 2 * (0 + 1) ≤ r2.at_ ∧ s.size < 2 * k + r2.at_ ∧ rdTlvs k ([] ++ [(⟨(x1 : Int).fdiv (2 ^ (min (Int.toNat 9) IntKind.i64.bits)), x2⟩, rL.place)]) r2 = M := fun e2 => by
        rw [← hn2, he1] at e2; cases e2
      have bad : r2.err ≠ none → M.2.err = r2.err := fun _ => by rw [← hM, ← hn2]
      refine ⟨by show 0 + 1 * 2 ≤ 2; decide, fun u hu => by simp at hu; rcases hu with rfl | rfl <;> rfl, ?_⟩
      refine ⟨by decide, fun cap sp k1 k2 k3 => ?_⟩
      refine ⟨by show 0 + 1 * 1 ≤ 1; decide, fun u hu => by simp at hu; subst hu; rfl, ?_⟩
      refine ⟨by decide, fun cap2 sp2 k4 k5 k6 => ?_⟩
      exact ⟨(⟨k, 1, [(⟨(x1 : Int).fdiv (2 ^ (min (Int.toNat 9) IntKind.i64.bits)), x2⟩, rL.place)], cap, sp, cap2, sp2⟩, r2, v2, g2), ⟨⟨rfl, gr_first rfl k1 k2 k3, gr_first rfl k4 k5 k6⟩, hR2, good, bad⟩, by show meas k r2.err < meas (k + 1) none; exact meas_lt k _, [0, 5, 7], rfl, ⟨rfl, rfl, trivial⟩, rfl, rfl, rfl, rfl⟩
  ·
    refine (err_k hR).callS [0] 3 rfl rfl rfl rfl ?_
    rintro o L1 gE ⟨rfl, rfl, rfl⟩ _
    rcases he : rL.err with _ | p
    rotate_left
    · obtain ⟨ad, rfl, hat⟩ := hR.some he
      have hM := hbad (by rw [he]; simp)
      refine (err_k hR).callS [0] 3 rfl rfl rfl rfl ?_
      rintro o L1 gE ⟨rfl, rfl, rfl⟩ _
      exact ⟨[], .inr ⟨p, _, by rw [hM, he], rfl, rfl, ⟨ad, rfl, hat⟩, hR.1⟩⟩
    obtain rfl := hR.nil he
    obtain ⟨⟨hsS, hoff⟩, hat, hk, hM⟩ := hgood he
    have hsz : rL.at_ ≤ s.size := by rw [← hsS]; exact hR.2.1.1
    obtain ⟨k, rfl⟩ : ∃ j, k = j + 1 := ⟨k - 1, by omega⟩
    rw [rdTlvs, rdIfOk_none he, RM.bind_eq (show rdAt rL = (rL.place, rL) from rfl)] at hM
    refine (at_k hR).callS [0] 3 rfl rfl rfl rfl ?_
    rintro o L1 gA ⟨rfl, rfl, rfl⟩ _
    refine (num_k hR 2 (by decide) (by decide)).callS [0] 3 rfl rfl rfl rfl ?_
    intro o L1 g1 hq _
    rcases hx1 : rdNum 2 rL with ⟨x1, r1⟩
    rw [hx1] at hq
    dsimp only at hq
    first | rw [RM.bind_eq hx1] at hM | skip
    obtain ⟨rfl, v1, rfl, hR1⟩ := hq
    have hlt := rdNum_lt 2 rL
    rw [hx1] at hlt
    have hlt : x1 < 65536 := hlt
    have hn1 : (rL.bytes (2 : Nat)).2 = r1 := (congrArg Prod.snd hx1 : (rL.num 2).2 = r1)
    refine (err_k hR1).callS [0] 3 rfl rfl rfl rfl ?_
    rintro o L1 gF ⟨rfl, rfl, rfl⟩ _
    have hbytes := bytes_k hR1 (x1 % 512) (by omega)
    rw [← and511 hlt] at hbytes
    rcases he1 : r1.err with _ | p
    · obtain rfl := hR1.nil he1
      obtain ⟨fa, fs, fo⟩ := bytes_fwd hn1 he he1
      rw [rdIfOk_none he1] at hM
      refine ⟨by decide, ?_⟩
      rcases Nat.lt_or_ge x1 512 with k5 | k5
      · rw [if_pos k5] at hM
        refine bsplit_of (fun _ => ?_) (fun h => absurd h (by rw [shr9 hlt, Nat.div_eq_of_lt k5]; simp))
        rcases Nat.eq_zero_or_pos x1 with rfl | kp
        · refine (zeros_k hR1).callS [0] 3 rfl rfl rfl rfl ?_
          rintro o L1 gZ ⟨rfl, vZ, rfl, hRZ⟩ _
          have hM : ((l, rL.place), r1.zeros) = M := hM
          obtain ⟨rz, hz⟩ : ∃ rz, r1.zeros = rz := ⟨_, rfl⟩
          rw [hz] at hRZ hM ⊢
          rcases hez : rz.err with _ | p
          · exact ⟨[1, 2], .inl ⟨l, .int .i64 rL.place, cap, sp, cap2, sp2, by rw [hl]; rfl, by rw [hl]; rfl, by rw [hl]; exact ho1, by rw [hl]; exact ho2, ⟨_, rfl, rz, hez, hM.symm⟩, hRZ.1⟩⟩
          · obtain ⟨ad, rfl, hat⟩ := hRZ.some hez
            refine (err_k hRZ).callS [0] 3 rfl rfl rfl rfl ?_
            rintro o L1 gE ⟨rfl, rfl, rfl⟩ _
            exact ⟨[], .inr ⟨p, _, by rw [← hM]; exact hez, rfl, rfl, ⟨ad, rfl, hat⟩, hRZ.1⟩⟩
        · have hb : decide (0 < x1) = true := decide_eq_true kp
          rw [hb] at hM
          have hM : ((l, rL.place), (r1.fail 3 rL.place).zeros) = M := hM
          have hef : (r1.fail 3 rL.place).err = some (3, rL.place) := by rw [RdV.fail, he1]
          rw [RdV.zeros_err hef] at hM
          refine bsplit_of (fun _ => ?_) (fun h => absurd h (by simp; omega))
          refine (fail_k hR1 3 rL.place).callS [0] 3 rfl rfl rfl rfl ?_
          rintro o L1 gZ ⟨rfl, vZ, rfl, hRZ⟩ _
          obtain ⟨ad, rfl, hat⟩ := hRZ.some hef
          refine (zeros_k hRZ).callS [0] 3 rfl rfl rfl rfl ?_
          rintro o L1 gY ⟨rfl, vY, rfl, hRY⟩ _
          rw [RdV.zeros_err hef] at hRY ⊢
          obtain ⟨ad, rfl, hat⟩ := hRY.some hef
          rw [hef]
          refine (err_k hRY).callS [0] 3 rfl rfl rfl rfl ?_
          rintro o L1 gE ⟨rfl, rfl, rfl⟩ _
          exact ⟨[], .inr ⟨(3, rL.place), _, by rw [← hM]; exact hef, rfl, rfl, ⟨ad, rfl, hat⟩, hRY.1⟩⟩
      · rw [if_neg (by omega)] at hM
        refine bsplit_of (fun h => absurd h (by rw [shr9 hlt]; simp; omega)) (fun _ => ?_)
        refine ⟨by decide, ?_⟩
        refine hbytes.callS [0] 3 rfl rfl rfl rfl ?_
        intro o L1 g2 hq _
        rcases hx2 : rdBytes (x1 % 512) r1 with ⟨x2, r2⟩
        rw [hx2] at hq
        dsimp only at hq
        rw [RM.bind_eq hx2, tlvOf_shr hlt] at hM
        obtain ⟨rfl, v2, rfl, hR2⟩ := hq
        have hn2 : (r1.bytes ((x1 % 512 : Nat) : Int)).2 = r2 := congrArg Prod.snd hx2
        have good : r2.err = none → (r2.s = s ∧ r2.off = 0) ∧ 2 * (n + 1 + 1) ≤ r2.at_ ∧ s.size < 2 * k + r2.at_ ∧ rdTlvs k (l ++ [(⟨(x1 : Int).fdiv (2 ^ (min (Int.toNat 9) IntKind.i64.bits)), x2⟩, rL.place)]) r2 = M := fun e2 => by
          obtain ⟨fa2, fs2, fo2⟩ := bytes_fwd hn2 he1 e2
          exact ⟨⟨by rw [fs2, fs, hsS], by rw [fo2, fo, hoff]⟩, by omega, by omega, hM⟩
        have bad : r2.err ≠ none → M.2.err = r2.err := fun e2 => by
          rcases h2 : r2.err with _ | p
          · exact absurd h2 e2
          · rw [← hM, rdTlvs_dead h2, h2]
        have g1 := gr_bounds ho1
        have g2' := gr_bounds ho2
        refine ⟨by show 0 + 1 * 2 ≤ 2; decide, fun u hu => by simp at hu; rcases hu with rfl | rfl <;> rfl, ?_⟩
        refine ⟨tlvXs l, sp, rfl, g1.1, ⟨g1.2.1, g1.2.2.1, g1.2.2.2⟩, by omega, fun cap3 sp3 k1 k2 k3 => ?_⟩
        refine ⟨by show 0 + 1 * 1 ≤ 1; decide, fun u hu => by simp at hu; subst hu; rfl, ?_⟩
        refine ⟨tlvAs l, sp2, rfl, g2'.1, ⟨g2'.2.1, g2'.2.2.1, g2'.2.2.2⟩, by omega, fun cap4 sp4 k4 k5 k6 => ?_⟩
        refine ⟨(⟨k, n + 1 + 1, l ++ [(⟨(x1 : Int).fdiv (2 ^ (min (Int.toNat 9) IntKind.i64.bits)), x2⟩, rL.place)], cap3, sp3, cap4, sp4⟩, r2, v2, g2), ⟨⟨by simp [hl], by rw [tlvXs_snoc]; exact gr_next ho1 rfl k1 k2 k3, by rw [tlvAs_snoc]; exact gr_next ho2 rfl k4 k5 k6⟩, hR2, good, bad⟩, by show meas k r2.err < meas (k + 1) none; exact meas_lt k _, [0, 5, 7], rfl, ⟨rfl, rfl, trivial⟩, ?_, rfl, rfl, rfl⟩
        exact two (fun a b => [rdC r2 v2, .vals 102 a, .vals 3 b])
          (show tlvXs l ++ ([.int .i64 ((x1 : Int).fdiv (2 ^ (min (Int.toNat 9) IntKind.i64.bits))), .string x2] ++ sp3) = tlvXs (l ++ [(⟨(x1 : Int).fdiv (2 ^ (min (Int.toNat 9) IntKind.i64.bits)), x2⟩, rL.place)]) ++ sp3 by rw [tlvXs_snoc, List.append_assoc]; rfl)
          (show tlvAs l ++ ([.int .i64 rL.place] ++ sp4) = tlvAs (l ++ [(⟨(x1 : Int).fdiv (2 ^ (min (Int.toNat 9) IntKind.i64.bits)), x2⟩, rL.place)]) ++ sp4 by rw [tlvAs_snoc, List.append_assoc])
    · obtain ⟨ad, rfl, hat⟩ := hR1.some he1
      rw [rdIfOk_some he1] at hM
      refine ⟨by decide, ?_⟩
      refine hbytes.callS [0] 3 rfl rfl rfl rfl ?_
      intro o L1 g2 hq _
      rcases hx2 : rdBytes (x1 % 512) r1 with ⟨x2, r2⟩
      rw [hx2] at hq
      dsimp only at hq
      obtain ⟨rfl, v2, rfl, hR2⟩ := hq
      have hn2 : (r1.bytes ((x1 % 512 : Nat) : Int)).2 = r2 := congrArg Prod.snd hx2
      rw [RdV.bytes_dead he1] at hn2
      have hn2 : r1 = r2 := hn2
      have good : r2.err = none → (r2.s = s ∧ r2.off = 0) ∧ 2 * (n + 1 + 1) ≤ r2.at_ ∧ s.size < 2 * k + r2.at_ ∧ rdTlvs k (l ++ [(⟨(x1 : Int).fdiv (2 ^ (min (Int.toNat 9) IntKind.i64.bits)), x2⟩, rL.place)]) r2 = M := fun e2 => by
        rw [← hn2, he1] at e2; cases e2
      have bad : r2.err ≠ none → M.2.err = r2.err := fun _ => by rw [← hM, ← hn2]
      have g1 := gr_bounds ho1
      have g2' := gr_bounds ho2
      refine ⟨by show 0 + 1 * 2 ≤ 2; decide, fun u hu => by simp at hu; rcases hu with rfl | rfl <;> rfl, ?_⟩
      refine ⟨tlvXs l, sp, rfl, g1.1, ⟨g1.2.1, g1.2.2.1, g1.2.2.2⟩, by omega, fun cap3 sp3 k1 k2 k3 => ?_⟩
      refine ⟨by show 0 + 1 * 1 ≤ 1; decide, fun u hu => by simp at hu; subst hu; rfl, ?_⟩
      refine ⟨tlvAs l, sp2, rfl, g2'.1, ⟨g2'.2.1, g2'.2.2.1, g2'.2.2.2⟩, by omega, fun cap4 sp4 k4 k5 k6 => ?_⟩
      refine ⟨(⟨k, n + 1 + 1, l ++ [(⟨(x1 : Int).fdiv (2 ^ (min (Int.toNat 9) IntKind.i64.bits)), x2⟩, rL.place)], cap3, sp3, cap4, sp4⟩, r2, v2, g2), ⟨⟨by simp [hl], by rw [tlvXs_snoc]; exact gr_next ho1 rfl k1 k2 k3, by rw [tlvAs_snoc]; exact gr_next ho2 rfl k4 k5 k6⟩, hR2, good, bad⟩, by show meas k r2.err < meas (k + 1) none; exact meas_lt k _, [0, 5, 7], rfl, ⟨rfl, rfl, trivial⟩, ?_, rfl, rfl, rfl⟩
      exact two (fun a b => [rdC r2 v2, .vals 102 a, .vals 3 b])
        (show tlvXs l ++ ([.int .i64 ((x1 : Int).fdiv (2 ^ (min (Int.toNat 9) IntKind.i64.bits))), .string x2] ++ sp3) = tlvXs (l ++ [(⟨(x1 : Int).fdiv (2 ^ (min (Int.toNat 9) IntKind.i64.bits)), x2⟩, rL.place)]) ++ sp3 by rw [tlvXs_snoc, List.append_assoc]; rfl)
        (show tlvAs l ++ ([.int .i64 rL.place] ++ sp4) = tlvAs (l ++ [(⟨(x1 : Int).fdiv (2 ^ (min (Int.toNat 9) IntKind.i64.bits)), x2⟩, rL.place)]) ++ sp4 by rw [tlvAs_snoc, List.append_assoc])

theorem tlvRead_c (s : ByteArray) (g : G) (hs : s.size ≤ 1000000000) : Meets Tryd.prog 64 [.v (.string s)] [] g (fun o L' g' =>
    (∃ l c, ∃ a : SliceV TlvV, ∃ b : SliceV Int, (∃ e : Int, c = .int .i64 e ∧ ∃ r : RdV, r.err = none ∧ rdTlvs (s.size + 1) [] (rd0 s) = ((l, e), r)) ∧ a.l = l.map Prod.fst ∧ b.l = l.map Prod.snd ∧ o = .ret (.tup [.v (.slice a.a a.l.length a.c), .v (.slice b.a b.l.length b.c), .v c, .v .nilIface]) ∧ L' = [] ∧ a.ok 2 TlvV.cells (fun _ => True) g' ∧ b.ok 1 (intC .i64) (fun _ => True) g' ∧ G.le g g') ∨
    (∃ p v, (rdTlvs (s.size + 1) [] (rd0 s)).2.err = some p ∧ o = .ret (.tup [.v (.slice none 0 0), .v (.slice none 0 0), .v (.int .i64 0), .v v]) ∧ L' = [] ∧ errAt g' v (some p) ∧ G.le g g')) :=
  freeze2 (.v .nilIface) (fun _ _ => rfl) (fun l c => ∃ e : Int, c = .int .i64 e ∧ ∃ r : RdV, r.err = none ∧ rdTlvs (s.size + 1) [] (rd0 s) = ((l, e), r)) _ (tlvRead_b s g hs)

/-- The law TlvReads. -/
theorem tlvReads_c (s : ByteArray) (g : G) (_ : sok s) (hE : ErrVar g) : Meets Tryd.prog 13 [.v (.string s)] [] g (fun o _ _ => o = .ret (.v (.bool true))) := by
  refine meets_of mixedW Tryd.func13 (by kernel_rfl) x13_ok none ?_
  refine bsplit_of (fun _ => ⟨[], rfl⟩) (fun hlen => ?_)
  have hs : s.size ≤ 1000000000 := by have := of_decide_eq_false hlen; omega
  obtain ⟨h1, h2⟩ := (tlvs_sim (s.size + 1) []).run s
  refine (refTlvRead_c s g hs).call0 rfl rfl 0 rfl ?_
  intro o L1 g1 hq
  rcases hq with ⟨l, c, a, b, ⟨e, rfl, cu, hm⟩, ha, hb, rfl, rfl, oka, okb, le1⟩ | ⟨e, pl, cu, hm, rfl, rfl, le1⟩
  · obtain ⟨hv, he⟩ := h1 _ cu hm
    refine (tlvRead_c s g1 hs).call0 rfl rfl 1 rfl ?_
    intro o L1 g2 hq
    rcases hq with ⟨l', c', a', b', ⟨e', rfl, r', hr', hm'⟩, ha', hb', rfl, rfl, oka', okb', le2⟩ | ⟨p, v, hm', -⟩
    · have heq : (l', e') = (l, e) := by
        have : (rdTlvs (s.size + 1) [] (rd0 s)).1 = (l, e) := hv
        rw [hm'] at this
        exact this
      obtain ⟨rfl, rfl⟩ := Prod.mk.inj heq
      refine (placed_c .nilIface 0 (-1) 0 (-1) _ (G.at.mono (le_trans le1 le2) hE) .nil).call rfl rfl rfl ?_
      have la : a.l.length = a'.l.length := by rw [ha, ha']
      have lb : b.l.length = b'.l.length := by rw [hb, hb']
      have lab : a.l.length = b.l.length := by rw [ha, hb]; simp
      have oka2 := SliceV.ok.mono oka le2 fun _ h => h
      have okb2 := SliceV.ok.mono okb le2 fun _ h => h
      have hl1 := oka2.len
      refine bsplit_of (fun h => absurd h (by simp [la])) (fun _ => ?_)
      refine bsplit_of (fun h => absurd h (by simp [lb])) (fun _ => ?_)
      refine bsplit_of (fun h => absurd h (by simp)) (fun _ => ?_)
      change LoopW _ _ _ _ _ _ _
      apply loop_rule [] (α := Nat) (fun x => [(54, .v (.int .i64 x))]) (fun _ => [.cells 83 [.v (.int .i64 0), .v (.int .i64 (-1))]]) (fun _ => g2) (fun x => x ≤ a.l.length) (fun x => a.l.length - x) 0
      · intro x; kernel_rfl
      · exact Nat.zero_le _
      · exact ⟨rfl, trivial⟩
      · rfl
      · rfl
      intro k hk
      refine bsplit_of (fun hlt => ?_) (fun _ => ⟨[], rfl⟩)
      have hlt' : k < a.l.length := by have := of_decide_eq_true hlt; omega
      obtain ⟨d1, x, e1, x1, at1, -⟩ := oka2.elem (fun _ => rfl) hlt'
      obtain ⟨d2, y, e2, y1, at2, -⟩ := oka'.elem (i := k) (fun _ => rfl) (by omega)
      obtain ⟨d3, z, e3, z1, at3, -⟩ := okb2.elem (i := k) (fun _ => rfl) (by omega)
      obtain ⟨d4, w, e4, w1, at4, -⟩ := okb'.elem (i := k) (fun _ => rfl) (by omega)
      obtain rfl : x = y := by rw [ha, ← ha', y1] at x1; cases x1; rfl
      obtain rfl : z = w := by rw [hb, ← hb', w1] at z1; cases z1; rfl
      refine ⟨⟨by omega, by omega⟩, d1, e1, ?_⟩
      refine ⟨x.cells, rfl, at1, ?_⟩
      refine ⟨⟨by omega, by omega⟩, d2, e2, ?_⟩
      refine ⟨x.cells, rfl, at2, ?_⟩
      refine bsplit_of (fun h => absurd h (by simp)) (fun _ => ?_)
      refine ⟨⟨by omega, by omega⟩, d3, e3, ?_⟩
      refine ⟨[.int .i64 z], rfl, at3, ?_⟩
      refine ⟨⟨by omega, by omega⟩, d4, e4, ?_⟩
      refine ⟨[.int .i64 z], rfl, at4, ?_⟩
      refine bsplit_of (fun h => absurd h (by simp)) (fun _ => ?_)
      exact ⟨k + 1, hlt', by omega, [0], rfl, ⟨vi (wrap_id (by omega) (by omega)), trivial⟩, rfl, rfl, rfl, rfl⟩
    · have : (rdTlvs (s.size + 1) [] (rd0 s)).2.err = none := he
      rw [hm'] at this; cases this
  · have he := h2 e pl cu hm
    refine (tlvRead_c s g1 hs).call0 rfl rfl 1 rfl ?_
    intro o L1 g2 hq
    rcases hq with ⟨l', c', a', b', ⟨e', rfl, r', hr', hm'⟩, -⟩ | ⟨p, v, hm', rfl, rfl, ⟨ad, rfl, hat⟩, le2⟩
    · have : (rdTlvs (s.size + 1) [] (rd0 s)).2.err = some (e, pl) := he
      rw [hm', hr'] at this; cases this
    · have : (rdTlvs (s.size + 1) [] (rd0 s)).2.err = some (e, pl) := he
      rw [hm'] at this; cases this
      refine (placed_c _ e pl e pl _ (G.at.mono (le_trans le1 le2) hE) (.at_ ad _ _ hat)).call rfl rfl rfl ?_
      refine bsplit_of (fun h => absurd h (by simp)) (fun _ => ?_)
      change LoopW _ _ _ _ _ _ _
      apply loop_rule [] (α := Nat) (fun x => [(54, .v (.int .i64 x))]) (fun _ => [.cells 83 [.v (.int .i64 e), .v (.int .i64 pl)]]) (fun _ => g2) (fun x => x = 0) (fun x => 1 - x) 0
      · intro x; kernel_rfl
      · rfl
      · exact ⟨rfl, trivial⟩
      · rfl
      · rfl
      rintro k rfl
      exact ⟨[], rfl⟩
end Go.Proofs.YtfagdcpfebghoaaDoor
