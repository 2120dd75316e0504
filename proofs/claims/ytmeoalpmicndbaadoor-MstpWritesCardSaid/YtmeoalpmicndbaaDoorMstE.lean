/- mstp.Write: what it returns. Conditions: the slices lie where they say. -/
import Derived.Test.YtmeoalpmicndbaaDoorMstD
import Derived.Test.YtmeoalpmicndbaaDoorZeroC
import Derived.Test.YtmeoalpmicndbaaDoorStrBC
namespace Go.Proofs.YtmeoalpmicndbaaDoor
open Go.Sx Go.Lib Go.RowKit
set_option maxRecDepth 100000
set_option maxHeartbeats 8000000
attribute [local irreducible] Meets
attribute [local instance] Classical.propDecidable
attribute [local irreducible] zeroS

instance szZero (n : Nat) : Sz (zeroS n) n := ⟨by rw [zeroS_size]; exact Nat.le_refl _⟩
instance szBody (b : BpduV) : Sz (bodyS b) 31 := ⟨by rw [bodyS_size]; exact Nat.le_refl _⟩
instance szBridge (b : BridgeV) : Sz (bridgeS b) 8 := ⟨by rw [bridgeS_size]; exact Nat.le_refl _⟩
theorem bpduB_three {b : BpduV} (h : bpduB b = true) (k3 : b.kind = 3) : (0 ≤ b.flags.role ∧ b.flags.role ≤ 3) ∧ bpduR b := by
  simp [bpduB, k3, flagsOk] at h
  exact ⟨by omega, h.2⟩
theorem write0E (s u : ByteArray) (e : s = u) (g : G) (h0 : 0 < s.size) (hs : s.size ≤ 140737488355328) : Meets Tryd.prog 79 [.ptr 0 0, .v (.string s)] bld0 g
    (fun o L' g' => ∃ cap sp, (u.size + sp.length = cap ∧ cap ≤ 9223372036854775807) ∧ o = .ret (.tup [.v (.int .i64 s.size), .v .nilIface]) ∧ L' = bld u.size cap (strCells u ++ sp) ∧ g' = g) := by
  subst e
  exact write0 s g h0 hs
theorem repM_c (n : Nat) (hn : n ≤ 60) (g : G) : Tells Tryd.prog 102 [.v (.string ⟨#[0]⟩), .v (.int .i64 n)] g (.v (.string (zeroS n))) :=
  Tells.of_below (by kernel_rfl) rfl fun _ w _ => by unfold zeroS; exact sh_strings_Repeat ⟨#[0]⟩ n w (by omega) (by show 1 * n ≤ _; omega)

def mS1 (m : MstV) : ByteArray := ⟨#[0, 0, 3, 2]⟩ ++ bodyS m.base ++ ⟨#[0]⟩ ++ beS 2 (64 + 16 * (m.insts.l.length : Int)).toNat
def mS2 (m : MstV) : ByteArray := ⟨#[0]⟩ ++ m.name ++ zeroS (32 - m.name.size) ++ beS 2 m.rev.toNat ++ m.digest
def mS3 (m : MstV) : ByteArray := beS 4 m.cost.toNat ++ bridgeS m.bridge ++ beS 1 m.hops.toNat
def mstH (m : MstV) : ByteArray := mS1 m ++ mS2 m ++ mS3 m
theorem sz4 (a b c d : UInt8) : (⟨#[a, b, c, d]⟩ : ByteArray).size = 4 := rfl
theorem mS1_size (m : MstV) : (mS1 m).size = 38 := by simp only [mS1, ByteArray.size_append, beS_size, bodyS_size, sz1, sz4]
theorem mS2_size (m : MstV) (h : m.name.size ≤ 32) (hd : m.digest.size = 16) : (mS2 m).size = 51 := by simp only [mS2, ByteArray.size_append, beS_size, sz1, zeroS_size, hd]; omega
theorem mS3_size (m : MstV) : (mS3 m).size = 13 := by simp only [mS3, ByteArray.size_append, beS_size, bridgeS_size]
def recS (x : InstV) : ByteArray := beS 1 (byteR x.flags).toNat ++ bridgeS x.root ++ beS 4 x.cost.toNat ++ beS 1 (16 * x.bridge).toNat ++ beS 1 (16 * x.port).toNat ++ beS 1 x.hops.toNat
theorem recS_size (x : InstV) : (recS x).size = 16 := by simp only [recS, ByteArray.size_append, beS_size, bridgeS_size]
def recsS (l : List InstV) : ByteArray := l.foldl (fun s x => s ++ recS x) emp
theorem recsS_snoc (l : List InstV) (x : InstV) : recsS (l ++ [x]) = recsS l ++ recS x := by simp [recsS]
theorem recsF_size : ∀ (l : List InstV) (s : ByteArray), (l.foldl (fun s x => s ++ recS x) s).size = s.size + 16 * l.length
  | [], s => by simp
  | t :: l, s => by rw [List.foldl_cons, recsF_size l, ByteArray.size_append, recS_size, List.length_cons]; omega
theorem recsS_size (l : List InstV) : (recsS l).size = 16 * l.length := by rw [recsS, recsF_size]; show 0 + _ = _; omega
/-- The head and the first records. -/
def preM (m : MstV) (k : Nat) : ByteArray := mstH m ++ recsS (m.insts.l.take k)
theorem preM_zero (m : MstV) : preM m 0 = mstH m := by
  show _ ++ emp = _
  exact ByteArray.append_empty
theorem preM_next {m : MstV} {k : Nat} {x : InstV} (h : m.insts.l[k]? = some x) : preM m k ++ recS x = preM m (k + 1) := by
  rw [preM, preM, take_snoc h, recsS_snoc, ByteArray.append_assoc]
theorem mstH_size (m : MstV) (h : m.name.size ≤ 32) (hd : m.digest.size = 16) : (mstH m).size = 102 := by rw [mstH, ByteArray.size_append, ByteArray.size_append, mS1_size, mS2_size m h hd, mS3_size]
theorem preM_size (m : MstV) (h : m.name.size ≤ 32) (hd : m.digest.size = 16) {k : Nat} (hk : k ≤ m.insts.l.length) : (preM m k).size = 102 + 16 * k := by
  rw [preM, ByteArray.size_append, mstH_size m h hd, recsS_size, List.length_take]; omega
def mstS (m : MstV) : ByteArray := preM m m.insts.l.length
def mstC (m : MstV) : Chunk := .cells 68 (m.cells.map .v)

theorem mstWrite_bad (m : MstV) (g : G) (hm : m.ok g) (h : ¬ mstP m) : Tells Tryd.prog 33 [.agg (m.cells.map .v)] g (.tup [.v (.string emp), .v (errW 1)]) := by
  refine meets_of mixedS Tryd.func33 (by kernel_rfl) x33_ok (some []) ?_
  refine (mstRight_c m g hm).call rfl rfl rfl ?_
  refine bsplit_of (fun _ => ⟨rfl, rfl, rfl⟩) (fun (q : (!decide (mstP m)) = false) => absurd q (by simp [h]))
theorem named {α : Type} (x : α) : ∃ y, x = y := ⟨_, rfl⟩
theorem recParts (x : InstV) : ∃ b1 b2 b3 b4 b5 b6 : ByteArray, recS x = b1 ++ b2 ++ b3 ++ b4 ++ b5 ++ b6 ∧ beS 1 (byteR x.flags).toNat = b1 ∧ bridgeS x.root = b2 ∧ beS 4 x.cost.toNat = b3 ∧ beS 1 (16 * x.bridge).toNat = b4 ∧ beS 1 (16 * x.port).toNat = b5 ∧ beS 1 x.hops.toNat = b6 :=
  ⟨_, _, _, _, _, _, rfl, rfl, rfl, rfl, rfl, rfl, rfl⟩
theorem headParts (m : MstV) : ∃ b e z r c k h : ByteArray, mS1 m = ⟨#[0, 0, 3, 2]⟩ ++ b ++ ⟨#[0]⟩ ++ e ∧ mS2 m = ⟨#[0]⟩ ++ m.name ++ z ++ r ++ m.digest ∧ mS3 m = c ++ k ++ h ∧
    bodyS m.base = b ∧ beS 2 (64 + 16 * (m.insts.l.length : Int)).toNat = e ∧ zeroS (32 - m.name.size) = z ∧ beS 2 m.rev.toNat = r ∧ beS 4 m.cost.toNat = c ∧ bridgeS m.bridge = k ∧ beS 1 m.hops.toNat = h :=
  ⟨_, _, _, _, _, _, _, rfl, rfl, rfl, rfl, rfl, rfl, rfl, rfl, rfl, rfl⟩
theorem mstWrite_good (m : MstV) (g : G) (hm : m.ok g) (h : mstP m) : Tells Tryd.prog 33 [.agg (m.cells.map .v)] g (.tup [.v (.string (mstS m)), .v .nilIface]) := by
  have hio := hm.2.2.2.2.2.2.2
  have hlen := hio.len
  refine meets_of mixedS Tryd.func33 (by kernel_rfl) x33_ok (some []) ?_
  refine (mstRight_c m g hm).call rfl rfl rfl ?_
  refine bsplit_of (fun (q : (!decide (mstP m)) = true) => absurd q (by simp [h])) (fun _ => ?_)
  obtain ⟨q1, q2, q3, -, q5, q6, q7, q8, q9, q10, q11⟩ := h
  obtain ⟨⟨r0, r3⟩, hr⟩ := bpduB_three q2 q1
  have hn : (m.insts.l.length : Int) ≤ 64 := by omega
  have hmust : Tells Tryd.prog 49 [.v (.int .i64 (IntKind.i64.wrap (64 + IntKind.i64.wrap (16 * (m.insts.l.length : Int))))), .v (.int .i64 2)] g (.v (.string (beS 2 (64 + 16 * (m.insts.l.length : Int)).toNat))) := by
    rw [wrap_id (a := 16 * (m.insts.l.length : Int)) (by omega) (by omega), wrap_id (by omega) (by omega)]
    exact mustG _ 2 g (by decide) (by decide) (by omega) (by show _ < (65536 : Int); omega) (by omega)
  have hrep : Tells Tryd.prog 102 [.v (.string ⟨#[0]⟩), .v (.int .i64 (IntKind.i64.wrap (32 - (m.name.size : Int))))] g (.v (.string (zeroS (32 - m.name.size)))) := by
    have e : IntKind.i64.wrap (32 - (m.name.size : Int)) = ((32 - m.name.size : Nat) : Int) := by rw [wrap_id (by omega) (by omega)]; omega
    rw [e]; exact repM_c _ (by omega) g
  have hpack := prioPack_good m.bridge g q8
  have hbody := body_c m.base g hm.1.2.1 r0 r3 hr
  have hrev := mustG m.rev 2 g (by decide) (by decide) q5.1 (by show m.rev < 65536; omega) (by omega)
  have hcost := mustG m.cost 4 g (by decide) (by decide) q7.1 (by show m.cost < 4294967296; omega) (by omega)
  have hhops := mustG m.hops 1 g (by decide) (by decide) q9.1 (by show m.hops < 256; omega) (by omega)
  have z1 := mS1_size m
  have z2 := mS2_size m q3 q6
  have z3 := mS3_size m
  have zb : (bodyS m.base).size = 31 := bodyS_size _
  have ze : (beS 2 (64 + 16 * (m.insts.l.length : Int)).toNat).size = 2 := beS_size _ _
  have zz : (zeroS (32 - m.name.size)).size = 32 - m.name.size := zeroS_size _
  have zr : (beS 2 m.rev.toNat).size = 2 := beS_size _ _
  have zc : (beS 4 m.cost.toNat).size = 4 := beS_size _ _
  have zk : (bridgeS m.bridge).size = 8 := bridgeS_size _
  have zh : (beS 1 m.hops.toNat).size = 1 := beS_size _ _
  have hH : preM m 0 = mS1 m ++ mS2 m ++ mS3 m := preM_zero m
  obtain ⟨b, e, z, r, c, k, w, d1, d2, d3, e1, e2, e3, e4, e5, e6, e7⟩ := headParts m
  rw [e1] at hbody zb
  rw [e2] at hmust ze
  rw [e3] at hrep zz
  rw [e4] at hrev zr
  rw [e5] at hcost zc
  rw [e6] at hpack zk
  rw [e7] at hhops zh
  rw [d1] at z1 hH
  rw [d2] at z2 hH
  rw [d3] at z3 hH
  clear e1 e2 e3 e4 e5 e6 e7 d1 d2 d3
  obtain ⟨u1, hu1⟩ := named (⟨#[0, 0, 3, 2]⟩ ++ b ++ ⟨#[0]⟩ ++ e)
  obtain ⟨u2, hu2⟩ := named (u1 ++ (⟨#[0]⟩ ++ m.name ++ z ++ r ++ m.digest))
  obtain ⟨u3, hu3⟩ := named (u2 ++ (c ++ k ++ w))
  rw [hu1] at z1 hH
  rw [hu2, hu3] at hH
  have y2 : u2.size = 89 := by rw [← hu2, ByteArray.size_append, z1, z2]
  have y3 : u3.size = 102 := by rw [← hu3, ByteArray.size_append, y2, z3]
  refine hpack.call rfl rfl rfl ?_
  refine hbody.call rfl rfl rfl ?_
  refine ⟨by show 4 + b.size ≤ _; omega, ?_⟩
  refine ⟨by rw [ByteArray.size_append, sz1, sz4]; omega, ?_⟩
  refine hmust.call rfl rfl rfl ?_
  refine ⟨by rw [ByteArray.size_append, ByteArray.size_append, sz1, sz4]; omega, ?_⟩
  refine (write0E _ u1 hu1 g (by rw [hu1, z1]; decide) (by rw [hu1, z1]; decide)).callS [1] 2 rfl rfl rfl rfl ?_
  rintro o L1 g' ⟨cap1, sp1, hc1, rfl, rfl, rfl⟩ _
  refine ⟨by rw [sz1]; omega, ?_⟩
  refine hrep.call rfl rfl rfl ?_
  refine ⟨by rw [ByteArray.size_append, sz1]; omega, ?_⟩
  refine hrev.call rfl rfl rfl ?_
  refine ⟨by rw [ByteArray.size_append, ByteArray.size_append, sz1]; omega, ?_⟩
  refine ⟨by rw [ByteArray.size_append, ByteArray.size_append, ByteArray.size_append, sz1]; omega, ?_⟩
  refine (write1E u1 _ u2 hu2 cap1 sp1 g' hc1.1 hc1.2 (by rw [z1, z2]; decide)).callS [1, 2] 3 rfl rfl rfl rfl ?_
  rintro o L1 g ⟨cap2, sp2, hc2, rfl, rfl, rfl⟩ _
  refine hcost.call rfl rfl rfl ?_
  refine ⟨by omega, ?_⟩
  refine hhops.call rfl rfl rfl ?_
  refine ⟨by rw [ByteArray.size_append]; omega, ?_⟩
  refine (write1E u2 _ u3 hu3 cap2 sp2 g hc2.1 hc2.2 (by rw [y2, z3]; decide)).callS [1, 3] 4 rfl rfl rfl rfl ?_
  rintro o L1 g ⟨cap3, sp3, hc3, rfl, rfl, rfl⟩ _
  clear hu1 hu2 hu3
  subst hH
  change LoopW _ _ _ _ _ _ _ _ _
  apply loop_rule [4] (α := Nat × Nat × List Value) (fun y => [(64, .v (.int .i64 y.1))]) (fun y => [mstC m, .cells 175 [.ptr 1 0, .slc 4 0 (preM m y.1).size y.2.1], .gone, .gone, .vals 5 (strCells (preM m y.1) ++ y.2.2)]) (fun _ => g)
    (fun y => y.1 ≤ m.insts.l.length ∧ ((preM m y.1).size + y.2.2.length = y.2.1 ∧ y.2.1 ≤ 9223372036854775807)) (fun y => m.insts.l.length - y.1) (0, cap3, sp3)
  · intro x; kernel_rfl
  · exact ⟨Nat.zero_le _, hc3⟩
  · exact ⟨rfl, trivial⟩
  · rfl
  · rfl
  rintro ⟨k, cap, sp⟩ ⟨hk, hc⟩
  dsimp only at hk hc
  have hps := preM_size m q3 q6 hk
  refine bsplit_of (fun hlt => ?_) (fun hlt => ?_)
  · have hlt' : k < m.insts.l.length := by simpa using hlt
    obtain ⟨ad, x, ha, hx, hat, hxok⟩ := hio.elem (fun _ => rfl) hlt'
    refine ⟨⟨by omega, by omega⟩, ad, ha, ?_⟩
    refine ⟨x.cells, rfl, hat, ?_⟩
    obtain ⟨p1, p2, p3, p4, p5, p6⟩ := q11 x (List.mem_of_getElem? hx)
    have p1 := (flagsOk_iff _).1 p1
    have hbr := byteR_rng x.flags p1.1 p1.2
    have hm1 : Tells Tryd.prog 49 [.v (.int .i64 (byteP x.flags)), .v (.int .i64 1)] g (.v (.string (beS 1 (byteR x.flags).toNat))) := by
      rw [byte_eq x.flags p1.1 p1.2]; exact mustG _ 1 g (by decide) (by decide) hbr.1 (by show _ < (256 : Int); omega) (by omega)
    have hsh : ∀ z : Int, 0 ≤ z → z ≤ 15 → Tells Tryd.prog 49 [.v (.int .i64 (IntKind.i64.wrap (z * 2 ^ (min 4 IntKind.i64.bits)))), .v (.int .i64 1)] g (.v (.string (beS 1 (16 * z).toNat))) := fun z z0 z1 => by
      rw [shl64 (by decide), wrap_id (by omega) (by omega), show z * 2 ^ 4 = 16 * z by omega]
      exact mustG _ 1 g (by decide) (by decide) (by omega) (by show _ < (256 : Int); omega) (by omega)
    have hm2 := prioPack_good x.root g p2
    have hm3 := mustG x.cost 4 g (by decide) (by decide) p3.1 (by show x.cost < 4294967296; omega) (by omega)
    have hm4 := hsh x.bridge p4.1 p4.2
    have hm5 := hsh x.port p5.1 p5.2
    have hm6 := mustG x.hops 1 g (by decide) (by decide) p6.1 (by show x.hops < 256; omega) (by omega)
    have hnx := preM_next hx
    have hrz := recS_size x
    have y1 : (beS 1 (byteR x.flags).toNat).size = 1 := beS_size _ _
    have y2 : (bridgeS x.root).size = 8 := bridgeS_size _
    have y3 : (beS 4 x.cost.toNat).size = 4 := beS_size _ _
    have y4 : (beS 1 (16 * x.bridge).toNat).size = 1 := beS_size _ _
    have y5 : (beS 1 (16 * x.port).toNat).size = 1 := beS_size _ _
    have y6 : (beS 1 x.hops.toNat).size = 1 := beS_size _ _
    obtain ⟨b1, b2, b3, b4, b5, b6, d0, e1, e2, e3, e4, e5, e6⟩ := recParts x
    rw [e1] at hm1 y1
    rw [e2] at hm2 y2
    rw [e3] at hm3 y3
    rw [e4] at hm4 y4
    rw [e5] at hm5 y5
    rw [e6] at hm6 y6
    rw [d0] at hnx hrz
    clear e1 e2 e3 e4 e5 e6 d0
    obtain ⟨v, hv⟩ := named (preM m k)
    obtain ⟨v', hv'⟩ := named (preM m (k + 1))
    refine hm2.call rfl rfl rfl ?_
    refine ⟨by decide, ?_⟩
    refine ⟨by decide, ?_⟩
    refine (byte_c x.flags g hxok.1).call rfl rfl rfl ?_
    refine hm1.call rfl rfl rfl ?_
    refine ⟨by omega, ?_⟩
    refine hm3.call rfl rfl rfl ?_
    refine ⟨by rw [ByteArray.size_append]; omega, ?_⟩
    refine hm4.call rfl rfl rfl ?_
    refine ⟨by rw [ByteArray.size_append, ByteArray.size_append]; omega, ?_⟩
    refine hm5.call rfl rfl rfl ?_
    refine ⟨by rw [ByteArray.size_append, ByteArray.size_append, ByteArray.size_append]; omega, ?_⟩
    refine hm6.call rfl rfl rfl ?_
    refine ⟨by rw [ByteArray.size_append, ByteArray.size_append, ByteArray.size_append, ByteArray.size_append]; omega, ?_⟩
    refine (write1E (preM m k) _ (preM m (k + 1)) hnx cap sp g hc.1 hc.2 (by rw [hps, hrz]; omega)).callS [1, 4] 6 rfl rfl rfl rfl ?_
    rintro o L1 g' ⟨cap2, sp2, hc2, rfl, rfl, rfl⟩ _
    exact ⟨(k + 1, cap2, sp2), ⟨hlt', hc2⟩, by show m.insts.l.length - (k + 1) < m.insts.l.length - k; omega, [0, 1, 2, 3, 6], rfl, ⟨vi (wrap_id (by omega) (by omega)), trivial⟩, rfl, rfl, rfl, rfl⟩
  · have hge : m.insts.l.length ≤ k := by simpa using hlt
    have hkn : k = m.insts.l.length := by omega
    subst hkn
    refine (string1 (preM m m.insts.l.length) cap sp g (by rw [hps]; omega) hc.1 (by rw [hps]; omega)).callS [1, 4] 5 rfl rfl rfl rfl ?_
    rintro o L1 g' ⟨rfl, ⟨ob, rfl⟩, rfl⟩ _
    exact ⟨rfl, rfl, rfl⟩
end Go.Proofs.YtmeoalpmicndbaaDoor
