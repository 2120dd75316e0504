/- ref.MstWrite and the law MstpWrites: what each returns. Conditions: of the law: the variable errors.errorType is as laid. -/
import Derived.Test.YtmeoalpmicndbaaDoorMstE
import Derived.Test.YtmeoalpmicndbaaDoorErrB
namespace Go.Proofs.YtmeoalpmicndbaaDoor
open Go.Sx Go.Lib Go.RowKit
set_option maxRecDepth 100000
set_option maxHeartbeats 8000000
attribute [local irreducible] Meets
attribute [local instance] Classical.propDecidable
attribute [local irreducible] zeroS bodyS byteR

def padM (m : MstV) (k : Nat) : ByteArray := m.name ++ zeroS k
theorem padM_zero (m : MstV) : m.name = padM m 0 := zeroS_nil _
theorem padM_next (m : MstV) (k : Nat) : padM m k ++ ⟨#[0]⟩ = padM m (k + 1) := by rw [padM, padM, ByteArray.append_assoc, zeroS_next]
theorem padM_size (m : MstV) (k : Nat) : (padM m k).size = m.name.size + k := by rw [padM, ByteArray.size_append, zeroS_size]
theorem headR (m : MstV) (h : m.name.size ≤ 32) : ⟨#[0, 0, 3, 2]⟩ ++ bodyS m.base ++ ⟨#[0]⟩ ++ beS 2 (64 + 16 * (m.insts.l.length : Int)).toNat ++ ⟨#[0]⟩ ++ padM m (32 - m.name.size) ++ beS 2 m.rev.toNat ++ m.digest ++ beS 4 m.cost.toNat ++ bridgeS m.bridge ++ beS 1 m.hops.toNat = preM m 0 := by
  rw [preM_zero, mstH, mS1, mS2, mS3, padM]
  simp only [ByteArray.append_assoc]
theorem mstWriteR_bad (m : MstV) (g : G) (hm : m.ok g) (h : ¬ mstP m) : Meets Tryd.prog 32 [.agg (m.cells.map .v)] [] g (fun o L' g' => o = .ret (.tup [.v (.string emp), .v (.int .i64 1)]) ∧ L' = [] ∧ G.le g g') := by
  refine meets_of mixedS Tryd.func32 (by kernel_rfl) x32_ok (some []) ?_
  refine (mstRightR_c m g hm).call rfl rfl rfl ?_
  refine bsplit_of (fun _ => ⟨rfl, rfl, fun _ _ h => h⟩) (fun (q : (!decide (mstP m)) = false) => absurd q (by simp [h]))
theorem mstWriteR_good (m : MstV) (g : G) (hm : m.ok g) (h : mstP m) : Meets Tryd.prog 32 [.agg (m.cells.map .v)] [] g (fun o L' g' => o = .ret (.tup [.v (.string (mstS m)), .v (.int .i64 0)]) ∧ L' = [] ∧ G.le g g') := by
  have hio := hm.2.2.2.2.2.2.2
  have hlen := hio.len
  refine meets_of mixedS Tryd.func32 (by kernel_rfl) x32_ok (some []) ?_
  refine (mstRightR_c m g hm).call rfl rfl rfl ?_
  refine bsplit_of (fun (q : (!decide (mstP m)) = true) => absurd q (by simp [h])) (fun _ => ?_)
  obtain ⟨q1, q2, q3, -, q5, q6, q7, q8, q9, q10, q11⟩ := h
  obtain ⟨⟨r0, r3⟩, hr⟩ := bpduB_three q2 q1
  have hn : (m.insts.l.length : Int) ≤ 64 := by omega
  change LoopW _ _ _ _ _ _ _ _ _
  apply loop_rule [] (α := Nat) (fun k => [(4, .v (.string (padM m k)))]) (fun _ => [mstC m]) (fun _ => g) (fun k => m.name.size + k ≤ 32) (fun k => 32 - k) 0
  · intro x; kernel_rfl
  · exact q3
  · exact ⟨vs (padM_zero m), trivial⟩
  · rfl
  · rfl
  intro k hk
  have hps := padM_size m k
  refine bsplit_of (fun hlt => ?_) (fun hlt => ?_)
  · have hlt' : m.name.size + k < 32 := by rw [hps] at hlt; have := of_decide_eq_true hlt; omega
    refine ⟨by rw [hps]; show _ + 1 ≤ _; omega, ?_⟩
    exact ⟨k + 1, by omega, by omega, [0], rfl, ⟨vs (padM_next m k), trivial⟩, rfl, rfl, rfl, rfl⟩
  have hk32 : k = 32 - m.name.size := by rw [hps] at hlt; have := of_decide_eq_false hlt; omega
  subst hk32
  have hmust : ∀ g, Tells Tryd.prog 78 [.v (.int .i64 (IntKind.i64.wrap (64 + IntKind.i64.wrap (16 * (m.insts.l.length : Int))))), .v (.int .i64 2)] g (.v (.string (beS 2 (64 + 16 * (m.insts.l.length : Int)).toNat))) := fun g => by
    rw [wrap_id (a := 16 * (m.insts.l.length : Int)) (by omega) (by omega), wrap_id (by omega) (by omega)]
    exact beG _ 2 g (by decide) (by omega) (by omega)
  have hH := headR m q3
  haveI : Sz (padM m (32 - m.name.size)) 32 := ⟨by rw [hps]; omega⟩
  haveI : Sz m.digest 16 := ⟨by omega⟩
  obtain ⟨pd, hpd⟩ := named (padM m (32 - m.name.size))
  refine (bridgePack_good m.bridge g q8).call rfl rfl rfl ?_
  refine (bodyR_c m.base g r0 r3 hr).call0 rfl rfl 1 rfl ?_
  rintro o L1 g1 ⟨rfl, rfl, hle1⟩
  refine ⟨szOk rfl, ?_⟩
  refine ⟨szOk rfl, ?_⟩
  refine (hmust _).call rfl rfl rfl ?_
  refine ⟨szOk rfl, ?_⟩
  refine ⟨szOk rfl, ?_⟩
  refine ⟨szOk rfl, ?_⟩
  refine (beG m.rev 2 _ (by decide) q5.1 (by omega)).call rfl rfl rfl ?_
  refine ⟨szOk rfl, ?_⟩
  refine ⟨szOk rfl, ?_⟩
  refine (beG m.cost 4 _ (by decide) q7.1 (by omega)).call rfl rfl rfl ?_
  refine ⟨szOk rfl, ?_⟩
  refine ⟨szOk rfl, ?_⟩
  refine (beG m.hops 1 _ (by decide) q9.1 (by omega)).call rfl rfl rfl ?_
  refine ⟨szOk rfl, ?_⟩
  change LoopW _ _ _ _ _ _ _ _ _
  apply loop_rule [] (α := Nat × G) (fun y => [(63, .v (.int .i64 y.1)), (7, .v (.string (preM m y.1)))]) (fun _ => [mstC m]) (fun y => y.2) (fun y => y.1 ≤ m.insts.l.length ∧ G.le g y.2) (fun y => m.insts.l.length - y.1) (0, g1)
  · intro x; kernel_rfl
  · exact ⟨Nat.zero_le _, hle1⟩
  · exact ⟨rfl, vs hH, trivial⟩
  · rfl
  · rfl
  rintro ⟨k, g2⟩ ⟨hk, hle2⟩
  dsimp only at hk hle2
  have hps := preM_size m q3 q6 hk
  refine bsplit_of (fun hlt => ?_) (fun hlt => ?_)
  · have hlt' : k < m.insts.l.length := by simpa using hlt
    obtain ⟨ad, x, ha, hx, hat, hxok⟩ := hio.elem (fun _ => rfl) hlt'
    obtain ⟨p1, p2, p3, p4, p5, p6⟩ := q11 x (List.mem_of_getElem? hx)
    have p1 := (flagsOk_iff _).1 p1
    have hbr := byteR_rng x.flags p1.1 p1.2
    have hsh : ∀ (z : Int) (g : G), 0 ≤ z → z ≤ 15 → Tells Tryd.prog 78 [.v (.int .i64 (IntKind.i64.wrap (16 * z))), .v (.int .i64 1)] g (.v (.string (beS 1 (16 * z).toNat))) := fun z g z0 z1 => by
      rw [wrap_id (by omega) (by omega)]
      exact beG _ 1 g (by decide) (by omega) (by omega)
    have hnx := preM_next hx
    have hrz := recS_size x
    haveI : Sz (preM m k) 2000 := ⟨by omega⟩
    obtain ⟨v, hv⟩ := named (preM m k)
    refine ⟨⟨by omega, by omega⟩, ad, ha, ?_⟩
    refine ⟨x.cells, rfl, hat.mono hle2, ?_⟩
    refine (bridgePack_good x.root g2 p2).call rfl rfl rfl ?_
    refine (byteR_c x.flags g2 p1.1 p1.2).call0 rfl rfl 2 rfl ?_
    rintro o L1 g3 ⟨rfl, rfl, hle3⟩
    refine (beG (byteR x.flags) 1 _ (by decide) hbr.1 (by omega)).call rfl rfl rfl ?_
    refine ⟨szOk rfl, ?_⟩
    refine (beG x.cost 4 _ (by decide) p3.1 (by omega)).call rfl rfl rfl ?_
    refine ⟨szOk rfl, ?_⟩
    refine (hsh x.bridge _ p4.1 p4.2).call rfl rfl rfl ?_
    refine ⟨szOk rfl, ?_⟩
    refine (hsh x.port _ p5.1 p5.2).call rfl rfl rfl ?_
    refine ⟨szOk rfl, ?_⟩
    refine (beG x.hops 1 _ (by decide) p6.1 (by omega)).call rfl rfl rfl ?_
    refine ⟨szOk rfl, ?_⟩
    refine ⟨szOk rfl, ?_⟩
    exact ⟨(k + 1, g3), ⟨hlt', fun a b h => hle3 a b (hle2 a b h)⟩, by show m.insts.l.length - (k + 1) < m.insts.l.length - k; omega, [0], rfl, ⟨vi (wrap_id (by omega) (by omega)), vs hnx, trivial⟩, rfl, rfl, rfl, rfl⟩
  · have hge : m.insts.l.length ≤ k := by simpa using hlt
    have hkn : k = m.insts.l.length := by omega
    subst hkn
    exact ⟨rfl, rfl, hle2⟩

noncomputable def mW (m : MstV) : ByteArray := if mstP m then mstS m else emp
noncomputable def mE (m : MstV) : Int := if mstP m then 0 else 1
theorem mstWriteR_c (m : MstV) (g : G) (hm : m.ok g) : Meets Tryd.prog 32 [.agg (m.cells.map .v)] [] g (fun o L' g' => o = .ret (.tup [.v (.string (mW m)), .v (.int .i64 (mE m))]) ∧ L' = [] ∧ G.le g g') := by
  by_cases h : mstP m
  · rw [mW, mE, if_pos h, if_pos h]; exact mstWriteR_good m g hm h
  · rw [mW, mE, if_neg h, if_neg h]; exact mstWriteR_bad m g hm h
theorem mstWrite_c (m : MstV) (g : G) (hm : m.ok g) : Tells Tryd.prog 33 [.agg (m.cells.map .v)] g (.tup [.v (.string (mW m)), .v (nilOr (mE m))]) := by
  by_cases h : mstP m
  · rw [mW, mE, if_pos h, if_pos h]; exact mstWrite_good m g hm h
  · rw [mW, mE, if_neg h, if_neg h]; exact mstWrite_bad m g hm h
theorem MstV.ok_mono {m : MstV} {g g' : G} (h : m.ok g) (hl : G.le g g') : m.ok g' := ⟨h.1, h.2.1, h.2.2.1, h.2.2.2.1, h.2.2.2.2.1, h.2.2.2.2.2.1, h.2.2.2.2.2.2.1, SliceV.ok.mono h.2.2.2.2.2.2.2 hl fun _ h => h⟩

/-- The law MstpWrites. -/
theorem mstpWrites_c (m : MstV) (g : G) (hm : m.ok g) (hE : ErrVar g) : Meets Tryd.prog 8 [.agg (m.cells.map .v)] [] g (fun o _ _ => o = .ret (.v (.bool true))) := by
  refine meets_of mixedS Tryd.func8 (by kernel_rfl) x8_ok (some []) ?_
  refine bsplit_of (fun _ => rfl) (fun _ => ?_)
  refine bsplit_of (fun _ => rfl) (fun _ => ?_)
  refine (mstWriteR_c m g hm).call0 rfl rfl 1 rfl ?_
  rintro o L1 g1 ⟨rfl, rfl, hle⟩
  have hm1 := MstV.ok_mono hm hle
  refine (mstWrite_c m g1 hm1).call rfl rfl rfl ?_
  refine (bare_c _ _ _ (mE m) g1 (G.at.mono hle hE) (errP_nilOr (mE m))).call rfl rfl rfl ?_
  refine bsplit_of (fun _ => ?_) (fun h => absurd h (by simp))
  refine bsplit_of (fun _ => ?_) (fun (h : ((mW m).toList == (mW m).toList) = false) => absurd h (by simp))
  refine (mstRight_c m g1 hm1).call rfl rfl rfl ?_
  refine (mstRightR_c m g1 hm1).call rfl rfl rfl ?_
  exact rb (by simp)
end Go.Proofs.YtmeoalpmicndbaaDoor
