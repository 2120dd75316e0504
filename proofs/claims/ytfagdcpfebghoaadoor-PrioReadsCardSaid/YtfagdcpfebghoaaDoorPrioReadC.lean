/- prio.Read, ReadPort, their references, the reference's BridgeRead: what each returns. Conditions: the readers' places and texts are of a size that memory holds. -/
import Derived.Test.YtfagdcpfebghoaaDoorXprior
import Derived.Test.YtfagdcpfebghoaaDoorCurC
namespace Go.Proofs.YtfagdcpfebghoaaDoor
open Go.Sx
set_option maxRecDepth 100000
set_option maxHeartbeats 8000000
attribute [local irreducible] Meets

theorem two {α : Type} (f : Int → Int → α) {a a' b b' : Int} (h1 : a = a') (h2 : b = b') : f a b = f a' b' := by rw [h1, h2]
def bridgeN (n : Nat) (a : AddrV) : BridgeV := ⟨(n / 4096 * 4096 : Nat), (n % 4096 : Nat), a⟩
def portN (n : Nat) : PortV := ⟨(n / 4096 * 16 : Nat), (n % 4096 : Nat)⟩
theorem cbridge_good (c : CurV) (g : G) (h : c.ok) (hn : c.at_ + 8 ≤ c.s.size) : Meets Tryd.prog 71 [.ptr 0 0] [cuC c] g (fun o L' g' => o = .ret (.agg ((bridgeN (c.numOf 2) (addrOf ((c.fwd 2).cut 6))).cells.map .v)) ∧ L' = [cuC ((c.fwd 2).fwd 6)] ∧ G.le g g') := by
  have hlt := numOf_lt c 2
  have hok : (c.fwd 2).ok := CurV.fwd_ok h (by omega)
  refine meets_of mixedW Tryd.func71 (by kernel_rfl) x71_ok (some []) ?_
  refine (cnum_good c 2 g h (by omega) (by decide)).callS [0] 2 rfl rfl rfl rfl ?_
  rintro o L1 g1 ⟨rfl, rfl, hle⟩ _
  refine ⟨by decide, by decide, ?_⟩
  refine (caddr_good (c.fwd 2) g1 hok (by show c.at_ + 2 + 6 ≤ c.s.size; omega)).callS [0] 2 rfl rfl rfl rfl ?_
  rintro o L1 g2 ⟨rfl, rfl, rfl⟩ _
  generalize c.numOf 2 = n at hlt
  have e1 : IntKind.i64.wrap (IntKind.i64.wrap ((n : Int).tdiv 4096) * 4096) = ((n / 4096 * 4096 : Nat) : Int) := by
    rw [Int.tdiv_eq_ediv_of_nonneg (by omega), wrap_id (a := (n : Int) / 4096) (by omega) (by omega), wrap_id (by omega) (by omega)]; omega
  have e2 : (n : Int).tmod 4096 = ((n % 4096 : Nat) : Int) := by
    rw [Int.tmod_eq_emod_of_nonneg (by omega)]; omega
  refine ⟨?_, rfl, hle⟩
  exact two (fun a b : Int => Out.ret (.agg ((BridgeV.mk a b (addrOf ((c.fwd 2).cut 6))).cells.map .v))) e1 e2
theorem cbridge_short1 (c : CurV) (g : G) (h : c.ok) (hn : c.s.size < c.at_ + 2) : Meets Tryd.prog 71 [.ptr 0 0] [cuC c] g (fun o L' g' => o = .pan (thr 7 (c.off + c.at_)) ∧ L' = [cuC c] ∧ g' = g) := by
  refine meets_of mixedW Tryd.func71 (by kernel_rfl) x71_ok (some []) ?_
  refine (cnum_bad c 2 g h hn (by decide)).callS [0] 2 rfl rfl rfl rfl ?_
  rintro o L1 g1 ⟨rfl, rfl, rfl⟩ _
  exact ⟨rfl, rfl, rfl⟩
theorem cbridge_short2 (c : CurV) (g : G) (h : c.ok) (hn : c.at_ + 2 ≤ c.s.size) (hm : c.s.size < c.at_ + 8) : Meets Tryd.prog 71 [.ptr 0 0] [cuC c] g (fun o L' g' => o = .pan (thr 7 (c.off + (c.at_ + 2 : Nat))) ∧ L' = [cuC (c.fwd 2)] ∧ G.le g g') := by
  have hok : (c.fwd 2).ok := CurV.fwd_ok h (by omega)
  refine meets_of mixedW Tryd.func71 (by kernel_rfl) x71_ok (some []) ?_
  refine (cnum_good c 2 g h (by omega) (by decide)).callS [0] 2 rfl rfl rfl rfl ?_
  rintro o L1 g1 ⟨rfl, rfl, hle⟩ _
  refine ⟨by decide, by decide, ?_⟩
  refine (caddr_bad (c.fwd 2) g1 hok (by show c.s.size < c.at_ + 2 + 6; omega)).callS [0] 2 rfl rfl rfl rfl ?_
  rintro o L1 g2 ⟨rfl, rfl, rfl⟩ _
  exact ⟨rfl, rfl, hle⟩

theorem cport_short (c : CurV) (g : G) (h : c.ok) (hn : c.s.size < c.at_ + 2) : Meets Tryd.prog 72 [.ptr 0 0] [cuC c] g (fun o L' g' => o = .pan (thr 7 (c.off + c.at_)) ∧ L' = [cuC c] ∧ g' = g) := by
  refine meets_of mixedW Tryd.func72 (by kernel_rfl) x72_ok (some []) ?_
  refine (cnum_bad c 2 g h hn (by decide)).callS [0] 2 rfl rfl rfl rfl ?_
  rintro o L1 g1 ⟨rfl, rfl, rfl⟩ _
  exact ⟨rfl, rfl, rfl⟩
theorem cport_good (c : CurV) (g : G) (h : c.ok) (hn : c.at_ + 2 ≤ c.s.size) (h0 : c.numOf 2 % 4096 ≠ 0) : Meets Tryd.prog 72 [.ptr 0 0] [cuC c] g (fun o L' g' => o = .ret (.agg ((portN (c.numOf 2)).cells.map .v)) ∧ L' = [cuC (c.fwd 2)] ∧ G.le g g') := by
  have hlt := numOf_lt c 2
  refine meets_of mixedW Tryd.func72 (by kernel_rfl) x72_ok (some []) ?_
  refine (cnum_good c 2 g h hn (by decide)).callS [0] 2 rfl rfl rfl rfl ?_
  rintro o L1 g1 ⟨rfl, rfl, hle⟩ _
  generalize c.numOf 2 = n at hlt h0
  have e2 : (n : Int).tmod 4096 = ((n % 4096 : Nat) : Int) := by
    rw [Int.tmod_eq_emod_of_nonneg (by omega)]; omega
  have e1 : IntKind.i64.wrap (IntKind.i64.wrap ((n : Int).tdiv 4096) * 16) = ((n / 4096 * 16 : Nat) : Int) := by
    rw [Int.tdiv_eq_ediv_of_nonneg (by omega), wrap_id (a := (n : Int) / 4096) (by omega) (by omega), wrap_id (by omega) (by omega)]; omega
  refine ⟨by decide, ?_⟩
  refine bsplit_of (fun k => absurd k (by rw [e2]; simp; omega)) (fun _ => ?_)
  refine ⟨by decide, by decide, ?_⟩
  refine ⟨?_, rfl, hle⟩
  exact two (fun a b : Int => Out.ret (.agg ((PortV.mk a b).cells.map .v))) e1 e2
theorem cport_bad (c : CurV) (g : G) (h : c.ok) (hn : c.at_ + 2 ≤ c.s.size) (h0 : c.numOf 2 % 4096 = 0) : Meets Tryd.prog 72 [.ptr 0 0] [cuC c] g (fun o L' g' => o = .pan (thr 2 (c.off + c.at_)) ∧ L' = [cuC (c.fwd 2)] ∧ G.le g g') := by
  refine meets_of mixedW Tryd.func72 (by kernel_rfl) x72_ok (some []) ?_
  refine (cnum_good c 2 g h hn (by decide)).callS [0] 2 rfl rfl rfl rfl ?_
  rintro o L1 g1 ⟨rfl, rfl, hle⟩ _
  have e2 : (c.numOf 2 : Int).tmod 4096 = ((c.numOf 2 % 4096 : Nat) : Int) := by
    rw [Int.tmod_eq_emod_of_nonneg (by omega)]; omega
  refine ⟨by decide, ?_⟩
  refine bsplit_of (fun _ => ?_) (fun k => absurd k (by rw [e2, h0]; simp))
  refine absK fun K hK => ?_
  refine (throw_c (c.fwd 2) 2 c.at_ g1 (CurV.fwd_ok h hn) (by obtain ⟨h1, h2, h3, h4⟩ := h; omega)).callS [0] 2 rfl rfl rfl rfl ?_
  rintro o L1 g2 ⟨rfl, rfl, rfl⟩ _
  subst hK
  exact ⟨rfl, rfl, hle⟩

/-- What is wrong with a text that is to be two names. -/
def brFault (s : ByteArray) : Int × Int := if s.size < 2 then (7, 0) else if s.size < 8 then (7, 2) else if s.size < 10 then (7, 8) else if ((cur0 s).fwd 8).numOf 2 % 4096 = 0 then (2, 8) else (0, -1)

theorem bridgeRead_c (s : ByteArray) (g : G) (hs : s.size ≤ 1000000000000) : Meets Tryd.prog 50 [.v (.string s)] [] g (fun o L' g' => ∃ b : BridgeV, ∃ p : PortV, o = .ret (.tup [.agg (b.cells.map .v), .agg (p.cells.map .v), .agg [.v (.int .i64 (brFault s).1), .v (.int .i64 (brFault s).2)]]) ∧
    (L' = [] ∧ G.le g g') ∧ ((brFault s).1 = 0 → b = bridgeN ((cur0 s).numOf 2) (addrOf (((cur0 s).fwd 2).cut 6)) ∧ p = portN (((cur0 s).fwd 8).numOf 2))) := by
  have hok := cur0_ok hs
  have hok8 : 8 ≤ s.size → ((cur0 s).fwd 8).ok := fun h => CurV.fwd_ok hok (by show 0 + 8 ≤ s.size; omega)
  refine meets_ofD mixedW Tryd.func50 (by kernel_rfl) x50_ok (some []) ?_
  refine (good_c g).call rfl rfl rfl ?_
  refine ⟨by kernel_rfl, ?_⟩
  by_cases h2 : s.size < 2
  · have e : brFault s = (7, 0) := by rw [brFault, if_pos h2]
    rw [e]
    refine (cbridge_short1 (cur0 s) g hok (by show s.size < 0 + 2; omega)).callS [3] 4 rfl rfl rfl rfl ?_
    rintro o L1 g1 ⟨rfl, rfl, rfl⟩ _
    refine recx_of Tryd.func70 rfl x70_ok ?_
    exact ⟨BridgeV.zero, PortV.zero, rfl, ⟨rfl, le_refl _⟩, fun h => by cases h⟩
  by_cases h8 : s.size < 8
  · have e : brFault s = (7, 2) := by rw [brFault, if_neg h2, if_pos h8]
    rw [e]
    refine (cbridge_short2 (cur0 s) g hok (by show 0 + 2 ≤ s.size; omega) (by show s.size < 0 + 8; omega)).callS [3] 4 rfl rfl rfl rfl ?_
    rintro o L1 g1 ⟨rfl, rfl, hle⟩ _
    refine recx_of Tryd.func70 rfl x70_ok ?_
    exact ⟨BridgeV.zero, PortV.zero, rfl, ⟨rfl, hle⟩, fun h => by cases h⟩
  refine (cbridge_good (cur0 s) g hok (by show 0 + 8 ≤ s.size; omega)).callS [3] 4 rfl rfl rfl rfl ?_
  rintro o L1 g1 ⟨rfl, rfl, hle⟩ _
  by_cases h10 : s.size < 10
  · have e : brFault s = (7, 8) := by rw [brFault, if_neg h2, if_neg h8, if_pos h10]
    rw [e]
    refine (cport_short ((cur0 s).fwd 8) g1 (hok8 (by omega)) (by show s.size < 0 + 8 + 2; omega)).callS [3] 4 rfl rfl rfl rfl ?_
    rintro o L1 g2 ⟨rfl, rfl, rfl⟩ _
    refine recx_of Tryd.func70 rfl x70_ok ?_
    exact ⟨bridgeN ((cur0 s).numOf 2) (addrOf (((cur0 s).fwd 2).cut 6)), PortV.zero, rfl, ⟨rfl, hle⟩, fun h => by cases h⟩
  by_cases h0 : ((cur0 s).fwd 8).numOf 2 % 4096 = 0
  · have e : brFault s = (2, 8) := by rw [brFault, if_neg h2, if_neg h8, if_neg h10, if_pos h0]
    rw [e]
    refine (cport_bad ((cur0 s).fwd 8) g1 (hok8 (by omega)) (by show 0 + 8 + 2 ≤ s.size; omega) h0).callS [3] 4 rfl rfl rfl rfl ?_
    rintro o L1 g2 ⟨rfl, rfl, hle2⟩ _
    refine recx_of Tryd.func70 rfl x70_ok ?_
    exact ⟨bridgeN ((cur0 s).numOf 2) (addrOf (((cur0 s).fwd 2).cut 6)), PortV.zero, rfl, ⟨rfl, le_trans hle hle2⟩, fun h => by cases h⟩
  · have e : brFault s = (0, -1) := by rw [brFault, if_neg h2, if_neg h8, if_neg h10, if_neg h0]
    rw [e]
    refine (cport_good ((cur0 s).fwd 8) g1 (hok8 (by omega)) (by show 0 + 8 + 2 ≤ s.size; omega) h0).callS [3] 4 rfl rfl rfl rfl ?_
    rintro o L1 g2 ⟨rfl, rfl, hle2⟩ _
    refine recx_of Tryd.func70 rfl x70_ok ?_
    exact ⟨bridgeN ((cur0 s).numOf 2) (addrOf (((cur0 s).fwd 2).cut 6)), portN (((cur0 s).fwd 8).numOf 2), rfl, ⟨rfl, le_trans hle hle2⟩, fun _ => ⟨rfl, rfl⟩⟩

/-! ### The program -/

def rdBridge (r : RdV) : BridgeV × RdV := (bridgeN (r.num 2).1 (addrRd (((r.num 2).2).bytes 6).1), (((r.num 2).2).bytes 6).2)

theorem prioRead_c (r : RdV) (v : Value) (g : G) (hr : r.ok) (h : errAt g v r.err) : Meets Tryd.prog 52 [.ptr 0 0] [rdC r v] g (RdPost g (rdBridge r).2 (.agg ((rdBridge r).1.cells.map .v))) := by
  have hlt := numL_rng r 2
  have hok := num_ok hr 2
  refine meets_of mixedW Tryd.func52 (by kernel_rfl) x52_ok (some []) ?_
  refine (num_c r v 2 g hr (by decide) (by decide) h).callS [0] 2 rfl rfl rfl rfl ?_
  rintro o L1 g1 ⟨rfl, ⟨v1, rfl, hv1⟩, hle1⟩ _
  refine (bytes_c (r.num 2).2 v1 6 g1 hok (by decide) hv1).callS [0] 3 rfl rfl rfl rfl ?_
  rintro o L1 g2 ⟨rfl, ⟨v2, rfl, hv2⟩, hle2⟩ _
  have e1 : IntKind.i64.wrap ((BitVec.ofInt IntKind.i64.bits ((r.num 2).1 : Int) &&& ~~~ BitVec.ofInt IntKind.i64.bits 4095).toNat : Int) = (((r.num 2).1 / 4096 * 4096 : Nat) : Int) := by
    rw [andNotI 12 (by decide) (by omega) (by omega) (by decide)]; push_cast; rfl
  have e2 : IntKind.i64.wrap ((BitVec.ofInt IntKind.i64.bits ((r.num 2).1 : Int) &&& BitVec.ofInt IntKind.i64.bits 4095).toNat : Int) = (((r.num 2).1 % 4096 : Nat) : Int) := by
    rw [andI 12 (by decide) (by omega) (by omega) (by decide)]; push_cast; rfl
  have hsz : ((r.num 2).2.bytes 6).1.size ≤ 6 := RdV.bytes_size (r.num 2).2 6
  refine prim_copyC (elem := 5) 58 [.v (.int .i64 (IntKind.i64.wrap ((BitVec.ofInt IntKind.i64.bits ((r.num 2).1 : Int) &&& ~~~ BitVec.ofInt IntKind.i64.bits 4095).toNat : Int))), .v (.int .i64 (IntKind.i64.wrap ((BitVec.ofInt IntKind.i64.bits ((r.num 2).1 : Int) &&& BitVec.ofInt IntKind.i64.bits 4095).toNat : Int))), .v (.int .u8 0), .v (.int .u8 0), .v (.int .u8 0), .v (.int .u8 0), .v (.int .u8 0), .v (.int .u8 0)] ((rdBridge r).1.cells.map .v) rfl rfl rfl (by kernel_rfl) (by kernel_rfl) rfl hsz (by show 0 + 2 + 0 + ((r.num 2).2.bytes 6).1.size ≤ 8; omega) rfl rfl ?_ ?_
  · refine (copy6 (bytes_all 6) [.v (.int .i64 _), .v (.int .i64 _)] [] _ _ rfl rfl).trans ?_
    rw [e1, e2]
    rfl
  exact ⟨rfl, ⟨v2, rfl, hv2⟩, le_trans hle1 hle2⟩

def rdPort (r : RdV) : PortV × RdV := (portN (r.num 2).1, if (r.num 2).2.err = none ∧ (r.num 2).1 % 4096 = 0 then (r.num 2).2.fail 2 r.place else (r.num 2).2)
theorem prioReadPort_c (r : RdV) (v : Value) (g : G) (hr : r.ok) (h : errAt g v r.err) : Meets Tryd.prog 53 [.ptr 0 0] [rdC r v] g (RdPost g (rdPort r).2 (.agg ((rdPort r).1.cells.map .v))) := by
  have hlt := numL_rng r 2
  have hok := num_ok hr 2
  have e1 : IntKind.i64.wrap ((BitVec.ofInt IntKind.i64.bits (((r.num 2).1 : Int).fdiv (2 ^ (min 8 IntKind.i64.bits))) &&& ~~~ BitVec.ofInt IntKind.i64.bits 15).toNat : Int) = (((r.num 2).1 / 4096 * 16 : Nat) : Int) := by
    rw [shr64 (by decide), andNotI 4 (by decide) (by omega) (by omega) (by decide)]; omega
  have e2 : IntKind.i64.wrap ((BitVec.ofInt IntKind.i64.bits ((r.num 2).1 : Int) &&& BitVec.ofInt IntKind.i64.bits 4095).toNat : Int) = (((r.num 2).1 % 4096 : Nat) : Int) := by
    rw [andI 12 (by decide) (by omega) (by omega) (by decide)]; push_cast; rfl
  have fin : Out.ret (.agg [.v (.int .i64 (IntKind.i64.wrap ((BitVec.ofInt IntKind.i64.bits (((r.num 2).1 : Int).fdiv (2 ^ (min 8 IntKind.i64.bits))) &&& ~~~ BitVec.ofInt IntKind.i64.bits 15).toNat : Int))), .v (.int .i64 (IntKind.i64.wrap ((BitVec.ofInt IntKind.i64.bits ((r.num 2).1 : Int) &&& BitVec.ofInt IntKind.i64.bits 4095).toNat : Int)))]) = .ret (.agg ((rdPort r).1.cells.map .v)) := by
    rw [e1, e2]; rfl
  refine meets_of mixedW Tryd.func53 (by kernel_rfl) x53_ok (some []) ?_
  refine (at_c r v g hr).callS [0] 2 rfl rfl rfl rfl ?_
  rintro o L1 g1 ⟨rfl, rfl, rfl⟩ _
  refine (num_c r v 2 _ hr (by decide) (by decide) h).callS [0] 2 rfl rfl rfl rfl ?_
  rintro o L1 g1 ⟨rfl, ⟨v1, rfl, hv1⟩, hle1⟩ _
  refine ⟨by decide, ?_⟩
  refine (err_c (r.num 2).2 v1 g1).callS [0] 3 rfl rfl rfl rfl ?_
  rintro o L1 g2 ⟨rfl, rfl, rfl⟩ _
  rcases errAt_cases hv1 with ⟨rfl, he⟩ | ⟨ad, rfl, e, he⟩
  · refine bsplit_of (fun k => ?_) (fun k => ?_)
    · have k0 : (r.num 2).1 % 4096 = 0 := by rw [e2] at k; simp at k; omega
      refine absK fun K hK => ?_
      refine (fail_c (r.num 2).2 .nilIface 2 r.place _ hv1).callS [0] 3 rfl rfl rfl rfl ?_
      rintro o L1 g2 ⟨rfl, ⟨v2, rfl, hv2⟩, hle2⟩ _
      subst hK
      have e : (rdPort r).2 = (r.num 2).2.fail 2 r.place := if_pos ⟨he, k0⟩
      rw [e]
      exact ⟨fin, ⟨v2, rfl, hv2⟩, le_trans hle1 hle2⟩
    · have k0 : ¬ (r.num 2).1 % 4096 = 0 := by rw [e2] at k; simp at k; omega
      have e : (rdPort r).2 = (r.num 2).2 := if_neg (fun h => k0 h.2)
      rw [e]
      exact ⟨fin, ⟨_, rfl, hv1⟩, hle1⟩
  · have e : (rdPort r).2 = (r.num 2).2 := if_neg (fun h => by rw [he] at h; cases h.1)
    rw [e]
    exact ⟨fin, ⟨_, rfl, hv1⟩, hle1⟩

/-! ### Both are one -/

def rd0 (s : ByteArray) : RdV := ⟨s, 0, 0, none⟩
theorem rd0_ok {s : ByteArray} (h : s.size ≤ 1000000000000) : (rd0 s).ok := ⟨Nat.zero_le _, h, Int.le_refl _, (by decide : (0 : Int) ≤ 1000000000000000)⟩
theorem br_same (s : ByteArray) : ((rdPort (rdBridge (rd0 s)).2).2.err = none → brFault s = (0, -1) ∧ (rdBridge (rd0 s)).1 = bridgeN ((cur0 s).numOf 2) (addrOf (((cur0 s).fwd 2).cut 6)) ∧ (rdPort (rdBridge (rd0 s)).2).1 = portN (((cur0 s).fwd 8).numOf 2)) ∧
    ∀ p, (rdPort (rdBridge (rd0 s)).2).2.err = some p → brFault s = p ∧ p.1 ≠ 0 := by
  by_cases h2 : s.size < 2
  · have e1 : (rd0 s).bytes ((2 : Nat) : Int) = (⟨#[]⟩, ⟨s, 0, 0, some (7, 0)⟩) := RdV.bytes_short rfl (by decide) (by show (s.size : Int) - ((0 : Nat) : Int) < 2; omega)
    have ef : brFault s = (7, 0) := by rw [brFault, if_pos h2]
    have e2 : (rdPort (rdBridge (rd0 s)).2).2.err = some (7, 0) := by
      simp only [rdPort, rdBridge, RdV.num, e1]
      rfl
    rw [e2, ef]
    exact ⟨nofun, fun p hp => by cases hp; exact ⟨rfl, by decide⟩⟩
  have e1 : (rd0 s).bytes ((2 : Nat) : Int) = (s.extract 0 2, ⟨s, 2, 0, none⟩) := RdV.bytes_good rfl (by decide) (by show ¬ (s.size : Int) - ((0 : Nat) : Int) < 2; omega)
  by_cases h8 : s.size < 8
  · have e3 : (RdV.mk s 2 0 none).bytes 6 = (⟨#[]⟩, ⟨s, 2, 0, some (7, 2)⟩) := RdV.bytes_short rfl (by decide) (by show (s.size : Int) - ((2 : Nat) : Int) < 6; omega)
    have ef : brFault s = (7, 2) := by rw [brFault, if_neg h2, if_pos h8]
    have e2 : (rdPort (rdBridge (rd0 s)).2).2.err = some (7, 2) := by
      simp only [rdPort, rdBridge, RdV.num, e1, e3]
      rfl
    rw [e2, ef]
    exact ⟨nofun, fun p hp => by cases hp; exact ⟨rfl, by decide⟩⟩
  have e3 : (RdV.mk s 2 0 none).bytes 6 = (s.extract 2 8, ⟨s, 8, 0, none⟩) := RdV.bytes_good rfl (by decide) (by show ¬ (s.size : Int) - ((2 : Nat) : Int) < 6; omega)
  have hbr : (rdBridge (rd0 s)).1 = bridgeN ((cur0 s).numOf 2) (addrOf (((cur0 s).fwd 2).cut 6)) := by
    have hsz : (s.extract 2 8).size = 6 := by simp only [ByteArray.size_extract]; omega
    simp only [rdBridge, RdV.num, e1, e3, addrRd, if_pos hsz]
    rfl
  have hbr2 : (rdBridge (rd0 s)).2 = ⟨s, 8, 0, none⟩ := by simp only [rdBridge, RdV.num, e1, e3]
  rw [hbr2]
  by_cases h10 : s.size < 10
  · have e4 : (RdV.mk s 8 0 none).bytes ((2 : Nat) : Int) = (⟨#[]⟩, ⟨s, 8, 0, some (7, 8)⟩) := RdV.bytes_short rfl (by decide) (by show (s.size : Int) - ((8 : Nat) : Int) < 2; omega)
    have ef : brFault s = (7, 8) := by rw [brFault, if_neg h2, if_neg h8, if_pos h10]
    have e2 : (rdPort ⟨s, 8, 0, none⟩).2.err = some (7, 8) := by
      simp only [rdPort, RdV.num, e4]
      rfl
    rw [e2, ef]
    exact ⟨nofun, fun p hp => by cases hp; exact ⟨rfl, by decide⟩⟩
  have e4 : (RdV.mk s 8 0 none).bytes ((2 : Nat) : Int) = (s.extract 8 10, ⟨s, 10, 0, none⟩) := RdV.bytes_good rfl (by decide) (by show ¬ (s.size : Int) - ((8 : Nat) : Int) < 2; omega)
  have en : ((RdV.mk s 8 0 none).num 2).1 = ((cur0 s).fwd 8).numOf 2 := by simp only [RdV.num, e4]; rfl
  have ep : ((RdV.mk s 8 0 none).num 2).2 = ⟨s, 10, 0, none⟩ := by simp only [RdV.num, e4]
  by_cases h0 : ((cur0 s).fwd 8).numOf 2 % 4096 = 0
  · have ef : brFault s = (2, 8) := by rw [brFault, if_neg h2, if_neg h8, if_neg h10, if_pos h0]
    have e2 : (rdPort ⟨s, 8, 0, none⟩).2.err = some (2, 8) := by
      rw [rdPort, ep, en, if_pos ⟨rfl, h0⟩]
      rfl
    rw [e2, ef]
    exact ⟨nofun, fun p hp => by cases hp; exact ⟨rfl, by decide⟩⟩
  · have ef : brFault s = (0, -1) := by rw [brFault, if_neg h2, if_neg h8, if_neg h10, if_neg h0]
    have e2 : (rdPort ⟨s, 8, 0, none⟩).2.err = none := by
      rw [rdPort, ep, en, if_neg (fun h => h0 h.2)]
    rw [e2, ef]
    exact ⟨fun _ => ⟨rfl, hbr, by rw [rdPort, en]⟩, nofun⟩

theorem bridge_ok {r : RdV} (h : r.ok) : (rdBridge r).2.ok := RdV.bytes_ok (num_ok h 2) 6

/-- The law PrioReads. -/
theorem prioReads_c (s : ByteArray) (g : G) (_ : sok s) (hE : ErrVar g) : Meets Tryd.prog 9 [.v (.string s)] [] g (fun o _ _ => o = .ret (.v (.bool true))) := by
  refine meets_of mixedW Tryd.func9 (by kernel_rfl) x9_ok none ?_
  refine bsplit_of (fun _ => ⟨[], rfl⟩) (fun hlen => ?_)
  have hs : s.size ≤ 1000000000000 := by simp at hlen; omega
  obtain ⟨hsame1, hsame2⟩ := br_same s
  refine (bridgeRead_c s g hs).call0 rfl rfl 0 rfl ?_
  rintro o L1 g1 ⟨b, p, rfl, ⟨rfl, hle1⟩, hbp⟩
  refine (new_c s 0 g1).call0 rfl rfl 3 rfl ?_
  rintro o L1 g2 ⟨rfl, rfl, rfl⟩
  refine (prioRead_c (rd0 s) .nilIface _ (rd0_ok hs) rfl).callS [3] 4 rfl rfl rfl rfl ?_
  rintro o L1 g2 ⟨rfl, ⟨v1, rfl, hv1⟩, hle2⟩ _
  refine (prioReadPort_c (rdBridge (rd0 s)).2 v1 g2 (bridge_ok (rd0_ok hs)) hv1).callS [3] 5 rfl rfl rfl rfl ?_
  rintro o L1 g3 ⟨rfl, ⟨v2, rfl, hv2⟩, hle3⟩ _
  refine (err_c (rdPort (rdBridge (rd0 s)).2).2 v2 g3).callS [3] 6 rfl rfl rfl rfl ?_
  rintro o L1 g4 ⟨rfl, rfl, rfl⟩ _
  have hE4 : ErrVar _ := G.at.mono (le_trans hle1 (le_trans hle2 hle3)) hE
  cases he : (rdPort (rdBridge (rd0 s)).2).2.err with
  | none =>
    obtain ⟨ef, eb, ep⟩ := hsame1 he
    obtain ⟨rfl, rfl⟩ := hbp (by rw [ef])
    rw [he] at hv2
    have hv2 : v2 = .nilIface := hv2
    subst hv2
    rw [ef, eb, ep]
    refine (placed_c .nilIface 0 (-1) 0 (-1) _ hE4 .nil).call rfl rfl rfl ?_
    refine (is_c 0 (-1) _).call rfl rfl rfl ?_
    refine bsplit_of (fun k => ?_) (fun k => absurd k (by simp))
    exact ⟨[], rb (by simp)⟩
  | some q =>
    obtain ⟨ef, hq⟩ := hsame2 q he
    rw [he] at hv2
    obtain ⟨ad, rfl, hat⟩ := hv2
    rw [ef]
    refine (placed_c _ q.1 q.2 q.1 q.2 _ hE4 (.at_ ad _ _ hat)).call rfl rfl rfl ?_
    refine bsplit_of (fun k => ?_) (fun k => absurd k (by simp))
    refine (is_c q.1 q.2 _).call rfl rfl rfl ?_
    refine bsplit_of (fun k => ?_) (fun k => absurd k (by simp [hq]))
    exact ⟨[], rb rfl⟩
end Go.Proofs.YtfagdcpfebghoaaDoor
