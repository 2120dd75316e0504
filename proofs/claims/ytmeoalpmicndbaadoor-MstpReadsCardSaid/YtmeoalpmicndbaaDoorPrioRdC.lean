/- prio.Read, ReadPort, their references: what each returns. Conditions: the readers' places and texts are of a size that memory holds. -/
import Derived.Test.YtmeoalpmicndbaaDoorXprior
import Derived.Test.YtmeoalpmicndbaaDoorCurC
namespace Go.Proofs.YtmeoalpmicndbaaDoor
open Go.Sx
set_option maxRecDepth 100000
set_option maxHeartbeats 8000000
attribute [local irreducible] Meets

theorem twoI {α : Type} (f : Int → Int → α) {a a' b b' : Int} (h1 : a = a') (h2 : b = b') : f a b = f a' b' := by rw [h1, h2]
def bridgeN (n : Nat) (a : AddrV) : BridgeV := ⟨(n / 4096 * 4096 : Nat), (n % 4096 : Nat), a⟩
def portN (n : Nat) : PortV := ⟨(n / 4096 * 16 : Nat), (n % 4096 : Nat)⟩
theorem cbridge_good (c : CurV) (g : G) (h : c.ok) (hn : c.at_ + 8 ≤ c.s.size) : Meets Tryd.prog 115 [.ptr 0 0] [cuC c] g (fun o L' g' => o = .ret (.agg ((bridgeN (c.numOf 2) (addrOf ((c.fwd 2).cut 6))).cells.map .v)) ∧ L' = [cuC ((c.fwd 2).fwd 6)] ∧ G.le g g') := by
  have hlt := numOf_lt c 2
  have hok : (c.fwd 2).ok := CurV.fwd_ok h (by omega)
  refine meets_of mixedW Tryd.func115 (by kernel_rfl) x115_ok (some []) ?_
  refine (cnum_good c 2 g h (by omega) (by decide)).callS [0] 2 rfl rfl rfl rfl ?_
  rintro o L1 g1 ⟨rfl, rfl, hle⟩ _
  refine ⟨by decide, by decide, ?_⟩
  refine (caddr_good (c.fwd 2) g1 hok (by show c.at_ + 2 + 6 ≤ c.s.size; omega)).callS [0] 2 rfl rfl rfl rfl ?_
  rintro o L1 g2 ⟨rfl, rfl, rfl⟩ _
  generalize c.numOf 2 = n at hlt
  have e1 : IntKind.i64.wrap (IntKind.i64.wrap ((n : Int).tdiv 4096) * 4096) = ((n / 4096 * 4096 : Nat) : Int) := by
    rw [Int.tdiv_eq_ediv_of_nonneg (by omega), wrap_id (a := (n : Int) / 4096) (by omega) (by omega), wrap_id (by omega) (by omega)]; omega
  have e2 : (n : Int).tmod 4096 = ((n % 4096 : Nat) : Int) := by
    rw [Int.tmod_eq_emod_of_nonneg (by omega)]; omega
  refine ⟨?_, rfl, hle⟩
  exact twoI (fun a b : Int => Out.ret (.agg ((BridgeV.mk a b (addrOf ((c.fwd 2).cut 6))).cells.map .v))) e1 e2
theorem cbridge_short1 (c : CurV) (g : G) (h : c.ok) (hn : c.s.size < c.at_ + 2) : Meets Tryd.prog 115 [.ptr 0 0] [cuC c] g (fun o L' g' => o = .pan (thr 7 (c.off + c.at_)) ∧ L' = [cuC c] ∧ g' = g) := by
  refine meets_of mixedW Tryd.func115 (by kernel_rfl) x115_ok (some []) ?_
  refine (cnum_bad c 2 g h hn (by decide)).callS [0] 2 rfl rfl rfl rfl ?_
  rintro o L1 g1 ⟨rfl, rfl, rfl⟩ _
  exact ⟨rfl, rfl, rfl⟩
theorem cbridge_short2 (c : CurV) (g : G) (h : c.ok) (hn : c.at_ + 2 ≤ c.s.size) (hm : c.s.size < c.at_ + 8) : Meets Tryd.prog 115 [.ptr 0 0] [cuC c] g (fun o L' g' => o = .pan (thr 7 (c.off + (c.at_ + 2 : Nat))) ∧ L' = [cuC (c.fwd 2)] ∧ G.le g g') := by
  have hok : (c.fwd 2).ok := CurV.fwd_ok h (by omega)
  refine meets_of mixedW Tryd.func115 (by kernel_rfl) x115_ok (some []) ?_
  refine (cnum_good c 2 g h (by omega) (by decide)).callS [0] 2 rfl rfl rfl rfl ?_
  rintro o L1 g1 ⟨rfl, rfl, hle⟩ _
  refine ⟨by decide, by decide, ?_⟩
  refine (caddr_bad (c.fwd 2) g1 hok (by show c.s.size < c.at_ + 2 + 6; omega)).callS [0] 2 rfl rfl rfl rfl ?_
  rintro o L1 g2 ⟨rfl, rfl, rfl⟩ _
  exact ⟨rfl, rfl, hle⟩

theorem cport_short (c : CurV) (g : G) (h : c.ok) (hn : c.s.size < c.at_ + 2) : Meets Tryd.prog 160 [.ptr 0 0] [cuC c] g (fun o L' g' => o = .pan (thr 7 (c.off + c.at_)) ∧ L' = [cuC c] ∧ g' = g) := by
  refine meets_of mixedW Tryd.func160 (by kernel_rfl) x160_ok (some []) ?_
  refine (cnum_bad c 2 g h hn (by decide)).callS [0] 2 rfl rfl rfl rfl ?_
  rintro o L1 g1 ⟨rfl, rfl, rfl⟩ _
  exact ⟨rfl, rfl, rfl⟩
theorem cport_good (c : CurV) (g : G) (h : c.ok) (hn : c.at_ + 2 ≤ c.s.size) (h0 : c.numOf 2 % 4096 ≠ 0) : Meets Tryd.prog 160 [.ptr 0 0] [cuC c] g (fun o L' g' => o = .ret (.agg ((portN (c.numOf 2)).cells.map .v)) ∧ L' = [cuC (c.fwd 2)] ∧ G.le g g') := by
  have hlt := numOf_lt c 2
  refine meets_of mixedW Tryd.func160 (by kernel_rfl) x160_ok (some []) ?_
  refine (cnum_good c 2 g h hn (by decide)).callS [0] 2 rfl rfl rfl rfl ?_
  rintro o L1 g1 ⟨rfl, rfl, hle⟩ _
  generalize c.numOf 2 = n at hlt h0
  have e2 : (n : Int).tmod 4096 = ((n % 4096 : Nat) : Int) := by
    rw [Int.tmod_eq_emod_of_nonneg (by omega)]; omega
  have e1 : IntKind.i64.wrap (IntKind.i64.wrap ((n : Int).tdiv 4096) * 16) = ((n / 4096 * 16 : Nat) : Int) := by
    rw [Int.tdiv_eq_ediv_of_nonneg (by omega), wrap_id (a := (n : Int) / 4096) (by omega) (by omega), wrap_id (by omega) (by omega)]; omega
  refine ⟨by decide, ?_⟩
  refine bsplit_of (fun k => absurd k (by rw [e2]; simp; omega)) (fun _ => ?_)
  refine ⟨by decide, by decide, ?_⟩
  refine ⟨?_, rfl, hle⟩
  exact twoI (fun a b : Int => Out.ret (.agg ((PortV.mk a b).cells.map .v))) e1 e2
theorem cport_bad (c : CurV) (g : G) (h : c.ok) (hn : c.at_ + 2 ≤ c.s.size) (h0 : c.numOf 2 % 4096 = 0) : Meets Tryd.prog 160 [.ptr 0 0] [cuC c] g (fun o L' g' => o = .pan (thr 2 (c.off + c.at_)) ∧ L' = [cuC (c.fwd 2)] ∧ G.le g g') := by
  refine meets_of mixedW Tryd.func160 (by kernel_rfl) x160_ok (some []) ?_
  refine (cnum_good c 2 g h hn (by decide)).callS [0] 2 rfl rfl rfl rfl ?_
  rintro o L1 g1 ⟨rfl, rfl, hle⟩ _
  have e2 : (c.numOf 2 : Int).tmod 4096 = ((c.numOf 2 % 4096 : Nat) : Int) := by
    rw [Int.tmod_eq_emod_of_nonneg (by omega)]; omega
  refine ⟨by decide, ?_⟩
  refine bsplit_of (fun _ => ?_) (fun k => absurd k (by rw [e2, h0]; simp))
  refine absK fun K hK => ?_
  refine (throw_c (c.fwd 2) 2 c.at_ g1 (CurV.fwd_ok h hn) (by obtain ⟨h1, h2, h3, h4⟩ := h; omega)).callS [0] 2 rfl rfl rfl rfl ?_
  rintro o L1 g2 ⟨rfl, rfl, rfl⟩ _
  subst hK
  exact ⟨rfl, rfl, hle⟩

/-- What is wrong with a text that is to be two names. -/
def rdBridge (r : RdV) : BridgeV × RdV := (bridgeN (r.num 2).1 (addrRd (((r.num 2).2).bytes 6).1), (((r.num 2).2).bytes 6).2)

theorem prioRead_c (r : RdV) (v : Value) (g : G) (hr : r.ok) (h : errAt g v r.err) : Meets Tryd.prog 120 [.ptr 0 0] [rdC r v] g (RdPost g (rdBridge r).2 (.agg ((rdBridge r).1.cells.map .v))) := by
  have hlt := numL_rng r 2
  have hok := num_ok hr 2
  refine meets_of mixedW Tryd.func120 (by kernel_rfl) x120_ok (some []) ?_
  refine (num_c r v 2 g hr (by decide) (by decide) h).callS [0] 2 rfl rfl rfl rfl ?_
  rintro o L1 g1 ⟨rfl, ⟨v1, rfl, hv1⟩, hle1⟩ _
  refine (bytes_c (r.num 2).2 v1 6 g1 hok (by decide) hv1).callS [0] 3 rfl rfl rfl rfl ?_
  rintro o L1 g2 ⟨rfl, ⟨v2, rfl, hv2⟩, hle2⟩ _
  have e1 : IntKind.i64.wrap ((BitVec.ofInt IntKind.i64.bits ((r.num 2).1 : Int) &&& ~~~ BitVec.ofInt IntKind.i64.bits 4095).toNat : Int) = (((r.num 2).1 / 4096 * 4096 : Nat) : Int) := by
    rw [andNotI 12 (by decide) (by omega) (by omega) (by decide)]; push_cast; rfl
  have e2 : IntKind.i64.wrap ((BitVec.ofInt IntKind.i64.bits ((r.num 2).1 : Int) &&& BitVec.ofInt IntKind.i64.bits 4095).toNat : Int) = (((r.num 2).1 % 4096 : Nat) : Int) := by
    rw [andI 12 (by decide) (by omega) (by omega) (by decide)]; push_cast; rfl
  have hsz : ((r.num 2).2.bytes 6).1.size ≤ 6 := RdV.bytes_size (r.num 2).2 6
  refine prim_copyC (elem := 5) 61 [.v (.int .i64 (IntKind.i64.wrap ((BitVec.ofInt IntKind.i64.bits ((r.num 2).1 : Int) &&& ~~~ BitVec.ofInt IntKind.i64.bits 4095).toNat : Int))), .v (.int .i64 (IntKind.i64.wrap ((BitVec.ofInt IntKind.i64.bits ((r.num 2).1 : Int) &&& BitVec.ofInt IntKind.i64.bits 4095).toNat : Int))), .v (.int .u8 0), .v (.int .u8 0), .v (.int .u8 0), .v (.int .u8 0), .v (.int .u8 0), .v (.int .u8 0)] ((rdBridge r).1.cells.map .v) rfl rfl rfl (by kernel_rfl) (by kernel_rfl) rfl hsz (by show 0 + 2 + 0 + ((r.num 2).2.bytes 6).1.size ≤ 8; omega) rfl rfl ?_ ?_
  · refine (copy6 (bytes_all 6) [.v (.int .i64 _), .v (.int .i64 _)] [] _ _ rfl rfl).trans ?_
    rw [e1, e2]
    rfl
  exact ⟨rfl, ⟨v2, rfl, hv2⟩, le_trans hle1 hle2⟩

def rdPort (r : RdV) : PortV × RdV := (portN (r.num 2).1, if (r.num 2).2.err = none ∧ (r.num 2).1 % 4096 = 0 then (r.num 2).2.fail 2 r.place else (r.num 2).2)
theorem prioReadPort_c (r : RdV) (v : Value) (g : G) (hr : r.ok) (h : errAt g v r.err) : Meets Tryd.prog 163 [.ptr 0 0] [rdC r v] g (RdPost g (rdPort r).2 (.agg ((rdPort r).1.cells.map .v))) := by
  have hlt := numL_rng r 2
  have hok := num_ok hr 2
  have e1 : IntKind.i64.wrap ((BitVec.ofInt IntKind.i64.bits (((r.num 2).1 : Int).fdiv (2 ^ (min 8 IntKind.i64.bits))) &&& ~~~ BitVec.ofInt IntKind.i64.bits 15).toNat : Int) = (((r.num 2).1 / 4096 * 16 : Nat) : Int) := by
    rw [shr64 (by decide), andNotI 4 (by decide) (by omega) (by omega) (by decide)]; omega
  have e2 : IntKind.i64.wrap ((BitVec.ofInt IntKind.i64.bits ((r.num 2).1 : Int) &&& BitVec.ofInt IntKind.i64.bits 4095).toNat : Int) = (((r.num 2).1 % 4096 : Nat) : Int) := by
    rw [andI 12 (by decide) (by omega) (by omega) (by decide)]; push_cast; rfl
  have fin : Out.ret (.agg [.v (.int .i64 (IntKind.i64.wrap ((BitVec.ofInt IntKind.i64.bits (((r.num 2).1 : Int).fdiv (2 ^ (min 8 IntKind.i64.bits))) &&& ~~~ BitVec.ofInt IntKind.i64.bits 15).toNat : Int))), .v (.int .i64 (IntKind.i64.wrap ((BitVec.ofInt IntKind.i64.bits ((r.num 2).1 : Int) &&& BitVec.ofInt IntKind.i64.bits 4095).toNat : Int)))]) = .ret (.agg ((rdPort r).1.cells.map .v)) := by
    rw [e1, e2]; rfl
  refine meets_of mixedW Tryd.func163 (by kernel_rfl) x163_ok (some []) ?_
  refine (at_c r v g hr).callS [0] 2 rfl rfl rfl rfl ?_
  rintro o L1 g1 ⟨rfl, rfl, rfl⟩ _
  refine (num_c r v 2 _ hr (by decide) (by decide) h).callS [0] 2 rfl rfl rfl rfl ?_
  rintro o L1 g1 ⟨rfl, ⟨v1, rfl, hv1⟩, hle1⟩ _
  refine ⟨by decide, ?_⟩
  refine (err_c (r.num 2).2 v1 g1).callS [0] 3 rfl rfl rfl rfl ?_
  rintro o L1 g2 ⟨rfl, rfl, rfl⟩ _
  rcases errAt_cases hv1 with ⟨rfl, he⟩ | ⟨ad, rfl, e, he⟩
  · refine bsplit_of (fun k => ?_) (fun k => ?_)
    · have k0 : (r.num 2).1 % 4096 = 0 := by rw [e2] at k; simp at k; omega
      refine absK fun K hK => ?_
      refine (fail_c (r.num 2).2 .nilIface 2 r.place _ hv1).callS [0] 3 rfl rfl rfl rfl ?_
      rintro o L1 g2 ⟨rfl, ⟨v2, rfl, hv2⟩, hle2⟩ _
      subst hK
      have e : (rdPort r).2 = (r.num 2).2.fail 2 r.place := if_pos ⟨he, k0⟩
      rw [e]
      exact ⟨fin, ⟨v2, rfl, hv2⟩, le_trans hle1 hle2⟩
    · have k0 : ¬ (r.num 2).1 % 4096 = 0 := by rw [e2] at k; simp at k; omega
      have e : (rdPort r).2 = (r.num 2).2 := if_neg (fun h => k0 h.2)
      rw [e]
      exact ⟨fin, ⟨_, rfl, hv1⟩, hle1⟩
  · have e : (rdPort r).2 = (r.num 2).2 := if_neg (fun h => by rw [he] at h; cases h.1)
    rw [e]
    exact ⟨fin, ⟨_, rfl, hv1⟩, hle1⟩

/-! ### Both are one -/

end Go.Proofs.YtmeoalpmicndbaaDoor
