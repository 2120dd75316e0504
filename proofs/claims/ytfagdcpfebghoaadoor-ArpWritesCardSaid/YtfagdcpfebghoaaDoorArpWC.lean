/- arp.Write, Reply, Right and their references: what each returns; the law ArpWrites. Conditions: the variable errors.errorType holds its handle. -/
import Derived.Test.YtfagdcpfebghoaaDoorXarpw
import Derived.Test.YtfagdcpfebghoaaDoorWireC
namespace Go.Proofs.YtfagdcpfebghoaaDoor
open Go.Sx
set_option maxRecDepth 100000
set_option maxHeartbeats 8000000
attribute [local irreducible] Meets
attribute [local instance] Classical.propDecidable

def arpP (a : ArpV) : Prop := a.op = 1 ∨ a.op = 2
def AddrV.l (x : AddrV) : List Int := [x.e0, x.e1, x.e2, x.e3, x.e4, x.e5]
def A4xu8V.l (x : A4xu8V) : List Int := [x.e0, x.e1, x.e2, x.e3]
def arpHead : ByteArray := ⟨#[0, 1, 8, 0, 6, 4]⟩
def arpS (a : ArpV) : ByteArray := (((arpHead ++ beS 2 a.op.toNat) ++ bytesOfInts a.sha.l) ++ bytesOfInts a.spa.l) ++ bytesOfInts a.tha.l ++ bytesOfInts a.tpa.l
theorem rt2 {a a' : ByteArray} {e e' : SV} (h : a = a') (h2 : e = e') : Out.ret (.tup [.v (.string a), e]) = .ret (.tup [.v (.string a'), e']) := by rw [h, h2]

theorem arpRight_c (a : ArpV) (g : G) : Tells Tryd.prog 30 [.agg (a.cells.map .v)] g (.v (.bool (decide (arpP a)))) := by
  refine meets_of mixedW Tryd.func30 (by kernel_rfl) x30_ok (some []) ?_
  refine bsplit_of (fun h1 => ?_) (fun h1 => ?_)
  · exact ⟨rbd (by simp at h1; simp [arpP, h1]), rfl, rfl⟩
  · exact ⟨rbd (by simp at h1; simp [arpP, h1]), rfl, rfl⟩

theorem arpWriteR_bad (a : ArpV) (g : G) (h : ¬ arpP a) : Tells Tryd.prog 27 [.agg (a.cells.map .v)] g (.tup [.v (.string emp), .v (.int .i64 1)]) := by
  refine meets_of mixedW Tryd.func27 (by kernel_rfl) x27_ok (some []) ?_
  refine bsplit_of (fun h1 => ?_) (fun h1 => absurd h (by simp at h1; simp [arpP, h1]))
  refine bsplit_of (fun h2 => ?_) (fun h2 => absurd h (by simp at h2; simp [arpP, h2]))
  exact ⟨rfl, rfl, rfl⟩
theorem arpWriteR_good (a : ArpV) (g : G) (h : arpP a) : Tells Tryd.prog 27 [.agg (a.cells.map .v)] g (.tup [.v (.string (arpS a)), .v (.int .i64 0)]) := by
  have e1 : (ByteArray.mk #[0, 1, 8, 0, 6, 4, 0]) ++ bytesOfInts [IntKind.u8.wrap a.op] = arpHead ++ beS 2 a.op.toNat := by
    rcases h with h | h <;> rw [h] <;> rfl
  refine meets_of mixedW Tryd.func27 (by kernel_rfl) x27_ok (some []) ?_
  have fin : ∀ K : Prop, K → K := fun _ h => h
  refine bsplit_of (fun h1 => ?p) (fun h1 => ?q)
  case' p => refine bsplit_of (fun h2 => absurd h (by simp at h1 h2; simp [arpP, h1, h2])) (fun h2 => ?_)
  all_goals
    refine ⟨by simp [ByteArray.size, bytesOfInts], ?_⟩
    refine ⟨by simp [ByteArray.size, bytesOfInts], ?_⟩
    refine ⟨by simp [ByteArray.size, bytesOfInts], ?_⟩
    refine ⟨by simp [ByteArray.size, bytesOfInts], ?_⟩
    refine ⟨by simp [ByteArray.size, bytesOfInts], ?_⟩
    refine ⟨rt2 ?_ rfl, rfl, rfl⟩
    rw [e1]
    rfl

theorem arpWrite_bad (a : ArpV) (g : G) (h : ¬ arpP a) : Tells Tryd.prog 28 [.agg (a.cells.map .v)] g (.tup [.v (.string emp), .v (errW 1)]) := by
  refine meets_of mixedW Tryd.func28 (by kernel_rfl) x28_ok (some []) ?_
  refine (arpRight_c a g).call rfl rfl rfl ?_
  refine bsplit_of (fun h1 => ⟨rfl, rfl, rfl⟩) (fun h1 => absurd h1 (by simp [h]))
theorem arpWrite_good (a : ArpV) (g : G) (h : arpP a) : Tells Tryd.prog 28 [.agg (a.cells.map .v)] g (.tup [.v (.string (arpS a)), .v .nilIface]) := by
  refine meets_of mixedW Tryd.func28 (by kernel_rfl) x28_ok (some []) ?_
  refine (arpRight_c a g).call rfl rfl rfl ?_
  refine bsplit_of (fun h1 => absurd h1 (by simp [h])) (fun h1 => ?_)
  have b : 0 ≤ a.op ∧ a.op ≤ 2 := by rcases h with h | h <;> omega
  refine (mustG a.op 2 g (by decide) (by decide) b.1 (by omega) (by omega)).call rfl rfl rfl ?_
  refine ⟨by simp [ByteArray.size, bytesOfInts, beS, beI_length], ?_⟩
  refine ⟨by simp [ByteArray.size, bytesOfInts, beS, beI_length], ?_⟩
  refine ⟨by simp [ByteArray.size, bytesOfInts, beS, beI_length], ?_⟩
  refine ⟨by simp [ByteArray.size, bytesOfInts, beS, beI_length], ?_⟩
  refine ⟨by simp [ByteArray.size, bytesOfInts, beS, beI_length], ?_⟩
  exact ⟨rt2 rfl rfl, rfl, rfl⟩

theorem arpReply_bad (a : ArpV) (m : AddrV) (g : G) (h : ¬ a.op = 1) : Tells Tryd.prog 29 [.agg (a.cells.map .v), .agg (m.cells.map .v)] g (.tup [.agg (ArpV.zero.cells.map .v), .v (errW 6)]) := by
  refine meets_of mixedW Tryd.func29 (by kernel_rfl) x29_ok (some []) ?_
  refine bsplit_of (fun h1 => ⟨rfl, rfl, rfl⟩) (fun h1 => absurd h1 (by simp [h]))
def replyV (a : ArpV) (m : AddrV) : ArpV := ⟨2, m, a.sha, a.tpa, a.spa⟩
theorem arpReply_good (a : ArpV) (m : AddrV) (g : G) (h : a.op = 1) : Tells Tryd.prog 29 [.agg (a.cells.map .v), .agg (m.cells.map .v)] g (.tup [.agg ((replyV a m).cells.map .v), .v .nilIface]) := by
  refine meets_of mixedW Tryd.func29 (by kernel_rfl) x29_ok (some []) ?_
  refine bsplit_of (fun h1 => absurd h1 (by simp [h])) (fun h1 => ⟨rfl, rfl, rfl⟩)

/-- The law ArpWrites. -/
theorem arpWrites_c (a : ArpV) (m : AddrV) (g : G) (_ : a.ok g) (_ : m.ok g) (hE : ErrVar g) : Meets Tryd.prog 5 [.agg (a.cells.map .v), .agg (m.cells.map .v)] [] g (fun o _ _ => o = .ret (.v (.bool true))) := by
  have hn : ErrP g .nilIface 0 (-1) := .nil
  have he1 : ErrP g (errW 1) 1 (-1) := .bare 1
  have he6 : ErrP g (errW 6) 6 (-1) := .bare 6
  refine meets_of mixedW Tryd.func5 (by kernel_rfl) x5_ok (some []) ?_
  by_cases h : arpP a
  · refine (arpWriteR_good a g h).call rfl rfl rfl ?_
    refine (arpWrite_good a g h).call rfl rfl rfl ?_
    by_cases e : a.op = 1
    · refine (arpReply_good a m g e).call rfl rfl rfl ?_
      refine bsplit_of (fun _ => ?_) (fun h1 => absurd h1 (by simp [e]))
      refine (bare_c _ 0 (-1) 0 g hE hn).call rfl rfl rfl ?_
      refine bsplit_of (fun h1 => ?_) (fun h1 => absurd h1 (by simp))
      refine (arpRight_c a g).call rfl rfl rfl ?_
      refine bsplit_of (fun h1 => ?_) (fun h1 => absurd h1 (by simp [h]))
      refine (bare_c _ 0 (-1) 0 g hE hn).call rfl rfl rfl ?_
      exact rb (by simp [replyV, ArpV.zero, AddrV.zero, A4xu8V.zero])
    · refine (arpReply_bad a m g e).call rfl rfl rfl ?_
      refine bsplit_of (fun h1 => absurd h1 (by simp [e])) (fun _ => ?_)
      refine (bare_c _ 0 (-1) 0 g hE hn).call rfl rfl rfl ?_
      refine bsplit_of (fun h1 => ?_) (fun h1 => absurd h1 (by simp))
      refine (arpRight_c a g).call rfl rfl rfl ?_
      refine bsplit_of (fun h1 => ?_) (fun h1 => absurd h1 (by simp [h]))
      refine (bare_c _ 6 (-1) 6 g hE he6).call rfl rfl rfl ?_
      exact rb (by simp [replyV, ArpV.zero, AddrV.zero, A4xu8V.zero])
  · refine (arpWriteR_bad a g h).call rfl rfl rfl ?_
    refine (arpWrite_bad a g h).call rfl rfl rfl ?_
    have e : ¬ a.op = 1 := fun e => h (.inl e)
    refine (arpReply_bad a m g e).call rfl rfl rfl ?_
    refine bsplit_of (fun h1 => absurd h1 (by simp [e])) (fun _ => ?_)
    refine (bare_c _ 1 (-1) 1 g hE he1).call rfl rfl rfl ?_
    refine bsplit_of (fun h1 => ?_) (fun h1 => absurd h1 (by simp))
    refine (arpRight_c a g).call rfl rfl rfl ?_
    refine bsplit_of (fun h1 => ?_) (fun h1 => absurd h1 (by simp [h]))
    refine (bare_c _ 6 (-1) 6 g hE he6).call rfl rfl rfl ?_
    exact rb (by simp [replyV, ArpV.zero, AddrV.zero, A4xu8V.zero])
end Go.Proofs.YtfagdcpfebghoaaDoor
