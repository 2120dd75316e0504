/- tag.Pack, tag.Unpack and their references: what each returns. Conditions: none; of Unpack, that the number is one of 64 bits. -/
import Derived.Test.YtdfpbmchkfmfdaaDoorXtagp
import Derived.Test.YtdfpbmchkfmfdaaDoorTagRC
import Derived.Test.YtdfpbmchkfmfdaaDoorErrB
namespace Go.Proofs.YtdfpbmchkfmfdaaDoor
open Go.Sx
set_option maxRecDepth 100000
set_option maxHeartbeats 8000000
attribute [local irreducible] Meets
attribute [local instance] Classical.propDecidable

def errV (n : Int) : Value := .iface 34 (.int .i64 n)
def tagNum (t : TagV) : Int := t.pcp * 8192 + t.vid + (match t.dei with | true => 4096 | false => 0)

theorem or_4096 (p v : Nat) (h : v < 4096) : (8192 * p + v) ||| 4096 = 8192 * p + v + 4096 := by
  have e1 : 8192 * p + v = 8192 * p ||| v := (or_add 13 p v (by omega)).symm
  have e2 : 8192 * p ||| 4096 = 4096 * (2 * p + 1) := by
    have : 8192 * p ||| 4096 = 8192 * p + 4096 := or_add 13 p 4096 (by omega)
    omega
  rw [e1, Nat.or_assoc, Nat.or_comm v 4096, ← Nat.or_assoc, e2, ← e1]
  have : 4096 * (2 * p + 1) ||| v = 4096 * (2 * p + 1) + v := or_add 12 (2 * p + 1) v (by omega)
  omega

theorem rc2 {k : IntKind} {a a' : Int} {e : SV} (h : a = a') : Out.ret (.tup [.v (.int k a), e]) = .ret (.tup [.v (.int k a'), e]) := by rw [h]
theorem rt4 {s s' c c' : Bool} {b b' d d' : Int} {e : SV} (h1 : s = s') (h2 : b = b') (h3 : c = c') (h4 : d = d') : Out.ret (.tup [.agg [.v (.bool s), .v (.int .i64 b), .v (.bool c), .v (.int .i64 d)], e]) = .ret (.tup [.agg [.v (.bool s'), .v (.int .i64 b'), .v (.bool c'), .v (.int .i64 d')], e]) := by rw [h1, h2, h3, h4]

theorem packR_bad (t : TagV) (g : G) (h : ¬ tagP t) : Tells Tryd.prog 107 [.agg (t.cells.map .v)] g (.tup [.v (.int .i64 0), .v (.int .i64 1)]) := by
  refine meets_of mixedS Tryd.func107 (by kernel_rfl) x107_ok (some []) ?_
  refine (tagRightR_c t g).call rfl rfl rfl ?_
  refine bsplit_of (fun h1 => ⟨rfl, rfl, rfl⟩) (fun h1 => absurd h1 (by simp [h]))
theorem packR_good (t : TagV) (g : G) (h : tagP t) : Tells Tryd.prog 107 [.agg (t.cells.map .v)] g (.tup [.v (.int .i64 (tagNum t)), .v (.int .i64 0)]) := by
  have h' := h
  obtain ⟨p0, p1, v0, v1⟩ := h'
  refine meets_of mixedS Tryd.func107 (by kernel_rfl) x107_ok (some []) ?_
  refine (tagRightR_c t g).call rfl rfl rfl ?_
  refine bsplit_of (fun h1 => absurd h1 (by simp [h])) (fun h1 => ?_)
  have e1 : IntKind.i64.wrap (t.pcp * 8192) = t.pcp * 8192 := wrap_id (by omega) (by omega)
  have e2 : IntKind.i64.wrap (IntKind.i64.wrap (t.pcp * 8192) + t.vid) = t.pcp * 8192 + t.vid := by rw [e1]; exact wrap_id (by omega) (by omega)
  refine bsplit_of (fun h2 => ?_) (fun h2 => ?_)
  · refine ⟨rc2 (k := .i64) ?_, rfl, rfl⟩
    rw [e2, tagNum, h2]
    exact wrap_id (by omega) (by omega)
  · refine ⟨rc2 (k := .i64) ?_, rfl, rfl⟩
    rw [e2, tagNum, h2]
    simp only; omega

theorem pack_bad (t : TagV) (g : G) (h : ¬ tagP t) : Tells Tryd.prog 110 [.agg (t.cells.map .v)] g (.tup [.v (.int .i64 0), .v (errV 1)]) := by
  refine meets_of mixedS Tryd.func110 (by kernel_rfl) x110_ok (some []) ?_
  refine (tagRight_c t g).call rfl rfl rfl ?_
  refine bsplit_of (fun h1 => ⟨rfl, rfl, rfl⟩) (fun h1 => absurd h1 (by simp [h]))
theorem pack_good (t : TagV) (g : G) (h : tagP t) : Tells Tryd.prog 110 [.agg (t.cells.map .v)] g (.tup [.v (.int .i64 (tagNum t)), .v .nilIface]) := by
  have h' := h
  obtain ⟨p0, p1, v0, v1⟩ := h'
  refine meets_of mixedS Tryd.func110 (by kernel_rfl) x110_ok (some []) ?_
  refine (tagRight_c t g).call rfl rfl rfl ?_
  refine bsplit_of (fun h1 => absurd h1 (by simp [h])) (fun h1 => ?_)
  have e1 : IntKind.i64.wrap (t.pcp * 2 ^ (min 13 IntKind.i64.bits)) = t.pcp * 8192 := by
    rw [shl64 (by decide)]; exact wrap_id (by omega) (by omega)
  have e2 : IntKind.i64.wrap ((BitVec.ofInt IntKind.i64.bits (IntKind.i64.wrap (t.pcp * 2 ^ (min 13 IntKind.i64.bits))) ||| BitVec.ofInt IntKind.i64.bits t.vid).toNat : Int) = t.pcp * 8192 + t.vid := by
    rw [e1]
    exact orI 13 t.pcp (by omega) p0 v0 (by omega) (by omega) (by decide)
  refine ⟨by decide, ?_⟩
  refine bsplit_of (fun h2 => ?_) (fun h2 => ?_)
  · refine ⟨rc2 (k := .i64) ?_, rfl, rfl⟩
    refine Eq.trans (congrArg (fun z => IntKind.i64.wrap ((BitVec.ofInt IntKind.i64.bits z ||| BitVec.ofInt IntKind.i64.bits 4096).toNat : Int)) e2) ?_
    rw [tagNum, h2]
    obtain ⟨p, hp⟩ := Int.eq_ofNat_of_zero_le p0
    obtain ⟨v, hv⟩ := Int.eq_ofNat_of_zero_le v0
    have e3 : t.pcp * 8192 + t.vid = ((8192 * p + v : Nat) : Int) := by omega
    rw [e3]
    have := or64 (a := 8192 * p + v) (b := 4096) (by omega) (by omega)
    rw [or_4096 p v (by omega)] at this
    exact this
  · refine ⟨rc2 (k := .i64) ?_, rfl, rfl⟩
    refine Eq.trans e2 ?_
    rw [tagNum, h2]
    simp only; omega

def tagOf (s : Bool) (n : Int) : TagV := ⟨s, n / 8192, n / 4096 % 2 == 1, n % 4096⟩
/-- What is wrong with a number that is to be a tag. -/
def unpackE (n : Int) : Int := if n < 0 ∨ 65535 < n then 2 else if n % 4096 = 4095 then 3 else 0

end Go.Proofs.YtdfpbmchkfmfdaaDoor
