/- tag.Pack, tag.Unpack and their references: what each returns. Conditions: none; of Unpack, that the number is one of 64 bits. -/
import Derived.Test.YtfagdcpfebghoaaDoorXtagp
import Derived.Test.YtfagdcpfebghoaaDoorTagRC
import Derived.Test.YtfagdcpfebghoaaDoorErrB
namespace Go.Proofs.YtfagdcpfebghoaaDoor
open Go.Sx
set_option maxRecDepth 100000
set_option maxHeartbeats 8000000
attribute [local irreducible] Meets
attribute [local instance] Classical.propDecidable

def errV (n : Int) : Value := .iface 24 (.int .i64 n)
def tagNum (t : TagV) : Int := t.pcp * 8192 + t.vid + (match t.dei with | true => 4096 | false => 0)

theorem or_4096 (p v : Nat) (h : v < 4096) : (8192 * p + v) ||| 4096 = 8192 * p + v + 4096 := by
  have e1 : 8192 * p + v = 8192 * p ||| v := (or_add 13 p v (by omega)).symm
  have e2 : 8192 * p ||| 4096 = 4096 * (2 * p + 1) := by
    have : 8192 * p ||| 4096 = 8192 * p + 4096 := or_add 13 p 4096 (by omega)
    omega
  rw [e1, Nat.or_assoc, Nat.or_comm v 4096, ← Nat.or_assoc, e2, ← e1]
  have : 4096 * (2 * p + 1) ||| v = 4096 * (2 * p + 1) + v := or_add 12 (2 * p + 1) v (by omega)
  omega

theorem rc2 {k : IntKind} {a a' : Int} {e : SV} (h : a = a') : Out.ret (.tup [.v (.int k a), e]) = .ret (.tup [.v (.int k a'), e]) := by rw [h]
theorem rt4 {s s' c c' : Bool} {b b' d d' : Int} {e : SV} (h1 : s = s') (h2 : b = b') (h3 : c = c') (h4 : d = d') : Out.ret (.tup [.agg [.v (.bool s), .v (.int .i64 b), .v (.bool c), .v (.int .i64 d)], e]) = .ret (.tup [.agg [.v (.bool s'), .v (.int .i64 b'), .v (.bool c'), .v (.int .i64 d')], e]) := by rw [h1, h2, h3, h4]

theorem packR_bad (t : TagV) (g : G) (h : ¬ tagP t) : Tells Tryd.prog 14 [.agg (t.cells.map .v)] g (.tup [.v (.int .i64 0), .v (.int .i64 1)]) := by
  refine meets_of mixedS Tryd.func14 (by kernel_rfl) x14_ok (some []) ?_
  refine (tagRightR_c t g).call rfl rfl rfl ?_
  refine bsplit_of (fun h1 => ⟨rfl, rfl, rfl⟩) (fun h1 => absurd h1 (by simp [h]))
theorem packR_good (t : TagV) (g : G) (h : tagP t) : Tells Tryd.prog 14 [.agg (t.cells.map .v)] g (.tup [.v (.int .i64 (tagNum t)), .v (.int .i64 0)]) := by
  have h' := h
  obtain ⟨p0, p1, v0, v1⟩ := h'
  refine meets_of mixedS Tryd.func14 (by kernel_rfl) x14_ok (some []) ?_
  refine (tagRightR_c t g).call rfl rfl rfl ?_
  refine bsplit_of (fun h1 => absurd h1 (by simp [h])) (fun h1 => ?_)
  have e1 : IntKind.i64.wrap (t.pcp * 8192) = t.pcp * 8192 := wrap_id (by omega) (by omega)
  have e2 : IntKind.i64.wrap (IntKind.i64.wrap (t.pcp * 8192) + t.vid) = t.pcp * 8192 + t.vid := by rw [e1]; exact wrap_id (by omega) (by omega)
  refine bsplit_of (fun h2 => ?_) (fun h2 => ?_)
  · refine ⟨rc2 (k := .i64) ?_, rfl, rfl⟩
    rw [e2, tagNum, h2]
    exact wrap_id (by omega) (by omega)
  · refine ⟨rc2 (k := .i64) ?_, rfl, rfl⟩
    rw [e2, tagNum, h2]
    simp only; omega

theorem pack_bad (t : TagV) (g : G) (h : ¬ tagP t) : Tells Tryd.prog 15 [.agg (t.cells.map .v)] g (.tup [.v (.int .i64 0), .v (errV 1)]) := by
  refine meets_of mixedS Tryd.func15 (by kernel_rfl) x15_ok (some []) ?_
  refine (tagRight_c t g).call rfl rfl rfl ?_
  refine bsplit_of (fun h1 => ⟨rfl, rfl, rfl⟩) (fun h1 => absurd h1 (by simp [h]))
theorem pack_good (t : TagV) (g : G) (h : tagP t) : Tells Tryd.prog 15 [.agg (t.cells.map .v)] g (.tup [.v (.int .i64 (tagNum t)), .v .nilIface]) := by
  have h' := h
  obtain ⟨p0, p1, v0, v1⟩ := h'
  refine meets_of mixedS Tryd.func15 (by kernel_rfl) x15_ok (some []) ?_
  refine (tagRight_c t g).call rfl rfl rfl ?_
  refine bsplit_of (fun h1 => absurd h1 (by simp [h])) (fun h1 => ?_)
  have e1 : IntKind.i64.wrap (t.pcp * 2 ^ (min 13 IntKind.i64.bits)) = t.pcp * 8192 := by
    rw [shl64 (by decide)]; exact wrap_id (by omega) (by omega)
  have e2 : IntKind.i64.wrap ((BitVec.ofInt IntKind.i64.bits (IntKind.i64.wrap (t.pcp * 2 ^ (min 13 IntKind.i64.bits))) ||| BitVec.ofInt IntKind.i64.bits t.vid).toNat : Int) = t.pcp * 8192 + t.vid := by
    rw [e1]
    exact orI 13 t.pcp (by omega) p0 v0 (by omega) (by omega) (by decide)
  refine ⟨by decide, ?_⟩
  refine bsplit_of (fun h2 => ?_) (fun h2 => ?_)
  · refine ⟨rc2 (k := .i64) ?_, rfl, rfl⟩
    refine Eq.trans (congrArg (fun z => IntKind.i64.wrap ((BitVec.ofInt IntKind.i64.bits z ||| BitVec.ofInt IntKind.i64.bits 4096).toNat : Int)) e2) ?_
    rw [tagNum, h2]
    obtain ⟨p, hp⟩ := Int.eq_ofNat_of_zero_le p0
    obtain ⟨v, hv⟩ := Int.eq_ofNat_of_zero_le v0
    have e3 : t.pcp * 8192 + t.vid = ((8192 * p + v : Nat) : Int) := by omega
    rw [e3]
    have := or64 (a := 8192 * p + v) (b := 4096) (by omega) (by omega)
    rw [or_4096 p v (by omega)] at this
    exact this
  · refine ⟨rc2 (k := .i64) ?_, rfl, rfl⟩
    refine Eq.trans e2 ?_
    rw [tagNum, h2]
    simp only; omega

def tagOf (s : Bool) (n : Int) : TagV := ⟨s, n / 8192, n / 4096 % 2 == 1, n % 4096⟩
/-- What is wrong with a number that is to be a tag. -/
def unpackE (n : Int) : Int := if n < 0 ∨ 65535 < n then 2 else if n % 4096 = 4095 then 3 else 0

theorem unpackR_c (s : Bool) (n : Int) (g : G) : Tells Tryd.prog 16 [.v (.bool s), .v (.int .i64 n)] g (.tup [.agg ((if unpackE n = 0 then tagOf s n else TagV.zero).cells.map .v), .v (.int .i64 (unpackE n))]) := by
  refine meets_of mixedS Tryd.func16 (by kernel_rfl) x16_ok (some []) ?_
  refine (within_c n 0 65535 g).call rfl rfl rfl ?_
  refine bsplit_of (fun h1 => ?_) (fun h1 => ?_)
  · have : unpackE n = 2 := if_pos (by simp at h1; omega)
    rw [this]
    exact ⟨rfl, rfl, rfl⟩
  · have hr : 0 ≤ n ∧ n ≤ 65535 := by simpa using h1
    have hm : n.tmod 4096 = n % 4096 := Int.tmod_eq_emod_of_nonneg hr.1
    refine ⟨by decide, ?_⟩
    refine bsplit_of (fun h2 => ?_) (fun h2 => ?_)
    · have : unpackE n = 3 := by
        rw [unpackE, if_neg (by omega), if_pos]
        rw [hm] at h2
        simpa using h2
      rw [this]
      exact ⟨rfl, rfl, rfl⟩
    · have : unpackE n = 0 := by
        rw [unpackE, if_neg (by omega), if_neg]
        rw [hm] at h2
        simpa using h2
      rw [this, if_pos rfl]
      refine ⟨by decide, by decide, by decide, by decide, ?_⟩
      have d1 : n.tdiv 8192 = n / 8192 := Int.tdiv_eq_ediv_of_nonneg hr.1
      have d2 : n.tdiv 4096 = n / 4096 := Int.tdiv_eq_ediv_of_nonneg hr.1
      have w1 : IntKind.i64.wrap (n.tdiv 8192) = n / 8192 := by rw [d1]; exact wrap_id (by omega) (by omega)
      have w2 : IntKind.i64.wrap (n.tdiv 4096) = n / 4096 := by rw [d2]; exact wrap_id (by omega) (by omega)
      refine ⟨rt4 rfl w1 ?_ hm, rfl, rfl⟩
      rw [w2, Int.tmod_eq_emod_of_nonneg (by omega)]
      rfl

theorem unpack_c (s : Bool) (n : Int) (g : G) : Tells Tryd.prog 17 [.v (.bool s), .v (.int .i64 n)] g (.tup [.agg ((if unpackE n = 0 then tagOf s n else TagV.zero).cells.map .v), .v (if unpackE n = 0 then .nilIface else errV (unpackE n))]) := by
  refine meets_of mixedS Tryd.func17 (by kernel_rfl) x17_ok (some []) ?_
  refine bsplit_of (fun h1 => ?_) (fun h1 => ?_)
  · have : unpackE n = 2 := if_pos (by simp at h1; omega)
    rw [this]
    exact ⟨rfl, rfl, rfl⟩
  · refine bsplit_of (fun h2 => ?_) (fun h2 => ?_)
    · have : unpackE n = 2 := if_pos (by simp at h2; omega)
      rw [this]
      exact ⟨rfl, rfl, rfl⟩
    · have hr : 0 ≤ n ∧ n ≤ 65535 := by simp at h1 h2; omega
      refine ⟨by decide, by decide, ?_⟩
      have f1 : n.fdiv (2 ^ (min 13 IntKind.i64.bits)) = n / 8192 := shr64 (by decide)
      have f2 : n.fdiv (2 ^ (min 12 IntKind.i64.bits)) = n / 4096 := shr64 (by decide)
      have a1 : IntKind.i64.wrap ((BitVec.ofInt IntKind.i64.bits (n.fdiv (2 ^ (min 12 IntKind.i64.bits))) &&& BitVec.ofInt IntKind.i64.bits 1).toNat : Int) = n / 4096 % 2 := by
        rw [f2]; exact andI 1 (by decide) (by omega) (by omega) (by decide)
      have a2 : IntKind.i64.wrap ((BitVec.ofInt IntKind.i64.bits n &&& BitVec.ofInt IntKind.i64.bits 4095).toNat : Int) = n % 4096 := andI 12 (by decide) (by omega) (by omega) (by decide)
      have e : (⟨s, n.fdiv (2 ^ (min 13 IntKind.i64.bits)), IntKind.i64.wrap ((BitVec.ofInt IntKind.i64.bits (n.fdiv (2 ^ (min 12 IntKind.i64.bits))) &&& BitVec.ofInt IntKind.i64.bits 1).toNat : Int) == 1, IntKind.i64.wrap ((BitVec.ofInt IntKind.i64.bits n &&& BitVec.ofInt IntKind.i64.bits 4095).toNat : Int)⟩ : TagV) = tagOf s n := by
        rw [a1, a2, f1]; rfl
      have hp : tagP (tagOf s n) ↔ n % 4096 ≠ 4095 := by
        simp only [tagP, tagOf]
        omega
      refine (tagRight_c ⟨s, n.fdiv (2 ^ (min 13 IntKind.i64.bits)), IntKind.i64.wrap ((BitVec.ofInt IntKind.i64.bits (n.fdiv (2 ^ (min 12 IntKind.i64.bits))) &&& BitVec.ofInt IntKind.i64.bits 1).toNat : Int) == 1, IntKind.i64.wrap ((BitVec.ofInt IntKind.i64.bits n &&& BitVec.ofInt IntKind.i64.bits 4095).toNat : Int)⟩ g).call rfl rfl rfl ?_
      refine bsplit_of (fun h3 => ?_) (fun h3 => ?_)
      · rw [e] at h3
        have : unpackE n = 3 := by
          rw [unpackE, if_neg (by omega), if_pos]
          have h4 : ¬ tagP (tagOf s n) := by simpa using h3
          rw [hp] at h4
          omega
        rw [this]
        exact ⟨rfl, rfl, rfl⟩
      · rw [e] at h3
        have : unpackE n = 0 := by
          rw [unpackE, if_neg (by omega), if_neg]
          have h4 : tagP (tagOf s n) := by simpa using h3
          rw [hp] at h4
          exact h4
        rw [this, if_pos rfl, if_pos rfl]
        exact ⟨rt4 rfl f1 (congrArg (fun z : Int => z == 1) a1) a2, rfl, rfl⟩

/-- The law TagPacks. -/
theorem tagPacks_c (t : TagV) (s : Bool) (n : Int) (g : G) (_ : t.ok g) (_ : iok .i64 n) (hE : ErrVar g) : Meets Tryd.prog 3 [.agg (t.cells.map .v), .v (.bool s), .v (.int .i64 n)] [] g (fun o _ _ => o = .ret (.v (.bool true))) := by
  have hb : ErrP g (errV 1) 1 (-1) := .bare 1
  have hu : ErrP g (if unpackE n = 0 then .nilIface else errV (unpackE n)) (unpackE n) (-1) := by
    by_cases h : unpackE n = 0
    · rw [if_pos h, h]; exact .nil
    · rw [if_neg h]; exact .bare _
  refine meets_of mixedS Tryd.func3 (by kernel_rfl) x3_ok (some []) ?_
  by_cases h : tagP t
  · refine (packR_good t g h).call rfl rfl rfl ?_
    refine (pack_good t g h).call rfl rfl rfl ?_
    refine (unpackR_c s n g).call rfl rfl rfl ?_
    refine (unpack_c s n g).call rfl rfl rfl ?_
    refine (bare_c _ 0 (-1) 0 g hE .nil).call rfl rfl rfl ?_
    refine bsplit_of (fun h1 => ?_) (fun h1 => absurd h1 (by simp))
    refine (bare_c _ _ _ (unpackE n) g hE hu).call rfl rfl rfl ?_
    refine bsplit_of (fun h2 => ?_) (fun h2 => absurd h2 (by simp))
    refine bsplit_of (fun h3 => ?_) (fun h3 => absurd h3 (by simp))
    refine (tagRight_c t g).call rfl rfl rfl ?_
    refine (tagRightR_c t g).call rfl rfl rfl ?_
    exact rb (by simp)
  · refine (packR_bad t g h).call rfl rfl rfl ?_
    refine (pack_bad t g h).call rfl rfl rfl ?_
    refine (unpackR_c s n g).call rfl rfl rfl ?_
    refine (unpack_c s n g).call rfl rfl rfl ?_
    refine (bare_c _ 1 (-1) 1 g hE hb).call rfl rfl rfl ?_
    refine (bare_c _ _ _ (unpackE n) g hE hu).call rfl rfl rfl ?_
    refine bsplit_of (fun h2 => ?_) (fun h2 => absurd h2 (by simp))
    refine bsplit_of (fun h3 => ?_) (fun h3 => absurd h3 (by simp))
    refine (tagRight_c t g).call rfl rfl rfl ?_
    refine (tagRightR_c t g).call rfl rfl rfl ?_
    exact rb (by simp)
end Go.Proofs.YtfagdcpfebghoaaDoor
