/- Readers and cursors: their contracts in one form each. Conditions: places and texts are of a size that memory holds. -/
import Derived.Test.YtfianfpmnglfnaaDoorCurC
import Derived.Test.YtfianfpmnglfnaaDoorBaseC
namespace Go.Proofs.YtfianfpmnglfnaaDoor
open Go.Sx
set_option maxRecDepth 100000
set_option maxHeartbeats 8000000
attribute [local irreducible] Meets

/-- A reader at hand: its error lies where no one writes. -/
def RdAt (g0 g : G) (v : Value) (r : RdV) : Prop := G.le g0 g ∧ r.ok ∧ errAt g v r.err
def RdQ (g0 : G) (r : RdV) (x : SV) (o : Out) (L' : List Chunk) (g' : G) : Prop := o = .ret x ∧ ∃ v, L' = [rdC r v] ∧ RdAt g0 g' v r
theorem RdAt.le {g0 g : G} {v : Value} {r : RdV} (h : RdAt g0 g v r) : G.le g0 g := h.1
theorem RdAt.nil {g0 g : G} {v : Value} {r : RdV} (h : RdAt g0 g v r) (he : r.err = none) : v = .nilIface := by
  have := h.2.2; rw [he] at this; exact this
theorem RdAt.some {g0 g : G} {v : Value} {r : RdV} (h : RdAt g0 g v r) {p : Int × Int} (he : r.err = some p) : ∃ ad, v = .iface 136 (.pointer (some ad)) ∧ g.at ad [.int .i64 p.1, .int .i64 p.2] := by
  have := h.2.2; rw [he] at this; exact this
theorem RdAt.weak {g0 g1 g : G} {v : Value} {r : RdV} (h : RdAt g1 g v r) (hl : G.le g0 g1) : RdAt g0 g v r := ⟨le_trans hl h.1, h.2⟩
theorem RdAt.mono {g0 g g' : G} {v : Value} {r : RdV} (h : RdAt g0 g v r) (hl : G.le g g') : RdAt g0 g' v r := ⟨le_trans h.1 hl, h.2.1, h.2.2.mono hl⟩
theorem RdQ.of {g0 g : G} {r : RdV} {x : SV} (hl : G.le g0 g) (hr : r.ok) {o : Out} {L' : List Chunk} {g' : G} (h : RdPost g r x o L' g') : RdQ g0 r x o L' g' := by
  obtain ⟨rfl, ⟨v, rfl, hv⟩, hle⟩ := h
  exact ⟨rfl, v, rfl, le_trans hl hle, hr, hv⟩
def rd0 (s : ByteArray) : RdV := ⟨s, 0, 0, none⟩
theorem rd0_ok {s : ByteArray} (h : s.size ≤ 1000000000000) : (rd0 s).ok := ⟨Nat.zero_le _, h, Int.le_refl _, (by decide : (0 : Int) ≤ 1000000000000000)⟩
theorem rd0_at {s : ByteArray} (h : s.size ≤ 1000000000000) (g : G) : RdAt g g .nilIface (rd0 s) := ⟨le_refl g, rd0_ok h, rfl⟩

theorem bytes_k {g0 g : G} {r : RdV} {v : Value} (h : RdAt g0 g v r) (n : Nat) (hn : n ≤ 1000000000000) : Meets Tryd.prog 93 [.ptr 0 0, .v (.int .i64 n)] [rdC r v] g (RdQ g0 (rdBytes n r).2 (.v (.string (rdBytes n r).1))) :=
  (bytes_c r v n g h.2.1 (by omega) h.2.2).mono fun _ _ _ k => RdQ.of h.1 (RdV.bytes_ok h.2.1 n) k
theorem num_k {g0 g : G} {r : RdV} {v : Value} (h : RdAt g0 g v r) (n : Nat) (h1 : 1 ≤ n) (h7 : n ≤ 7) : Meets Tryd.prog 66 [.ptr 0 0, .v (.int .i64 n)] [rdC r v] g (RdQ g0 (rdNum n r).2 (.v (.int .i64 (rdNum n r).1))) :=
  (num_c r v n g h.2.1 h1 h7 h.2.2).mono fun _ _ _ k => RdQ.of h.1 (num_ok h.2.1 n) k
theorem fail_k {g0 g : G} {r : RdV} {v : Value} (h : RdAt g0 g v r) (n pl : Int) : Meets Tryd.prog 67 [.ptr 0 0, .v (.int .i64 n), .v (.int .i64 pl)] [rdC r v] g (RdQ g0 (r.fail n pl) (.tup [])) :=
  (fail_c r v n pl g h.2.2).mono fun _ _ _ k => RdQ.of h.1 (RdV.fail_ok h.2.1 n pl) k
theorem zeros_k {g0 g : G} {r : RdV} {v : Value} (h : RdAt g0 g v r) : Meets Tryd.prog 70 [.ptr 0 0] [rdC r v] g (RdQ g0 r.zeros (.v (.bool r.zeros.err.isNone))) :=
  (zeros_c r v g h.2.1 h.2.2).mono fun _ _ _ k => RdQ.of h.1 (RdV.zeros_ok h.2.1) k
theorem err_k {g0 g : G} {r : RdV} {v : Value} (_ : RdAt g0 g v r) : Meets Tryd.prog 68 [.ptr 0 0] [rdC r v] g (fun o L' g' => o = .ret (.v v) ∧ L' = [rdC r v] ∧ g' = g) := err_c r v g
theorem at_k {g0 g : G} {r : RdV} {v : Value} (h : RdAt g0 g v r) : Meets Tryd.prog 69 [.ptr 0 0] [rdC r v] g (fun o L' g' => o = .ret (.v (.int .i64 r.place)) ∧ L' = [rdC r v] ∧ g' = g) := at_c r v g h.2.1
theorem left_k {g0 g : G} {r : RdV} {v : Value} (h : RdAt g0 g v r) : Meets Tryd.prog 94 [.ptr 0 0] [rdC r v] g (fun o L' g' => o = .ret (.v (.int .i64 ((r.s.size - r.at_ : Nat) : Int))) ∧ L' = [rdC r v] ∧ g' = g) := by
  have e : ((r.s.size - r.at_ : Nat) : Int) = (r.s.size : Int) - r.at_ := by have := h.2.1.1; omega
  rw [e]
  exact left_c r v g h.2.1
theorem rdNum_lt (n : Nat) (r : RdV) : (rdNum n r).1 < 256 ^ n := numL_rng r n
/-- Of which length bytes that are read are. -/
theorem rdBytes_all (n : Nat) (r : RdV) : (rdBytes n r).1.size = n ∨ (rdBytes n r).1 = ⟨#[]⟩ := bytes_all n

/-- A cursor is left, and this is told or thrown. -/
def CuQ {α : Type} (g0 : G) (off : Int) (sv : α → SV) (x : CR α) (o : Out) (L' : List Chunk) (g' : G) : Prop := match x with
  | .ok a c => o = .ret (sv a) ∧ L' = [cuC c] ∧ G.le g0 g' ∧ c.ok ∧ c.off = off
  | .thr e pl c => o = .pan (thr e pl) ∧ L' = [cuC c] ∧ G.le g0 g' ∧ e ≠ 0
def CuAt (g0 : G) (off : Int) (g : G) (c : CurV) : Prop := G.le g0 g ∧ c.ok ∧ c.off = off
theorem cu0_at {s : ByteArray} (h : s.size ≤ 1000000000000) (g : G) : CuAt g 0 g (cur0 s) := ⟨le_refl g, cur0_ok h, rfl⟩
theorem fwd_zat {c : CurV} (h : c.ok) : (c.fwd (zat c.rest)).ok := by
  refine CurV.fwd_ok h ?_
  have := zat_le c.rest
  have e : c.rest.length = c.s.size - c.at_ := by simp only [CurV.rest, List.length_drop, Array.length_toList]; rfl
  have := h.1
  omega
theorem CuAt.at_lt {g0 g : G} {off : Int} {c : CurV} (h : CuAt g0 off g c) : 0 ≤ (c.at_ : Int) ∧ (c.at_ : Int) ≤ 1000000000000 := by
  have h1 := h.2.1.1
  have h2 := h.2.1.2.1
  omega

theorem eat_k {g0 g : G} {off : Int} {c : CurV} (h : CuAt g0 off g c) (n : Nat) (hn : n ≤ 1000000000000) : Meets Tryd.prog 90 [.ptr 0 0, .v (.int .i64 n)] [cuC c] g (CuQ g0 off (fun s => .v (.string s)) (cuEat n c)) := by
  unfold cuEat
  by_cases k : c.at_ + n ≤ c.s.size
  · rw [if_pos k]
    refine (eat_good c n g h.2.1 k).mono ?_
    rintro o L' g' ⟨rfl, rfl, rfl⟩
    exact ⟨rfl, rfl, h.1, CurV.fwd_ok h.2.1 k, h.2.2⟩
  · rw [if_neg k]
    refine (eat_bad c n g h.2.1 (by omega) hn).mono ?_
    rintro o L' g' ⟨rfl, rfl, rfl⟩
    exact ⟨rfl, rfl, h.1, by decide⟩
theorem cnum_k {g0 g : G} {off : Int} {c : CurV} (h : CuAt g0 off g c) (n : Nat) (h7 : n ≤ 7) : Meets Tryd.prog 61 [.ptr 0 0, .v (.int .i64 n)] [cuC c] g (CuQ g0 off (fun n : Nat => .v (.int .i64 n)) (cuNum n c)) := by
  unfold cuNum
  by_cases k : c.at_ + n ≤ c.s.size
  · rw [if_pos k]
    refine (cnum_good c n g h.2.1 k h7).mono ?_
    rintro o L' g' ⟨rfl, rfl, hle⟩
    exact ⟨rfl, rfl, le_trans h.1 hle, CurV.fwd_ok h.2.1 k, h.2.2⟩
  · rw [if_neg k]
    refine (cnum_bad c n g h.2.1 (by omega) (by omega)).mono ?_
    rintro o L' g' ⟨rfl, rfl, rfl⟩
    exact ⟨rfl, rfl, h.1, by decide⟩
theorem cuNum_lt {n : Nat} {c c' : CurV} {x : Nat} (h : cuNum n c = .ok x c') : x < 256 ^ n := by
  unfold cuNum at h
  split at h
  · cases h; exact numOf_lt c n
  · cases h
theorem cuEat_size {n : Nat} {c c' : CurV} {x : ByteArray} (h : cuEat n c = .ok x c') : x.size = n := by
  unfold cuEat at h
  split at h
  · cases h; exact cut_size (by assumption)
  · cases h
def addrS (s : ByteArray) : SV := .agg ((addrOf s).cells.map .v)
theorem want_k {g0 g : G} {off : Int} {c : CurV} (h : CuAt g0 off g c) (s : ByteArray) (hs : s.size ≤ 1000000000000) : Meets Tryd.prog 60 [.ptr 0 0, .v (.string s)] [cuC c] g (CuQ g0 off (fun _ => .tup []) (cuWant s c)) := by
  unfold cuWant
  by_cases k : c.at_ + s.size ≤ c.s.size
  · rw [if_pos k]
    by_cases e : c.cut s.size = s
    · rw [if_pos e]
      refine (want_good c s g h.2.1 k e).mono ?_
      rintro o L' g' ⟨rfl, rfl, rfl⟩
      exact ⟨rfl, rfl, h.1, CurV.fwd_ok h.2.1 k, h.2.2⟩
    · rw [if_neg e]
      refine (want_diff c s g h.2.1 k e).mono ?_
      rintro o L' g' ⟨rfl, rfl, rfl⟩
      exact ⟨rfl, rfl, h.1, by decide⟩
  · rw [if_neg k]
    refine (want_short c s g h.2.1 (by omega) hs).mono ?_
    rintro o L' g' ⟨rfl, rfl, rfl⟩
    exact ⟨rfl, rfl, h.1, by decide⟩
theorem noughts_k {g0 g : G} {off : Int} {c : CurV} (h : CuAt g0 off g c) : Meets Tryd.prog 62 [.ptr 0 0] [cuC c] g (CuQ g0 off (fun _ => .tup []) (cuNoughts c)) := by
  unfold cuNoughts
  refine (noughts_c c g h.2.1).mono ?_
  rintro o L' g' ⟨rfl, rfl, hk⟩
  rcases hk with ⟨k, rfl⟩ | ⟨k, rfl⟩
  · rw [if_pos k]; exact ⟨rfl, rfl, h.1, fwd_zat h.2.1, h.2.2⟩
  · rw [if_neg (by omega)]; exact ⟨rfl, rfl, h.1, by decide⟩
theorem throw_k {g0 g : G} {off : Int} {c : CurV} (h : CuAt g0 off g c) (e at_ : Int) (ha : 0 ≤ at_ ∧ at_ ≤ 1000000000000) : Meets Tryd.prog 63 [.ptr 0 0, .v (.int .i64 e), .v (.int .i64 at_)] [cuC c] g (fun o L' g' => o = .pan (thr e (off + at_)) ∧ L' = [cuC c] ∧ g' = g) := by
  rw [← h.2.2]
  exact throw_c c e at_ g h.2.1 ha

/-! ### Bytes copied into a part of a block -/
section
variable {P : Program} {L : List Chunk} {g : G} {chk : List Nat → List Nat → Bool} {K : Out → List Chunk → G → Prop} {c : Call} {x y : Operand} {dT sT elem : TypeId} {b off cap : Nat} {s : ByteArray}
theorem copyAddr (ty : TypeId) (pre post : List SV) (hs : s.size = 6 ∨ s = ⟨#[]⟩) (hcal : c.callee = .builtin .copy) (hargs : c.args.toList = [x, y]) (htys : c.argTypes = #[dT, sT]) (hu : P.underlying dT = some (.slice elem)) (hsz : (P.info? elem).map (·.size) = some 1)
    (hL : L[b]? = some (.cells ty (pre ++ (AddrV.zero.cells.map .v ++ post)))) (hoff : pre.length = off) (hcs : scL L.length (pre ++ (AddrV.zero.cells.map .v ++ post)) = true) (hc : chk [] [b] = true)
    (k : K (.ret (.v (.int .i64 s.size))) (L.set b (.cells ty (pre ++ ((addrRd s).cells.map .v ++ post)))) g) :
    PrimX P (.call c) [x, y] [.slc b off 6 cap, .v (.string s)] L g chk K := by
  have h6 : s.size ≤ 6 := by rcases hs with h | h <;> subst_vars <;> first | omega | exact Nat.zero_le _
  refine prim_copyC (elem := elem) ty (pre ++ (AddrV.zero.cells.map .v ++ post)) _ hcal hargs htys hu hsz hL h6 ?_ hcs hc (copy6 hs pre post _ off hoff rfl) k
  rw [List.length_append, List.length_append]
  have : (AddrV.zero.cells.map SV.v).length = 6 := rfl
  omega
end
/-- Strings held against each other. -/
theorem neTest {a b : ByteArray} {t : Bool} (k : (!(a.toList == b.toList)) = t) : decide (a ≠ b) = t := by
  rw [str_beq] at k
  cases t <;> simp at k ⊢ <;> exact k
theorem notNot {b t : Bool} (k : (!(!b)) = t) : b = t := by simpa using k
/-! ### What bytes are, as numbers: strings of so many -/
theorem addrRd_of {s : ByteArray} (h : s.size = 6) : addrRd s = addrOf s := if_pos h
end Go.Proofs.YtfianfpmnglfnaaDoor
