/- frame.Same, its reference and the law FrameSames: what each returns, for all frames. Conditions: none. -/
import Derived.Test.YtflnpoahceebbaaXframe
import Derived.Test.YtflnpoahceebbaaSx20
namespace Go.Proofs.Ytflnpoahceebbaa
open Go.Sx
set_option maxRecDepth 100000
attribute [local irreducible] Meets

theorem mixed : Try.prog.follows .mixedOrders = true := by kernel_rfl

structure TagV where
  s : Bool
  p : Int
  d : Bool
  v : Int
def TagV.cells (t : TagV) : List Value := [.bool t.s, .int .i64 t.p, .bool t.d, .int .i64 t.v]
def TagV.eq (t u : TagV) : Bool := t.s == u.s && (t.p == u.p && (t.d == u.d && (t.v == u.v && true)))

theorem tagsEq_c (a b : Option Addr) (l m : List TagV) (c d : Nat) (g : G) (h : SliceAt g a l.length 4 (l.flatMap TagV.cells)) (h' : SliceAt g b m.length 4 (m.flatMap TagV.cells)) (hl : l.length ≤ 9223372036854775807) :
    Tells Try.prog 49 [.v (.slice a l.length c), .v (.slice b m.length d)] g (.v (.bool (eqL TagV.eq l m))) := by
  refine meets_of mixed Try.func49 (by kernel_rfl) x49_ok 0 (Nat.le_refl _) ?_
  refine bsplit_of (fun h1 => ?_) (fun h1 => ?_)
  · refine ⟨rfl, vbe (eqL_len ?_), rfl⟩
    simp at h1
    omega
  · have hlm : l.length = m.length := by simp at h1; omega
    change LoopVC _ _ _ _ _ _ _
    apply loop_rule (α := Nat) (fun k => [(13, .v (.int .i64 k))]) (fun _ => []) (fun _ => g) (fun k => k ≤ l.length ∧ ∀ (i : Nat) u v, i < k → l[i]? = some u → m[i]? = some v → TagV.eq u v = true) (fun k => l.length - k) 0
    · intro x
      kernel_rfl
    · exact ⟨Nat.zero_le _, fun i _ _ h => absurd h (Nat.not_lt_zero _)⟩
    · exact ⟨rfl, trivial⟩
    · rfl
    · rfl
    intro k hx
    have hk := hx.1
    have hall := hx.2
    clear hx
    refine bsplit_of (fun hlt => ?_) (fun hlt => ?_)
    · have hlt' : k < l.length := by simpa using hlt
      have hlt2 : k < m.length := by omega
      obtain ⟨ad, ha, hat⟩ := h.elem hlt'
      obtain ⟨bd, hb, hbt⟩ := h'.elem hlt2
      obtain ⟨t, ht⟩ := lt_some hlt'
      obtain ⟨u, hu⟩ := lt_some hlt2
      rw [flatMap_at _ 4 (fun _ => rfl) l k t ht] at hat
      rw [flatMap_at _ 4 (fun _ => rfl) m k u hu] at hbt
      refine ⟨⟨by omega, by simpa using hlt⟩, ad, ha, ?_⟩
      refine ⟨t.cells, rfl, hat, ?_⟩
      refine ⟨⟨by omega, by omega⟩, bd, hb, ?_⟩
      refine ⟨u.cells, rfl, hbt, ?_⟩
      refine bsplit_of (fun hr => ?_) (fun hr => ?_)
      · refine ⟨rfl, vbe (eqL_bad ht hu ?_), rfl⟩
        have hr' : (true ^^ t.eq u) = true := hr
        simpa using hr'
      · have hr' : (true ^^ t.eq u) = false := hr
        refine ⟨k + 1, ⟨by omega, eq_next hall ht hu (by simpa using hr')⟩, by omega, ⟨vi (wrap_id (by omega) (by omega)), trivial⟩, rfl, rfl⟩
    · refine ⟨rfl, vbe (eqL_good hlm fun i u v h1 h2 => hall i u v ?_ h1 h2), rfl⟩
      have := (List.getElem?_eq_some_iff.1 h1).1
      simp at hlt
      omega

set_option maxHeartbeats 8000000

structure Mac where
  a : Int
  b : Int
  c : Int
  d : Int
  e : Int
  f : Int
def Mac.cells (m : Mac) : List Value := [.int .u8 m.a, .int .u8 m.b, .int .u8 m.c, .int .u8 m.d, .int .u8 m.e, .int .u8 m.f]
def Mac.eq (m n : Mac) : Bool := m.a == n.a && (m.b == n.b && (m.c == n.c && (m.d == n.d && (m.e == n.e && (m.f == n.f && true)))))

structure FrameV where
  dst : Mac
  src : Mac
  ta : Option Addr
  tags : List TagV
  tc : Nat
  kind : Int
  type : Int
  dsap : Int
  ssap : Int
  ctl : Int
  oui : Int
  pid : Int
  body : ByteArray
def FrameV.cells (x : FrameV) : List Value := x.dst.cells ++ (x.src.cells ++ [.slice x.ta x.tags.length x.tc, .int .i64 x.kind, .int .i64 x.type, .int .i64 x.dsap, .int .i64 x.ssap, .int .i64 x.ctl, .int .i64 x.oui, .int .i64 x.pid, .string x.body])
def FrameV.ok (g : G) (x : FrameV) : Prop := SliceAt g x.ta x.tags.length 4 (x.tags.flatMap TagV.cells) ∧ x.tags.length ≤ 9223372036854775807
def FrameV.same (x y : FrameV) : Bool :=
  x.dst.eq y.dst && (x.src.eq y.src && (eqL TagV.eq x.tags y.tags && (x.kind == y.kind && (x.type == y.type && (x.dsap == y.dsap && (x.ssap == y.ssap && (x.ctl == y.ctl && (x.oui == y.oui && (x.pid == y.pid && (x.body.toList == y.body.toList))))))))))

theorem frameSame_c (x y : FrameV) (g : G) (hx : x.ok g) (hy : y.ok g) : Tells Try.prog 22 [.agg (x.cells.map .v), .agg (y.cells.map .v)] g (.v (.bool (x.same y))) := by
  refine meets_of mixed Try.func22 (by kernel_rfl) x22_ok 0 (Nat.le_refl _) ?_
  refine ⟨rfl, rfl, ?_⟩
  refine (tagsEq_c x.ta y.ta x.tags y.tags x.tc y.tc g hx.1 hy.1 hx.2).call rfl ?_
  refine bsplit_of (fun (h1 : eqL TagV.eq x.tags y.tags = true) => ?_) (fun (h1 : eqL TagV.eq x.tags y.tags = false) => ⟨rfl, vbe (by simp only [FrameV.same, h1, Bool.true_and, Bool.false_and, Bool.and_false]), rfl⟩)
  refine bsplit_of (fun (h2 : (false ^^ x.dst.eq y.dst) = true) => ?_) (fun (h2 : (false ^^ x.dst.eq y.dst) = false) => ⟨rfl, vbe (by simp only [FrameV.same, h1, (Bool.false_xor _).symm.trans h2, Bool.true_and, Bool.false_and, Bool.and_false]), rfl⟩)
  refine bsplit_of (fun (h3 : (false ^^ x.src.eq y.src) = true) => ?_) (fun (h3 : (false ^^ x.src.eq y.src) = false) => ⟨rfl, vbe (by simp only [FrameV.same, h1, (Bool.false_xor _).symm.trans h2, (Bool.false_xor _).symm.trans h3, Bool.true_and, Bool.false_and, Bool.and_false]), rfl⟩)
  refine bsplit_of (fun (h4 : (x.kind == y.kind) = true) => ?_) (fun (h4 : (x.kind == y.kind) = false) => ⟨rfl, vbe (by simp only [FrameV.same, h1, (Bool.false_xor _).symm.trans h2, (Bool.false_xor _).symm.trans h3, h4, Bool.true_and, Bool.false_and, Bool.and_false]), rfl⟩)
  refine bsplit_of (fun (h5 : (x.type == y.type) = true) => ?_) (fun (h5 : (x.type == y.type) = false) => ⟨rfl, vbe (by simp only [FrameV.same, h1, (Bool.false_xor _).symm.trans h2, (Bool.false_xor _).symm.trans h3, h4, h5, Bool.true_and, Bool.false_and, Bool.and_false]), rfl⟩)
  refine bsplit_of (fun (h6 : (x.dsap == y.dsap) = true) => ?_) (fun (h6 : (x.dsap == y.dsap) = false) => ⟨rfl, vbe (by simp only [FrameV.same, h1, (Bool.false_xor _).symm.trans h2, (Bool.false_xor _).symm.trans h3, h4, h5, h6, Bool.true_and, Bool.false_and, Bool.and_false]), rfl⟩)
  refine bsplit_of (fun (h7 : (x.ssap == y.ssap) = true) => ?_) (fun (h7 : (x.ssap == y.ssap) = false) => ⟨rfl, vbe (by simp only [FrameV.same, h1, (Bool.false_xor _).symm.trans h2, (Bool.false_xor _).symm.trans h3, h4, h5, h6, h7, Bool.true_and, Bool.false_and, Bool.and_false]), rfl⟩)
  refine bsplit_of (fun (h8 : (x.ctl == y.ctl) = true) => ?_) (fun (h8 : (x.ctl == y.ctl) = false) => ⟨rfl, vbe (by simp only [FrameV.same, h1, (Bool.false_xor _).symm.trans h2, (Bool.false_xor _).symm.trans h3, h4, h5, h6, h7, h8, Bool.true_and, Bool.false_and, Bool.and_false]), rfl⟩)
  refine bsplit_of (fun (h9 : (x.oui == y.oui) = true) => ?_) (fun (h9 : (x.oui == y.oui) = false) => ⟨rfl, vbe (by simp only [FrameV.same, h1, (Bool.false_xor _).symm.trans h2, (Bool.false_xor _).symm.trans h3, h4, h5, h6, h7, h8, h9, Bool.true_and, Bool.false_and, Bool.and_false]), rfl⟩)
  refine bsplit_of (fun (h10 : (x.pid == y.pid) = true) => ?_) (fun (h10 : (x.pid == y.pid) = false) => ⟨rfl, vbe (by simp only [FrameV.same, h1, (Bool.false_xor _).symm.trans h2, (Bool.false_xor _).symm.trans h3, h4, h5, h6, h7, h8, h9, h10, Bool.true_and, Bool.false_and, Bool.and_false]), rfl⟩)
  exact ⟨rfl, vbe (by simp only [FrameV.same, h1, (Bool.false_xor _).symm.trans h2, (Bool.false_xor _).symm.trans h3, h4, h5, h6, h7, h8, h9, h10, Bool.true_and]), rfl⟩

theorem frameSameR_c (x y : FrameV) (g : G) (hx : x.ok g) (hy : y.ok g) : Tells Try.prog 23 [.agg (x.cells.map .v), .agg (y.cells.map .v)] g (.v (.bool (x.same y))) := by
  refine meets_of mixed Try.func23 (by kernel_rfl) x23_ok 0 (Nat.le_refl _) ?_
  refine bsplit_of (fun (h1 : (false ^^ x.dst.eq y.dst) = true) => ?_) (fun (h1 : (false ^^ x.dst.eq y.dst) = false) => ⟨rfl, vbe (by simp only [FrameV.same, (Bool.false_xor _).symm.trans h1, Bool.true_and, Bool.false_and, Bool.and_false]), rfl⟩)
  refine bsplit_of (fun (h2 : (false ^^ x.src.eq y.src) = true) => ?_) (fun (h2 : (false ^^ x.src.eq y.src) = false) => ⟨rfl, vbe (by simp only [FrameV.same, (Bool.false_xor _).symm.trans h1, (Bool.false_xor _).symm.trans h2, Bool.true_and, Bool.false_and, Bool.and_false]), rfl⟩)
  refine (tagsEq_c x.ta y.ta x.tags y.tags x.tc y.tc g hx.1 hy.1 hx.2).call rfl ?_
  refine bsplit_of (fun (h3 : eqL TagV.eq x.tags y.tags = true) => ?_) (fun (h3 : eqL TagV.eq x.tags y.tags = false) => ⟨rfl, vbe (by simp only [FrameV.same, (Bool.false_xor _).symm.trans h1, (Bool.false_xor _).symm.trans h2, h3, Bool.true_and, Bool.false_and, Bool.and_false]), rfl⟩)
  refine bsplit_of (fun (h4 : (x.kind == y.kind) = true) => ?_) (fun (h4 : (x.kind == y.kind) = false) => ⟨rfl, vbe (by simp only [FrameV.same, (Bool.false_xor _).symm.trans h1, (Bool.false_xor _).symm.trans h2, h3, h4, Bool.true_and, Bool.false_and, Bool.and_false]), rfl⟩)
  refine bsplit_of (fun (h5 : (x.type == y.type) = true) => ?_) (fun (h5 : (x.type == y.type) = false) => ⟨rfl, vbe (by simp only [FrameV.same, (Bool.false_xor _).symm.trans h1, (Bool.false_xor _).symm.trans h2, h3, h4, h5, Bool.true_and, Bool.false_and, Bool.and_false]), rfl⟩)
  refine bsplit_of (fun (h6 : (x.dsap == y.dsap) = true) => ?_) (fun (h6 : (x.dsap == y.dsap) = false) => ⟨rfl, vbe (by simp only [FrameV.same, (Bool.false_xor _).symm.trans h1, (Bool.false_xor _).symm.trans h2, h3, h4, h5, h6, Bool.true_and, Bool.false_and, Bool.and_false]), rfl⟩)
  refine bsplit_of (fun (h7 : (x.ssap == y.ssap) = true) => ?_) (fun (h7 : (x.ssap == y.ssap) = false) => ⟨rfl, vbe (by simp only [FrameV.same, (Bool.false_xor _).symm.trans h1, (Bool.false_xor _).symm.trans h2, h3, h4, h5, h6, h7, Bool.true_and, Bool.false_and, Bool.and_false]), rfl⟩)
  refine bsplit_of (fun (h8 : (x.ctl == y.ctl) = true) => ?_) (fun (h8 : (x.ctl == y.ctl) = false) => ⟨rfl, vbe (by simp only [FrameV.same, (Bool.false_xor _).symm.trans h1, (Bool.false_xor _).symm.trans h2, h3, h4, h5, h6, h7, h8, Bool.true_and, Bool.false_and, Bool.and_false]), rfl⟩)
  refine bsplit_of (fun (h9 : (x.oui == y.oui) = true) => ?_) (fun (h9 : (x.oui == y.oui) = false) => ⟨rfl, vbe (by simp only [FrameV.same, (Bool.false_xor _).symm.trans h1, (Bool.false_xor _).symm.trans h2, h3, h4, h5, h6, h7, h8, h9, Bool.true_and, Bool.false_and, Bool.and_false]), rfl⟩)
  refine bsplit_of (fun (h10 : (x.pid == y.pid) = true) => ?_) (fun (h10 : (x.pid == y.pid) = false) => ⟨rfl, vbe (by simp only [FrameV.same, (Bool.false_xor _).symm.trans h1, (Bool.false_xor _).symm.trans h2, h3, h4, h5, h6, h7, h8, h9, h10, Bool.true_and, Bool.false_and, Bool.and_false]), rfl⟩)
  exact ⟨rfl, vbe (by simp only [FrameV.same, (Bool.false_xor _).symm.trans h1, (Bool.false_xor _).symm.trans h2, h3, h4, h5, h6, h7, h8, h9, h10, Bool.true_and]), rfl⟩

theorem frameSames_c (x y : FrameV) (g : G) (hx : x.ok g) (hy : y.ok g) : Meets Try.prog 6 [.agg (x.cells.map .v), .agg (y.cells.map .v)] [] g (fun r _ _ => r = .v (.bool true)) := by
  refine meets_of mixed Try.func6 (by kernel_rfl) x6_ok 0 (Nat.le_refl _) ?_
  refine bsplit_of (fun h1 => ?_) (fun h1 => ?_)
  · rfl
  · refine bsplit_of (fun h2 => ?_) (fun h2 => ?_)
    · rfl
    · refine (frameSame_c x y g hx hy).quiet rfl nofun rfl ?_
      refine (frameSameR_c x y g hx hy).quiet rfl nofun rfl ?_
      exact vbe (by simp)
end Go.Proofs.Ytflnpoahceebbaa
