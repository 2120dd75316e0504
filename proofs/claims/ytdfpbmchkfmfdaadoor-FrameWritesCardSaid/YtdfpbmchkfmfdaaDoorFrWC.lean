/- Frames as bytes: the text; builders written from an array; Pad. Conditions: those that stand at each. -/
import Derived.Test.YtdfpbmchkfmfdaaDoorXframew
import Derived.Test.YtdfpbmchkfmfdaaDoorFrameRC
import Derived.Test.YtdfpbmchkfmfdaaDoorTagPackC
import Derived.Test.YtdfpbmchkfmfdaaDoorStrBC
import Derived.Test.YtdfpbmchkfmfdaaDoorShortC
import Derived.Test.YtdfpbmchkfmfdaaDoorBaseD
namespace Go.Proofs.YtdfpbmchkfmfdaaDoor
open Go.Sx Go.Lib Go.RowKit
set_option maxRecDepth 100000
set_option maxHeartbeats 8000000
attribute [local irreducible] Meets
attribute [local instance] Classical.propDecidable
attribute [local irreducible] zeroS

/-! ### The text -/
def aS (a : AddrV) : ByteArray := bytesOfInts [a.e0, a.e1, a.e2, a.e3, a.e4, a.e5]
theorem aS_size (a : AddrV) : (aS a).size = 6 := rfl
theorem aS_cells (a : AddrV) (g : G) (h : a.ok g) : strCells (aS a) = a.cells := by
  obtain ⟨h0, h1, h2, h3, h4, h5⟩ := h
  have key : ∀ n : Int, iok .u8 n → ((UInt8.ofNat n.toNat).toNat : Int) = n := fun n hn => by
    unfold iok at hn
    have : (UInt8.ofNat n.toNat).toNat = n.toNat := by rw [UInt8.toNat_ofNat']; omega
    rw [this]; omega
  show [Value.int .u8 _, .int .u8 _, .int .u8 _, .int .u8 _, .int .u8 _, .int .u8 _] = [Value.int .u8 _, .int .u8 _, .int .u8 _, .int .u8 _, .int .u8 _, .int .u8 _]
  rw [key _ h0, key _ h1, key _ h2, key _ h3, key _ h4, key _ h5]
def svcS : Bool → ByteArray | true => ⟨#[136, 168]⟩ | false => ⟨#[129, 0]⟩
theorem svcS_size (b : Bool) : (svcS b).size = 2 := by cases b <;> rfl
def tagS (t : TagV) : ByteArray := svcS t.s ++ beS 2 (tagNum t).toNat
theorem tagS_size (t : TagV) : (tagS t).size = 4 := by rw [tagS, ByteArray.size_append, svcS_size, beS_size]
def tagsS (l : List TagV) : ByteArray := l.foldl (fun s t => s ++ tagS t) emp
theorem tagsS_snoc (l : List TagV) (t : TagV) : tagsS (l ++ [t]) = tagsS l ++ tagS t := by simp [tagsS]
theorem tagsF_size : ∀ (l : List TagV) (s : ByteArray), (l.foldl (fun s t => s ++ tagS t) s).size = s.size + 4 * l.length
  | [], s => by simp
  | t :: l, s => by rw [List.foldl_cons, tagsF_size l, ByteArray.size_append, tagS_size, List.length_cons]; omega
theorem tagsS_size (l : List TagV) : (tagsS l).size = 4 * l.length := by rw [tagsS, tagsF_size]; show 0 + _ = _; omega
def preS (f : FrameV) (k : Nat) : ByteArray := aS f.dst ++ aS f.src ++ tagsS (f.tags.l.take k)
theorem preS_zero (f : FrameV) : preS f 0 = aS f.dst ++ aS f.src := by
  show _ ++ _ ++ emp = _
  exact ByteArray.append_empty
theorem preS_next {f : FrameV} {k : Nat} {t : TagV} (h : f.tags.l[k]? = some t) : preS f k ++ tagS t = preS f (k + 1) := by
  rw [preS, preS, take_snoc h, tagsS_snoc, ByteArray.append_assoc]
theorem preS_size (f : FrameV) (k : Nat) (h : k ≤ f.tags.l.length) : (preS f k).size = 12 + 4 * k := by
  rw [preS, ByteArray.size_append, ByteArray.size_append, aS_size, aS_size, tagsS_size, List.length_take]; omega
def inS (f : FrameV) : ByteArray := if f.kind = 2 then beS 1 f.dsap.toNat ++ beS 1 f.ssap.toNat ++ beS 1 f.ctl.toNat else ⟨#[170, 170, 3]⟩ ++ beS 3 f.oui.toNat ++ beS 2 f.pid.toNat
theorem inS_size (f : FrameV) (h : f.kind = 2 ∨ f.kind = 3) : ((inS f).size : Int) = inner f.kind := by
  rcases h with h | h
  · rw [inS, if_pos h, inner, if_pos h]; simp only [ByteArray.size_append, beS_size]; rfl
  · rw [inS, if_neg (by omega), inner, if_neg (by omega), if_pos h]; simp only [ByteArray.size_append, beS_size, sz3]; rfl
/-- The whole. -/
def frameS (f : FrameV) : ByteArray :=
  if f.kind = 1 then preS f f.tags.l.length ++ beS 2 f.type_.toNat ++ f.body
  else preS f f.tags.l.length ++ beS 2 (inner f.kind + f.body.size).toNat ++ inS f ++ f.body

/-! ### Builders written from an array -/
def frC (f : FrameV) : Chunk := .cells 85 (f.cells.map .v)
theorem writeA0 (f : FrameV) (g : G) : Meets Tryd.prog 109 [.ptr 0 0, .slc 1 0 6 6] (bld0 ++ [frC f]) g
    (fun o L' g' => ∃ cap sp, (6 + sp.length = cap ∧ cap ≤ 9223372036854775807) ∧ o = .ret (.tup [.v (.int .i64 6), .v .nilIface]) ∧ L' = [.cells 202 [.ptr 0 0, .slc 2 0 6 cap], frC f, .vals 5 (f.dst.cells ++ sp)] ∧ g' = g) := by
  refine meets_of mixedB Tryd.func109 (by kernel_rfl) x109_ok (some [2]) ?_
  refine (copyCheck0 g).callS [0] 2 rfl rfl rfl rfl ?_
  rintro o L1 g' ⟨rfl, rfl, rfl⟩ _
  refine ⟨by show 0 + 6 * 1 ≤ 21; decide, ?_⟩
  refine ⟨fun u hu => by simp [AddrV.cells, FrameV.cells] at hu; rcases hu with rfl | rfl | rfl | rfl | rfl | rfl <;> rfl, ?_⟩
  refine ⟨by decide, fun cap sp h1 h2 h3 => ?_⟩
  exact ⟨cap, sp, ⟨by omega, h2⟩, rfl, rfl, rfl⟩
theorem writeA1 (f : FrameV) (cap : Nat) (sp : List Value) (g : G) (h1 : 6 + sp.length = cap) (h2 : cap ≤ 9223372036854775807) : Meets Tryd.prog 109 [.ptr 0 0, .slc 1 6 6 6] [.cells 202 [.ptr 0 0, .slc 2 0 6 cap], frC f, .vals 5 (f.dst.cells ++ sp)] g
    (fun o L' g' => ∃ cap sp, (12 + sp.length = cap ∧ cap ≤ 9223372036854775807) ∧ o = .ret (.tup [.v (.int .i64 6), .v .nilIface]) ∧ L' = [.cells 202 [.ptr 0 0, .slc 3 0 12 cap], frC f, .gone, .vals 5 (f.dst.cells ++ (f.src.cells ++ sp))] ∧ g' = g) := by
  refine meets_of mixedB Tryd.func109 (by kernel_rfl) x109_ok (some [3]) ?_
  refine (copyCheck1 g 6 cap (f.dst.cells ++ sp)).callS [0, 2] 3 rfl rfl rfl rfl ?_
  rintro o L1 g' ⟨rfl, rfl, rfl⟩ _
  refine ⟨by show 6 + 6 * 1 ≤ 21; decide, ?_⟩
  refine ⟨fun u hu => by simp [AddrV.cells, FrameV.cells] at hu; rcases hu with rfl | rfl | rfl | rfl | rfl | rfl <;> rfl, ?_⟩
  refine ⟨f.dst.cells, sp, rfl, rfl, ⟨by rw [List.length_append]; show 6 + sp.length = cap * 1; omega, by omega, h2⟩, by decide, fun cap sp k1 k2 k3 => ?_⟩
  exact ⟨cap, sp, ⟨by omega, k2⟩, rfl, rfl, rfl⟩

/-! ### Pad -/
def padS (s : ByteArray) : ByteArray := s ++ zeroS (60 - s.size)
theorem repN_c (n : Nat) (hn : n ≤ 60) (g : G) : Tells Tryd.prog 103 [.v (.string ⟨#[0]⟩), .v (.int .i64 n)] g (.v (.string (zeroS n))) :=
  Tells.of_below (by kernel_rfl) rfl fun _ w _ => by unfold zeroS; exact sh_strings_Repeat ⟨#[0]⟩ n w (by omega) (by show 1 * n ≤ _; omega)
theorem pad_c (s : ByteArray) (hs : s.size ≤ 1000000) (g : G) : Tells Tryd.prog 42 [.v (.string s)] g (.v (.string (padS s))) := by
  refine meets_of mixedS Tryd.func42 (by kernel_rfl) x42_ok (some []) ?_
  refine prim_max rfl rfl rfl ?_
  have e : maxI 0 (IntKind.i64.wrap (60 - (s.size : Int))) = ((60 - s.size : Nat) : Int) := by
    rw [wrap_id (by omega) (by omega), maxI]; split <;> omega
  have hr := repN_c (60 - s.size) (by omega) g
  rw [← e] at hr
  refine hr.call rfl rfl rfl ?_
  refine ⟨by rw [zeroS_size]; omega, ?_⟩
  exact ⟨rfl, rfl, rfl⟩
theorem padR_c (s : ByteArray) (hs : s.size ≤ 1000000) (g : G) : Tells Tryd.prog 43 [.v (.string s)] g (.v (.string (padS s))) := by
  refine meets_of mixedS Tryd.func43 (by kernel_rfl) x43_ok (some []) ?_
  change LoopW _ _ _ _ _ _ _
  apply loop_rule [] (α := ByteArray × Nat) (fun x => [(0, .v (.string x.1))]) (fun _ => []) (fun _ => g) (fun x => x.1 = s ++ zeroS x.2 ∧ x.2 ≤ 60 - s.size) (fun x => 60 - s.size - x.2) (s, 0)
  · intro x; kernel_rfl
  · exact ⟨zeroS_nil s, Nat.zero_le _⟩
  · exact ⟨rfl, trivial⟩
  · rfl
  · rfl
  rintro ⟨t, j⟩ ⟨ht, hj⟩
  dsimp only at ht hj
  have hts : t.size = s.size + j := by rw [ht, ByteArray.size_append, zeroS_size]
  refine bsplit_of (fun (q : decide ((t.size : Int) < 60) = true) => ?_) (fun (q : decide ((t.size : Int) < 60) = false) => ?_)
  · have q := of_decide_eq_true q
    refine ⟨by show t.size + 1 ≤ _; omega, ?_⟩
    refine ⟨(t ++ ⟨#[0]⟩, j + 1), ⟨?_, by show j + 1 ≤ 60 - s.size; omega⟩, by show 60 - s.size - (j + 1) < 60 - s.size - j; omega, [], rfl, ⟨rfl, trivial⟩, rfl, rfl, rfl, rfl⟩
    show t ++ ⟨#[0]⟩ = s ++ zeroS (j + 1)
    rw [ht, ByteArray.append_assoc, zeroS_next]
  · have q := of_decide_eq_false q
    have e : j = 60 - s.size := by omega
    subst e
    exact ⟨by rw [ht]; rfl, rfl, rfl⟩
end Go.Proofs.YtdfpbmchkfmfdaaDoor
