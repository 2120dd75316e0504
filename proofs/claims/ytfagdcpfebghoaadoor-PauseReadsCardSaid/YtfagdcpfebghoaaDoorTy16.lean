/- A symbolic executor of my own, second design, part 16: ranges of numbers, slices as lists, for arguments. Conditions: none; it speaks of any program. -/
import Derived.Test.YtfagdcpfebghoaaDoorTy15
namespace Go.Sx

/-- In the range of its kind. -/
def iok (k : IntKind) (n : Int) : Prop := match k with
  | .i8 => -128 ≤ n ∧ n ≤ 127
  | .i16 => -32768 ≤ n ∧ n ≤ 32767
  | .i32 => -2147483648 ≤ n ∧ n ≤ 2147483647
  | .i64 => -9223372036854775808 ≤ n ∧ n ≤ 9223372036854775807
  | .u8 => 0 ≤ n ∧ n ≤ 255
  | .u16 => 0 ≤ n ∧ n ≤ 65535
  | .u32 => 0 ≤ n ∧ n ≤ 4294967295
  | .u64 => 0 ≤ n ∧ n ≤ 18446744073709551615
theorem iok_of {k : IntKind} {n : Int} (h : (Lit.int k n).wf = true) : iok k n := by
  cases k <;> simp [Lit.wf, IntKind.signed, IntKind.bits, IntKind.min, IntKind.max] at h <;> unfold iok <;> simp only <;> omega
def sok (s : ByteArray) : Prop := s.size ≤ maxLen
def intC (k : IntKind) (n : Int) : List Value := [.int k n]
def strC (s : ByteArray) : List Value := [.string s]
def boolC (b : Bool) : List Value := [.bool b]

theorem int_of {W : World} {k : IntKind} {c : List Value} (h : (Sh.int k).holds W c) : ∃ n, c = intC k n ∧ iok k n := by
  obtain ⟨n, rfl, hn⟩ := h
  exact ⟨n, rfl, iok_of hn⟩
theorem str_of {W : World} {c : List Value} (h : Sh.str.holds W c) : ∃ s, c = strC s ∧ sok s := by
  obtain ⟨s, rfl, hs⟩ := h
  exact ⟨s, rfl, hs⟩
theorem bool_of {W : World} {c : List Value} (h : Sh.bool.holds W c) : ∃ b, c = boolC b ∧ True := by
  obtain ⟨b, rfl⟩ := h
  exact ⟨b, rfl, trivial⟩

/-- A slice that nobody writes: where it lies, what it holds, its capacity. -/
structure SliceV (α : Type) where
  a : Option Addr
  l : List α
  c : Nat
def SliceV.cells {α : Type} (s : SliceV α) : List Value := [.slice s.a s.l.length s.c]
def SliceV.ok {α : Type} (sz : Nat) (f : α → List Value) (Q : α → Prop) (g : G) (s : SliceV α) : Prop :=
  SliceAt g s.a s.l.length sz (s.l.flatMap f) ∧ s.l.length ≤ maxLen ∧ s.l.length ≤ s.c ∧ s.c ≤ maxLen ∧ ∀ x ∈ s.l, Q x

theorem sliceV_of {α : Type} {W : World} {sz : Nat} (f : α → List Value) (hf : ∀ x, (f x).length = sz) (hsz : 0 < sz) (Q : α → Prop) {e : Sh} (hQ : ∀ c, c.length = sz → e.holds W c → ∃ x, c = f x ∧ Q x) {cs : List Value} (h : (Sh.slice sz e).holds W cs) :
    ∃ s : SliceV α, cs = s.cells ∧ s.ok sz f Q (gOf W) := by
  obtain ⟨a, l, cap, rfl, h1, h2, h3, h4, h5⟩ := slice_of f hf hsz Q hQ h
  exact ⟨⟨a, l, cap⟩, rfl, h4, h1, h2, h3, h5⟩

theorem SliceV.ok.len {α : Type} {sz : Nat} {f : α → List Value} {Q : α → Prop} {g : G} {s : SliceV α} (h : s.ok sz f Q g) : s.l.length ≤ 9223372036854775807 := by
  have := h.2.1
  unfold maxLen at this
  omega
/-- The i-th element, where it lies. -/
theorem SliceV.ok.elem {α : Type} {sz : Nat} {f : α → List Value} {Q : α → Prop} {g : G} {s : SliceV α} (h : s.ok sz f Q g) (hf : ∀ x, (f x).length = sz) {i : Nat} (hi : i < s.l.length) : ∃ ad x, s.a = some ad ∧ s.l[i]? = some x ∧ g.at (ad.add (i * sz)) (f x) ∧ Q x := by
  obtain ⟨ad, ha, hat⟩ := h.1.elem hi
  obtain ⟨x, hx⟩ := lt_some hi
  rw [flatMap_at _ sz hf _ i x hx] at hat
  exact ⟨ad, x, ha, hx, hat, h.2.2.2.2 x (List.mem_of_getElem? hx)⟩

theorem rv {x y : SV} (h : x = y) : Out.ret x = .ret y := by rw [h]
theorem rb {a b : Bool} (h : a = b) : Out.ret (.v (.bool b)) = .ret (.v (.bool a)) := by rw [h]
theorem ri {k : IntKind} {a b : Int} (h : a = b) : Out.ret (.v (.int k a)) = .ret (.v (.int k b)) := by rw [h]
theorem rbd {c : Bool} {p : Prop} [Decidable p] (h : c = true ↔ p) : Out.ret (.v (.bool c)) = .ret (.v (.bool (decide p))) := rv (vb h)

end Go.Sx
