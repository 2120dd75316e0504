/- Addresses as text: what address a text is. Conditions: none. -/
import Derived.Test.YtmbbhodikiikeaaGreatDoorStrL
import Derived.Test.YtmbbhodikiikeaaGreatDoorMacC
namespace Go.Proofs.YtmbbhodikiikeaaGreatDoor
open Go.Sx Go.Lib
set_option maxRecDepth 100000

def dgs : ByteArray := ⟨#[48, 49, 50, 51, 52, 53, 54, 55, 56, 57, 97, 98, 99, 100, 101, 102]⟩
theorem dgs_hu : ∀ i : Nat, i < 16 → dgs.data.toList.getD i 0 = hu i := by decide +kernel
theorem idx_hu : ∀ i : Nat, i < 16 → Lib.indexByte dgs.data.toList (hu i) = i := by decide +kernel
theorem idx_all : ∀ n : Nat, n < 256 → Lib.indexByte dgs.data.toList (UInt8.ofNat n) = -1 ∨ ∃ i : Nat, i < 16 ∧ Lib.indexByte dgs.data.toList (UInt8.ofNat n) = i ∧ UInt8.ofNat n = hu i := by decide +kernel
theorem idx_cases (b : UInt8) : Lib.indexByte dgs.data.toList b = -1 ∨ ∃ i : Nat, i < 16 ∧ Lib.indexByte dgs.data.toList b = i ∧ b = hu i := by
  have h := idx_all b.toNat (UInt8.toNat_lt b)
  rw [UInt8.ofNat_toNat] at h
  exact h
theorem hu_ne : ∀ i : Nat, i < 16 → hu i ≠ 58 := by decide +kernel
theorem huI_ne {d : Int} (h0 : 0 ≤ d) (h1 : d < 16) : hu d ≠ 58 := by
  obtain ⟨i, rfl⟩ := Int.eq_ofNat_of_zero_le h0
  exact hu_ne i (by omega)
/-- The place of a byte's sign among the digits. -/
def ix (b : UInt8) : Int := Lib.indexByte dgs.data.toList b
theorem ix_rng (b : UInt8) : -1 ≤ ix b ∧ ix b ≤ 15 := by
  rcases idx_cases b with h | ⟨i, h1, h2, -⟩
  · rw [ix, h]; omega
  · rw [ix, h2]; omega
theorem ix_inv {b : UInt8} (h : 0 ≤ ix b) : b = hu (ix b) := by
  rcases idx_cases b with h1 | ⟨i, -, h2, h3⟩
  · rw [ix, h1] at h; omega
  · rw [ix, h2]; exact h3
theorem ix_hu {d : Int} (h0 : 0 ≤ d) (h1 : d < 16) : ix (hu d) = d := by
  obtain ⟨i, rfl⟩ := Int.eq_ofNat_of_zero_le h0
  exact idx_hu i (by omega)

def okA (a : AddrV) : Prop := a.ok fun _ => none
theorem okA_of {a : AddrV} {g : G} (h : a.ok g) : okA a := h
theorem okA_to {a : AddrV} {g : G} (h : okA a) : a.ok g := h
open Classical in
/-- The address that a text is, and what is wrong. -/
noncomputable def parA (s : ByteArray) : AddrV × Int := if h : ∃ a : AddrV, okA a ∧ addrT a = s then (Classical.choose h, 0) else (AddrV.zero, 3)
theorem parA_hit {a : AddrV} {s : ByteArray} (h1 : okA a) (h2 : addrT a = s) : parA s = (a, 0) := by
  have h : ∃ a : AddrV, okA a ∧ addrT a = s := ⟨a, h1, h2⟩
  have hc := Classical.choose_spec h
  rw [parA, dif_pos h, addrT_inj _ a (fun _ => none) hc.1 h1 (hc.2.trans h2.symm)]
theorem parA_miss {s : ByteArray} (h : ∀ a : AddrV, okA a → addrT a ≠ s) : parA s = (AddrV.zero, 3) := by
  rw [parA, dif_neg]
  rintro ⟨a, h1, h2⟩
  exact h a h1 h2
theorem parA_cases (s : ByteArray) : (∃ a, okA a ∧ addrT a = s ∧ parA s = (a, 0)) ∨ ((∀ a, okA a → addrT a ≠ s) ∧ parA s = (AddrV.zero, 3)) := by
  by_cases h : ∃ a : AddrV, okA a ∧ addrT a = s
  · obtain ⟨a, h1, h2⟩ := h
    exact .inl ⟨a, h1, h2, parA_hit h1 h2⟩
  · have h' : ∀ a, okA a → addrT a ≠ s := fun a h1 h2 => h ⟨a, h1, h2⟩
    exact .inr ⟨h', parA_miss h'⟩

def two (n : Int) : List UInt8 := [hu (n / 16), hu (n % 16)]
theorem two_free {n : Int} (h0 : 0 ≤ n) (h1 : n ≤ 255) : (58 : UInt8) ∉ two n := by
  have a := huI_ne (d := n / 16) (by omega) (by omega)
  have b := huI_ne (d := n % 16) (by omega) (by omega)
  simp [two, Ne.symm a, Ne.symm b]
theorem addrT_two (a : AddrV) : (addrT a).data.toList = two a.e0 ++ 58 :: (two a.e1 ++ 58 :: (two a.e2 ++ 58 :: (two a.e3 ++ 58 :: (two a.e4 ++ 58 :: two a.e5)))) := by
  rw [← ByteArray.toList_eq, addrT_list]
  rfl
theorem addrT_size (a : AddrV) : (addrT a).size = 17 := by
  have := congrArg List.length (addrT_two a)
  simpa [two] using this
theorem parts_addr {a : AddrV} (h : okA a) : (partsB 58 (addrT a)).map (·.data.toList) = [two a.e0, two a.e1, two a.e2, two a.e3, two a.e4, two a.e5] := by
  obtain ⟨⟨a0, b0⟩, ⟨a1, b1⟩, ⟨a2, b2⟩, ⟨a3, b3⟩, ⟨a4, b4⟩, ⟨a5, b5⟩⟩ := h
  rw [partsB_data, addrT_two, sp_app (two_free a0 b0), sp_app (two_free a1 b1), sp_app (two_free a2 b2), sp_app (two_free a3 b3), sp_app (two_free a4 b4), sp_none (two_free a5 b5)]
/-- What six pieces make. -/
theorem addr_of_parts {s : ByteArray} {p0 p1 p2 p3 p4 p5 : ByteArray} {a : AddrV} (h : partsB 58 s = [p0, p1, p2, p3, p4, p5]) (h0 : p0.data.toList = two a.e0) (h1 : p1.data.toList = two a.e1) (h2 : p2.data.toList = two a.e2) (h3 : p3.data.toList = two a.e3) (h4 : p4.data.toList = two a.e4) (h5 : p5.data.toList = two a.e5) : addrT a = s := by
  have e := sp_join 58 s.data.toList
  rw [← partsB_data, h] at e
  simp only [List.map_cons, List.map_nil, h0, h1, h2, h3, h4, h5, Lib.join_cons] at e
  apply ByteArray.ext
  apply Array.ext'
  rw [addrT_two, ← e]
  simp [Lib.joinTail]
/-- A piece of two signs. -/
def b0 (p : ByteArray) : UInt8 := p.data.toList.getD 0 0
def b1 (p : ByteArray) : UInt8 := p.data.toList.getD 1 0
def goodP (p : ByteArray) : Prop := p.size = 2 ∧ 0 ≤ ix (b0 p) ∧ 0 ≤ ix (b1 p)
def numP (p : ByteArray) : Int := 16 * ix (b0 p) + ix (b1 p)
theorem goodP_val {p : ByteArray} (h : goodP p) : (0 ≤ numP p ∧ numP p ≤ 255) ∧ p.data.toList = two (numP p) := by
  obtain ⟨h1, h2, h3⟩ := h
  have r0 := ix_rng (b0 p)
  have r1 := ix_rng (b1 p)
  refine ⟨by unfold numP; omega, ?_⟩
  have hl : p.data.toList.length = 2 := by rw [Array.length_toList]; exact h1
  match hp : p.data.toList, hl with
  | [x, y], _ =>
    have e0 : b0 p = x := by simp [b0, hp]
    have e1 : b1 p = y := by simp [b1, hp]
    have d0 : numP p / 16 = ix x := by rw [numP, e0, e1]; rw [e1] at r1 h3; omega
    have d1 : numP p % 16 = ix y := by rw [numP, e0, e1]; rw [e1] at r1 h3; omega
    rw [two, d0, d1]
    rw [e0] at h2
    rw [e1] at h3
    rw [← ix_inv h2, ← ix_inv h3]
theorem goodP_of {p : ByteArray} {n : Int} (h0 : 0 ≤ n) (h1 : n ≤ 255) (h : p.data.toList = two n) : goodP p := by
  refine ⟨by have := congrArg List.length h; simpa [two] using this, ?_, ?_⟩
  · rw [b0, h]; show 0 ≤ ix (hu (n / 16)); rw [ix_hu (by omega) (by omega)]; omega
  · rw [b1, h]; show 0 ≤ ix (hu (n % 16)); rw [ix_hu (by omega) (by omega)]; omega
/-- A piece is no good: the text is no address. -/
theorem parA_bad {s p : ByteArray} (hp : p ∈ partsB 58 s) (hb : ¬ goodP p) : parA s = (AddrV.zero, 3) := by
  refine parA_miss fun a ha hs => hb ?_
  have h : p.data.toList ∈ (partsB 58 s).map (·.data.toList) := List.mem_map.2 ⟨p, hp, rfl⟩
  rw [← hs, parts_addr ha] at h
  obtain ⟨⟨a0, b0⟩, ⟨a1, b1⟩, ⟨a2, b2⟩, ⟨a3, b3⟩, ⟨a4, b4⟩, ⟨a5, b5⟩⟩ := ha
  simp only [List.mem_cons, List.not_mem_nil, or_false] at h
  rcases h with h | h | h | h | h | h
  · exact goodP_of a0 b0 h
  · exact goodP_of a1 b1 h
  · exact goodP_of a2 b2 h
  · exact goodP_of a3 b3 h
  · exact goodP_of a4 b4 h
  · exact goodP_of a5 b5 h
theorem parA_len {s : ByteArray} (h : (partsB 58 s).length ≠ 6) : parA s = (AddrV.zero, 3) := by
  refine parA_miss fun a ha hs => h ?_
  have e := congrArg List.length (parts_addr ha)
  rw [hs] at e
  simpa using e
end Go.Proofs.YtmbbhodikiikeaaGreatDoor
