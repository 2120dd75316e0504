/- mac.Text, mac.Parse and the reference of the latter: what each returns. Conditions: one entry of a table of math/bits is as laid; internal/bytealg.MaxLen holds a number. -/
import Derived.Test.YtmbbhodikiikeaaGreatDoorXmact
import Derived.Test.YtmbbhodikiikeaaGreatDoorMtL
import Derived.Test.YtmbbhodikiikeaaGreatDoorShelfM
import Derived.Test.YtmbbhodikiikeaaGreatDoorErrB
namespace Go.Proofs.YtmbbhodikiikeaaGreatDoor
open Go.Sx Go.Lib Go.RowKit
set_option maxRecDepth 100000
set_option maxHeartbeats 8000000
attribute [local irreducible] Meets
attribute [local instance] Classical.propDecidable

/-- The variable of internal/bytealg holds a number. -/
def MaxVar (g : G) : Prop := ∃ m : Int, g.at ⟨0, 0, none⟩ [.int .i64 m]

theorem ib_c (b : UInt8) (g : G) : Tells Tryz.prog 24 [.v (.string dgs), .v (.int .u8 (b.toNat : Int))] g (.v (.int .i64 (ix b))) :=
  Tells.of_below (by kernel_rfl) rfl fun σ w him => by
    refine Calls.mono (sh_strings_IndexByte dgs (b.toNat : Int) w) fun e w' h => ?_
    obtain ⟨h1, rfl⟩ := h
    have e1 : ((b.toNat : Int)).toNat.toUInt8 = b := by simp
    rw [e1] at h1
    exact ⟨h1, Below.refl _ _⟩
theorem split_c (s : ByteArray) (hs : s.size ≤ 1000000) (g : G) (hM : MaxVar g) : Meets Tryz.prog 27 [.v (.string s), .v (.string ⟨#[58]⟩)] [] g (fun o L' g' => o = .ret (.slc 0 0 (partsB 58 s).length (partsB 58 s).length) ∧ L' = [.vals 9 ((partsB 58 s).map Value.string)] ∧ g' = g) := by
  refine Meets.of_alloc (by kernel_rfl) rfl fun σ w him => ?_
  obtain ⟨m, h1, c, ty, fz, h2, h3⟩ := hM
  have hc : w.cell? ⟨0, 0, none⟩ = some (.int .i64 m) := by
    have := him _ _ h2
    have h4 := h3 0 (Nat.lt_succ_self 0)
    simp only [World.cell?, this]
    simpa using h4
  rw [partsB_len]
  exact sh_strings_Split s ⟨#[58]⟩ m w (by omega) hc (by decide)
def txs (l : List Int) (k : Nat) : List Value := (l.take k).map fun n => Value.string (hex2 n)
theorem join_c (x0 x1 x2 x3 x4 x5 : Int) (cap : Nat) (hcap : 6 ≤ cap) (sp : List Value) (g : G) : Meets Tryz.prog 23 [.slc 0 0 6 cap, .v (.string ⟨#[58]⟩)] [.vals 9 (txs [x0, x1, x2, x3, x4, x5] 6 ++ sp)] g (fun o L' g' => o = .ret (.v (.string (addrT ⟨x0, x1, x2, x3, x4, x5⟩))) ∧ L' = [.vals 9 (txs [x0, x1, x2, x3, x4, x5] 6 ++ sp)] ∧ g' = g) := by
  refine Meets.lendT rfl (by kernel_rfl) fun σ g' _ hb => ?_
  have hb0 := hb 0 _ _ rfl rfl
  refine ⟨[.v (.slice (some ⟨σ 0, 0, none⟩) 6 cap), .v (.string ⟨#[58]⟩)], fun τ => rfl, rfl, ?_⟩
  refine Tells.of_below (by kernel_rfl) rfl fun τ w him => ?_
  have hw := him _ _ hb0
  have hj : (⟨(Lib.join ([hex2 x0, hex2 x1, hex2 x2, hex2 x3, hex2 x4, hex2 x5].map (·.data.toList)) (⟨#[58]⟩ : ByteArray).data.toList).toArray⟩ : ByteArray) = addrT ⟨x0, x1, x2, x3, x4, x5⟩ := by
    apply ByteArray.ext
    apply Array.ext'
    rw [addrT_two]
    simp only [List.map_cons, List.map_nil, hex2_list, Lib.join_cons]
    simp [Lib.joinTail, two]
  have hz := addrT_size ⟨x0, x1, x2, x3, x4, x5⟩
  rw [← hj] at hz
  refine Calls.mono (sh_strings_Join (σ 0) 0 cap [hex2 x0, hex2 x1, hex2 x2, hex2 x3, hex2 x4, hex2 x5] ⟨#[58]⟩ w (fun j x hx => ?_) (Array.getElem?_eq_some_iff.1 hw).1 (show 6 ≤ 140737488355328 by decide) hcap ?_) fun e w' h => ?_
  · simp only [World.cell?, hw]
    have hlt := (List.getElem?_eq_some_iff.1 hx).1
    have e : (txs [x0, x1, x2, x3, x4, x5] 6 ++ sp)[j]? = some (.string x) := by
      rw [List.getElem?_append_left (by simpa [txs] using hlt)]
      show (([hex2 x0, hex2 x1, hex2 x2, hex2 x3, hex2 x4, hex2 x5]).map Value.string)[j]? = _
      rw [List.getElem?_map, hx]; rfl
    simpa using e
  · have hz : (Lib.join ([hex2 x0, hex2 x1, hex2 x2, hex2 x3, hex2 x4, hex2 x5].map (·.data.toList)) (⟨#[58]⟩ : ByteArray).data.toList).length = 17 := by rw [← List.size_toArray]; exact hz
    rw [hz]; decide
  · rw [hj] at h
    exact h

def hiR (n : Int) : Int := n.fdiv (2 ^ (min (4 : Int).toNat IntKind.u8.bits))
def loR (n : Int) : Int := IntKind.u8.wrap ((BitVec.ofInt IntKind.u8.bits n &&& BitVec.ofInt IntKind.u8.bits 15).toNat : Int)
theorem hiR_eq (n : Int) : hiR n = n / 16 := Int.fdiv_eq_ediv_of_nonneg _ (by decide)
theorem loR_eq {n : Int} (h0 : 0 ≤ n) (h1 : n ≤ 255) : loR n = n % 16 := by
  obtain ⟨k, rfl⟩ := Int.eq_ofNat_of_zero_le h0
  have hn : k < 256 := by omega
  unfold loR
  rw [BitVec.toNat_and, bv_nat .u8 k (by simp [IntKind.bits]; omega), show (BitVec.ofInt IntKind.u8.bits 15).toNat = 2 ^ 4 - 1 from by decide, and_mask]
  have : IntKind.u8.wrap ((k % 2 ^ 4 : Nat) : Int) = ((k % 2 ^ 4 : Nat) : Int) := by
    simp only [IntKind.wrap, IntKind.signed, IntKind.bits]
    simp
    omega
  rw [this]
  push_cast
  rfl
def hexR (n : Int) : ByteArray := bytesOfInts [((dgs.data.toList.getD (hiR n).toNat 0).toNat : Int), ((dgs.data.toList.getD (loR n).toNat 0).toNat : Int)]
theorem hexR_eq {n : Int} (h0 : 0 ≤ n) (h1 : n ≤ 255) : hexR n = hex2 n := by
  have hd : ∀ d : Int, 0 ≤ d → d < 16 → ((dgs.data.toList.getD d.toNat 0).toNat : Int) = dg d := fun d d0 d1 => by
    obtain ⟨i, rfl⟩ := Int.eq_ofNat_of_zero_le d0
    have h : ∀ i : Nat, i < 16 → ((dgs.data.toList.getD i 0).toNat : Int) = dg i := by decide +kernel
    exact h i (by omega)
  rw [hexR, hiR_eq, loR_eq h0 h1, hd _ (by omega) (by omega), hd _ (by omega) (by omega)]
  rfl
attribute [local irreducible] hex2 addrT

theorem macText_c (a : AddrV) (g : G) (ha : a.ok g) : Tells Tryz.prog 13 [.agg (a.cells.map .v)] g (.v (.string (addrT a))) := by
  obtain ⟨x0, x1, x2, x3, x4, x5⟩ := a
  obtain ⟨⟨a0, b0⟩, ⟨a1, b1⟩, ⟨a2, b2⟩, ⟨a3, b3⟩, ⟨a4, b4⟩, ⟨a5, b5⟩⟩ := ha
  dsimp only at a0 b0 a1 b1 a2 b2 a3 b3 a4 b4 a5 b5
  refine meets_of mixedM Tryz.func13 (by kernel_rfl) x13_ok (some []) ?_
  change LoopW _ _ _ _ _ _ _
  refine loop_gone ?_
  apply loop_rule [1] (α := Nat × Nat × List Value) (fun y => [(3, grS 1 y.1 y.2.1), (7, .v (.int .i64 y.1))]) (fun y => [.cells 23 ([Value.int .u8 x0, .int .u8 x1, .int .u8 x2, .int .u8 x3, .int .u8 x4, .int .u8 x5].map .v), grC 9 y.1 (txs [x0, x1, x2, x3, x4, x5] y.1) y.2.2]) (fun _ => g) (fun y => y.1 ≤ 6 ∧ grOk 1 y.1 y.2.1 (txs [x0, x1, x2, x3, x4, x5] y.1) y.2.2) (fun y => 6 - y.1) (0, 0, [])
  · intro x
    obtain ⟨n, cap, sp⟩ := x
    cases n <;> kernel_rfl
  · exact ⟨by decide, grOk.zero 1⟩
  · exact ⟨rfl, rfl, trivial⟩
  · rfl
  · rfl
  rintro ⟨k, cap, sp⟩ ⟨hk, ho⟩
  dsimp only at hk ho
  rcases (by omega : k = 0 ∨ k = 1 ∨ k = 2 ∨ k = 3 ∨ k = 4 ∨ k = 5 ∨ k = 6) with rfl | rfl | rfl | rfl | rfl | rfl | rfl
  ·
    refine ⟨⟨by show (0 : Int) ≤ ((0 : Nat) : Int); decide, by show ((0 : Nat) : Int) < ((6 : Nat) : Int); decide⟩, ?_⟩
    refine ⟨by decide, ?_⟩
    refine ⟨⟨by show 0 ≤ hiR x0; rw [hiR_eq]; omega, by show hiR x0 < 16; rw [hiR_eq]; omega⟩, ?_⟩
    refine ⟨⟨by show 0 ≤ loR x0; rw [loR_eq a0 b0]; omega, by show loR x0 < 16; rw [loR_eq a0 b0]; omega⟩, ?_⟩
    refine ⟨by show 0 + 1 * 1 ≤ 1; decide, fun u hu => by simp at hu; subst hu; rfl, ?_⟩
    refine ⟨by decide, fun cap2 sp2 k1 k2 k3 => ?_⟩
    refine ⟨(1, cap2, sp2), ⟨by show 1 ≤ 6; decide, gr_first (news := [.string (hex2 x0)]) rfl k1 k2 k3⟩, by show 6 - 1 < 6 - 0; decide, [0, 4], rfl, ⟨rfl, vi (by show IntKind.i64.wrap (((0 : Nat) : Int) + 1) = ((1 : Nat) : Int); decide), trivial⟩, ?_, rfl, rfl, rfl⟩
    exact congrArg (fun s => [Chunk.cells 23 ([Value.int .u8 x0, .int .u8 x1, .int .u8 x2, .int .u8 x3, .int .u8 x4, .int .u8 x5].map .v), Chunk.vals 9 (txs [x0, x1, x2, x3, x4, x5] 0 ++ ([Value.string s] ++ sp2))]) (hexR_eq a0 b0)
  ·
    have hg := gr_bounds ho
    refine ⟨⟨by show (0 : Int) ≤ ((1 : Nat) : Int); decide, by show ((1 : Nat) : Int) < ((6 : Nat) : Int); decide⟩, ?_⟩
    refine ⟨by decide, ?_⟩
    refine ⟨⟨by show 0 ≤ hiR x1; rw [hiR_eq]; omega, by show hiR x1 < 16; rw [hiR_eq]; omega⟩, ?_⟩
    refine ⟨⟨by show 0 ≤ loR x1; rw [loR_eq a1 b1]; omega, by show loR x1 < 16; rw [loR_eq a1 b1]; omega⟩, ?_⟩
    refine ⟨by show 0 + 1 * 1 ≤ 1; decide, fun u hu => by simp at hu; subst hu; rfl, ?_⟩
    refine ⟨txs [x0, x1, x2, x3, x4, x5] 1, sp, rfl, hg.1, ⟨hg.2.1, hg.2.2.1, hg.2.2.2⟩, by show (1 + 1) * 16 ≤ 140737488355328; decide, fun cap2 sp2 k1 k2 k3 => ?_⟩
    refine ⟨(1 + 1, cap2, sp2), ⟨by show 1 + 1 ≤ 6; decide, gr_next (news := [.string (hex2 x1)]) ho rfl k1 k2 k3⟩, by show 6 - (1 + 1) < 6 - 1; decide, [0, 4], rfl, ⟨rfl, vi (by show IntKind.i64.wrap (((1 : Nat) : Int) + 1) = ((1 + 1 : Nat) : Int); decide), trivial⟩, ?_, rfl, rfl, rfl⟩
    exact congrArg (fun s => [Chunk.cells 23 ([Value.int .u8 x0, .int .u8 x1, .int .u8 x2, .int .u8 x3, .int .u8 x4, .int .u8 x5].map .v), Chunk.vals 9 (txs [x0, x1, x2, x3, x4, x5] 1 ++ ([Value.string s] ++ sp2))]) (hexR_eq a1 b1)
  ·
    have hg := gr_bounds ho
    refine ⟨⟨by show (0 : Int) ≤ ((2 : Nat) : Int); decide, by show ((2 : Nat) : Int) < ((6 : Nat) : Int); decide⟩, ?_⟩
    refine ⟨by decide, ?_⟩
    refine ⟨⟨by show 0 ≤ hiR x2; rw [hiR_eq]; omega, by show hiR x2 < 16; rw [hiR_eq]; omega⟩, ?_⟩
    refine ⟨⟨by show 0 ≤ loR x2; rw [loR_eq a2 b2]; omega, by show loR x2 < 16; rw [loR_eq a2 b2]; omega⟩, ?_⟩
    refine ⟨by show 0 + 1 * 1 ≤ 1; decide, fun u hu => by simp at hu; subst hu; rfl, ?_⟩
    refine ⟨txs [x0, x1, x2, x3, x4, x5] 2, sp, rfl, hg.1, ⟨hg.2.1, hg.2.2.1, hg.2.2.2⟩, by show (2 + 1) * 16 ≤ 140737488355328; decide, fun cap2 sp2 k1 k2 k3 => ?_⟩
    refine ⟨(2 + 1, cap2, sp2), ⟨by show 2 + 1 ≤ 6; decide, gr_next (news := [.string (hex2 x2)]) ho rfl k1 k2 k3⟩, by show 6 - (2 + 1) < 6 - 2; decide, [0, 4], rfl, ⟨rfl, vi (by show IntKind.i64.wrap (((2 : Nat) : Int) + 1) = ((2 + 1 : Nat) : Int); decide), trivial⟩, ?_, rfl, rfl, rfl⟩
    exact congrArg (fun s => [Chunk.cells 23 ([Value.int .u8 x0, .int .u8 x1, .int .u8 x2, .int .u8 x3, .int .u8 x4, .int .u8 x5].map .v), Chunk.vals 9 (txs [x0, x1, x2, x3, x4, x5] 2 ++ ([Value.string s] ++ sp2))]) (hexR_eq a2 b2)
  ·
    have hg := gr_bounds ho
    refine ⟨⟨by show (0 : Int) ≤ ((3 : Nat) : Int); decide, by show ((3 : Nat) : Int) < ((6 : Nat) : Int); decide⟩, ?_⟩
    refine ⟨by decide, ?_⟩
    refine ⟨⟨by show 0 ≤ hiR x3; rw [hiR_eq]; omega, by show hiR x3 < 16; rw [hiR_eq]; omega⟩, ?_⟩
    refine ⟨⟨by show 0 ≤ loR x3; rw [loR_eq a3 b3]; omega, by show loR x3 < 16; rw [loR_eq a3 b3]; omega⟩, ?_⟩
    refine ⟨by show 0 + 1 * 1 ≤ 1; decide, fun u hu => by simp at hu; subst hu; rfl, ?_⟩
    refine ⟨txs [x0, x1, x2, x3, x4, x5] 3, sp, rfl, hg.1, ⟨hg.2.1, hg.2.2.1, hg.2.2.2⟩, by show (3 + 1) * 16 ≤ 140737488355328; decide, fun cap2 sp2 k1 k2 k3 => ?_⟩
    refine ⟨(3 + 1, cap2, sp2), ⟨by show 3 + 1 ≤ 6; decide, gr_next (news := [.string (hex2 x3)]) ho rfl k1 k2 k3⟩, by show 6 - (3 + 1) < 6 - 3; decide, [0, 4], rfl, ⟨rfl, vi (by show IntKind.i64.wrap (((3 : Nat) : Int) + 1) = ((3 + 1 : Nat) : Int); decide), trivial⟩, ?_, rfl, rfl, rfl⟩
    exact congrArg (fun s => [Chunk.cells 23 ([Value.int .u8 x0, .int .u8 x1, .int .u8 x2, .int .u8 x3, .int .u8 x4, .int .u8 x5].map .v), Chunk.vals 9 (txs [x0, x1, x2, x3, x4, x5] 3 ++ ([Value.string s] ++ sp2))]) (hexR_eq a3 b3)
  ·
    have hg := gr_bounds ho
    refine ⟨⟨by show (0 : Int) ≤ ((4 : Nat) : Int); decide, by show ((4 : Nat) : Int) < ((6 : Nat) : Int); decide⟩, ?_⟩
    refine ⟨by decide, ?_⟩
    refine ⟨⟨by show 0 ≤ hiR x4; rw [hiR_eq]; omega, by show hiR x4 < 16; rw [hiR_eq]; omega⟩, ?_⟩
    refine ⟨⟨by show 0 ≤ loR x4; rw [loR_eq a4 b4]; omega, by show loR x4 < 16; rw [loR_eq a4 b4]; omega⟩, ?_⟩
    refine ⟨by show 0 + 1 * 1 ≤ 1; decide, fun u hu => by simp at hu; subst hu; rfl, ?_⟩
    refine ⟨txs [x0, x1, x2, x3, x4, x5] 4, sp, rfl, hg.1, ⟨hg.2.1, hg.2.2.1, hg.2.2.2⟩, by show (4 + 1) * 16 ≤ 140737488355328; decide, fun cap2 sp2 k1 k2 k3 => ?_⟩
    refine ⟨(4 + 1, cap2, sp2), ⟨by show 4 + 1 ≤ 6; decide, gr_next (news := [.string (hex2 x4)]) ho rfl k1 k2 k3⟩, by show 6 - (4 + 1) < 6 - 4; decide, [0, 4], rfl, ⟨rfl, vi (by show IntKind.i64.wrap (((4 : Nat) : Int) + 1) = ((4 + 1 : Nat) : Int); decide), trivial⟩, ?_, rfl, rfl, rfl⟩
    exact congrArg (fun s => [Chunk.cells 23 ([Value.int .u8 x0, .int .u8 x1, .int .u8 x2, .int .u8 x3, .int .u8 x4, .int .u8 x5].map .v), Chunk.vals 9 (txs [x0, x1, x2, x3, x4, x5] 4 ++ ([Value.string s] ++ sp2))]) (hexR_eq a4 b4)
  ·
    have hg := gr_bounds ho
    refine ⟨⟨by show (0 : Int) ≤ ((5 : Nat) : Int); decide, by show ((5 : Nat) : Int) < ((6 : Nat) : Int); decide⟩, ?_⟩
    refine ⟨by decide, ?_⟩
    refine ⟨⟨by show 0 ≤ hiR x5; rw [hiR_eq]; omega, by show hiR x5 < 16; rw [hiR_eq]; omega⟩, ?_⟩
    refine ⟨⟨by show 0 ≤ loR x5; rw [loR_eq a5 b5]; omega, by show loR x5 < 16; rw [loR_eq a5 b5]; omega⟩, ?_⟩
    refine ⟨by show 0 + 1 * 1 ≤ 1; decide, fun u hu => by simp at hu; subst hu; rfl, ?_⟩
    refine ⟨txs [x0, x1, x2, x3, x4, x5] 5, sp, rfl, hg.1, ⟨hg.2.1, hg.2.2.1, hg.2.2.2⟩, by show (5 + 1) * 16 ≤ 140737488355328; decide, fun cap2 sp2 k1 k2 k3 => ?_⟩
    refine ⟨(5 + 1, cap2, sp2), ⟨by show 5 + 1 ≤ 6; decide, gr_next (news := [.string (hex2 x5)]) ho rfl k1 k2 k3⟩, by show 6 - (5 + 1) < 6 - 5; decide, [0, 4], rfl, ⟨rfl, vi (by show IntKind.i64.wrap (((5 : Nat) : Int) + 1) = ((5 + 1 : Nat) : Int); decide), trivial⟩, ?_, rfl, rfl, rfl⟩
    exact congrArg (fun s => [Chunk.cells 23 ([Value.int .u8 x0, .int .u8 x1, .int .u8 x2, .int .u8 x3, .int .u8 x4, .int .u8 x5].map .v), Chunk.vals 9 (txs [x0, x1, x2, x3, x4, x5] 5 ++ ([Value.string s] ++ sp2))]) (hexR_eq a5 b5)
  · have hg := gr_bounds ho
    refine (join_c x0 x1 x2 x3 x4 x5 cap (by omega) sp g).callS [1] 2 rfl rfl rfl rfl ?_
    rintro o L1 g' ⟨rfl, rfl, rfl⟩ _
    exact ⟨rfl, rfl, rfl⟩
end Go.Proofs.YtmbbhodikiikeaaGreatDoor
