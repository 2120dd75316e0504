/- Addresses as text and numbers in digits: mac.Known, Group, Reserved, Less and their references, strconv.FormatInt of a byte in sixteens: what each returns. Conditions: one entry of a table of math/bits is as laid. -/
import Derived.Test.YtmbbhodikiikeaaGreatDoorXmac
import Derived.Test.YtmbbhodikiikeaaGreatDoorTypes
import Derived.Test.YtmbbhodikiikeaaGreatDoorBaseC
namespace Go.Proofs.YtmbbhodikiikeaaGreatDoor
open Go.Sx Go.Lib
set_option maxRecDepth 100000
set_option maxHeartbeats 8000000
attribute [local irreducible] Meets
attribute [local instance] Classical.propDecidable

theorem mixedM : Tryz.prog.follows .mixedOrders = true := by kernel_rfl

/-- The table's entry for 16. -/
def BitVar (g : G) : Prop := g.at ⟨6, 15, none⟩ [.int .u8 4]

theorem tz64_c (g : G) (hB : BitVar g) : Tells Tryz.prog 82 [.v (.int .u64 16)] g (.v (.int .i64 4)) := by
  refine meets_of mixedM Tryz.func82 (by kernel_rfl) x82_ok (some []) ?_
  refine ⟨by decide, ?_⟩
  refine ⟨⟨by decide, by decide⟩, ?_⟩
  refine ⟨[.int .u8 4], rfl, Eq.mp (by kernel_rfl) hB, ?_⟩
  exact ⟨ri (by decide), rfl, rfl⟩
theorem pow_c (g : G) : Tells Tryz.prog 68 [.v (.int .i64 16)] g (.v (.bool true)) := by
  refine meets_of mixedM Tryz.func68 (by kernel_rfl) x68_ok (some []) ?_
  exact ⟨rb (by decide), rfl, rfl⟩
theorem tz_c (g : G) (hB : BitVar g) : Tells Tryz.prog 69 [.v (.int .u64 16)] g (.v (.int .i64 4)) := by
  refine meets_of mixedM Tryz.func69 (by kernel_rfl) x69_ok (some []) ?_
  refine (tz64_c g hB).call rfl rfl rfl ?_
  exact ⟨rfl, rfl, rfl⟩

def digs : ByteArray := ⟨#[48, 49, 50, 51, 52, 53, 54, 55, 56, 57, 97, 98, 99, 100, 101, 102, 103, 104, 105, 106, 107, 108, 109, 110, 111, 112, 113, 114, 115, 116, 117, 118, 119, 120, 121, 122]⟩
def dg (i : Int) : Int := ((digs.data.toList.getD i.toNat 0).toNat : Int)
def hex1 (u : Int) : ByteArray := if u < 16 then bytesOfInts [dg u] else bytesOfInts [dg (u / 16), dg (u % 16)]
def zz (n : Nat) : List SV := List.replicate n (.v (.int .u8 0))
theorem wrapU {n : Int} (h0 : 0 ≤ n) (h1 : n < 18446744073709551616) : IntKind.u64.wrap n = n := by
  simp only [IntKind.wrap, IntKind.signed, IntKind.bits]
  simp
  omega
def lowR (u : Int) : Int := IntKind.u64.wrap ((BitVec.ofInt IntKind.u64.bits u &&& BitVec.ofInt IntKind.u64.bits 15).toNat : Int)
theorem lowR_eq {u : Int} (h0 : 0 ≤ u) (h1 : u ≤ 255) : lowR u = u % 16 := by
  obtain ⟨n, rfl⟩ := Int.eq_ofNat_of_zero_le h0
  have hn : n < 256 := by omega
  unfold lowR
  rw [BitVec.toNat_and, bv_nat .u64 n (by simp [IntKind.bits]; omega), show (BitVec.ofInt IntKind.u64.bits 15).toNat = 2 ^ 4 - 1 from by decide, and_mask]
  rw [show IntKind.u64.wrap ((n % 2 ^ 4 : Nat) : Int) = ((n % 2 ^ 4 : Nat) : Int) from wrapU (by omega) (by omega)]
  push_cast
  rfl

theorem fb_c (u : Int) (h0 : 0 ≤ u) (h1 : u ≤ 255) (g : G) (hB : BitVar g) : Tells Tryz.prog 48 [.v (.slice none 0 0), .v (.int .u64 u), .v (.int .i64 16), .v (.bool false), .v (.bool false)] g (.tup [.v (.slice none 0 0), .v (.string (hex1 u))]) := by
  refine meets_of mixedM Tryz.func48 (by kernel_rfl) x48_ok (some []) ?_
  refine (pow_c g).call rfl rfl rfl ?_
  refine (tz_c g hB).call rfl rfl rfl ?_
  change LoopW _ _ _ _ _ _ _
  apply loop_rule [] (α := Bool) (fun x => [(1, .v (.int .u64 (match x with | false => u | true => u / 16))), (13, .v (.int .i64 (match x with | false => 65 | true => 64)))]) (fun x => match x with | false => [Chunk.cells 117 (zz 65)] | true => [Chunk.cells 117 (zz 64 ++ [.v (.int .u8 (dg (lowR u)))])]) (fun _ => g) (fun x => x = true → 16 ≤ u) (fun x => match x with | false => 1 | true => 0) false
  · intro x; cases x <;> kernel_rfl
  · exact fun h => absurd h (by decide)
  · exact ⟨rfl, rfl, trivial⟩
  · rfl
  · rfl
  intro x hk
  cases x with
  | false =>
    refine bsplit_of (fun (h : decide (u ≥ 16) = true) => ?_) (fun (h : decide (u ≥ 16) = false) => ?_)
    · have hu : 16 ≤ u := of_decide_eq_true h
      refine ⟨⟨by show 0 ≤ lowR u; rw [lowR_eq h0 h1]; omega, by show lowR u < 36; rw [lowR_eq h0 h1]; omega⟩, ?_⟩
      refine ⟨⟨by decide, by decide⟩, ?_⟩
      refine ⟨by decide, ?_⟩
      refine ⟨true, fun _ => hu, by decide, [0], rfl, ⟨vi (show u.fdiv 16 = u / 16 from Int.fdiv_eq_ediv_of_nonneg _ (by decide)), vi (by decide), trivial⟩, rfl, rfl, rfl, rfl⟩
    · have hu : u < 16 := by have := of_decide_eq_false h; omega
      rw [hex1, if_pos hu]
      refine ⟨⟨h0, by show u < 36; omega⟩, ?_⟩
      refine ⟨⟨by decide, by decide⟩, ?_⟩
      refine ⟨⟨by decide, by decide⟩, ?_⟩
      exact ⟨rfl, rfl, rfl⟩
  | true =>
    have hu := hk rfl
    refine bsplit_of (fun (h : decide (u / 16 ≥ 16) = true) => absurd (of_decide_eq_true h) (by omega)) (fun _ => ?_)
    rw [hex1, if_neg (by omega), ← lowR_eq h0 h1]
    refine ⟨⟨by show 0 ≤ u / 16; omega, by show u / 16 < 36; omega⟩, ?_⟩
    refine ⟨⟨by decide, by decide⟩, ?_⟩
    refine ⟨⟨by decide, by decide⟩, ?_⟩
    exact ⟨rfl, rfl, rfl⟩

theorem fb_c' (u u' : Int) (b : Bool) (e1 : u' = u) (e2 : b = false) (h0 : 0 ≤ u) (h1 : u ≤ 255) (g : G) (hB : BitVar g) : Tells Tryz.prog 48 [.v (.slice none 0 0), .v (.int .u64 u'), .v (.int .i64 16), .v (.bool b), .v (.bool false)] g (.tup [.v (.slice none 0 0), .v (.string (hex1 u))]) := by
  subst e1 e2
  exact fb_c u' h0 h1 g hB

theorem fi_c (n : Int) (h0 : 0 ≤ n) (h1 : n ≤ 255) (g : G) (hB : BitVar g) : Tells Tryz.prog 31 [.v (.int .i64 n), .v (.int .i64 16)] g (.v (.string (hex1 n))) := by
  refine meets_of mixedM Tryz.func31 (by kernel_rfl) x31_ok (some []) ?_
  refine (fb_c' n (IntKind.u64.wrap n) (decide (n < 0)) (wrapU h0 (by omega)) (by simp; omega) h0 h1 g hB).call rfl rfl rfl ?_
  exact ⟨rfl, rfl, rfl⟩
theorem fint_c (n : Int) (h0 : 0 ≤ n) (h1 : n ≤ 255) (g : G) (hB : BitVar g) : Tells Tryz.prog 32 [.v (.int .i64 n), .v (.int .i64 16)] g (.v (.string (hex1 n))) := by
  refine meets_of mixedM Tryz.func32 (by kernel_rfl) x32_ok (some []) ?_
  refine (fi_c n h0 h1 g hB).call rfl rfl rfl ?_
  exact ⟨rfl, rfl, rfl⟩

def hex2 (n : Int) : ByteArray := bytesOfInts [dg (n / 16), dg (n % 16)]
theorem hex2_size (n : Int) : (hex2 n).size = 2 := rfl

theorem dig_c (n : Int) (h0 : 0 ≤ n) (h1 : n ≤ 255) (g : G) (hB : BitVar g) : Tells Tryz.prog 22 [.v (.int .i64 n), .v (.int .i64 16), .v (.int .i64 2)] g (.v (.string (hex2 n))) := by
  obtain ⟨s0, hs0⟩ : ∃ s, hex1 n = s := ⟨_, rfl⟩
  have hfi := fint_c n h0 h1 g hB
  rw [hs0] at hfi
  refine meets_of mixedM Tryz.func22 (by kernel_rfl) x22_ok (some []) ?_
  refine hfi.call rfl rfl rfl ?_
  by_cases hn : n < 16
  · have e0 : hex2 n = ⟨#[48]⟩ ++ s0 := by
      rw [← hs0, hex1, if_pos hn, hex2, show n / 16 = 0 by omega, show n % 16 = n by omega]
      exact bytesOfInts_append [dg 0] [dg n]
    have hz : s0.size = 1 := by rw [← hs0, hex1, if_pos hn]; rfl
    have hz2 : ((⟨#[48]⟩ : ByteArray) ++ s0).size = 2 := by rw [← e0]; rfl
    rw [e0]
    change LoopW _ _ _ _ _ _ _
    apply loop_rule [] (α := Bool) (fun x => [(7, .v (.string (match x with | false => s0 | true => ⟨#[48]⟩ ++ s0)))]) (fun _ => []) (fun _ => g) (fun _ => True) (fun x => match x with | false => 1 | true => 0) false
    · intro x; cases x <;> kernel_rfl
    · trivial
    · exact ⟨rfl, trivial⟩
    · rfl
    · rfl
    intro x _
    cases x with
    | false =>
      refine bsplit_of (fun _ => ?_) (fun (h : decide ((s0.size : Int) < 2) = false) => absurd (of_decide_eq_false h) (by omega))
      refine ⟨by show 1 + s0.size ≤ _; omega, ?_⟩
      exact ⟨true, trivial, by decide, [], rfl, ⟨rfl, trivial⟩, rfl, rfl, rfl, rfl⟩
    | true =>
      refine bsplit_of (fun (h : decide ((((⟨#[48]⟩ : ByteArray) ++ s0).size : Int) < 2) = true) => absurd (of_decide_eq_true h) (by omega)) (fun _ => ?_)
      exact ⟨rfl, rfl, rfl⟩
  · have e0 : hex2 n = s0 := by rw [← hs0, hex1, if_neg hn, hex2]
    have hz : s0.size = 2 := by rw [← e0]; rfl
    rw [e0]
    change LoopW _ _ _ _ _ _ _
    apply loop_rule [] (α := Unit) (fun _ => [(7, .v (.string s0))]) (fun _ => []) (fun _ => g) (fun _ => True) (fun _ => 0) ()
    · intro x; kernel_rfl
    · trivial
    · exact ⟨rfl, trivial⟩
    · rfl
    · rfl
    intro x _
    refine bsplit_of (fun (h : decide ((s0.size : Int) < 2) = true) => absurd (of_decide_eq_true h) (by omega)) (fun _ => ?_)
    exact ⟨rfl, rfl, rfl⟩

attribute [local irreducible] hex2
def col : ByteArray := ⟨#[58]⟩
def addrT (a : AddrV) : ByteArray := hex2 a.e0 ++ col ++ hex2 a.e1 ++ col ++ hex2 a.e2 ++ col ++ hex2 a.e3 ++ col ++ hex2 a.e4 ++ col ++ hex2 a.e5

theorem text_c (a : AddrV) (g : G) (ha : a.ok g) (hB : BitVar g) : Tells Tryz.prog 11 [.agg (a.cells.map .v)] g (.v (.string (addrT a))) := by
  obtain ⟨⟨a0, b0⟩, ⟨a1, b1⟩, ⟨a2, b2⟩, ⟨a3, b3⟩, ⟨a4, b4⟩, ⟨a5, b5⟩⟩ := ha
  have cs : col.size = 1 := rfl
  have cs' : (⟨#[58]⟩ : ByteArray).size = 1 := rfl
  have wr : ∀ n : Int, 0 ≤ n → n ≤ 255 → IntKind.i64.wrap n = n := fun n h1 h2 => wrap_id (by omega) (by omega)
  refine meets_of mixedM Tryz.func11 (by kernel_rfl) x11_ok (some []) ?_
  have dg' : ∀ n : Int, 0 ≤ n → n ≤ 255 → Tells Tryz.prog 22 [.v (.int .i64 (IntKind.i64.wrap n)), .v (.int .i64 16), .v (.int .i64 2)] g (.v (.string (hex2 n))) := fun n h1 h2 => by rw [wr n h1 h2]; exact dig_c n h1 h2 g hB
  refine ⟨⟨by decide, by decide⟩, ?_⟩
  refine ⟨⟨by decide, by decide⟩, ?_⟩
  refine ⟨⟨by decide, by decide⟩, ?_⟩
  refine ⟨⟨by decide, by decide⟩, ?_⟩
  refine ⟨⟨by decide, by decide⟩, ?_⟩
  refine ⟨⟨by decide, by decide⟩, ?_⟩
  refine (dg' a.e0 a0 b0).call rfl rfl rfl ?_
  refine ⟨by show _ + col.size ≤ _; simp only [ByteArray.size_append, hex2_size, cs, cs']; omega, ?_⟩
  refine (dg' a.e1 a1 b1).call rfl rfl rfl ?_
  refine ⟨by simp only [ByteArray.size_append, hex2_size, cs, cs']; omega, ?_⟩
  refine ⟨by show _ + col.size ≤ _; simp only [ByteArray.size_append, hex2_size, cs, cs']; omega, ?_⟩
  refine (dg' a.e2 a2 b2).call rfl rfl rfl ?_
  refine ⟨by simp only [ByteArray.size_append, hex2_size, cs, cs']; omega, ?_⟩
  refine ⟨by show _ + col.size ≤ _; simp only [ByteArray.size_append, hex2_size, cs, cs']; omega, ?_⟩
  refine (dg' a.e3 a3 b3).call rfl rfl rfl ?_
  refine ⟨by simp only [ByteArray.size_append, hex2_size, cs, cs']; omega, ?_⟩
  refine ⟨by show _ + col.size ≤ _; simp only [ByteArray.size_append, hex2_size, cs, cs']; omega, ?_⟩
  refine (dg' a.e4 a4 b4).call rfl rfl rfl ?_
  refine ⟨by simp only [ByteArray.size_append, hex2_size, cs, cs']; omega, ?_⟩
  refine ⟨by show _ + col.size ≤ _; simp only [ByteArray.size_append, hex2_size, cs, cs']; omega, ?_⟩
  refine (dg' a.e5 a5 b5).call rfl rfl rfl ?_
  refine ⟨by simp only [ByteArray.size_append, hex2_size, cs, cs']; omega, ?_⟩
  exact ⟨rfl, rfl, rfl⟩

/-! ### The plain law -/
def hu (d : Int) : UInt8 := UInt8.ofNat (dg d).toNat
theorem hu_lt : ∀ i : Nat, i < 16 → ∀ j : Nat, j < 16 → decide (hu i < hu j) = decide (i < j) := by decide +kernel
theorem huI {d e : Int} (h0 : 0 ≤ d) (h1 : d < 16) (k0 : 0 ≤ e) (k1 : e < 16) : hu d < hu e ↔ d < e := by
  obtain ⟨i, rfl⟩ := Int.eq_ofNat_of_zero_le h0
  obtain ⟨j, rfl⟩ := Int.eq_ofNat_of_zero_le k0
  have := hu_lt i (by omega) j (by omega)
  rw [decide_eq_decide] at this
  rw [this]
  omega
theorem hu_inj {d e : Int} (h0 : 0 ≤ d) (h1 : d < 16) (k0 : 0 ≤ e) (k1 : e < 16) (h : hu d = hu e) : d = e := by
  have a := huI h0 h1 k0 k1
  have b := huI k0 k1 h0 h1
  rw [h] at a b
  have : ¬ hu e < hu e := UInt8.lt_irrefl _
  have := mt a.2 this
  have := mt b.2 (UInt8.lt_irrefl _)
  omega
theorem less_gen {a b : UInt8} {i j : Int} (h1 : a < b ↔ i < j) (h2 : a = b ↔ i = j) (x y : List UInt8) : Op.bytesLess (a :: x) (b :: y) = if i < j then true else if j < i then false else Op.bytesLess x y := by
  simp only [Op.bytesLess, h1]
  by_cases k : i < j
  · simp [k]
  · by_cases e : i = j
    · have := h2.2 e
      simp [this, e]
    · have h3 : ¬ a = b := fun h => e (h2.1 h)
      have h4 : j < i := by omega
      simp [k, h3, h4]
theorem huE {d e : Int} (h0 : 0 ≤ d) (h1 : d < 16) (k0 : 0 ≤ e) (k1 : e < 16) : hu d = hu e ↔ d = e := ⟨hu_inj h0 h1 k0 k1, fun h => by rw [h]⟩
theorem less_two {m n : Int} (m0 : 0 ≤ m) (m1 : m ≤ 255) (n0 : 0 ≤ n) (n1 : n ≤ 255) (x y : List UInt8) :
    Op.bytesLess (hu (m / 16) :: hu (m % 16) :: x) (hu (n / 16) :: hu (n % 16) :: y) = if m < n then true else if n < m then false else Op.bytesLess x y := by
  rw [less_gen (huI (d := m / 16) (e := n / 16) (by omega) (by omega) (by omega) (by omega)) (huE (by omega) (by omega) (by omega) (by omega)),
    less_gen (huI (d := m % 16) (e := n % 16) (by omega) (by omega) (by omega) (by omega)) (huE (by omega) (by omega) (by omega) (by omega))]
  by_cases h1 : m / 16 < n / 16
  · rw [if_pos h1, if_pos (by omega)]
  · rw [if_neg h1]
    by_cases h2 : n / 16 < m / 16
    · rw [if_pos h2, if_neg (by omega), if_pos (by omega)]
    · rw [if_neg h2]
      by_cases h3 : m % 16 < n % 16
      · rw [if_pos h3, if_pos (by omega)]
      · rw [if_neg h3]
        by_cases h4 : n % 16 < m % 16
        · rw [if_pos h4, if_neg (by omega), if_pos (by omega)]
        · rw [if_neg h4, if_neg (by omega), if_neg (by omega)]
theorem less_one {m n : Int} (m0 : 0 ≤ m) (m1 : m ≤ 255) (n0 : 0 ≤ n) (n1 : n ≤ 255) (x y : List UInt8) :
    Op.bytesLess (UInt8.ofNat m.toNat :: x) (UInt8.ofNat n.toNat :: y) = if m < n then true else if n < m then false else Op.bytesLess x y := by
  obtain ⟨i, rfl⟩ := Int.eq_ofNat_of_zero_le m0
  obtain ⟨j, rfl⟩ := Int.eq_ofNat_of_zero_le n0
  refine less_gen ?_ ?_ x y
  · rw [Int.toNat_natCast, Int.toNat_natCast, UInt8.lt_iff_toNat_lt, UInt8.toNat_ofNat', UInt8.toNat_ofNat']
    omega
  · rw [Int.toNat_natCast, Int.toNat_natCast, ← UInt8.toNat_inj, UInt8.toNat_ofNat', UInt8.toNat_ofNat']
    omega
theorem less_same (c : UInt8) (x y : List UInt8) : Op.bytesLess (c :: x) (c :: y) = Op.bytesLess x y := by
  have : ¬ c < c := UInt8.lt_irrefl c
  simp [Op.bytesLess, this]
def addrB (a : AddrV) : ByteArray := bytesOfInts [a.e0, a.e1, a.e2, a.e3, a.e4, a.e5]
theorem hex2_list (n : Int) : (hex2 n).data.toList = [hu (n / 16), hu (n % 16)] := by unfold hex2; rfl
theorem addrT_list (a : AddrV) : (addrT a).toList = hu (a.e0 / 16) :: hu (a.e0 % 16) :: 58 :: hu (a.e1 / 16) :: hu (a.e1 % 16) :: 58 :: hu (a.e2 / 16) :: hu (a.e2 % 16) :: 58 :: hu (a.e3 / 16) :: hu (a.e3 % 16) :: 58 :: hu (a.e4 / 16) :: hu (a.e4 % 16) :: 58 :: hu (a.e5 / 16) :: hu (a.e5 % 16) :: [] := by
  rw [ByteArray.toList_eq]
  simp only [addrT, ByteArray.data_append, Array.toList_append, hex2_list]
  rfl
theorem less_law (a b : AddrV) (g : G) (ha : a.ok g) (hb : b.ok g) : Op.bytesLess (addrT a).toList (addrT b).toList = Op.bytesLess (addrB a).toList (addrB b).toList := by
  obtain ⟨⟨a0, a0'⟩, ⟨a1, a1'⟩, ⟨a2, a2'⟩, ⟨a3, a3'⟩, ⟨a4, a4'⟩, ⟨a5, a5'⟩⟩ := ha
  obtain ⟨⟨b0, b0'⟩, ⟨b1, b1'⟩, ⟨b2, b2'⟩, ⟨b3, b3'⟩, ⟨b4, b4'⟩, ⟨b5, b5'⟩⟩ := hb
  rw [addrT_list, addrT_list, ByteArray.toList_eq, ByteArray.toList_eq, addrB, addrB, bytesOfInts_list, bytesOfInts_list]
  simp only [List.map_cons, List.map_nil]
  rw [less_two a0 a0' b0 b0', less_one a0 a0' b0 b0', less_same, less_two a1 a1' b1 b1', less_one a1 a1' b1 b1', less_same, less_two a2 a2' b2 b2', less_one a2 a2' b2 b2', less_same, less_two a3 a3' b3 b3', less_one a3 a3' b3 b3', less_same, less_two a4 a4' b4 b4', less_one a4 a4' b4 b4', less_same, less_two a5 a5' b5 b5', less_one a5 a5' b5 b5']
theorem addrT_inj (a b : AddrV) (g : G) (ha : a.ok g) (hb : b.ok g) (h : addrT a = addrT b) : a = b := by
  obtain ⟨⟨a0, a0'⟩, ⟨a1, a1'⟩, ⟨a2, a2'⟩, ⟨a3, a3'⟩, ⟨a4, a4'⟩, ⟨a5, a5'⟩⟩ := ha
  obtain ⟨⟨b0, b0'⟩, ⟨b1, b1'⟩, ⟨b2, b2'⟩, ⟨b3, b3'⟩, ⟨b4, b4'⟩, ⟨b5, b5'⟩⟩ := hb
  have h := congrArg ByteArray.toList h
  rw [addrT_list, addrT_list] at h
  simp only [List.cons.injEq, true_and, and_true] at h
  obtain ⟨p0, q0, p1, q1, p2, q2, p3, q3, p4, q4, p5, q5⟩ := h
  have f : ∀ m n : Int, 0 ≤ m → m ≤ 255 → 0 ≤ n → n ≤ 255 → hu (m / 16) = hu (n / 16) → hu (m % 16) = hu (n % 16) → m = n := fun m n m0 m1 n0 n1 p q => by
    have := hu_inj (by omega) (by omega) (by omega) (by omega) p
    have := hu_inj (by omega) (by omega) (by omega) (by omega) q
    omega
  cases a; cases b
  simp only [AddrV.mk.injEq]
  exact ⟨f _ _ a0 a0' b0 b0' p0 q0, f _ _ a1 a1' b1 b1' p1 q1, f _ _ a2 a2' b2 b2' p2 q2, f _ _ a3 a3' b3 b3' p3 q3, f _ _ a4 a4' b4 b4' p4 q4, f _ _ a5 a5' b5 b5' p5 q5⟩
end Go.Proofs.YtmbbhodikiikeaaGreatDoor
