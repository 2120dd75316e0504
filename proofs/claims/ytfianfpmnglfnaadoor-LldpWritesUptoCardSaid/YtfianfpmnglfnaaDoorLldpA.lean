/- Names, capabilities, addresses, organisations: whether they may be. Conditions: none. -/
import Derived.Test.YtfianfpmnglfnaaDoorXlldpa
import Derived.Test.YtfianfpmnglfnaaDoorTagRC
import Derived.Test.YtfianfpmnglfnaaDoorBaseD
namespace Go.Proofs.YtfianfpmnglfnaaDoor
open Go.Sx
set_option maxRecDepth 100000
set_option maxHeartbeats 8000000
attribute [local irreducible] Meets
attribute [local instance] Classical.propDecidable

def nameP (n : NameV) : Prop := (1 ≤ n.sub ∧ n.sub ≤ 7) ∧ (1 ≤ n.iD.size ∧ n.iD.size ≤ 255)
def bitsP (a b : Nat) (k : Nat) : Prop := ∀ j, j < k → ¬ (a / 2 ^ j % 2 = 1 ∧ b / 2 ^ j % 2 = 0)
def capsP (c : CapsV) : Prop := (0 ≤ c.has ∧ c.has ≤ 65535) ∧ (0 ≤ c.on_ ∧ c.on_ ≤ 65535) ∧ bitsP c.on_.toNat c.has.toNat 16
def manageP (m : ManageV) : Prop := (0 ≤ m.addr.sub ∧ m.addr.sub ≤ 255) ∧ (1 ≤ m.addr.iD.size ∧ m.addr.iD.size ≤ 31) ∧ (1 ≤ m.ifSub ∧ m.ifSub ≤ 3) ∧ (0 ≤ m.if_ ∧ m.if_ ≤ 4294967295) ∧ m.oid.size ≤ 128
def orgP (o : OrgV) : Prop := (0 ≤ o.oui ∧ o.oui ≤ 16777215) ∧ (0 ≤ o.sub ∧ o.sub ≤ 255) ∧ o.info.size ≤ 507
theorem lname_c (n : NameV) (g : G) : Tells Tryd.prog 34 [.agg (n.cells.map .v)] g (.v (.bool (decide (nameP n)))) := by
  refine meets_of mixedS Tryd.func34 (by kernel_rfl) x34_ok (some []) ?_
  refine bsplit_of (fun k1 => ?_) (fun k1 => ⟨rbd (by simp at k1; simp [nameP]; omega), rfl, rfl⟩)
  refine bsplit_of (fun k2 => ?_) (fun k2 => ⟨rbd (by simp at k2; simp [nameP]; omega), rfl, rfl⟩)
  refine bsplit_of (fun k3 => ?_) (fun k3 => ⟨rbd (by simp at k3; simp [nameP]; omega), rfl, rfl⟩)
  exact ⟨rbd (by simp at k1 k2 k3; simp [nameP]; omega), rfl, rfl⟩
theorem lnameR_c (n : NameV) (g : G) : Tells Tryd.prog 44 [.agg (n.cells.map .v)] g (.v (.bool (decide (nameP n)))) := by
  refine meets_of mixedS Tryd.func44 (by kernel_rfl) x44_ok (some []) ?_
  refine (within_c n.sub 1 7 g).call rfl rfl rfl ?_
  refine bsplit_of (fun k1 => ?_) (fun k1 => ⟨rbd (by simp at k1; simp [nameP]; omega), rfl, rfl⟩)
  refine (within_c n.iD.size 1 255 g).call rfl rfl rfl ?_
  exact ⟨rbd (by simp at k1; simp [nameP]; omega), rfl, rfl⟩
theorem lmanage_c (m : ManageV) (g : G) : Tells Tryd.prog 37 [.agg (m.cells.map .v)] g (.v (.bool (decide (manageP m)))) := by
  refine meets_of mixedS Tryd.func37 (by kernel_rfl) x37_ok (some []) ?_
  refine bsplit_of (fun k1 => ?_) (fun k1 => ⟨rbd (by simp at k1; simp [manageP]; omega), rfl, rfl⟩)
  refine bsplit_of (fun k2 => ?_) (fun k2 => ⟨rbd (by simp at k2; simp [manageP]; omega), rfl, rfl⟩)
  refine bsplit_of (fun k3 => ?_) (fun k3 => ⟨rbd (by simp at k3; simp [manageP]; omega), rfl, rfl⟩)
  refine bsplit_of (fun k4 => ?_) (fun k4 => ⟨rbd (by simp at k4; simp [manageP]; omega), rfl, rfl⟩)
  refine bsplit_of (fun k5 => ?_) (fun k5 => ⟨rbd (by simp at k5; simp [manageP]; omega), rfl, rfl⟩)
  refine bsplit_of (fun k6 => ?_) (fun k6 => ⟨rbd (by simp at k6; simp [manageP]; omega), rfl, rfl⟩)
  refine bsplit_of (fun k7 => ?_) (fun k7 => ⟨rbd (by simp at k7; simp [manageP]; omega), rfl, rfl⟩)
  refine bsplit_of (fun k8 => ?_) (fun k8 => ⟨rbd (by simp at k8; simp [manageP]; omega), rfl, rfl⟩)
  exact ⟨rbd (by simp at k1 k2 k3 k4 k5 k6 k7 k8; simp [manageP]; omega), rfl, rfl⟩
theorem lmanageR_c (m : ManageV) (g : G) : Tells Tryd.prog 46 [.agg (m.cells.map .v)] g (.v (.bool (decide (manageP m)))) := by
  refine meets_of mixedS Tryd.func46 (by kernel_rfl) x46_ok (some []) ?_
  refine (within_c m.addr.sub 0 255 g).call rfl rfl rfl ?_
  refine bsplit_of (fun k1 => ?_) (fun k1 => ⟨rbd (by simp at k1; simp [manageP]; omega), rfl, rfl⟩)
  refine (within_c m.addr.iD.size 1 31 g).call rfl rfl rfl ?_
  refine bsplit_of (fun k2 => ?_) (fun k2 => ⟨rbd (by simp at k2; simp [manageP]; omega), rfl, rfl⟩)
  refine (within_c m.ifSub 1 3 g).call rfl rfl rfl ?_
  refine bsplit_of (fun k3 => ?_) (fun k3 => ⟨rbd (by simp at k3; simp [manageP]; omega), rfl, rfl⟩)
  refine (within_c m.if_ 0 4294967295 g).call rfl rfl rfl ?_
  refine bsplit_of (fun k4 => ?_) (fun k4 => ⟨rbd (by simp at k4; simp [manageP]; omega), rfl, rfl⟩)
  exact ⟨rbd (by simp at k1 k2 k3 k4; simp [manageP]; omega), rfl, rfl⟩
theorem lorg_c (o : OrgV) (g : G) : Tells Tryd.prog 40 [.agg (o.cells.map .v)] g (.v (.bool (decide (orgP o)))) := by
  refine meets_of mixedS Tryd.func40 (by kernel_rfl) x40_ok (some []) ?_
  refine bsplit_of (fun k1 => ?_) (fun k1 => ⟨rbd (by simp at k1; simp [orgP]; omega), rfl, rfl⟩)
  refine bsplit_of (fun k2 => ?_) (fun k2 => ⟨rbd (by simp at k2; simp [orgP]; omega), rfl, rfl⟩)
  refine bsplit_of (fun k3 => ?_) (fun k3 => ⟨rbd (by simp at k3; simp [orgP]; omega), rfl, rfl⟩)
  refine bsplit_of (fun k4 => ?_) (fun k4 => ⟨rbd (by simp at k4; simp [orgP]; omega), rfl, rfl⟩)
  exact ⟨rbd (by simp at k1 k2 k3 k4; simp [orgP]; omega), rfl, rfl⟩
theorem lorgR_c (o : OrgV) (g : G) : Tells Tryd.prog 80 [.agg (o.cells.map .v)] g (.v (.bool (decide (orgP o)))) := by
  refine meets_of mixedS Tryd.func80 (by kernel_rfl) x80_ok (some []) ?_
  refine (within_c o.oui 0 16777215 g).call rfl rfl rfl ?_
  refine bsplit_of (fun k1 => ?_) (fun k1 => ⟨rbd (by simp at k1; simp [orgP]; omega), rfl, rfl⟩)
  refine (within_c o.sub 0 255 g).call rfl rfl rfl ?_
  refine bsplit_of (fun k2 => ?_) (fun k2 => ⟨rbd (by simp at k2; simp [orgP]; omega), rfl, rfl⟩)
  exact ⟨rbd (by simp at k1 k2; simp [orgP]; omega), rfl, rfl⟩
theorem bit_dm (a j : Nat) : a.testBit j = decide (a / 2 ^ j % 2 = 1) := Nat.testBit_eq_decide_div_mod_eq
theorem caps_bits {a b : Nat} (ha : a < 65536) (hb : b < 65536) : (IntKind.i64.wrap ((BitVec.ofInt IntKind.i64.bits (a : Int) &&& ~~~BitVec.ofInt IntKind.i64.bits (b : Int)).toNat : Int) == 0) = true ↔ bitsP a b 16 := by
  have ea : BitVec.ofInt IntKind.i64.bits (a : Int) = BitVec.ofNat 64 a := BitVec.ofInt_natCast 64 a
  have eb : BitVec.ofInt IntKind.i64.bits (b : Int) = BitVec.ofNat 64 b := BitVec.ofInt_natCast 64 b
  rw [ea, eb]
  obtain ⟨x, hx⟩ : ∃ x : BitVec 64, BitVec.ofNat 64 a &&& ~~~BitVec.ofNat 64 b = x := ⟨_, rfl⟩
  have hbit : ∀ i, i < 64 → x.getLsbD i = (a.testBit i && !b.testBit i) := fun i hi => by
    rw [← hx]; simp only [BitVec.getLsbD_and, BitVec.getLsbD_not, BitVec.getLsbD_ofNat, hi, decide_true, Bool.true_and]
  have hle : x.toNat < 65536 := by
    rw [← hx, BitVec.toNat_and, BitVec.toNat_ofNat]
    exact Nat.lt_of_le_of_lt Nat.and_le_left (Nat.lt_of_le_of_lt (Nat.mod_le _ _) ha)
  show (IntKind.i64.wrap ((BitVec.toNat (BitVec.ofNat 64 a &&& ~~~BitVec.ofNat 64 b) : Nat) : Int) == 0) = true ↔ _
  rw [hx, wrap_id (by omega) (by omega)]
  constructor
  · intro h j hj hab
    have h0 : x = 0#64 := BitVec.eq_of_toNat_eq (by simpa using h)
    have := hbit j (by omega)
    rw [h0, bit_dm, bit_dm, decide_eq_true hab.1, decide_eq_false (by omega)] at this
    simp at this
  · intro h
    have h0 : x = 0#64 := by
      refine BitVec.eq_of_getLsbD_eq fun i hi => ?_
      rw [hbit i hi]
      by_cases h16 : i < 16
      · have := h i h16
        rw [bit_dm, bit_dm]
        by_cases q : a / 2 ^ i % 2 = 1
        · rw [decide_eq_true q, decide_eq_true (by omega : b / 2 ^ i % 2 = 1)]; simp
        · rw [decide_eq_false q]; simp
      · have : a.testBit i = false := Nat.testBit_lt_two_pow (Nat.lt_of_lt_of_le ha (Nat.pow_le_pow_right (n := 2) (by decide) (show 16 ≤ i by omega)))
        rw [this]; simp
    rw [h0]; simp
theorem lcaps_c (c : CapsV) (g : G) : Tells Tryd.prog 33 [.agg (c.cells.map .v)] g (.v (.bool (decide (capsP c)))) := by
  refine meets_of mixedS Tryd.func33 (by kernel_rfl) x33_ok (some []) ?_
  refine bsplit_of (fun k1 => ?_) (fun k1 => ⟨rbd (by simp at k1; simp [capsP]; omega), rfl, rfl⟩)
  refine bsplit_of (fun k2 => ?_) (fun k2 => ⟨rbd (by simp at k2; simp [capsP]; omega), rfl, rfl⟩)
  refine bsplit_of (fun k3 => ?_) (fun k3 => ⟨rbd (by simp at k3; simp [capsP]; omega), rfl, rfl⟩)
  refine bsplit_of (fun k4 => ?_) (fun k4 => ⟨rbd (by simp at k4; simp [capsP]; omega), rfl, rfl⟩)
  have h1 : 0 ≤ c.has := of_decide_eq_true k1
  have h2 : c.has ≤ 65535 := of_decide_eq_true k2
  have h3 : 0 ≤ c.on_ := of_decide_eq_true k3
  have h4 : c.on_ ≤ 65535 := of_decide_eq_true k4
  refine ⟨rbd ?_, rfl, rfl⟩
  have := caps_bits (a := c.on_.toNat) (b := c.has.toNat) (by omega) (by omega)
  rw [Int.toNat_of_nonneg h1, Int.toNat_of_nonneg h3] at this
  rw [this, capsP]
  exact ⟨fun h => ⟨⟨h1, h2⟩, ⟨h3, h4⟩, h⟩, fun h => h.2.2⟩
theorem lcapsR_c (c : CapsV) (g : G) : Tells Tryd.prog 45 [.agg (c.cells.map .v)] g (.v (.bool (decide (capsP c)))) := by
  refine meets_of mixedS Tryd.func45 (by kernel_rfl) x45_ok (some []) ?_
  refine (within_c c.has 0 65535 g).call rfl rfl rfl ?_
  refine bsplit_of (fun k1 => ⟨rbd (by simp at k1; simp [capsP]; omega), rfl, rfl⟩) (fun k1 => ?_)
  refine (within_c c.on_ 0 65535 g).call rfl rfl rfl ?_
  refine bsplit_of (fun k2 => ⟨rbd (by simp at k2; simp [capsP]; omega), rfl, rfl⟩) (fun k2 => ?_)
  have h1 : 0 ≤ c.has ∧ c.has ≤ 65535 := by simpa using k1
  have h2 : 0 ≤ c.on_ ∧ c.on_ ≤ 65535 := by simpa using k2
  obtain ⟨a, ha⟩ : ∃ a : Nat, c.on_ = a := ⟨c.on_.toNat, by omega⟩
  obtain ⟨b, hb⟩ : ∃ b : Nat, c.has = b := ⟨c.has.toNat, by omega⟩
  have hP : capsP c ↔ bitsP a b 16 := by
    rw [capsP, ha, hb]
    exact ⟨fun h => h.2.2, fun h => ⟨by omega, by omega, h⟩⟩
  rw [show decide (capsP c) = decide (bitsP a b 16) from decide_eq_decide.2 hP]
  obtain ⟨has, on⟩ := c
  dsimp only at ha hb
  subst ha hb
  have dm : ∀ (x j : Nat) (z : Int), x ≤ 65535 → z = ((2 ^ j : Nat) : Int) → (IntKind.i64.wrap ((x : Int).tdiv z)).tmod 2 = ((x / 2 ^ j % 2 : Nat) : Int) := fun x j z hx hz => by
    subst hz
    have hd : x / 2 ^ j ≤ x := Nat.div_le_self _ _
    rw [Int.tdiv_eq_ediv_of_nonneg (by omega), ← Int.natCast_ediv]
    generalize x / 2 ^ j = y at hd
    rw [wrap_id (by omega) (by omega), Int.tmod_eq_emod_of_nonneg (by omega)]
    omega
  change LoopW _ _ _ _ _ _ _ _ _
  apply loop_rule [] (α := Nat × Int) (fun y => [(3, .v (.int .i64 y.2))]) (fun _ => [.cells 111 [.v (.int .i64 b), .v (.int .i64 a)]]) (fun _ => g) (fun y => y.1 ≤ 16 ∧ y.2 = ((2 ^ y.1 : Nat) : Int) ∧ bitsP a b y.1) (fun y => 16 - y.1) (0, 1)
  · intro x; kernel_rfl
  · exact ⟨Nat.zero_le _, rfl, fun j hj => absurd hj (Nat.not_lt_zero _)⟩
  · exact ⟨rfl, trivial⟩
  · rfl
  · rfl
  rintro ⟨j, z⟩ hj
  obtain ⟨hj, hz, hB⟩ := hj
  dsimp only at hj hz hB
  have ha : a ≤ 65535 := by have := h2.2; dsimp only at this; omega
  have hb : b ≤ 65535 := by have := h1.2; dsimp only at this; omega
  have hlt16 : (z < 65536) ↔ j < 16 := by
    rw [hz, show (65536 : Int) = ((2 ^ 16 : Nat) : Int) by decide, Int.ofNat_lt]
    exact Nat.pow_lt_pow_iff_right (by decide)
  have hpos : 0 < z := by rw [hz]; exact Int.natCast_pos.2 (Nat.two_pow_pos j)
  refine bsplit_of (fun hlt => ?_) (fun hlt => ?_)
  · have hj16 : j < 16 := hlt16.1 (of_decide_eq_true hlt)
    have hz16 := of_decide_eq_true hlt
    have d1 := dm a j z ha hz
    have d2 := dm b j z hb hz
    refine ⟨by omega, ?_⟩
    refine ⟨by decide, ?_⟩
    have back : ¬ (a / 2 ^ j % 2 = 1 ∧ b / 2 ^ j % 2 = 0) → bitsP a b (j + 1) := fun h i hi => by
      by_cases hij : i = j
      · subst hij; exact h
      · exact hB i (by omega)
    have hz2 : IntKind.i64.wrap (z * 2) = ((2 ^ (j + 1) : Nat) : Int) := by rw [wrap_id (by omega) (by omega), hz, Nat.pow_succ]; push_cast; rfl
    refine bsplit_of (fun k3 => ?_) (fun k3 => ?_)
    · rw [d1] at k3
      have k3 : ((a / 2 ^ j % 2 : Nat) : Int) = 1 := eq_of_beq k3
      refine ⟨by omega, ?_⟩
      refine ⟨by decide, ?_⟩
      refine bsplit_of (fun k4 => ?_) (fun k4 => ?_)
      · rw [d2] at k4
        have k4 : ((b / 2 ^ j % 2 : Nat) : Int) = 0 := eq_of_beq k4
        exact ⟨rb (decide_eq_false fun h : bitsP a b 16 => h j hj16 ⟨by omega, by omega⟩), rfl, rfl⟩
      · rw [d2] at k4
        have k4 : ((b / 2 ^ j % 2 : Nat) : Int) ≠ 0 := ne_of_beq_false k4
        exact ⟨(j + 1, _), ⟨hj16, hz2, back (by omega)⟩, by show 16 - (j + 1) < 16 - j; omega, [0], rfl, ⟨rfl, trivial⟩, rfl, rfl, rfl, rfl⟩
    · rw [d1] at k3
      have k3 : ((a / 2 ^ j % 2 : Nat) : Int) ≠ 1 := ne_of_beq_false k3
      exact ⟨(j + 1, _), ⟨hj16, hz2, back (by omega)⟩, by show 16 - (j + 1) < 16 - j; omega, [0], rfl, ⟨rfl, trivial⟩, rfl, rfl, rfl, rfl⟩
  · have hj16 : j = 16 := by
      have := of_decide_eq_false hlt
      rw [hlt16] at this
      omega
    subst hj16
    exact ⟨rb (decide_eq_true hB), rfl, rfl⟩
end Go.Proofs.YtfianfpmnglfnaaDoor
