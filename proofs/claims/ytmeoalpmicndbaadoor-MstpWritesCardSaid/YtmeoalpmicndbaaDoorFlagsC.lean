/- bpdu.Flags, Byte, Of and their references: what each returns; the law BpduFlags. Conditions: none. -/
import Derived.Test.YtmeoalpmicndbaaDoorXflags
import Derived.Test.YtmeoalpmicndbaaDoorTypes
namespace Go.Proofs.YtmeoalpmicndbaaDoor
open Go.Sx
set_option maxRecDepth 100000
set_option maxHeartbeats 8000000
attribute [local irreducible] Meets

theorem mixedF : Tryd.prog.follows .mixedOrders = true := by kernel_rfl

def flagsOk (f : FlagsV) : Bool := decide (f.role ≥ 0) && decide (f.role ≤ 3)

theorem flags_c (f : FlagsV) (g : G) (hf : f.ok g) : Tells Tryd.prog 154 [.agg (f.cells.map .v)] g (.v (.bool (flagsOk f))) := by
  refine meets_of mixedF Tryd.func154 (by kernel_rfl) x154_ok (some []) ?_
  refine bsplit_of (fun h => ?_) (fun h => ?_)
  · exact ⟨rb (by simp [flagsOk, h]), rfl, rfl⟩
  · exact ⟨rb (by simp [flagsOk, h]), rfl, rfl⟩

def orB (a b : Int) : Int := IntKind.i64.wrap (BitVec.ofInt IntKind.i64.bits a ||| BitVec.ofInt IntKind.i64.bits b).toNat
def bitsOf (f : FlagsV) : List Bool := [f.change, f.proposal, false, false, f.learn, f.pass, f.agree, f.ack]
def accB (n0 : Int) (l : List Bool) : Nat → Int
  | 0 => n0
  | k + 1 => match l[k]? with
    | some true => orB (accB n0 l k) (IntKind.i64.wrap (1 * 2 ^ (min k IntKind.i64.bits)))
    | _ => accB n0 l k
def byteP (f : FlagsV) : Int := accB (IntKind.i64.wrap (f.role * 2 ^ (min 2 IntKind.i64.bits))) (bitsOf f) 8

theorem byte_c (f : FlagsV) (g : G) (hf : f.ok g) : Tells Tryd.prog 103 [.agg (f.cells.map .v)] g (.v (.int .i64 (byteP f))) := by
  refine meets_of mixedF Tryd.func103 (by kernel_rfl) x103_ok (some []) ?_
  refine ⟨by decide, ?_⟩
  change LoopW _ _ _ _ _ _ _ _ _
  apply loop_rule [] (α := Nat) (fun k => [(22, .v (.int .i64 k)), (3, .v (.int .i64 (accB (IntKind.i64.wrap (f.role * 2 ^ (min 2 IntKind.i64.bits))) (bitsOf f) k)))]) (fun _ => [Chunk.cells 59 (f.cells.map .v)]) (fun _ => g) (fun k => k ≤ 8) (fun k => 8 - k) 0
  · intro x; kernel_rfl
  · exact Nat.zero_le _
  · exact ⟨rfl, rfl, trivial⟩
  · rfl
  · rfl
  intro k hk
  refine bsplit_of (fun hlt => ?_) (fun hlt => ?_)
  · have hlt' : k < 8 := by simp at hlt; omega
    have go : ∀ b : Bool, (bitsOf f)[k]? = some b → ∀ x : Int, x = accB (IntKind.i64.wrap (f.role * 2 ^ (min 2 IntKind.i64.bits))) (bitsOf f) k → accB (IntKind.i64.wrap (f.role * 2 ^ (min 2 IntKind.i64.bits))) (bitsOf f) (k + 1) = if b then orB x (IntKind.i64.wrap (1 * 2 ^ (min k IntKind.i64.bits))) else x := by
      intro b hb x hx
      subst hx
      simp only [accB, hb]
      cases b <;> rfl
    obtain rfl | rfl | rfl | rfl | rfl | rfl | rfl | rfl : k = 0 ∨ k = 1 ∨ k = 2 ∨ k = 3 ∨ k = 4 ∨ k = 5 ∨ k = 6 ∨ k = 7 := by omega
    case inr.inr.inl => exact ⟨by decide, 3, by omega, by omega, [0], rfl, ⟨vi rfl, vi (go false rfl _ rfl).symm, trivial⟩, rfl, rfl, rfl, rfl⟩
    case inr.inr.inr.inl => exact ⟨by decide, 4, by omega, by omega, [0], rfl, ⟨vi rfl, vi (go false rfl _ rfl).symm, trivial⟩, rfl, rfl, rfl, rfl⟩
    case inl =>
      refine ⟨by decide, ?_⟩
      refine bsplit_of (fun hb => ?_) (fun hb => ?_)
      · exact ⟨by decide, 1, by omega, by omega, [0], rfl, ⟨vi rfl, vi (go true (by simp [bitsOf, hb]) _ rfl).symm, trivial⟩, rfl, rfl, rfl, rfl⟩
      · exact ⟨1, by omega, by omega, [0], rfl, ⟨vi rfl, vi (go false (by simp [bitsOf, hb]) _ rfl).symm, trivial⟩, rfl, rfl, rfl, rfl⟩
    case inr.inl =>
      refine ⟨by decide, ?_⟩
      refine bsplit_of (fun hb => ?_) (fun hb => ?_)
      · exact ⟨by decide, 2, by omega, by omega, [0], rfl, ⟨vi rfl, vi (go true (by simp [bitsOf, hb]) _ rfl).symm, trivial⟩, rfl, rfl, rfl, rfl⟩
      · exact ⟨2, by omega, by omega, [0], rfl, ⟨vi rfl, vi (go false (by simp [bitsOf, hb]) _ rfl).symm, trivial⟩, rfl, rfl, rfl, rfl⟩
    case inr.inr.inr.inr.inl =>
      refine ⟨by decide, ?_⟩
      refine bsplit_of (fun hb => ?_) (fun hb => ?_)
      · exact ⟨by decide, 5, by omega, by omega, [0], rfl, ⟨vi rfl, vi (go true (by simp [bitsOf, hb]) _ rfl).symm, trivial⟩, rfl, rfl, rfl, rfl⟩
      · exact ⟨5, by omega, by omega, [0], rfl, ⟨vi rfl, vi (go false (by simp [bitsOf, hb]) _ rfl).symm, trivial⟩, rfl, rfl, rfl, rfl⟩
    case inr.inr.inr.inr.inr.inl =>
      refine ⟨by decide, ?_⟩
      refine bsplit_of (fun hb => ?_) (fun hb => ?_)
      · exact ⟨by decide, 6, by omega, by omega, [0], rfl, ⟨vi rfl, vi (go true (by simp [bitsOf, hb]) _ rfl).symm, trivial⟩, rfl, rfl, rfl, rfl⟩
      · exact ⟨6, by omega, by omega, [0], rfl, ⟨vi rfl, vi (go false (by simp [bitsOf, hb]) _ rfl).symm, trivial⟩, rfl, rfl, rfl, rfl⟩
    case inr.inr.inr.inr.inr.inr.inl =>
      refine ⟨by decide, ?_⟩
      refine bsplit_of (fun hb => ?_) (fun hb => ?_)
      · exact ⟨by decide, 7, by omega, by omega, [0], rfl, ⟨vi rfl, vi (go true (by simp [bitsOf, hb]) _ rfl).symm, trivial⟩, rfl, rfl, rfl, rfl⟩
      · exact ⟨7, by omega, by omega, [0], rfl, ⟨vi rfl, vi (go false (by simp [bitsOf, hb]) _ rfl).symm, trivial⟩, rfl, rfl, rfl, rfl⟩
    case inr.inr.inr.inr.inr.inr.inr =>
      refine ⟨by decide, ?_⟩
      refine bsplit_of (fun hb => ?_) (fun hb => ?_)
      · exact ⟨by decide, 8, by omega, by omega, [0], rfl, ⟨vi rfl, vi (go true (by simp [bitsOf, hb]) _ rfl).symm, trivial⟩, rfl, rfl, rfl, rfl⟩
      · exact ⟨8, by omega, by omega, [0], rfl, ⟨vi rfl, vi (go false (by simp [bitsOf, hb]) _ rfl).symm, trivial⟩, rfl, rfl, rfl, rfl⟩
  · have : k = 8 := by simp at hlt; omega
    subst this
    exact ⟨rfl, rfl, rfl⟩

theorem odd_c (n k : Int) (hk : 0 ≤ k) (g : G) : Meets Tryd.prog 168 [.v (.int .i64 k), .ptr 0 0] [.cells 3 [.v (.int .i64 n)]] g (fun o L' g' => o = .ret (.v (.bool (IntKind.i64.wrap (BitVec.ofInt IntKind.i64.bits (n.fdiv (2 ^ (min k.toNat IntKind.i64.bits))) &&& BitVec.ofInt IntKind.i64.bits 1).toNat == 1))) ∧ L' = [.cells 3 [.v (.int .i64 n)]] ∧ g' = g) := by
  refine meets_of mixedF Tryd.func168 (by kernel_rfl) x168_ok (some []) ?_
  exact ⟨hk, rfl, rfl, rfl⟩
theorem oddR_c (n k : Int) (hk : k ≠ 0) (g : G) : Meets Tryd.prog 162 [.v (.int .i64 k), .ptr 0 0] [.cells 3 [.v (.int .i64 n)]] g (fun o L' g' => o = .ret (.v (.bool ((IntKind.i64.wrap (n.tdiv k)).tmod 2 == 1))) ∧ L' = [.cells 3 [.v (.int .i64 n)]] ∧ g' = g) := by
  refine meets_of mixedF Tryd.func162 (by kernel_rfl) x162_ok (some []) ?_
  exact ⟨hk, by decide, rfl, rfl, rfl⟩
def ofP (n : Int) (k : Int) : Bool := IntKind.i64.wrap (BitVec.ofInt IntKind.i64.bits (n.fdiv (2 ^ (min k.toNat IntKind.i64.bits))) &&& BitVec.ofInt IntKind.i64.bits 1).toNat == 1
def ofR (n : Int) (k : Int) : Bool := (IntKind.i64.wrap (n.tdiv k)).tmod 2 == 1
def flagsP (n : Int) : FlagsV := ⟨ofP n 0, ofP n 1, IntKind.i64.wrap (BitVec.ofInt IntKind.i64.bits (n.fdiv (2 ^ (min 2 IntKind.i64.bits))) &&& BitVec.ofInt IntKind.i64.bits 3).toNat, ofP n 4, ofP n 5, ofP n 6, ofP n 7⟩
def flagsR (n : Int) : FlagsV := ⟨ofR n 1, ofR n 2, (IntKind.i64.wrap (n.tdiv 4)).tmod 4, ofR n 16, ofR n 32, ofR n 64, ofR n 128⟩

theorem of_c (n : Int) (g : G) : Tells Tryd.prog 121 [.v (.int .i64 n)] g (.agg ((flagsP n).cells.map .v)) := by
  refine meets_of mixedF Tryd.func121 (by kernel_rfl) x121_ok (some []) ?_
  refine ⟨by decide, ?_⟩
  refine (odd_c n 0 (by decide) _).callR [0] 2 rfl rfl rfl rfl ?_
  rintro o L1 g' ⟨rfl, rfl, rfl⟩ _
  refine ⟨fun j hj => by rw [List.mem_singleton.1 hj]; rfl, ?_⟩
  refine (odd_c n 1 (by decide) _).callR [0] 2 rfl rfl rfl rfl ?_
  rintro o L1 g' ⟨rfl, rfl, rfl⟩ _
  refine ⟨fun j hj => by rw [List.mem_singleton.1 hj]; rfl, ?_⟩
  refine (odd_c n 4 (by decide) _).callR [0] 2 rfl rfl rfl rfl ?_
  rintro o L1 g' ⟨rfl, rfl, rfl⟩ _
  refine ⟨fun j hj => by rw [List.mem_singleton.1 hj]; rfl, ?_⟩
  refine (odd_c n 5 (by decide) _).callR [0] 2 rfl rfl rfl rfl ?_
  rintro o L1 g' ⟨rfl, rfl, rfl⟩ _
  refine ⟨fun j hj => by rw [List.mem_singleton.1 hj]; rfl, ?_⟩
  refine (odd_c n 6 (by decide) _).callR [0] 2 rfl rfl rfl rfl ?_
  rintro o L1 g' ⟨rfl, rfl, rfl⟩ _
  refine ⟨fun j hj => by rw [List.mem_singleton.1 hj]; rfl, ?_⟩
  refine (odd_c n 7 (by decide) _).callR [0] 2 rfl rfl rfl rfl ?_
  rintro o L1 g' ⟨rfl, rfl, rfl⟩ _
  refine ⟨fun j hj => by rw [List.mem_singleton.1 hj]; rfl, ?_⟩
  exact ⟨rfl, rfl, rfl⟩
theorem ofR_c (n : Int) (g : G) : Tells Tryd.prog 116 [.v (.int .i64 n)] g (.agg ((flagsR n).cells.map .v)) := by
  refine meets_of mixedF Tryd.func116 (by kernel_rfl) x116_ok (some []) ?_
  refine ⟨by decide, by decide, ?_⟩
  refine (oddR_c n 1 (by decide) _).callR [0] 2 rfl rfl rfl rfl ?_
  rintro o L1 g' ⟨rfl, rfl, rfl⟩ _
  refine ⟨fun j hj => by rw [List.mem_singleton.1 hj]; rfl, ?_⟩
  refine (oddR_c n 2 (by decide) _).callR [0] 2 rfl rfl rfl rfl ?_
  rintro o L1 g' ⟨rfl, rfl, rfl⟩ _
  refine ⟨fun j hj => by rw [List.mem_singleton.1 hj]; rfl, ?_⟩
  refine (oddR_c n 16 (by decide) _).callR [0] 2 rfl rfl rfl rfl ?_
  rintro o L1 g' ⟨rfl, rfl, rfl⟩ _
  refine ⟨fun j hj => by rw [List.mem_singleton.1 hj]; rfl, ?_⟩
  refine (oddR_c n 32 (by decide) _).callR [0] 2 rfl rfl rfl rfl ?_
  rintro o L1 g' ⟨rfl, rfl, rfl⟩ _
  refine ⟨fun j hj => by rw [List.mem_singleton.1 hj]; rfl, ?_⟩
  refine (oddR_c n 64 (by decide) _).callR [0] 2 rfl rfl rfl rfl ?_
  rintro o L1 g' ⟨rfl, rfl, rfl⟩ _
  refine ⟨fun j hj => by rw [List.mem_singleton.1 hj]; rfl, ?_⟩
  refine (oddR_c n 128 (by decide) _).callR [0] 2 rfl rfl rfl rfl ?_
  rintro o L1 g' ⟨rfl, rfl, rfl⟩ _
  refine ⟨fun j hj => by rw [List.mem_singleton.1 hj]; rfl, ?_⟩
  exact ⟨rfl, rfl, rfl⟩

def entries (f : FlagsV) : Array MapEntry := #[⟨.int .i64 1, .bool f.change, 0⟩, ⟨.int .i64 2, .bool f.proposal, 1⟩, ⟨.int .i64 16, .bool f.learn, 2⟩, ⟨.int .i64 32, .bool f.pass, 3⟩, ⟨.int .i64 64, .bool f.agree, 4⟩, ⟨.int .i64 128, .bool f.ack, 5⟩]
def wt (d b : Bool) (w : Int) : Int := if d && b then w else 0
theorem wt_le (d b : Bool) {w : Int} (h : 0 ≤ w) : 0 ≤ wt d b w ∧ wt d b w ≤ w := by unfold wt; split <;> omega
def sumR (f : FlagsV) (d : Nat → Bool) : Int := f.role * 4 + (wt (d 0) f.change 1 + (wt (d 1) f.proposal 2 + (wt (d 2) f.learn 16 + (wt (d 3) f.pass 32 + (wt (d 4) f.agree 64 + (wt (d 5) f.ack 128))))))
def leftR (d : Nat → Bool) : Nat := (if d 0 then 0 else 1) + ((if d 1 then 0 else 1) + ((if d 2 then 0 else 1) + ((if d 3 then 0 else 1) + ((if d 4 then 0 else 1) + ((if d 5 then 0 else 1))))))
def setB (d : Nat → Bool) (k : Nat) : Nat → Bool := fun i => if i = k then true else d i
def allB : Nat → Bool := fun _ => true
def byteR (f : FlagsV) : Int := sumR f allB

theorem sumR_bounds (f : FlagsV) (d : Nat → Bool) (h0 : 0 ≤ f.role) (h3 : f.role ≤ 3) : 0 ≤ sumR f d ∧ sumR f d ≤ 1000 := by
  unfold sumR
  have h0' := wt_le (d 0) f.change (w := 1) (by decide)
  have h1' := wt_le (d 1) f.proposal (w := 2) (by decide)
  have h2' := wt_le (d 2) f.learn (w := 16) (by decide)
  have h3' := wt_le (d 3) f.pass (w := 32) (by decide)
  have h4' := wt_le (d 4) f.agree (w := 64) (by decide)
  have h5' := wt_le (d 5) f.ack (w := 128) (by decide)
  omega
theorem seen_push {seen : Array Nat} {d : Nat → Bool} {k : Nat} (h : ∀ i, i < 6 → (i ∈ seen.toList ↔ d i = true)) : ∀ i, i < 6 → (i ∈ (seen.push k).toList ↔ setB d k i = true) := by
  intro i hi
  simp only [Array.toList_push, List.mem_append, List.mem_singleton, setB, h i hi]
  by_cases hik : i = k
  · simp [hik]
  · simp [hik]
theorem sum_t0 (f : FlagsV) (d : Nat → Bool) (hd : d 0 = false) (hb : f.change = true) : sumR f (setB d 0) = sumR f d + 1 := by
  simp [sumR, setB, hd, hb, wt]; omega
theorem sum_f0 (f : FlagsV) (d : Nat → Bool) (hb : f.change = false) : sumR f (setB d 0) = sumR f d := by
  simp [sumR, setB, hb, wt]
theorem left_0 (d : Nat → Bool) (hd : d 0 = false) : leftR (setB d 0) < leftR d := by
  simp [leftR, setB, hd]
theorem sum_t1 (f : FlagsV) (d : Nat → Bool) (hd : d 1 = false) (hb : f.proposal = true) : sumR f (setB d 1) = sumR f d + 2 := by
  simp [sumR, setB, hd, hb, wt]; omega
theorem sum_f1 (f : FlagsV) (d : Nat → Bool) (hb : f.proposal = false) : sumR f (setB d 1) = sumR f d := by
  simp [sumR, setB, hb, wt]
theorem left_1 (d : Nat → Bool) (hd : d 1 = false) : leftR (setB d 1) < leftR d := by
  simp [leftR, setB, hd]
theorem sum_t2 (f : FlagsV) (d : Nat → Bool) (hd : d 2 = false) (hb : f.learn = true) : sumR f (setB d 2) = sumR f d + 16 := by
  simp [sumR, setB, hd, hb, wt]; omega
theorem sum_f2 (f : FlagsV) (d : Nat → Bool) (hb : f.learn = false) : sumR f (setB d 2) = sumR f d := by
  simp [sumR, setB, hb, wt]
theorem left_2 (d : Nat → Bool) (hd : d 2 = false) : leftR (setB d 2) < leftR d := by
  simp [leftR, setB, hd]
theorem sum_t3 (f : FlagsV) (d : Nat → Bool) (hd : d 3 = false) (hb : f.pass = true) : sumR f (setB d 3) = sumR f d + 32 := by
  simp [sumR, setB, hd, hb, wt]; omega
theorem sum_f3 (f : FlagsV) (d : Nat → Bool) (hb : f.pass = false) : sumR f (setB d 3) = sumR f d := by
  simp [sumR, setB, hb, wt]
theorem left_3 (d : Nat → Bool) (hd : d 3 = false) : leftR (setB d 3) < leftR d := by
  simp [leftR, setB, hd]
theorem sum_t4 (f : FlagsV) (d : Nat → Bool) (hd : d 4 = false) (hb : f.agree = true) : sumR f (setB d 4) = sumR f d + 64 := by
  simp [sumR, setB, hd, hb, wt]; omega
theorem sum_f4 (f : FlagsV) (d : Nat → Bool) (hb : f.agree = false) : sumR f (setB d 4) = sumR f d := by
  simp [sumR, setB, hb, wt]
theorem left_4 (d : Nat → Bool) (hd : d 4 = false) : leftR (setB d 4) < leftR d := by
  simp [leftR, setB, hd]
theorem sum_t5 (f : FlagsV) (d : Nat → Bool) (hd : d 5 = false) (hb : f.ack = true) : sumR f (setB d 5) = sumR f d + 128 := by
  simp [sumR, setB, hd, hb, wt]; omega
theorem sum_f5 (f : FlagsV) (d : Nat → Bool) (hb : f.ack = false) : sumR f (setB d 5) = sumR f d := by
  simp [sumR, setB, hb, wt]
theorem left_5 (d : Nat → Bool) (hd : d 5 = false) : leftR (setB d 5) < leftR d := by
  simp [leftR, setB, hd]

theorem byteR_c (f : FlagsV) (g : G) (h0 : 0 ≤ f.role) (h3 : f.role ≤ 3) : Meets Tryd.prog 99 [.agg (f.cells.map .v)] [] g (fun o L' g' => o = .ret (.v (.int .i64 (byteR f))) ∧ L' = [] ∧ G.le g g') := by
  refine meets_of mixedF Tryd.func99 (by kernel_rfl) x99_ok (some []) ?_
  refine prim_makeMap 1 rfl rfl ?_
  refine prim_insert (kt := 3) (et := 4) (d := .int .i64) (by kernel_rfl) (by kernel_rfl) (by kernel_rfl) rfl rfl rfl ?_
  refine prim_insert (kt := 3) (et := 4) (d := .int .i64) (by kernel_rfl) (by kernel_rfl) (by kernel_rfl) rfl rfl rfl ?_
  refine prim_insert (kt := 3) (et := 4) (d := .int .i64) (by kernel_rfl) (by kernel_rfl) (by kernel_rfl) rfl rfl rfl ?_
  refine prim_insert (kt := 3) (et := 4) (d := .int .i64) (by kernel_rfl) (by kernel_rfl) (by kernel_rfl) rfl rfl rfl ?_
  refine prim_insert (kt := 3) (et := 4) (d := .int .i64) (by kernel_rfl) (by kernel_rfl) (by kernel_rfl) rfl rfl rfl ?_
  refine prim_insert (kt := 3) (et := 4) (d := .int .i64) (by kernel_rfl) (by kernel_rfl) (by kernel_rfl) rfl rfl rfl ?_
  refine prim_range 2 rfl (kt := 3) (et := 4) (by kernel_rfl) rfl rfl ?_
  intro g1 mb hg1 hmb0
  have hmb : g1 mb = some (.map (entries f) 6) := hmb0
  have hnd : ((entries f).toList.map (·.born)).Nodup := by simp [entries]
  have hborn : ∀ x ∈ (entries f).toList, x.born < 6 := by
    intro x hx
    simp only [entries, List.mem_cons, List.not_mem_nil, or_false] at hx
    rcases hx with rfl | rfl | rfl | rfl | rfl | rfl <;> simp
  change LoopW _ _ _ _ _ _ _ _ _
  apply loop_rule [] (α := Array Nat × (Nat → Bool)) (fun x => [(3, .v (.int .i64 (sumR f x.2)))]) (fun x => [Chunk.cells 59 (f.cells.map .v), .gone, .raw (.mapIter (some mb) 6 x.1 6)]) (fun _ => g1) (fun x => ∀ i, i < 6 → (i ∈ x.1.toList ↔ x.2 i = true)) (fun x => leftR x.2) (#[], fun _ => false)
  · intro x; kernel_rfl
  · intro i _; simp
  · exact ⟨vi (by simp only [sumR, wt, Bool.false_and, Bool.false_eq_true, if_false]; rw [wrap_id (by omega) (by omega)]; omega), trivial⟩
  · rfl
  · rfl
  rintro ⟨seen, d⟩ hk
  simp only at hk
  refine prim_next (es := entries f) rfl hmb hborn rfl (fun hall => ?_) (fun x hx hns => ?_)
  · have hd : ∀ i, i < 6 → d i = true := fun i hi => by
      rw [← hk i hi]
      obtain ⟨x, hx, rfl⟩ : ∃ x ∈ (entries f).toList, x.born = i := by
        obtain rfl | rfl | rfl | rfl | rfl | rfl : i = 0 ∨ i = 1 ∨ i = 2 ∨ i = 3 ∨ i = 4 ∨ i = 5 := by omega
        all_goals simp [entries]
      exact hall x hx
    refine ⟨ri ?_, rfl, hg1⟩
    simp only [byteR, sumR, allB, hd 0 (by decide), hd 1 (by decide), hd 2 (by decide), hd 3 (by decide), hd 4 (by decide), hd 5 (by decide)]
  · have hmem := hx
    simp only [entries, List.mem_cons, List.not_mem_nil, or_false] at hx
    have hb : 0 ≤ sumR f ((seen, d) : Array Nat × (Nat → Bool)).2 ∧ sumR f ((seen, d) : Array Nat × (Nat → Bool)).2 ≤ 1000 := sumR_bounds f d h0 h3
    have hnot : ∀ i, i < 6 → i ∉ seen.toList → d i = false := fun i hi hn => by
      cases hdi : d i with
      | false => rfl
      | true => exact absurd ((hk i hi).2 hdi) hn
    rcases hx with rfl | rfl | rfl | rfl | rfl | rfl
    · have hdk := hnot 0 (by decide) hns
      refine prim_entry (es := entries f) ⟨.int .i64 1, .bool f.change, 0⟩ rfl hmb hmem hnd rfl ?_
      refine bsplit_of (fun hbb => ?_) (fun hbb => ?_)
      · exact ⟨(seen.push 0, setB d 0), seen_push hk, left_0 d hdk, [0, 1, 2], rfl, ⟨vi (by rw [sum_t0 f d hdk hbb]; exact wrap_id (by omega) (by omega)), trivial⟩, rfl, rfl, rfl, rfl⟩
      · exact ⟨(seen.push 0, setB d 0), seen_push hk, left_0 d hdk, [0, 1, 2], rfl, ⟨vi (sum_f0 f d hbb).symm, trivial⟩, rfl, rfl, rfl, rfl⟩
    · have hdk := hnot 1 (by decide) hns
      refine prim_entry (es := entries f) ⟨.int .i64 2, .bool f.proposal, 1⟩ rfl hmb hmem hnd rfl ?_
      refine bsplit_of (fun hbb => ?_) (fun hbb => ?_)
      · exact ⟨(seen.push 1, setB d 1), seen_push hk, left_1 d hdk, [0, 1, 2], rfl, ⟨vi (by rw [sum_t1 f d hdk hbb]; exact wrap_id (by omega) (by omega)), trivial⟩, rfl, rfl, rfl, rfl⟩
      · exact ⟨(seen.push 1, setB d 1), seen_push hk, left_1 d hdk, [0, 1, 2], rfl, ⟨vi (sum_f1 f d hbb).symm, trivial⟩, rfl, rfl, rfl, rfl⟩
    · have hdk := hnot 2 (by decide) hns
      refine prim_entry (es := entries f) ⟨.int .i64 16, .bool f.learn, 2⟩ rfl hmb hmem hnd rfl ?_
      refine bsplit_of (fun hbb => ?_) (fun hbb => ?_)
      · exact ⟨(seen.push 2, setB d 2), seen_push hk, left_2 d hdk, [0, 1, 2], rfl, ⟨vi (by rw [sum_t2 f d hdk hbb]; exact wrap_id (by omega) (by omega)), trivial⟩, rfl, rfl, rfl, rfl⟩
      · exact ⟨(seen.push 2, setB d 2), seen_push hk, left_2 d hdk, [0, 1, 2], rfl, ⟨vi (sum_f2 f d hbb).symm, trivial⟩, rfl, rfl, rfl, rfl⟩
    · have hdk := hnot 3 (by decide) hns
      refine prim_entry (es := entries f) ⟨.int .i64 32, .bool f.pass, 3⟩ rfl hmb hmem hnd rfl ?_
      refine bsplit_of (fun hbb => ?_) (fun hbb => ?_)
      · exact ⟨(seen.push 3, setB d 3), seen_push hk, left_3 d hdk, [0, 1, 2], rfl, ⟨vi (by rw [sum_t3 f d hdk hbb]; exact wrap_id (by omega) (by omega)), trivial⟩, rfl, rfl, rfl, rfl⟩
      · exact ⟨(seen.push 3, setB d 3), seen_push hk, left_3 d hdk, [0, 1, 2], rfl, ⟨vi (sum_f3 f d hbb).symm, trivial⟩, rfl, rfl, rfl, rfl⟩
    · have hdk := hnot 4 (by decide) hns
      refine prim_entry (es := entries f) ⟨.int .i64 64, .bool f.agree, 4⟩ rfl hmb hmem hnd rfl ?_
      refine bsplit_of (fun hbb => ?_) (fun hbb => ?_)
      · exact ⟨(seen.push 4, setB d 4), seen_push hk, left_4 d hdk, [0, 1, 2], rfl, ⟨vi (by rw [sum_t4 f d hdk hbb]; exact wrap_id (by omega) (by omega)), trivial⟩, rfl, rfl, rfl, rfl⟩
      · exact ⟨(seen.push 4, setB d 4), seen_push hk, left_4 d hdk, [0, 1, 2], rfl, ⟨vi (sum_f4 f d hbb).symm, trivial⟩, rfl, rfl, rfl, rfl⟩
    · have hdk := hnot 5 (by decide) hns
      refine prim_entry (es := entries f) ⟨.int .i64 128, .bool f.ack, 5⟩ rfl hmb hmem hnd rfl ?_
      refine bsplit_of (fun hbb => ?_) (fun hbb => ?_)
      · exact ⟨(seen.push 5, setB d 5), seen_push hk, left_5 d hdk, [0, 1, 2], rfl, ⟨vi (by rw [sum_t5 f d hdk hbb]; exact wrap_id (by omega) (by omega)), trivial⟩, rfl, rfl, rfl, rfl⟩
      · exact ⟨(seen.push 5, setB d 5), seen_push hk, left_5 d hdk, [0, 1, 2], rfl, ⟨vi (sum_f5 f d hbb).symm, trivial⟩, rfl, rfl, rfl, rfl⟩

theorem byte_eq (f : FlagsV) (h0 : 0 ≤ f.role) (h3 : f.role ≤ 3) : byteP f = byteR f := by
  obtain ⟨a, b, r, c, d, e, k⟩ := f
  simp only at h0 h3
  obtain rfl | rfl | rfl | rfl : r = 0 ∨ r = 1 ∨ r = 2 ∨ r = 3 := by omega
  all_goals (cases a <;> cases b <;> cases c <;> cases d <;> cases e <;> cases k <;> decide)

def ofAll (n : Fin 256) : Bool := (flagsP (n.val : Int)).eq (flagsR (n.val : Int))
theorem of_eq0 : ∀ n : Fin 256, ofAll n = true := by decide +kernel
theorem of_eq (n : Int) (h0 : 0 ≤ n) (h1 : n < 256) : (flagsP n).eq (flagsR n) = true := by
  have := of_eq0 ⟨n.toNat, by omega⟩
  simp only [ofAll] at this
  rwa [Int.toNat_of_nonneg h0] at this
end Go.Proofs.YtmeoalpmicndbaaDoor
