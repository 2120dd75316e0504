/- prio.order, Better, Best, their references and what they call: what each returns. Conditions: none. -/
import Derived.Test.YtedfohdgigbhiaaDoorXbtr
import Derived.Test.YtedfohdgigbhiaaDoorBtL
import Derived.Test.YtedfohdgigbhiaaDoorTagRC
namespace Go.Proofs.YtedfohdgigbhiaaDoor
open Go.Sx
set_option maxRecDepth 100000
set_option maxHeartbeats 8000000
attribute [local irreducible] Meets


theorem isnan_c (a : Int) (g : G) : Tells Tryd.prog 153 [.v (.int .i64 a)] g (.v (.bool false)) := by
  refine meets_of mixedS Tryd.func153 (by kernel_rfl) x153_ok (some []) ?_
  exact ⟨rb (by simp), rfl, rfl⟩

theorem cmp_c (a b : Int) (g : G) : Tells Tryd.prog 112 [.v (.int .i64 a), .v (.int .i64 b)] g (.v (.int .i64 (fst [a] [b]))) := by
  refine meets_of mixedS Tryd.func112 (by kernel_rfl) x112_ok (some []) ?_
  refine (isnan_c a g).call rfl rfl rfl ?_
  refine (isnan_c b g).call rfl rfl rfl ?_
  refine bsplit_of (fun h1 => ?_) (fun h1 => ?_)
  · have h1 : a < b := by simpa using h1
    exact ⟨ri (by simp [fst, h1]), rfl, rfl⟩
  · have h1 : ¬ a < b := by simpa using h1
    refine bsplit_of (fun h2 => ?_) (fun h2 => ?_)
    · have h2 : b < a := by simpa using h2
      exact ⟨ri (by simp [fst, h1, h2]), rfl, rfl⟩
    · have h2 : ¬ b < a := by simpa using h2
      exact ⟨ri (by simp [fst, h1, h2]), rfl, rfl⟩

theorem cmpS_c (a b : ByteArray) (g : G) : Tells Tryd.prog 157 [.v (.string a), .v (.string b)] g (.v (.int .i64 (Lib.compareBytes a.data.toList b.data.toList))) := by
  refine meets_of mixedS Tryd.func157 (by kernel_rfl) x157_ok (some []) ?_
  exact ⟨rfl, rfl, rfl⟩
theorem compareS_c (a b : ByteArray) (g : G) : Tells Tryd.prog 152 [.v (.string a), .v (.string b)] g (.v (.int .i64 (Lib.compareBytes a.data.toList b.data.toList))) := by
  refine meets_of mixedS Tryd.func152 (by kernel_rfl) x152_ok (some []) ?_
  refine (cmpS_c a b g).call rfl rfl rfl ?_
  exact ⟨rfl, rfl, rfl⟩

def ints (xs : List Int) : List Value := xs.map (.int .i64)
theorem ints_at {xs : List Int} {k : Nat} (h : k < xs.length) (sp : List Value) : ∃ x, xs[k]? = some x ∧ (ints xs ++ sp)[k]? = some (.int .i64 x) := by
  refine ⟨xs[k], List.getElem?_eq_getElem h, ?_⟩
  rw [List.getElem?_append_left (by simpa [ints] using h), ints, List.getElem?_map, List.getElem?_eq_getElem h]
  rfl

/-- cmp.Or -/
theorem or_c (xs : List Int) (cap : Nat) (hm : xs.length ≤ 9223372036854775807) (g : G) : Meets Tryd.prog 110 [.slc 0 0 xs.length cap] [.vals 3 (ints xs)] g (fun o L' g' => o = .ret (.v (.int .i64 (orI xs))) ∧ L' = [.vals 3 (ints xs)] ∧ g' = g) := by
  refine meets_of mixedS Tryd.func110 (by kernel_rfl) x110_ok (some []) ?_
  change LoopW _ _ _ _ _ _ _ _ _ _
  apply loop_rule [] (α := Nat) (fun k => [(8, .v (.int .i64 k))]) (fun _ => [Chunk.vals 3 (ints xs)]) (fun _ => g) (fun k => k ≤ xs.length ∧ ∀ i y, i < k → xs[i]? = some y → y = 0) (fun k => xs.length - k) 0
  · intro x; kernel_rfl
  · exact ⟨Nat.zero_le _, fun i y hi => by omega⟩
  · exact ⟨rfl, trivial⟩
  · rfl
  · rfl
  intro k hk
  refine bsplit_of (fun hlt => ?_) (fun hlt => ?_)
  · have hlt' : k < xs.length := by simpa using hlt
    obtain ⟨x, hx, hx'⟩ := ints_at hlt' []
    refine ⟨⟨by omega, by omega⟩, ?_⟩
    refine load1_at (x := .int .i64 x) (by simpa using hx') ?_
    refine bsplit_of (fun hne => ?_) (fun hne => ?_)
    · refine ⟨ri ?_, rfl, rfl⟩
      exact (orI_mid k xs x hk.2 hx (by simpa using hne)).symm
    · refine ⟨k + 1, ⟨by omega, fun i y hi hy => ?_⟩, by omega, [0], rfl, ⟨?_, trivial⟩, rfl, rfl, rfl, rfl⟩
      · by_cases hik : i = k
        · subst hik; rw [hx] at hy; cases hy; simpa using hne
        · exact hk.2 i y (by omega) hy
      · exact vi (wrap_id (by omega) (by omega))
  · refine ⟨ri ?_, rfl, rfl⟩
    exact (orI_zero xs fun i y hy => hk.2 i y (by have := (List.getElem?_eq_some_iff.1 hy).1; simp at hlt; omega) hy).symm

/-- switchyardref.first -/
theorem first_c (xs ys : List Int) (sp sq : List Value) (c1 c2 : Nat) (hl : xs.length = ys.length) (hm : xs.length ≤ 9223372036854775807) (g : G) :
    Meets Tryd.prog 115 [.slc 0 0 xs.length c1, .slc 1 0 ys.length c2] [.vals 3 (ints xs ++ sp), .vals 3 (ints ys ++ sq)] g (fun o L' g' => o = .ret (.v (.int .i64 (fst xs ys))) ∧ L' = [.vals 3 (ints xs ++ sp), .vals 3 (ints ys ++ sq)] ∧ g' = g) := by
  refine meets_of mixedS Tryd.func115 (by kernel_rfl) x115_ok (some []) ?_
  change LoopW _ _ _ _ _ _ _ _ _ _
  apply loop_rule [] (α := Nat) (fun k => [(8, .v (.int .i64 k))]) (fun _ => [Chunk.vals 3 (ints xs ++ sp), Chunk.vals 3 (ints ys ++ sq)]) (fun _ => g) (fun k => k ≤ xs.length ∧ ∀ i, i < k → xs[i]? = ys[i]?) (fun k => xs.length - k) 0
  · intro x; kernel_rfl
  · exact ⟨Nat.zero_le _, fun i hi => by omega⟩
  · exact ⟨rfl, trivial⟩
  · rfl
  · rfl
  intro k hk
  refine bsplit_of (fun hlt => ?_) (fun hlt => ?_)
  · have hlt' : k < xs.length := by simpa using hlt
    obtain ⟨x, hx, hx'⟩ := ints_at hlt' sp
    obtain ⟨y, hy, hy'⟩ := ints_at (show k < ys.length by omega) sq
    have ex : (ints xs ++ sp)[0 + (k : Int).toNat * 1]? = some (.int .i64 x) := by simpa using hx'
    have ey : (ints ys ++ sq)[0 + (k : Int).toNat * 1]? = some (.int .i64 y) := by simpa using hy'
    have bx : 0 ≤ (k : Int) ∧ (k : Int) < xs.length := ⟨by omega, by omega⟩
    have bY : 0 ≤ (k : Int) ∧ (k : Int) < ys.length := ⟨by omega, by omega⟩
    refine ⟨bx, load1_at ex ?_⟩
    refine ⟨bY, load1_at ey ?_⟩
    refine bsplit_of (fun hne => ?_) (fun hne => ?_)
    · have hne' : x ≠ y := by simpa using hne
      refine ⟨bx, load1_at ex ?_⟩
      refine ⟨bY, load1_at ey ?_⟩
      refine bsplit_of (fun hlt => ?_) (fun hlt => ?_)
      · refine ⟨ri ?_, rfl, rfl⟩
        rw [fst_mid k xs ys x y hk.2 hx hy hne', if_pos (by simpa using hlt)]
      · refine ⟨ri ?_, rfl, rfl⟩
        rw [fst_mid k xs ys x y hk.2 hx hy hne', if_neg (by simpa using hlt)]
    · have he : x = y := by simpa using hne
      refine ⟨k + 1, ⟨by omega, fun i hi => ?_⟩, by omega, [0, 1], rfl, ⟨?_, trivial⟩, rfl, rfl, rfl, rfl⟩
      · by_cases hik : i = k
        · subst hik; rw [hx, hy, he]
        · exact hk.2 i (by omega)
      · exact vi (wrap_id (by omega) (by omega))
  · refine ⟨ri ?_, rfl, rfl⟩
    exact (fst_same xs ys fun i hi => hk.2 i (by simp at hlt; omega)).symm

theorem num_step (b : BridgeV) (j : Nat) (m : Int) (hj : b.row[2 + j]? = some m) (hm : iok .u8 m) (spare : List Value) : ints (b.row.take (2 + j)) ++ ([.int .i64 (IntKind.i64.wrap m)] ++ spare) = ints (b.row.take (2 + (j + 1))) ++ spare := by
  have hw : IntKind.i64.wrap m = m := wrap_id (by unfold iok at hm; simp only at hm; omega) (by unfold iok at hm; simp only at hm; omega)
  rw [hw, show 2 + (j + 1) = (2 + j) + 1 from rfl, List.take_add_one, hj]
  simp [ints]

/-- switchyardref.numbers -/
theorem numbers_c (b : BridgeV) (g : G) (hb : b.ok g) : Meets Tryd.prog 116 [.agg (b.cells.map .v)] [] g (fun o L' g' => ∃ cap sp, o = .ret (.slc 0 0 8 cap) ∧ L' = [.vals 3 (ints b.row ++ sp)] ∧ (8 + sp.length = cap ∧ cap ≤ 9223372036854775807) ∧ g' = g) := by
  refine meets_of mixedS Tryd.func116 (by kernel_rfl) x116_ok (some [1]) ?_
  change LoopW _ _ _ _ _ _ _ _ _ _
  apply loop_rule [1] (α := Nat × Nat × List Value) (fun x => [(13, .v (.int .i64 x.1)), (3, .slc 1 0 (2 + x.1) x.2.1)]) (fun x => [Chunk.cells 39 (b.cells.map .v), match x.1 with | 0 => Chunk.cells 3 [.v (.int .i64 b.prio), .v (.int .i64 b.ext)] | k + 1 => Chunk.vals 3 (ints (b.row.take (2 + (k + 1))) ++ x.2.2)]) (fun _ => g)
    (fun x => x.1 ≤ 6 ∧ 2 + x.1 + x.2.2.length = x.2.1 ∧ x.2.1 ≤ 9223372036854775807 ∧ (x.1 = 0 → x.2.2 = [])) (fun x => 6 - x.1) (0, 2, [])
  · intro x
    obtain ⟨k, c, sp⟩ := x
    cases k <;> kernel_rfl
  · exact ⟨by simp, rfl, by simp, fun _ => rfl⟩
  · exact ⟨rfl, rfl, trivial⟩
  · rfl
  · rfl
  rintro ⟨k, c, sp⟩ ⟨h1, h2, h3, h4⟩
  simp only at h1 h2 h3 h4
  match k, h1 with
  | 0, _ =>
    obtain rfl := h4 rfl
    refine ⟨⟨by simp, by simp⟩, ?_⟩
    refine ⟨by simp, ?_⟩
    refine ⟨fun u hu => by simp at hu; subst hu; rfl, ?_⟩
    refine ⟨ints (b.row.take 2), [], rfl, rfl, ⟨?_, ?_, ?_⟩, by simp, fun cap spare k1 k2 k3 => ?_⟩
    · simp at h2 ⊢; omega
    · simp at h2 ⊢; omega
    · simp at h2 h3 ⊢; omega
    refine ⟨(1, cap, spare), ⟨by simp, ?_, k2, nofun⟩, by simp, [0, 3], rfl, ⟨vi rfl, rfl, trivial⟩, ?_, rfl, rfl, rfl⟩
    · simp at k1 k3 ⊢; omega
    · exact congrArg (fun l => [Chunk.cells 39 (b.cells.map .v), Chunk.vals 3 l]) (num_step b 0 b.addr.e0 rfl hb.2.2.1 spare)
  | 1, _ =>
    refine ⟨⟨by simp, by simp⟩, ?_⟩
    refine ⟨by simp, ?_⟩
    refine ⟨fun u hu => by simp at hu; subst hu; rfl, ?_⟩
    refine ⟨ints (b.row.take 3), sp, rfl, rfl, ⟨?_, ?_, ?_⟩, by simp, fun cap spare k1 k2 k3 => ?_⟩
    · simp [ints, BridgeV.row, AddrV.row] at h2 ⊢; omega
    · simp at h2 ⊢; omega
    · simp at h2 h3 ⊢; omega
    refine ⟨(2, cap, spare), ⟨by simp, ?_, k2, nofun⟩, by simp, [0, 3], rfl, ⟨vi rfl, rfl, trivial⟩, ?_, rfl, rfl, rfl⟩
    · simp at k1 k3 ⊢; omega
    · exact congrArg (fun l => [Chunk.cells 39 (b.cells.map .v), Chunk.vals 3 l]) (num_step b 1 b.addr.e1 rfl hb.2.2.2.1 spare)
  | 2, _ =>
    refine ⟨⟨by simp, by simp⟩, ?_⟩
    refine ⟨by simp, ?_⟩
    refine ⟨fun u hu => by simp at hu; subst hu; rfl, ?_⟩
    refine ⟨ints (b.row.take 4), sp, rfl, rfl, ⟨?_, ?_, ?_⟩, by simp, fun cap spare k1 k2 k3 => ?_⟩
    · simp [ints, BridgeV.row, AddrV.row] at h2 ⊢; omega
    · simp at h2 ⊢; omega
    · simp at h2 h3 ⊢; omega
    refine ⟨(3, cap, spare), ⟨by simp, ?_, k2, nofun⟩, by simp, [0, 3], rfl, ⟨vi rfl, rfl, trivial⟩, ?_, rfl, rfl, rfl⟩
    · simp at k1 k3 ⊢; omega
    · exact congrArg (fun l => [Chunk.cells 39 (b.cells.map .v), Chunk.vals 3 l]) (num_step b 2 b.addr.e2 rfl hb.2.2.2.2.1 spare)
  | 3, _ =>
    refine ⟨⟨by simp, by simp⟩, ?_⟩
    refine ⟨by simp, ?_⟩
    refine ⟨fun u hu => by simp at hu; subst hu; rfl, ?_⟩
    refine ⟨ints (b.row.take 5), sp, rfl, rfl, ⟨?_, ?_, ?_⟩, by simp, fun cap spare k1 k2 k3 => ?_⟩
    · simp [ints, BridgeV.row, AddrV.row] at h2 ⊢; omega
    · simp at h2 ⊢; omega
    · simp at h2 h3 ⊢; omega
    refine ⟨(4, cap, spare), ⟨by simp, ?_, k2, nofun⟩, by simp, [0, 3], rfl, ⟨vi rfl, rfl, trivial⟩, ?_, rfl, rfl, rfl⟩
    · simp at k1 k3 ⊢; omega
    · exact congrArg (fun l => [Chunk.cells 39 (b.cells.map .v), Chunk.vals 3 l]) (num_step b 3 b.addr.e3 rfl hb.2.2.2.2.2.1 spare)
  | 4, _ =>
    refine ⟨⟨by simp, by simp⟩, ?_⟩
    refine ⟨by simp, ?_⟩
    refine ⟨fun u hu => by simp at hu; subst hu; rfl, ?_⟩
    refine ⟨ints (b.row.take 6), sp, rfl, rfl, ⟨?_, ?_, ?_⟩, by simp, fun cap spare k1 k2 k3 => ?_⟩
    · simp [ints, BridgeV.row, AddrV.row] at h2 ⊢; omega
    · simp at h2 ⊢; omega
    · simp at h2 h3 ⊢; omega
    refine ⟨(5, cap, spare), ⟨by simp, ?_, k2, nofun⟩, by simp, [0, 3], rfl, ⟨vi rfl, rfl, trivial⟩, ?_, rfl, rfl, rfl⟩
    · simp at k1 k3 ⊢; omega
    · exact congrArg (fun l => [Chunk.cells 39 (b.cells.map .v), Chunk.vals 3 l]) (num_step b 4 b.addr.e4 rfl hb.2.2.2.2.2.2.1 spare)
  | 5, _ =>
    refine ⟨⟨by simp, by simp⟩, ?_⟩
    refine ⟨by simp, ?_⟩
    refine ⟨fun u hu => by simp at hu; subst hu; rfl, ?_⟩
    refine ⟨ints (b.row.take 7), sp, rfl, rfl, ⟨?_, ?_, ?_⟩, by simp, fun cap spare k1 k2 k3 => ?_⟩
    · simp [ints, BridgeV.row, AddrV.row] at h2 ⊢; omega
    · simp at h2 ⊢; omega
    · simp at h2 h3 ⊢; omega
    refine ⟨(6, cap, spare), ⟨by simp, ?_, k2, nofun⟩, by simp, [0, 3], rfl, ⟨vi rfl, rfl, trivial⟩, ?_, rfl, rfl, rfl⟩
    · simp at k1 k3 ⊢; omega
    · exact congrArg (fun l => [Chunk.cells 39 (b.cells.map .v), Chunk.vals 3 l]) (num_step b 5 b.addr.e5 rfl hb.2.2.2.2.2.2.2 spare)
  | 6, _ => exact ⟨c, sp, rfl, rfl, ⟨h2, h3⟩, rfl⟩

theorem ints_one (xs : List Int) : ∀ u ∈ ints xs, u.oneCell' = true := by
  intro u hu
  obtain ⟨n, _, rfl⟩ := List.mem_map.1 hu
  rfl

/-- prio.order -/
theorem order_c (a b : BridgeV) (g : G) (ha : a.ok g) (hb : b.ok g) : Tells Tryd.prog 111 [.agg (a.cells.map .v), .agg (b.cells.map .v)] g (.v (.int .i64 (fst a.row b.row))) := by
  refine meets_of mixedS Tryd.func111 (by kernel_rfl) x111_ok (some []) ?_
  refine (cmp_c a.prio b.prio g).call rfl rfl rfl ?_
  refine (cmp_c a.ext b.ext g).call rfl rfl rfl ?_
  refine (compareS_c (bytesOfInts a.addr.row) (bytesOfInts b.addr.row) g).call rfl rfl rfl ?_
  refine (Meets.pl (L := [.cells 3 [.v (.int .i64 (fst [a.prio] [b.prio])), .v (.int .i64 (fst [a.ext] [b.ext])), .v (.int .i64 (Lib.compareBytes (bytesOfInts a.addr.row).data.toList (bytesOfInts b.addr.row).data.toList))]])
    (or_c [fst [a.prio] [b.prio], fst [a.ext] [b.ext], Lib.compareBytes (bytesOfInts a.addr.row).data.toList (bytesOfInts b.addr.row).data.toList] 3 (by simp) g)).callS [2] 3 rfl rfl rfl rfl ?_
  rintro o L1 g' ⟨rfl, rfl, rfl⟩ _
  have h1 : ∀ x ∈ a.addr.row, iok .u8 x := by
    have := ha.2.2
    simp only [AddrV.row, List.mem_cons, List.not_mem_nil, or_false, forall_eq_or_imp, forall_eq]
    exact this
  have h2 : ∀ x ∈ b.addr.row, iok .u8 x := by
    have := hb.2.2
    simp only [AddrV.row, List.mem_cons, List.not_mem_nil, or_false, forall_eq_or_imp, forall_eq]
    exact this
  exact ⟨ri (or_three (bytes_fst _ _ rfl h1 h2)), rfl, rfl⟩

/-- prio.ports -/
theorem ports_c (a b : PortV) (g : G) : Tells Tryd.prog 113 [.agg (a.cells.map .v), .agg (b.cells.map .v)] g (.v (.int .i64 (fst a.row b.row))) := by
  refine meets_of mixedS Tryd.func113 (by kernel_rfl) x113_ok (some []) ?_
  refine (cmp_c a.prio b.prio g).call rfl rfl rfl ?_
  refine (cmp_c a.no b.no g).call rfl rfl rfl ?_
  refine (Meets.pl (L := [.cells 3 [.v (.int .i64 (fst [a.prio] [b.prio])), .v (.int .i64 (fst [a.no] [b.no]))]])
    (or_c [fst [a.prio] [b.prio], fst [a.no] [b.no]] 2 (by simp) g)).callS [2] 3 rfl rfl rfl rfl ?_
  rintro o L1 g' ⟨rfl, rfl, rfl⟩ _
  exact ⟨ri or_two, rfl, rfl⟩

/-- prio.Better -/
theorem better_c (a b : VectorV) (g : G) (ha : a.ok g) (hb : b.ok g) : Tells Tryd.prog 56 [.agg (a.cells.map .v), .agg (b.cells.map .v)] g (.v (.bool (vless a b))) := by
  refine meets_of mixedS Tryd.func56 (by kernel_rfl) x56_ok (some []) ?_
  refine (order_c a.root b.root g ha.1 hb.1).call rfl rfl rfl ?_
  refine (cmp_c a.cost b.cost g).call rfl rfl rfl ?_
  refine (order_c a.sender b.sender g ha.2.2.1 hb.2.2.1).call rfl rfl rfl ?_
  refine (ports_c a.port b.port g).call rfl rfl rfl ?_
  refine (ports_c a.at_ b.at_ g).call rfl rfl rfl ?_
  refine (Meets.pl (L := [.cells 3 [.v (.int .i64 (fst a.root.row b.root.row)), .v (.int .i64 (fst [a.cost] [b.cost])), .v (.int .i64 (fst a.sender.row b.sender.row)), .v (.int .i64 (fst a.port.row b.port.row)), .v (.int .i64 (fst a.at_.row b.at_.row))]])
    (or_c [fst a.root.row b.root.row, fst [a.cost] [b.cost], fst a.sender.row b.sender.row, fst a.port.row b.port.row, fst a.at_.row b.at_.row] 5 (by simp) g)).callS [2] 3 rfl rfl rfl rfl ?_
  rintro o L1 g' ⟨rfl, rfl, rfl⟩ _
  exact ⟨rb (by rw [or_five]; rfl), rfl, rfl⟩

/-- switchyardref.BridgeLess -/
theorem blessR_c (a b : BridgeV) (g : G) (ha : a.ok g) (hb : b.ok g) : Tells Tryd.prog 64 [.agg (a.cells.map .v), .agg (b.cells.map .v)] g (.v (.bool (bless a b))) := by
  refine meets_of mixedS Tryd.func64 (by kernel_rfl) x64_ok (some []) ?_
  refine (numbers_c a g ha).call0 rfl rfl 2 rfl ?_
  rintro o L1 g' ⟨c1, s1, rfl, rfl, k1, rfl⟩
  refine (numbers_c b g' hb).call0 rfl rfl 3 rfl ?_
  rintro o L1 g'' ⟨c2, s2, rfl, rfl, k2, rfl⟩
  refine (first_c a.row b.row s1 s2 c1 c2 rfl (by simp [BridgeV.row, AddrV.row]) g'').callS [2, 3] 4 rfl rfl rfl rfl ?_
  rintro o L1 g3 ⟨rfl, rfl, rfl⟩ _
  exact ⟨rfl, rfl, rfl⟩
theorem ints_app (xs ys : List Int) : ints (xs ++ ys) = ints xs ++ ints ys := List.map_append

/-- switchyardref.line -/
theorem line_c (v : VectorV) (g : G) (hv : v.ok g) : Meets Tryd.prog 117 [.agg (v.cells.map .v)] [] g (fun o L' g' => ∃ cap sp, o = .ret (.slc 0 0 21 cap) ∧ L' = [.vals 3 (ints v.row ++ sp)] ∧ (21 + sp.length = cap ∧ cap ≤ 9223372036854775807) ∧ g' = g) := by
  refine meets_of mixedS Tryd.func117 (by kernel_rfl) x117_ok (some [7]) ?_
  refine (numbers_c v.root g hv.1).call0 rfl rfl 2 rfl ?_
  rintro o L1 g' ⟨c1, s1, rfl, rfl, ⟨k1, k1'⟩, rfl⟩
  refine ⟨by simp, ?_⟩
  refine ⟨ints_one [v.cost], ?_⟩
  refine ⟨ints v.root.row, s1, rfl, rfl, ⟨?_, ?_, ?_⟩, by simp, fun c2 s2 k2 k2' k2'' => ?_⟩
  · simp [ints, BridgeV.row, AddrV.row]; omega
  · omega
  · omega
  refine (numbers_c v.sender g' hv.2.2.1).call0 rfl rfl 4 rfl ?_
  rintro o L1 g'' ⟨c3, s3, rfl, rfl, ⟨k3, k3'⟩, rfl⟩
  refine ⟨by simp [ints, BridgeV.row, AddrV.row], ?_⟩
  refine ⟨ints_one v.sender.row, ?_⟩
  refine ⟨ints (v.root.row ++ [v.cost]), s2, rfl, rfl, ⟨?_, ?_, ?_⟩, by simp, fun c4 s4 k4 k4' k4'' => ?_⟩
  · simp [ints, BridgeV.row, AddrV.row] at k2 k2'' ⊢; omega
  · exact k2
  · exact k2'
  refine ⟨by simp, ?_⟩
  refine ⟨ints_one [v.port.prio, v.port.no, v.at_.prio, v.at_.no], ?_⟩
  refine ⟨ints (v.root.row ++ [v.cost] ++ v.sender.row), s4, rfl, rfl, ⟨?_, ?_, ?_⟩, by simp, fun c5 s5 k5 k5' k5'' => ?_⟩
  · simp [ints, BridgeV.row, AddrV.row] at k4 k4'' ⊢; omega
  · exact k4
  · exact k4'
  refine ⟨c5, s5, rfl, rfl, ⟨?_, k5'⟩, rfl⟩
  simp at k5 k5'' ⊢; omega

/-- switchyardref.Better -/
theorem betterR_c (a b : VectorV) (g : G) (ha : a.ok g) (hb : b.ok g) : Tells Tryd.prog 65 [.agg (a.cells.map .v), .agg (b.cells.map .v)] g (.v (.bool (vless a b))) := by
  refine meets_of mixedS Tryd.func65 (by kernel_rfl) x65_ok (some []) ?_
  refine (line_c a g ha).call0 rfl rfl 2 rfl ?_
  rintro o L1 g' ⟨c1, s1, rfl, rfl, k1, rfl⟩
  refine (line_c b g' hb).call0 rfl rfl 3 rfl ?_
  rintro o L1 g'' ⟨c2, s2, rfl, rfl, k2, rfl⟩
  refine (first_c a.row b.row s1 s2 c1 c2 rfl (by simp [VectorV.row_len]) g'').callS [2, 3] 4 rfl rfl rfl rfl ?_
  rintro o L1 g3 ⟨rfl, rfl, rfl⟩ _
  exact ⟨rfl, rfl, rfl⟩
end Go.Proofs.YtedfohdgigbhiaaDoor
