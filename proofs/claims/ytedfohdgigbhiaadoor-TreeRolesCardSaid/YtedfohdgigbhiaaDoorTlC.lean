/- tree.Tells, Hears, Own, Role, their references and the law TreeTells: what each returns, for every node, vector and port. Conditions: none. -/
import Derived.Test.YtedfohdgigbhiaaDoorXtel
import Derived.Test.YtedfohdgigbhiaaDoorBtC
namespace Go.Proofs.YtedfohdgigbhiaaDoor
open Go.Sx
set_option maxRecDepth 100000
set_option maxHeartbeats 8000000
attribute [local irreducible] Meets


def NodeV.leg (n : NodeV) (i : Int) : Option MemberV := if 0 ≤ i then n.ports.l[i.toNat]? else none
def NodeV.tells (n : NodeV) (v : VectorV) (i : Int) : VectorV := match n.leg i with
  | some l => ⟨v.root, v.cost, n.bridge, l.port, ⟨0, 0⟩⟩
  | none => .zero
def NodeV.hears (n : NodeV) (v : VectorV) (i : Int) : VectorV := match n.leg i with
  | some l => ⟨v.root, IntKind.i64.wrap (v.cost + l.cost), v.sender, v.port, l.port⟩
  | none => .zero

theorem NodeV.leg_some {n : NodeV} {i : Int} (h : 0 ≤ i ∧ i < n.ports.l.length) : ∃ l, n.leg i = some l ∧ n.ports.l[i.toNat]? = some l := by
  have : i.toNat < n.ports.l.length := by omega
  exact ⟨n.ports.l[i.toNat], by rw [NodeV.leg, if_pos h.1, List.getElem?_eq_getElem this], List.getElem?_eq_getElem this⟩
theorem NodeV.leg_none {n : NodeV} {i : Int} (h : ¬ (0 ≤ i ∧ i < n.ports.l.length)) : n.leg i = none := by
  rw [NodeV.leg]
  split
  · rw [List.getElem?_eq_none_iff]; omega
  · rfl
theorem NodeV.at {g : G} {n : NodeV} (hn : n.ok g) {i : Int} {l : MemberV} (h : 0 ≤ i ∧ i < n.ports.l.length) (hl : n.ports.l[i.toNat]? = some l) : ∃ ad, n.ports.a = some ad ∧ g.at (ad.add (i.toNat * 4)) l.cells := by
  obtain ⟨ad, h1, h2⟩ := hn.2.1.elem (i := i.toNat) (by omega)
  rw [flatMap_at _ 4 (fun _ => rfl) _ _ l hl] at h2
  exact ⟨ad, h1, h2⟩

theorem there_c (n : NodeV) (i : Int) (g : G) : Tells Tryd.prog 109 [.agg (n.cells.map .v), .v (.int .i64 i)] g (.v (.bool (decide (0 ≤ i ∧ i < n.ports.l.length)))) := by
  refine meets_of mixedS Tryd.func109 (by kernel_rfl) x109_ok (some []) ?_
  refine bsplit_of (fun h1 => ?_) (fun h1 => ?_)
  · refine ⟨congrArg Out.ret (vb ?_), rfl, rfl⟩
    simp at *
    omega
  · refine ⟨congrArg Out.ret (vb ?_), rfl, rfl⟩
    simp at *
    omega

theorem tells_c (n : NodeV) (v : VectorV) (i : Int) (g : G) (hn : n.ok g) : Tells Tryd.prog 68 [.agg (n.cells.map .v), .agg (v.cells.map .v), .v (.int .i64 i)] g (.agg ((n.tells v i).cells.map .v)) := by
  refine meets_of mixedS Tryd.func68 (by kernel_rfl) x68_ok (some []) ?_
  refine (there_c n i g).call rfl rfl rfl ?_
  refine bsplit_of (fun h1 => ?_) (fun h1 => ?_)
  · rw [NodeV.tells, NodeV.leg_none (by simp at h1; omega)]
    exact ⟨rfl, rfl, rfl⟩
  · have h1' : 0 ≤ i ∧ i < n.ports.l.length := by simpa using h1
    obtain ⟨l, hl, hl'⟩ := NodeV.leg_some h1'
    obtain ⟨ad, ha, hat⟩ := NodeV.at hn h1' hl'
    rw [NodeV.tells, hl]
    refine ⟨h1', ad, ha, ?_⟩
    refine ⟨l.port.cells, rfl, hat.sub 0 2 (Nat.le_of_ble_eq_true rfl), ?_⟩
    exact ⟨rfl, rfl, rfl⟩

theorem wrap_len {n : NodeV} {g : G} (hn : n.ok g) : IntKind.i64.wrap ((n.ports.l.length : Int) - 1) = n.ports.l.length - 1 := wrap_id (by omega) (by have := hn.2.len; omega)

theorem tellsR_c (n : NodeV) (v : VectorV) (i : Int) (g : G) (hn : n.ok g) : Tells Tryd.prog 70 [.agg (n.cells.map .v), .agg (v.cells.map .v), .v (.int .i64 i)] g (.agg ((n.tells v i).cells.map .v)) := by
  refine meets_of mixedS Tryd.func70 (by kernel_rfl) x70_ok (some []) ?_
  refine (within_c i 0 (IntKind.i64.wrap ((n.ports.l.length : Int) - 1)) g).call rfl rfl rfl ?_
  refine bsplit_of (fun h1 => ?_) (fun h1 => ?_)
  · rw [wrap_len hn] at h1
    rw [NodeV.tells, NodeV.leg_none (by simp at h1; omega)]
    exact ⟨rfl, rfl, rfl⟩
  · have h1' : 0 ≤ i ∧ i < n.ports.l.length := by rw [wrap_len hn] at h1; simp at h1; omega
    obtain ⟨l, hl, hl'⟩ := NodeV.leg_some h1'
    obtain ⟨ad, ha, hat⟩ := NodeV.at hn h1' hl'
    rw [NodeV.tells, hl]
    refine ⟨h1', ad, ha, ?_⟩
    refine ⟨l.port.cells, rfl, hat.sub 0 2 (Nat.le_of_ble_eq_true rfl), ?_⟩
    exact ⟨rfl, rfl, rfl⟩

theorem hears_c (n : NodeV) (v : VectorV) (i : Int) (g : G) (hn : n.ok g) : Tells Tryd.prog 55 [.agg (n.cells.map .v), .agg (v.cells.map .v), .v (.int .i64 i)] g (.agg ((n.hears v i).cells.map .v)) := by
  refine meets_of mixedS Tryd.func55 (by kernel_rfl) x55_ok (some []) ?_
  refine (there_c n i g).call rfl rfl rfl ?_
  refine bsplit_of (fun h1 => ?_) (fun h1 => ?_)
  · rw [NodeV.hears, NodeV.leg_none (by simp at h1; omega)]
    exact ⟨rfl, rfl, rfl⟩
  · have h1' : 0 ≤ i ∧ i < n.ports.l.length := by simpa using h1
    obtain ⟨l, hl, hl'⟩ := NodeV.leg_some h1'
    obtain ⟨ad, ha, hat⟩ := NodeV.at hn h1' hl'
    rw [NodeV.hears, hl]
    refine ⟨h1', ad, ha, ?_⟩
    refine ⟨[.int .i64 l.cost], rfl, hat.sub 2 1 (Nat.le_of_ble_eq_true rfl), ?_⟩
    refine ⟨h1', ad, ha, ?_⟩
    refine ⟨l.port.cells, rfl, hat.sub 0 2 (Nat.le_of_ble_eq_true rfl), ?_⟩
    exact ⟨rfl, rfl, rfl⟩

theorem own_c (n : NodeV) (g : G) : Tells Tryd.prog 52 [.agg (n.cells.map .v)] g (.agg ((VectorV.mk n.bridge 0 n.bridge ⟨0, 0⟩ ⟨0, 0⟩).cells.map .v)) := by
  refine meets_of mixedS Tryd.func52 (by kernel_rfl) x52_ok (some []) ?_
  exact ⟨rfl, rfl, rfl⟩
theorem hearsR_c (n : NodeV) (v : VectorV) (i : Int) (g : G) (hn : n.ok g) : Tells Tryd.prog 75 [.agg (n.cells.map .v), .agg (v.cells.map .v), .v (.int .i64 i)] g (.agg ((n.hears v i).cells.map .v)) := by
  refine meets_of mixedS Tryd.func75 (by kernel_rfl) x75_ok (some []) ?_
  refine (within_c i 0 (IntKind.i64.wrap ((n.ports.l.length : Int) - 1)) g).call rfl rfl rfl ?_
  refine bsplit_of (fun h1 => ?_) (fun h1 => ?_)
  · rw [wrap_len hn] at h1
    rw [NodeV.hears, NodeV.leg_none (by simp at h1; omega)]
    exact ⟨rfl, rfl, rfl⟩
  · have h1' : 0 ≤ i ∧ i < n.ports.l.length := by rw [wrap_len hn] at h1; simp at h1; omega
    obtain ⟨l, hl, hl'⟩ := NodeV.leg_some h1'
    obtain ⟨ad, ha, hat⟩ := NodeV.at hn h1' hl'
    rw [NodeV.hears, hl]
    refine ⟨h1', ad, ha, ?_⟩
    refine ⟨[.int .i64 l.cost], rfl, hat.sub 2 1 (Nat.le_of_ble_eq_true rfl), ?_⟩
    refine ⟨h1', ad, ha, ?_⟩
    refine ⟨l.port.cells, rfl, hat.sub 0 2 (Nat.le_of_ble_eq_true rfl), ?_⟩
    exact ⟨rfl, rfl, rfl⟩


def NodeV.role (n : NodeV) (v : VectorV) (i : Int) (best : Bool) : Int := match n.leg i with
  | some l => if best = true then 1 else if (!(v.root.eq n.bridge)) = true ∧ v.at_.eq l.port = true then 2 else 3
  | none => 0

theorem role_c (n : NodeV) (v : VectorV) (i : Int) (best : Bool) (g : G) (hn : n.ok g) : Tells Tryd.prog 69 [.agg (n.cells.map .v), .agg (v.cells.map .v), .v (.int .i64 i), .v (.bool best)] g (.v (.int .i64 (n.role v i best))) := by
  refine meets_of mixedS Tryd.func69 (by kernel_rfl) x69_ok (some []) ?_
  refine (there_c n i g).call rfl rfl rfl ?_
  refine bsplit_of (fun h1 => ?_) (fun h1 => ?_)
  · refine ⟨ri ?_, rfl, rfl⟩
    rw [NodeV.role, NodeV.leg_none (by simp at h1; omega)]
  · have h1' : 0 ≤ i ∧ i < n.ports.l.length := by simpa using h1
    obtain ⟨l, hl, hl'⟩ := NodeV.leg_some h1'
    obtain ⟨ad, ha, hat⟩ := NodeV.at hn h1' hl'
    have hr : n.role v i best = if best = true then 1 else if (!(v.root.eq n.bridge)) = true ∧ v.at_.eq l.port = true then 2 else 3 := by rw [NodeV.role, hl]
    refine bsplit_of (fun h2 => ?_) (fun h2 => ?_)
    · refine ⟨ri ?_, rfl, rfl⟩
      rw [hr, if_pos h2]
    · rw [if_neg (by simp [h2])] at hr
      refine bsplit_of (fun (h3 : (true ^^ v.root.eq n.bridge) = true) => ?_) (fun (h3 : (true ^^ v.root.eq n.bridge) = false) => ?_)
      · refine ⟨h1', ad, ha, ?_⟩
        refine ⟨l.port.cells, rfl, hat.sub 0 2 (Nat.le_of_ble_eq_true rfl), ?_⟩
        refine bsplit_of (fun (h4 : (false ^^ v.at_.eq l.port) = true) => ?_) (fun (h4 : (false ^^ v.at_.eq l.port) = false) => ?_)
        · refine ⟨ri ?_, rfl, rfl⟩
          rw [hr, if_pos (by simp at h3 h4; simp [h3, h4])]
        · refine ⟨ri ?_, rfl, rfl⟩
          rw [hr, if_neg (by simp at h4; simp [h4])]
      · refine ⟨ri ?_, rfl, rfl⟩
        rw [hr, if_neg (by simp at h3; simp [h3])]

theorem roleR_c (n : NodeV) (v : VectorV) (i : Int) (best : Bool) (g : G) (hn : n.ok g) : Tells Tryd.prog 71 [.agg (n.cells.map .v), .agg (v.cells.map .v), .v (.int .i64 i), .v (.bool best)] g (.v (.int .i64 (n.role v i best))) := by
  refine meets_of mixedS Tryd.func71 (by kernel_rfl) x71_ok (some []) ?_
  refine (within_c i 0 (IntKind.i64.wrap ((n.ports.l.length : Int) - 1)) g).call rfl rfl rfl ?_
  refine bsplit_of (fun h1 => ?_) (fun h1 => ?_)
  · rw [wrap_len hn] at h1
    refine ⟨ri ?_, rfl, rfl⟩
    rw [NodeV.role, NodeV.leg_none (by simp at h1; omega)]
  · have h1' : 0 ≤ i ∧ i < n.ports.l.length := by rw [wrap_len hn] at h1; simp at h1; omega
    obtain ⟨l, hl, hl'⟩ := NodeV.leg_some h1'
    obtain ⟨ad, ha, hat⟩ := NodeV.at hn h1' hl'
    have hr : n.role v i best = if best = true then 1 else if (!(v.root.eq n.bridge)) = true ∧ v.at_.eq l.port = true then 2 else 3 := by rw [NodeV.role, hl]
    refine bsplit_of (fun h2 => ?_) (fun h2 => ?_)
    · refine ⟨ri ?_, rfl, rfl⟩
      rw [hr, if_pos h2]
    · rw [if_neg (by simp [h2])] at hr
      refine bsplit_of (fun (h3 : (true ^^ v.root.eq n.bridge) = true) => ?_) (fun (h3 : (true ^^ v.root.eq n.bridge) = false) => ?_)
      · refine ⟨h1', ad, ha, ?_⟩
        refine ⟨l.port.cells, rfl, hat.sub 0 2 (Nat.le_of_ble_eq_true rfl), ?_⟩
        refine bsplit_of (fun (h4 : (false ^^ v.at_.eq l.port) = true) => ?_) (fun (h4 : (false ^^ v.at_.eq l.port) = false) => ?_)
        · refine ⟨ri ?_, rfl, rfl⟩
          rw [hr, if_pos (by simp at h3 h4; simp [h3, h4])]
        · refine ⟨ri ?_, rfl, rfl⟩
          rw [hr, if_neg (by simp at h4; simp [h4])]
      · refine ⟨ri ?_, rfl, rfl⟩
        rw [hr, if_neg (by simp at h3; simp [h3])]

end Go.Proofs.YtedfohdgigbhiaaDoor
