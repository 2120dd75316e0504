/- tree.Roles's closure, slices.ContainsFunc of vectors; the roles, plain. Conditions: the slices lie where they say. -/
import Derived.Test.YtedfohdgigbhiaaDoorXrole
import Derived.Test.YtedfohdgigbhiaaDoorSvG
namespace Go.Proofs.YtedfohdgigbhiaaDoor
open Go.Sx Go.Lib
set_option maxRecDepth 100000
set_option maxHeartbeats 8000000
attribute [local irreducible] Meets
attribute [local instance] Classical.propDecidable

def envC (n : NodeV) (h : SliceV VectorV) (i k : Nat) : List Chunk := [.cells 148 (n.cells.map .v), .cells 24 [.v (.slice h.a h.l.length h.c)], .cells 3 [.v (.int .i64 i)], .cells 3 [.v (.int .i64 k)]]
theorem beat_c (n : NodeV) (h : SliceV VectorV) (i k : Nat) (w v : VectorV) (g : G) (hn : n.ok g) (hv : VecsOk g h) (hw : h.l[i]? = some w) (hvok : v.ok g) : Meets Tryd.prog 67 [.agg (v.cells.map .v), .ptr 0 0, .ptr 1 0, .ptr 2 0, .ptr 3 0] (envC n h i k) g (fun o L' g' => o = .ret (.v (.bool (decide (vless v (n.tells w k) = true)))) ∧ L' = envC n h i k ∧ g' = g) := by
  refine meets_of mixedS Tryd.func67 (by kernel_rfl) x67_ok (some []) ?_
  have hil : i < h.l.length := (List.getElem?_eq_some_iff.1 hw).1
  obtain ⟨aw, w', haw, hw', hatw, hwok⟩ := hv.elem (fun _ => rfl) hil
  rw [hw] at hw'; cases hw'
  refine ⟨⟨by omega, by omega⟩, aw, haw, ?_⟩
  refine ⟨w.cells, rfl, hatw, ?_⟩
  have htv := tells_c n w (k : Int) g hn
  have htok := tells_ok hn hwok (k : Int)
  obtain ⟨tv, htve⟩ : ∃ tv, n.tells w (k : Int) = tv := ⟨_, rfl⟩
  rw [htve] at htv htok ⊢
  refine htv.call rfl rfl rfl ?_
  refine (better_c v tv g hvok htok).call rfl rfl rfl ?_
  exact ⟨rb (by simp), rfl, rfl⟩

theorem idxV_c (n : NodeV) (h : SliceV VectorV) (i k : Nat) (w : VectorV) (s : SliceV VectorV) (g : G) (hn : n.ok g) (hv : VecsOk g h) (hw : h.l[i]? = some w) (hs : VecsOk g s) : Meets Tryd.prog 118 [.v (.slice s.a s.l.length s.c), .fn 67 [] [.ptr 0 0, .ptr 1 0, .ptr 2 0, .ptr 3 0]] (envC n h i k) g (fun o L' g' => o = .ret (.v (.int .i64 (firstI (fun v => vless v (n.tells w k) = true) s.l))) ∧ L' = envC n h i k ∧ g' = g) := by
  refine meets_of mixedS Tryd.func118 (by kernel_rfl) x118_ok (some []) ?_
  have hlen := hs.len
  change LoopW _ _ _ _ _ _ _ _ _ _
  apply loop_rule [] (α := Nat) (fun k => [(8, .v (.int .i64 k))]) (fun _ => envC n h i k) (fun _ => g) (fun x => x ≤ s.l.length ∧ ∀ (j : Nat) y, j < x → s.l[j]? = some y → ¬ vless y (n.tells w k) = true) (fun x => s.l.length - x) 0
  · intro x; kernel_rfl
  · exact ⟨Nat.zero_le _, fun i t hi => by omega⟩
  · exact ⟨rfl, trivial⟩
  · rfl
  · rfl
  intro x hx
  refine bsplit_of (fun hlt => ?_) (fun hlt => ?_)
  · have hlt' : x < s.l.length := by have := of_decide_eq_true hlt; omega
    obtain ⟨ad, y, ha, hy, hat, hyok⟩ := hs.elem (fun _ => rfl) hlt'
    refine ⟨⟨by omega, by omega⟩, ad, ha, ?_⟩
    refine ⟨y.cells, rfl, hat, ?_⟩
    refine (beat_c n h i k w y g hn hv hw hyok).callS [0, 1, 2, 3] 4 rfl rfl rfl rfl ?_
    rintro o L1 g' ⟨rfl, rfl, rfl⟩ _
    refine bsplit_of (fun hb => ?_) (fun hb => ?_)
    · exact ⟨ri (firstI_hit hx.2 hy (of_decide_eq_true hb)).symm, rfl, rfl⟩
    · exact ⟨x + 1, ⟨by omega, seen_next hx.2 hy (of_decide_eq_false hb)⟩, by omega, [0, 1, 2, 3], rfl, ⟨vi (wrap_id (by omega) (by omega)), trivial⟩, rfl, rfl, rfl, rfl⟩
  · have : s.l.length ≤ x := by have := of_decide_eq_false hlt; omega
    exact ⟨ri (firstI_none fun j y hy => hx.2 j y (by have := (List.getElem?_eq_some_iff.1 hy).1; omega) hy).symm, rfl, rfl⟩
theorem anyV_c (n : NodeV) (h : SliceV VectorV) (i k : Nat) (w : VectorV) (s : SliceV VectorV) (g : G) (hn : n.ok g) (hv : VecsOk g h) (hw : h.l[i]? = some w) (hs : VecsOk g s) : Meets Tryd.prog 66 [.v (.slice s.a s.l.length s.c), .fn 67 [] [.ptr 0 0, .ptr 1 0, .ptr 2 0, .ptr 3 0]] (envC n h i k) g (fun o L' g' => o = .ret (.v (.bool (decide (∃ v ∈ s.l, vless v (n.tells w k) = true)))) ∧ L' = envC n h i k ∧ g' = g) := by
  refine meets_of mixedS Tryd.func66 (by kernel_rfl) x66_ok (some []) ?_
  refine (idxV_c n h i k w s g hn hv hw hs).callS [0, 1, 2, 3] 4 rfl rfl rfl rfl ?_
  rintro o L1 g' ⟨rfl, rfl, rfl⟩ _
  have e := firstI_ge (fun v => vless v (n.tells w k) = true) s.l
  rw [decide_eq_decide] at e
  exact ⟨rb (decide_eq_decide.2 e.symm), rfl, rfl⟩

/-! ### The roles, plain -/
noncomputable def roleAt (l : List NodeV) (h : List VectorV) (n : NodeV) (i k : Nat) : Int := match h[i]?, n.ports.l[k]? with
  | some w, some p => n.role w k (decide (¬ ∃ v ∈ oth l h p.lan i k l.length, vless v (n.tells w k) = true))
  | _, _ => 0
noncomputable def rolesTo (l : List NodeV) (h : List VectorV) (n : NodeV) (i k : Nat) : List Int := (List.range k).map fun x => roleAt l h n i x
theorem rolesTo_next (l : List NodeV) (h : List VectorV) (n : NodeV) (i k : Nat) : rolesTo l h n i (k + 1) = rolesTo l h n i k ++ [roleAt l h n i k] := by simp [rolesTo, List.range_succ]
theorem rolesTo_len (l : List NodeV) (h : List VectorV) (n : NodeV) (i k : Nat) : (rolesTo l h n i k).length = k := by simp [rolesTo]
theorem roleAt_at {l : List NodeV} {h : List VectorV} {n : NodeV} {i k : Nat} {w : VectorV} {p : MemberV} (hw : h[i]? = some w) (hp : n.ports.l[k]? = some p) : roleAt l h n i k = n.role w k (decide (¬ ∃ v ∈ oth l h p.lan i k l.length, vless v (n.tells w k) = true)) := by rw [roleAt, hw, hp]
abbrev IntsOk (g : G) (s : SliceV Int) : Prop := s.ok 1 (intC .i64) (iok .i64) g
theorem role_ok (n : NodeV) (w : VectorV) (k : Int) (b : Bool) : iok .i64 (n.role w k b) := by
  have h : 0 ≤ n.role w k b ∧ n.role w k b ≤ 3 := by
    unfold NodeV.role
    split
    · split
      · omega
      · split <;> omega
    · omega
  show -9223372036854775808 ≤ n.role w k b ∧ n.role w k b ≤ 9223372036854775807
  omega
def rowsC : SliceV Int → List Value := SliceV.cells
/-- Rows of roles. -/
structure RolesV (l : List NodeV) (h : List VectorV) (g : G) (ys : List (SliceV Int)) : Prop where
  row : ∀ i y n, ys[i]? = some y → l[i]? = some n → y.l = rolesTo l h n i n.ports.l.length
  ok : ∀ y ∈ ys, IntsOk g y
theorem RolesV.mono {l : List NodeV} {h : List VectorV} {g g' : G} {ys : List (SliceV Int)} (r : RolesV l h g ys) (hle : G.le g g') : RolesV l h g' ys := ⟨r.row, fun y hy => (r.ok y hy).mono hle fun _ h => h⟩
theorem RolesV.snoc {l : List NodeV} {h : List VectorV} {g : G} {ys : List (SliceV Int)} (r : RolesV l h g ys) {y : SliceV Int} {n : NodeV} (hn : l[ys.length]? = some n) (hy : y.l = rolesTo l h n ys.length n.ports.l.length) (hok : IntsOk g y) : RolesV l h g (ys ++ [y]) := by
  refine ⟨fun i z m hz hm => ?_, fun z hz => ?_⟩
  · by_cases hi : i < ys.length
    · rw [List.getElem?_append_left hi] at hz; exact r.row i z m hz hm
    · have hil := (List.getElem?_eq_some_iff.1 hz).1
      simp at hil
      have : i = ys.length := by omega
      subst this
      simp at hz
      rw [hn] at hm
      cases hm
      rw [← hz]; exact hy
  · rcases List.mem_append.1 hz with hz | hz
    · exact r.ok z hz
    · rw [List.mem_singleton.1 hz]; exact hok
end Go.Proofs.YtedfohdgigbhiaaDoor
