/- How heavy a verdict is: some Bool, nothing else touched. Conditions: the slices lie where they say. -/
import Derived.Test.YtflnpoahceebbaaVerD
namespace Go.Proofs.Ytflnpoahceebbaa
open Go.Sx
set_option maxRecDepth 100000
set_option maxHeartbeats 8000000
attribute [local irreducible] Meets

/-- Some Bool is told. -/
def SomeBool (f : FuncId) (args : List SV) (g : G) : Prop := Meets Try.prog f args [] g fun o L' g' => ∃ b : Bool, o = .ret (.v (.bool b)) ∧ L' = [] ∧ g' = g

theorem big_c (v : LldpV) (g : G) (hv : v.ok g) : SomeBool 51 [.agg (v.cells.map .v)] g := by
  refine meets_of mixed Try.func51 (by kernel_rfl) x51_ok (some []) ?_
  have hs := hv.2.2.2.2.2.2.2.2
  have hlen := hs.len
  change LoopW _ _ _ _ _ _ _
  apply loop_rule [] (α := Nat × Int) (fun x => [(32, .v (.int .i64 x.1)), (3, .v (.int .i64 x.2))]) (fun _ => [Chunk.cells 72 (v.cells.map .v)]) (fun _ => g) (fun x => x.1 ≤ v.orgs.l.length) (fun x => v.orgs.l.length - x.1) (0, _)
  · intro x; kernel_rfl
  · exact Nat.zero_le _
  · exact ⟨rfl, rfl, trivial⟩
  · rfl
  · rfl
  rintro ⟨k, n⟩ hk
  simp only at hk
  refine bsplit_of (fun hlt => ?_) (fun hlt => ?_)
  · have hlt' : k < v.orgs.l.length := by simpa using hlt
    obtain ⟨ad, x, ha, hx, hatx, hxok⟩ := hs.elem (fun _ => rfl) hlt'
    refine ⟨⟨by simp, by simpa using hlt'⟩, ad, ha, ?_⟩
    refine ⟨x.cells, rfl, hatx, ?_⟩
    refine ⟨by decide, ?_⟩
    refine ⟨(k + 1, _), by simp; omega, by simp; omega, [0], rfl, ⟨vi (wrap_id (by omega) (by omega)), rfl, trivial⟩, rfl, rfl, rfl, rfl⟩
  · exact ⟨_, rfl, rfl, rfl⟩

theorem much_c (s : SliceV AttrV) (g : G) (hs : AttrsOk g s) : SomeBool 52 [.v (.slice s.a s.l.length s.c)] g := by
  refine meets_of mixed Try.func52 (by kernel_rfl) x52_ok (some []) ?_
  have hlen := hs.len
  change LoopW _ _ _ _ _ _ _
  apply loop_rule [] (α := Nat × Int) (fun x => [(10, .v (.int .i64 x.1)), (3, .v (.int .i64 x.2))]) (fun _ => []) (fun _ => g) (fun x => x.1 ≤ s.l.length) (fun x => s.l.length - x.1) (0, _)
  · intro x; kernel_rfl
  · exact Nat.zero_le _
  · exact ⟨rfl, rfl, trivial⟩
  · rfl
  · rfl
  rintro ⟨k, n⟩ hk
  simp only at hk
  refine bsplit_of (fun hlt => ?_) (fun hlt => ?_)
  · have hlt' : k < s.l.length := by simpa using hlt
    obtain ⟨ad, x, ha, hx, hatx, hxok⟩ := hs.elem (fun _ => rfl) hlt'
    refine ⟨⟨by simp, by simpa using hlt'⟩, ad, ha, ?_⟩
    refine ⟨x.cells, rfl, hatx, ?_⟩
    refine ⟨(k + 1, _), by simp; omega, by simp; omega, [], rfl, ⟨vi (wrap_id (by omega) (by omega)), rfl, trivial⟩, rfl, rfl, rfl, rfl⟩
  · exact ⟨_, rfl, rfl, rfl⟩
end Go.Proofs.Ytflnpoahceebbaa
