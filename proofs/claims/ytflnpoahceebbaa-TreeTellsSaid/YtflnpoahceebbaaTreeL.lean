/- The law TreeTells returns true, for every node, vector and port. Conditions: the ports lie where the node says. -/
import Derived.Test.YtflnpoahceebbaaTreeC
namespace Go.Proofs.Ytflnpoahceebbaa
open Go.Sx
set_option maxRecDepth 100000
set_option maxHeartbeats 8000000
attribute [local irreducible] Meets


theorem treeTells_c (n : NodeV) (v : VectorV) (i : Int) (best : Bool) (g : G) (hn : n.ok g) (_ : v.ok g) (_ : iok .i64 i) : Meets Try.prog 7 [.agg (n.cells.map .v), .agg (v.cells.map .v), .v (.int .i64 i), .v (.bool best)] [] g (fun o _ _ => o = .ret (.v (.bool true))) := by
  refine meets_of mixed Try.func7 (by kernel_rfl) x7_ok (some []) ?_
  have hlen := hn.2.len
  refine bsplit_of (fun h1 => rfl) (fun h1 => ?_)
  refine bsplit_of (fun h2 => rfl) (fun h2 => ?_)
  refine bsplit_of (fun h3 => rfl) (fun h3 => ?_)
  change LoopW _ _ _ _ _ _ _
  apply loop_rule [] (α := Nat) (fun k => [(28, .v (.int .i64 k))]) (fun _ => [Chunk.cells 45 (n.cells.map .v), Chunk.cells 49 (v.cells.map .v)]) (fun _ => g) (fun k => k ≤ n.ports.l.length) (fun k => n.ports.l.length - k) 0
  · intro x
    kernel_rfl
  · exact Nat.zero_le _
  · exact ⟨rfl, trivial⟩
  · rfl
  · rfl
  intro k hk
  refine bsplit_of (fun hlt => ?_) (fun hlt => ?_)
  · have hlt' : k < n.ports.l.length := by simpa using hlt
    obtain ⟨ad, ha, hat⟩ := hn.2.1.elem hlt'
    obtain ⟨l, hl⟩ := lt_some hlt'
    rw [flatMap_at _ 4 (fun _ => rfl) _ k l hl] at hat
    refine ⟨⟨by omega, by omega⟩, ad, ha, ?_⟩
    refine ⟨l.cells, rfl, hat, ?_⟩
    refine bsplit_of (fun h4 => rfl) (fun h4 => ?_)
    refine bsplit_of (fun h5 => rfl) (fun h5 => ?_)
    refine ⟨k + 1, by omega, by omega, [0, 1], rfl, ⟨?_, trivial⟩, rfl, rfl, rfl, rfl⟩
    exact vi (wrap_id (by omega) (by omega))
  · refine (tells_c n v i g hn).call rfl rfl rfl ?_
    refine (tellsR_c n v i g hn).call rfl rfl rfl ?_
    refine bsplit_of (fun h6 => ?_) (fun h6 => absurd h6 (by simp))
    refine (hears_c n v i g hn).call rfl rfl rfl ?_
    refine (hearsR_c n v i g hn).call rfl rfl rfl ?_
    refine bsplit_of (fun h7 => ?_) (fun h7 => absurd h7 (by simp))
    refine (own_c n g).call rfl rfl rfl ?_
    refine bsplit_of (fun h8 => ?_) (fun h8 => absurd h8 (by simp))
    refine (role_c n v i best g hn).call rfl rfl rfl ?_
    refine (roleR_c n v i best g hn).call rfl rfl rfl ?_
    exact congrArg Out.ret (vbe (by simp))
end Go.Proofs.Ytflnpoahceebbaa
