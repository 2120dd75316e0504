/- A symbolic executor of my own, part 19: calls whose answer is known. Conditions: none; it speaks of any program. -/
import Derived.Test.YtflnpoahceebbaaSx18
namespace Go.Sx

/-- A contract that tells the answer: nothing at hand is touched. -/
def Tells (P : Program) (f : FuncId) (args : List SV) (g : G) (r0 : SV) : Prop :=
  Meets P f args [] g fun r _ g' => r.sc 0 = true ∧ (r = r0 ∧ g' = g)

/-- A quiet call, in a region whose order is drawn. -/
theorem Tells.quiet {P : Program} {f : FuncId} {args : List SV} {g : G} {r0 : SV} {L : List Chunk} {K : SV → Prop} (h : Tells P f args g r0) (h0 : scL 0 args = true) (hj : r0 ≠ .junk) (hs : r0.sc L.length = true) (k : K r0) :
    ∃ r, (r ≠ .junk ∧ r.sc L.length = true) ∧ Meets P f args L g (fun r' L' _ => r' = r ∧ L'.take L.length = L) ∧ K r :=
  ⟨r0, ⟨hj, hs⟩, (Meets.pure h h0 L).mono fun _ _ _ ⟨h1, _, h2, _⟩ => ⟨h2, by rw [h1, List.take_length]⟩, k⟩

/-- A call in order. -/
theorem Tells.call {P : Program} {f : FuncId} {args : List SV} {g : G} {r0 : SV} {L : List Chunk} {K : SV → List Chunk → G → Prop} (h : Tells P f args g r0) (h0 : scL 0 args = true) (k : K r0 L g) : Meets P f args L g K :=
  (Meets.pure h h0 L).mono fun _ _ _ ⟨h1, _, h2, h3⟩ => by rw [h1, h2, h3]; exact k

end Go.Sx
