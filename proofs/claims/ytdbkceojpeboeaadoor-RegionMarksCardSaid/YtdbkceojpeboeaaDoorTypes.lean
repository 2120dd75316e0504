/- The Go types of this seat's laws: cells, ranges, comparison, shapes. Conditions: none. -/
import Derived.Test.YtdbkceojpeboeaaDoorProg
import Derived.Test.YtdbkceojpeboeaaDoorBaseC
namespace Go.Proofs.YtdbkceojpeboeaaDoor
open Go.Sx
set_option maxRecDepth 100000
/-- switchyard/api.Span -/
structure SpanV where
  from_ : Int
  to : Int
  inst : Int
def SpanV.cells (x : SpanV) : List Value := [.int .i64 x.from_] ++ ([.int .i64 x.to] ++ ([.int .i64 x.inst] ++ ([])))
def SpanV.ok (_ : G) (x : SpanV) : Prop := iok .i64 x.from_ ∧ iok .i64 x.to ∧ iok .i64 x.inst
def SpanV.zero : SpanV := ⟨0, 0, 0⟩
def SpanV.eq (x y : SpanV) : Bool := x.from_ == y.from_ && (x.to == y.to && (x.inst == y.inst && (true)))
theorem SpanV.eq_refl (x : SpanV) : x.eq x = true := by simp [SpanV.eq]
def spanSh : Sh := (.fld 1 (.int .i64) (.fld 1 (.int .i64) (.fld 1 (.int .i64) .fin)))
theorem span_of {W : World} (c : List Value) (h : spanSh.holds W c) : ∃ x : SpanV, c = x.cells ∧ x.ok (gOf W) := by
  obtain ⟨c0, d0, rfl, -, h0, r0⟩ := h
  obtain ⟨c1, d1, rfl, -, h1, r1⟩ := r0
  obtain ⟨c2, d2, rfl, -, h2, r2⟩ := r1
  obtain rfl : d2 = [] := r2
  obtain ⟨n0, rfl, k0⟩ := h0
  obtain ⟨n1, rfl, k1⟩ := h1
  obtain ⟨n2, rfl, k2⟩ := h2
  exact ⟨⟨n0, n1, n2⟩, rfl, iok_of k0, iok_of k1, iok_of k2⟩

/-- switchyard/api.At -/
structure AtV where
  err : Int
  place : Int
def AtV.cells (x : AtV) : List Value := [.int .i64 x.err] ++ ([.int .i64 x.place] ++ ([]))
def AtV.ok (_ : G) (x : AtV) : Prop := iok .i64 x.err ∧ iok .i64 x.place
def AtV.zero : AtV := ⟨0, 0⟩
def AtV.eq (x y : AtV) : Bool := x.err == y.err && (x.place == y.place && (true))
theorem AtV.eq_refl (x : AtV) : x.eq x = true := by simp [AtV.eq]
def atSh : Sh := (.fld 1 (.int .i64) (.fld 1 (.int .i64) .fin))
theorem at_of {W : World} (c : List Value) (h : atSh.holds W c) : ∃ x : AtV, c = x.cells ∧ x.ok (gOf W) := by
  obtain ⟨c0, d0, rfl, -, h0, r0⟩ := h
  obtain ⟨c1, d1, rfl, -, h1, r1⟩ := r0
  obtain rfl : d1 = [] := r1
  obtain ⟨n0, rfl, k0⟩ := h0
  obtain ⟨n1, rfl, k1⟩ := h1
  exact ⟨⟨n0, n1⟩, rfl, iok_of k0, iok_of k1⟩
end Go.Proofs.YtdbkceojpeboeaaDoor
