/- The Go types of this seat's laws: cells, ranges, comparison, shapes. Conditions: none. -/
import Derived.Test.YtmbbhodikiikeaaGreatDoorProg
import Derived.Test.YtmbbhodikiikeaaGreatDoorBaseC
namespace Go.Proofs.YtmbbhodikiikeaaGreatDoor
open Go.Sx
set_option maxRecDepth 100000
/-- switchyard/api.Addr -/
structure AddrV where
  e0 : Int
  e1 : Int
  e2 : Int
  e3 : Int
  e4 : Int
  e5 : Int
def AddrV.cells (x : AddrV) : List Value := [.int .u8 x.e0] ++ ([.int .u8 x.e1] ++ ([.int .u8 x.e2] ++ ([.int .u8 x.e3] ++ ([.int .u8 x.e4] ++ ([.int .u8 x.e5] ++ ([]))))))
def AddrV.ok (_ : G) (x : AddrV) : Prop := iok .u8 x.e0 ∧ iok .u8 x.e1 ∧ iok .u8 x.e2 ∧ iok .u8 x.e3 ∧ iok .u8 x.e4 ∧ iok .u8 x.e5
def AddrV.zero : AddrV := ⟨0, 0, 0, 0, 0, 0⟩
def AddrV.eq (x y : AddrV) : Bool := x.e0 == y.e0 && (x.e1 == y.e1 && (x.e2 == y.e2 && (x.e3 == y.e3 && (x.e4 == y.e4 && (x.e5 == y.e5 && (true))))))
theorem AddrV.eq_refl (x : AddrV) : x.eq x = true := by simp [AddrV.eq]
def addrSh : Sh := (Sh.rep (.int .u8) 1 6)
theorem addr_of {W : World} (c : List Value) (h : addrSh.holds W c) : ∃ x : AddrV, c = x.cells ∧ x.ok (gOf W) := by
  obtain ⟨c0, d0, rfl, -, h0, r0⟩ := h
  obtain ⟨c1, d1, rfl, -, h1, r1⟩ := r0
  obtain ⟨c2, d2, rfl, -, h2, r2⟩ := r1
  obtain ⟨c3, d3, rfl, -, h3, r3⟩ := r2
  obtain ⟨c4, d4, rfl, -, h4, r4⟩ := r3
  obtain ⟨c5, d5, rfl, -, h5, r5⟩ := r4
  obtain rfl : d5 = [] := r5
  obtain ⟨n0, rfl, k0⟩ := h0
  obtain ⟨n1, rfl, k1⟩ := h1
  obtain ⟨n2, rfl, k2⟩ := h2
  obtain ⟨n3, rfl, k3⟩ := h3
  obtain ⟨n4, rfl, k4⟩ := h4
  obtain ⟨n5, rfl, k5⟩ := h5
  exact ⟨⟨n0, n1, n2, n3, n4, n5⟩, rfl, iok_of k0, iok_of k1, iok_of k2, iok_of k3, iok_of k4, iok_of k5⟩

/-- switchyard/api.Bridge -/
structure BridgeV where
  prio : Int
  ext : Int
  addr : AddrV
def BridgeV.cells (x : BridgeV) : List Value := [.int .i64 x.prio] ++ ([.int .i64 x.ext] ++ (x.addr.cells ++ ([])))
def BridgeV.ok (g : G) (x : BridgeV) : Prop := iok .i64 x.prio ∧ iok .i64 x.ext ∧ x.addr.ok g
def BridgeV.zero : BridgeV := ⟨0, 0, AddrV.zero⟩
def BridgeV.eq (x y : BridgeV) : Bool := x.prio == y.prio && (x.ext == y.ext && (x.addr.e0 == y.addr.e0 && (x.addr.e1 == y.addr.e1 && (x.addr.e2 == y.addr.e2 && (x.addr.e3 == y.addr.e3 && (x.addr.e4 == y.addr.e4 && (x.addr.e5 == y.addr.e5 && (true))))))))
theorem BridgeV.eq_refl (x : BridgeV) : x.eq x = true := by simp [BridgeV.eq]
def bridgeSh : Sh := (.fld 1 (.int .i64) (.fld 1 (.int .i64) (.fld 6 (Sh.rep (.int .u8) 1 6) .fin)))
theorem bridge_of {W : World} (c : List Value) (h : bridgeSh.holds W c) : ∃ x : BridgeV, c = x.cells ∧ x.ok (gOf W) := by
  obtain ⟨c0, d0, rfl, -, h0, r0⟩ := h
  obtain ⟨c1, d1, rfl, -, h1, r1⟩ := r0
  obtain ⟨c2, d2, rfl, -, h2, r2⟩ := r1
  obtain rfl : d2 = [] := r2
  obtain ⟨n0, rfl, k0⟩ := h0
  obtain ⟨n1, rfl, k1⟩ := h1
  obtain ⟨n2, rfl, k2⟩ := addr_of c2 h2
  exact ⟨⟨n0, n1, n2⟩, rfl, iok_of k0, iok_of k1, k2⟩

/-- switchyard/api.At -/
structure AtV where
  err : Int
  place : Int
def AtV.cells (x : AtV) : List Value := [.int .i64 x.err] ++ ([.int .i64 x.place] ++ ([]))
def AtV.ok (_ : G) (x : AtV) : Prop := iok .i64 x.err ∧ iok .i64 x.place
def AtV.zero : AtV := ⟨0, 0⟩
def AtV.eq (x y : AtV) : Bool := x.err == y.err && (x.place == y.place && (true))
theorem AtV.eq_refl (x : AtV) : x.eq x = true := by simp [AtV.eq]
def atSh : Sh := (.fld 1 (.int .i64) (.fld 1 (.int .i64) .fin))
theorem at_of {W : World} (c : List Value) (h : atSh.holds W c) : ∃ x : AtV, c = x.cells ∧ x.ok (gOf W) := by
  obtain ⟨c0, d0, rfl, -, h0, r0⟩ := h
  obtain ⟨c1, d1, rfl, -, h1, r1⟩ := r0
  obtain rfl : d1 = [] := r1
  obtain ⟨n0, rfl, k0⟩ := h0
  obtain ⟨n1, rfl, k1⟩ := h1
  exact ⟨⟨n0, n1⟩, rfl, iok_of k0, iok_of k1⟩
end Go.Proofs.YtmbbhodikiikeaaGreatDoor
