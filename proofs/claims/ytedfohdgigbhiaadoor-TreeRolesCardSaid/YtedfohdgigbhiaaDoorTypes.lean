/- The Go types of this seat's laws: cells, ranges, comparison, shapes. Conditions: none. -/
import Derived.Test.YtedfohdgigbhiaaDoorProg
import Derived.Test.YtedfohdgigbhiaaDoorBaseC
namespace Go.Proofs.YtedfohdgigbhiaaDoor
open Go.Sx
set_option maxRecDepth 100000
/-- switchyard/switchyardref.Fault -/
structure FaultV where
  e : Int
  at_ : Int
def FaultV.cells (x : FaultV) : List Value := [.int .i64 x.e] ++ ([.int .i64 x.at_] ++ ([]))
def FaultV.ok (_ : G) (x : FaultV) : Prop := iok .i64 x.e ∧ iok .i64 x.at_
def FaultV.zero : FaultV := ⟨0, 0⟩
def FaultV.eq (x y : FaultV) : Bool := x.e == y.e && (x.at_ == y.at_ && (true))
theorem FaultV.eq_refl (x : FaultV) : x.eq x = true := by simp [FaultV.eq]
def faultSh : Sh := (.fld 1 (.int .i64) (.fld 1 (.int .i64) .fin))
theorem fault_of {W : World} (c : List Value) (h : faultSh.holds W c) : ∃ x : FaultV, c = x.cells ∧ x.ok (gOf W) := by
  obtain ⟨c0, d0, rfl, -, h0, r0⟩ := h
  obtain ⟨c1, d1, rfl, -, h1, r1⟩ := r0
  obtain rfl : d1 = [] := r1
  obtain ⟨n0, rfl, k0⟩ := h0
  obtain ⟨n1, rfl, k1⟩ := h1
  exact ⟨⟨n0, n1⟩, rfl, iok_of k0, iok_of k1⟩

/-- switchyard/api.Addr -/
structure AddrV where
  e0 : Int
  e1 : Int
  e2 : Int
  e3 : Int
  e4 : Int
  e5 : Int
def AddrV.cells (x : AddrV) : List Value := [.int .u8 x.e0] ++ ([.int .u8 x.e1] ++ ([.int .u8 x.e2] ++ ([.int .u8 x.e3] ++ ([.int .u8 x.e4] ++ ([.int .u8 x.e5] ++ ([]))))))
def AddrV.ok (_ : G) (x : AddrV) : Prop := iok .u8 x.e0 ∧ iok .u8 x.e1 ∧ iok .u8 x.e2 ∧ iok .u8 x.e3 ∧ iok .u8 x.e4 ∧ iok .u8 x.e5
def AddrV.zero : AddrV := ⟨0, 0, 0, 0, 0, 0⟩
def AddrV.eq (x y : AddrV) : Bool := x.e0 == y.e0 && (x.e1 == y.e1 && (x.e2 == y.e2 && (x.e3 == y.e3 && (x.e4 == y.e4 && (x.e5 == y.e5 && (true))))))
theorem AddrV.eq_refl (x : AddrV) : x.eq x = true := by simp [AddrV.eq]
def addrSh : Sh := (Sh.rep (.int .u8) 1 6)
theorem addr_of {W : World} (c : List Value) (h : addrSh.holds W c) : ∃ x : AddrV, c = x.cells ∧ x.ok (gOf W) := by
  obtain ⟨c0, d0, rfl, -, h0, r0⟩ := h
  obtain ⟨c1, d1, rfl, -, h1, r1⟩ := r0
  obtain ⟨c2, d2, rfl, -, h2, r2⟩ := r1
  obtain ⟨c3, d3, rfl, -, h3, r3⟩ := r2
  obtain ⟨c4, d4, rfl, -, h4, r4⟩ := r3
  obtain ⟨c5, d5, rfl, -, h5, r5⟩ := r4
  obtain rfl : d5 = [] := r5
  obtain ⟨n0, rfl, k0⟩ := h0
  obtain ⟨n1, rfl, k1⟩ := h1
  obtain ⟨n2, rfl, k2⟩ := h2
  obtain ⟨n3, rfl, k3⟩ := h3
  obtain ⟨n4, rfl, k4⟩ := h4
  obtain ⟨n5, rfl, k5⟩ := h5
  exact ⟨⟨n0, n1, n2, n3, n4, n5⟩, rfl, iok_of k0, iok_of k1, iok_of k2, iok_of k3, iok_of k4, iok_of k5⟩

/-- switchyard/api.Bridge -/
structure BridgeV where
  prio : Int
  ext : Int
  addr : AddrV
def BridgeV.cells (x : BridgeV) : List Value := [.int .i64 x.prio] ++ ([.int .i64 x.ext] ++ (x.addr.cells ++ ([])))
def BridgeV.ok (g : G) (x : BridgeV) : Prop := iok .i64 x.prio ∧ iok .i64 x.ext ∧ x.addr.ok g
def BridgeV.zero : BridgeV := ⟨0, 0, AddrV.zero⟩
def BridgeV.eq (x y : BridgeV) : Bool := x.prio == y.prio && (x.ext == y.ext && (x.addr.e0 == y.addr.e0 && (x.addr.e1 == y.addr.e1 && (x.addr.e2 == y.addr.e2 && (x.addr.e3 == y.addr.e3 && (x.addr.e4 == y.addr.e4 && (x.addr.e5 == y.addr.e5 && (true))))))))
theorem BridgeV.eq_refl (x : BridgeV) : x.eq x = true := by simp [BridgeV.eq]
def bridgeSh : Sh := (.fld 1 (.int .i64) (.fld 1 (.int .i64) (.fld 6 (Sh.rep (.int .u8) 1 6) .fin)))
theorem bridge_of {W : World} (c : List Value) (h : bridgeSh.holds W c) : ∃ x : BridgeV, c = x.cells ∧ x.ok (gOf W) := by
  obtain ⟨c0, d0, rfl, -, h0, r0⟩ := h
  obtain ⟨c1, d1, rfl, -, h1, r1⟩ := r0
  obtain ⟨c2, d2, rfl, -, h2, r2⟩ := r1
  obtain rfl : d2 = [] := r2
  obtain ⟨n0, rfl, k0⟩ := h0
  obtain ⟨n1, rfl, k1⟩ := h1
  obtain ⟨n2, rfl, k2⟩ := addr_of c2 h2
  exact ⟨⟨n0, n1, n2⟩, rfl, iok_of k0, iok_of k1, k2⟩

/-- switchyard/api.Port -/
structure PortV where
  prio : Int
  no : Int
def PortV.cells (x : PortV) : List Value := [.int .i64 x.prio] ++ ([.int .i64 x.no] ++ ([]))
def PortV.ok (_ : G) (x : PortV) : Prop := iok .i64 x.prio ∧ iok .i64 x.no
def PortV.zero : PortV := ⟨0, 0⟩
def PortV.eq (x y : PortV) : Bool := x.prio == y.prio && (x.no == y.no && (true))
theorem PortV.eq_refl (x : PortV) : x.eq x = true := by simp [PortV.eq]
def portSh : Sh := (.fld 1 (.int .i64) (.fld 1 (.int .i64) .fin))
theorem port_of {W : World} (c : List Value) (h : portSh.holds W c) : ∃ x : PortV, c = x.cells ∧ x.ok (gOf W) := by
  obtain ⟨c0, d0, rfl, -, h0, r0⟩ := h
  obtain ⟨c1, d1, rfl, -, h1, r1⟩ := r0
  obtain rfl : d1 = [] := r1
  obtain ⟨n0, rfl, k0⟩ := h0
  obtain ⟨n1, rfl, k1⟩ := h1
  exact ⟨⟨n0, n1⟩, rfl, iok_of k0, iok_of k1⟩

/-- switchyard/api.Vector -/
structure VectorV where
  root : BridgeV
  cost : Int
  sender : BridgeV
  port : PortV
  at_ : PortV
def VectorV.cells (x : VectorV) : List Value := x.root.cells ++ ([.int .i64 x.cost] ++ (x.sender.cells ++ (x.port.cells ++ (x.at_.cells ++ ([])))))
def VectorV.ok (g : G) (x : VectorV) : Prop := x.root.ok g ∧ iok .i64 x.cost ∧ x.sender.ok g ∧ x.port.ok g ∧ x.at_.ok g
def VectorV.zero : VectorV := ⟨BridgeV.zero, 0, BridgeV.zero, PortV.zero, PortV.zero⟩
def VectorV.eq (x y : VectorV) : Bool := x.root.prio == y.root.prio && (x.root.ext == y.root.ext && (x.root.addr.e0 == y.root.addr.e0 && (x.root.addr.e1 == y.root.addr.e1 && (x.root.addr.e2 == y.root.addr.e2 && (x.root.addr.e3 == y.root.addr.e3 && (x.root.addr.e4 == y.root.addr.e4 && (x.root.addr.e5 == y.root.addr.e5 && (x.cost == y.cost && (x.sender.prio == y.sender.prio && (x.sender.ext == y.sender.ext && (x.sender.addr.e0 == y.sender.addr.e0 && (x.sender.addr.e1 == y.sender.addr.e1 && (x.sender.addr.e2 == y.sender.addr.e2 && (x.sender.addr.e3 == y.sender.addr.e3 && (x.sender.addr.e4 == y.sender.addr.e4 && (x.sender.addr.e5 == y.sender.addr.e5 && (x.port.prio == y.port.prio && (x.port.no == y.port.no && (x.at_.prio == y.at_.prio && (x.at_.no == y.at_.no && (true)))))))))))))))))))))
theorem VectorV.eq_refl (x : VectorV) : x.eq x = true := by simp [VectorV.eq]
def vectorSh : Sh := (.fld 8 bridgeSh (.fld 1 (.int .i64) (.fld 8 bridgeSh (.fld 2 portSh (.fld 2 portSh .fin)))))
theorem vector_of {W : World} (c : List Value) (h : vectorSh.holds W c) : ∃ x : VectorV, c = x.cells ∧ x.ok (gOf W) := by
  obtain ⟨c0, d0, rfl, -, h0, r0⟩ := h
  obtain ⟨c1, d1, rfl, -, h1, r1⟩ := r0
  obtain ⟨c2, d2, rfl, -, h2, r2⟩ := r1
  obtain ⟨c3, d3, rfl, -, h3, r3⟩ := r2
  obtain ⟨c4, d4, rfl, -, h4, r4⟩ := r3
  obtain rfl : d4 = [] := r4
  obtain ⟨n0, rfl, k0⟩ := bridge_of c0 h0
  obtain ⟨n1, rfl, k1⟩ := h1
  obtain ⟨n2, rfl, k2⟩ := bridge_of c2 h2
  obtain ⟨n3, rfl, k3⟩ := port_of c3 h3
  obtain ⟨n4, rfl, k4⟩ := port_of c4 h4
  exact ⟨⟨n0, n1, n2, n3, n4⟩, rfl, k0, iok_of k1, k2, k3, k4⟩

/-- switchyard/api.Member -/
structure MemberV where
  port : PortV
  cost : Int
  lan : Int
def MemberV.cells (x : MemberV) : List Value := x.port.cells ++ ([.int .i64 x.cost] ++ ([.int .i64 x.lan] ++ ([])))
def MemberV.ok (g : G) (x : MemberV) : Prop := x.port.ok g ∧ iok .i64 x.cost ∧ iok .i64 x.lan
def MemberV.zero : MemberV := ⟨PortV.zero, 0, 0⟩
def MemberV.eq (x y : MemberV) : Bool := x.port.prio == y.port.prio && (x.port.no == y.port.no && (x.cost == y.cost && (x.lan == y.lan && (true))))
theorem MemberV.eq_refl (x : MemberV) : x.eq x = true := by simp [MemberV.eq]
def memberSh : Sh := (.fld 2 portSh (.fld 1 (.int .i64) (.fld 1 (.int .i64) .fin)))
theorem member_of {W : World} (c : List Value) (h : memberSh.holds W c) : ∃ x : MemberV, c = x.cells ∧ x.ok (gOf W) := by
  obtain ⟨c0, d0, rfl, -, h0, r0⟩ := h
  obtain ⟨c1, d1, rfl, -, h1, r1⟩ := r0
  obtain ⟨c2, d2, rfl, -, h2, r2⟩ := r1
  obtain rfl : d2 = [] := r2
  obtain ⟨n0, rfl, k0⟩ := port_of c0 h0
  obtain ⟨n1, rfl, k1⟩ := h1
  obtain ⟨n2, rfl, k2⟩ := h2
  exact ⟨⟨n0, n1, n2⟩, rfl, k0, iok_of k1, iok_of k2⟩

/-- switchyard/api.Node -/
structure NodeV where
  bridge : BridgeV
  ports : SliceV MemberV
def NodeV.cells (x : NodeV) : List Value := x.bridge.cells ++ (x.ports.cells ++ ([]))
def NodeV.ok (g : G) (x : NodeV) : Prop := x.bridge.ok g ∧ x.ports.ok 4 MemberV.cells (MemberV.ok g) g
def NodeV.zero : NodeV := ⟨BridgeV.zero, ⟨none, [], 0⟩⟩
def nodeSh : Sh := (.fld 8 bridgeSh (.fld 1 (.slice 4 memberSh) .fin))
theorem node_of {W : World} (c : List Value) (h : nodeSh.holds W c) : ∃ x : NodeV, c = x.cells ∧ x.ok (gOf W) := by
  obtain ⟨c0, d0, rfl, -, h0, r0⟩ := h
  obtain ⟨c1, d1, rfl, -, h1, r1⟩ := r0
  obtain rfl : d1 = [] := r1
  obtain ⟨n0, rfl, k0⟩ := bridge_of c0 h0
  obtain ⟨n1, rfl, k1⟩ := sliceV_of MemberV.cells (fun _ => rfl) (by decide) (MemberV.ok (gOf W)) (fun c _ hc => member_of c hc) h1
  exact ⟨⟨n0, n1⟩, rfl, k0, k1⟩

/-- switchyard/api.At -/
structure AtV where
  err : Int
  place : Int
def AtV.cells (x : AtV) : List Value := [.int .i64 x.err] ++ ([.int .i64 x.place] ++ ([]))
def AtV.ok (_ : G) (x : AtV) : Prop := iok .i64 x.err ∧ iok .i64 x.place
def AtV.zero : AtV := ⟨0, 0⟩
def AtV.eq (x y : AtV) : Bool := x.err == y.err && (x.place == y.place && (true))
theorem AtV.eq_refl (x : AtV) : x.eq x = true := by simp [AtV.eq]
def atSh : Sh := (.fld 1 (.int .i64) (.fld 1 (.int .i64) .fin))
theorem at_of {W : World} (c : List Value) (h : atSh.holds W c) : ∃ x : AtV, c = x.cells ∧ x.ok (gOf W) := by
  obtain ⟨c0, d0, rfl, -, h0, r0⟩ := h
  obtain ⟨c1, d1, rfl, -, h1, r1⟩ := r0
  obtain rfl : d1 = [] := r1
  obtain ⟨n0, rfl, k0⟩ := h0
  obtain ⟨n1, rfl, k1⟩ := h1
  exact ⟨⟨n0, n1⟩, rfl, iok_of k0, iok_of k1⟩
end Go.Proofs.YtedfohdgigbhiaaDoor
