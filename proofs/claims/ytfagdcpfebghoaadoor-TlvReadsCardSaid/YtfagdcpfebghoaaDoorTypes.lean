/- The Go types of this seat's laws: cells, ranges, comparison, shapes. Conditions: none. -/
import Derived.Test.YtfagdcpfebghoaaDoorProg
import Derived.Test.YtfagdcpfebghoaaDoorBaseC
namespace Go.Proofs.YtfagdcpfebghoaaDoor
open Go.Sx
set_option maxRecDepth 100000
/-- switchyard/api.Tag -/
structure TagV where
  s : Bool
  pcp : Int
  dei : Bool
  vid : Int
def TagV.cells (x : TagV) : List Value := [.bool x.s] ++ ([.int .i64 x.pcp] ++ ([.bool x.dei] ++ ([.int .i64 x.vid] ++ ([]))))
def TagV.ok (_ : G) (x : TagV) : Prop := iok .i64 x.pcp ∧ iok .i64 x.vid
def TagV.zero : TagV := ⟨false, 0, false, 0⟩
def TagV.eq (x y : TagV) : Bool := x.s == y.s && (x.pcp == y.pcp && (x.dei == y.dei && (x.vid == y.vid && (true))))
theorem TagV.eq_refl (x : TagV) : x.eq x = true := by simp [TagV.eq]
def tagSh : Sh := (.fld 1 .bool (.fld 1 (.int .i64) (.fld 1 .bool (.fld 1 (.int .i64) .fin))))
theorem tag_of {W : World} (c : List Value) (h : tagSh.holds W c) : ∃ x : TagV, c = x.cells ∧ x.ok (gOf W) := by
  obtain ⟨c0, d0, rfl, -, h0, r0⟩ := h
  obtain ⟨c1, d1, rfl, -, h1, r1⟩ := r0
  obtain ⟨c2, d2, rfl, -, h2, r2⟩ := r1
  obtain ⟨c3, d3, rfl, -, h3, r3⟩ := r2
  obtain rfl : d3 = [] := r3
  obtain ⟨n0, rfl⟩ := h0
  obtain ⟨n1, rfl, k1⟩ := h1
  obtain ⟨n2, rfl⟩ := h2
  obtain ⟨n3, rfl, k3⟩ := h3
  exact ⟨⟨n0, n1, n2, n3⟩, rfl, iok_of k1, iok_of k3⟩

/-- switchyard/api.Addr -/
structure AddrV where
  e0 : Int
  e1 : Int
  e2 : Int
  e3 : Int
  e4 : Int
  e5 : Int
def AddrV.cells (x : AddrV) : List Value := [.int .u8 x.e0] ++ ([.int .u8 x.e1] ++ ([.int .u8 x.e2] ++ ([.int .u8 x.e3] ++ ([.int .u8 x.e4] ++ ([.int .u8 x.e5] ++ ([]))))))
def AddrV.ok (_ : G) (x : AddrV) : Prop := iok .u8 x.e0 ∧ iok .u8 x.e1 ∧ iok .u8 x.e2 ∧ iok .u8 x.e3 ∧ iok .u8 x.e4 ∧ iok .u8 x.e5
def AddrV.zero : AddrV := ⟨0, 0, 0, 0, 0, 0⟩
def AddrV.eq (x y : AddrV) : Bool := x.e0 == y.e0 && (x.e1 == y.e1 && (x.e2 == y.e2 && (x.e3 == y.e3 && (x.e4 == y.e4 && (x.e5 == y.e5 && (true))))))
theorem AddrV.eq_refl (x : AddrV) : x.eq x = true := by simp [AddrV.eq]
def addrSh : Sh := (Sh.rep (.int .u8) 1 6)
theorem addr_of {W : World} (c : List Value) (h : addrSh.holds W c) : ∃ x : AddrV, c = x.cells ∧ x.ok (gOf W) := by
  obtain ⟨c0, d0, rfl, -, h0, r0⟩ := h
  obtain ⟨c1, d1, rfl, -, h1, r1⟩ := r0
  obtain ⟨c2, d2, rfl, -, h2, r2⟩ := r1
  obtain ⟨c3, d3, rfl, -, h3, r3⟩ := r2
  obtain ⟨c4, d4, rfl, -, h4, r4⟩ := r3
  obtain ⟨c5, d5, rfl, -, h5, r5⟩ := r4
  obtain rfl : d5 = [] := r5
  obtain ⟨n0, rfl, k0⟩ := h0
  obtain ⟨n1, rfl, k1⟩ := h1
  obtain ⟨n2, rfl, k2⟩ := h2
  obtain ⟨n3, rfl, k3⟩ := h3
  obtain ⟨n4, rfl, k4⟩ := h4
  obtain ⟨n5, rfl, k5⟩ := h5
  exact ⟨⟨n0, n1, n2, n3, n4, n5⟩, rfl, iok_of k0, iok_of k1, iok_of k2, iok_of k3, iok_of k4, iok_of k5⟩

/-- A4xu8 -/
structure A4xu8V where
  e0 : Int
  e1 : Int
  e2 : Int
  e3 : Int
def A4xu8V.cells (x : A4xu8V) : List Value := [.int .u8 x.e0] ++ ([.int .u8 x.e1] ++ ([.int .u8 x.e2] ++ ([.int .u8 x.e3] ++ ([]))))
def A4xu8V.ok (_ : G) (x : A4xu8V) : Prop := iok .u8 x.e0 ∧ iok .u8 x.e1 ∧ iok .u8 x.e2 ∧ iok .u8 x.e3
def A4xu8V.zero : A4xu8V := ⟨0, 0, 0, 0⟩
def A4xu8V.eq (x y : A4xu8V) : Bool := x.e0 == y.e0 && (x.e1 == y.e1 && (x.e2 == y.e2 && (x.e3 == y.e3 && (true))))
theorem A4xu8V.eq_refl (x : A4xu8V) : x.eq x = true := by simp [A4xu8V.eq]
def a4xu8Sh : Sh := (Sh.rep (.int .u8) 1 4)
theorem a4xu8_of {W : World} (c : List Value) (h : a4xu8Sh.holds W c) : ∃ x : A4xu8V, c = x.cells ∧ x.ok (gOf W) := by
  obtain ⟨c0, d0, rfl, -, h0, r0⟩ := h
  obtain ⟨c1, d1, rfl, -, h1, r1⟩ := r0
  obtain ⟨c2, d2, rfl, -, h2, r2⟩ := r1
  obtain ⟨c3, d3, rfl, -, h3, r3⟩ := r2
  obtain rfl : d3 = [] := r3
  obtain ⟨n0, rfl, k0⟩ := h0
  obtain ⟨n1, rfl, k1⟩ := h1
  obtain ⟨n2, rfl, k2⟩ := h2
  obtain ⟨n3, rfl, k3⟩ := h3
  exact ⟨⟨n0, n1, n2, n3⟩, rfl, iok_of k0, iok_of k1, iok_of k2, iok_of k3⟩

/-- switchyard/api.Arp -/
structure ArpV where
  op : Int
  sha : AddrV
  tha : AddrV
  spa : A4xu8V
  tpa : A4xu8V
def ArpV.cells (x : ArpV) : List Value := [.int .i64 x.op] ++ (x.sha.cells ++ (x.tha.cells ++ (x.spa.cells ++ (x.tpa.cells ++ ([])))))
def ArpV.ok (g : G) (x : ArpV) : Prop := iok .i64 x.op ∧ x.sha.ok g ∧ x.tha.ok g ∧ x.spa.ok g ∧ x.tpa.ok g
def ArpV.zero : ArpV := ⟨0, AddrV.zero, AddrV.zero, A4xu8V.zero, A4xu8V.zero⟩
def ArpV.eq (x y : ArpV) : Bool := x.op == y.op && (x.sha.e0 == y.sha.e0 && (x.sha.e1 == y.sha.e1 && (x.sha.e2 == y.sha.e2 && (x.sha.e3 == y.sha.e3 && (x.sha.e4 == y.sha.e4 && (x.sha.e5 == y.sha.e5 && (x.tha.e0 == y.tha.e0 && (x.tha.e1 == y.tha.e1 && (x.tha.e2 == y.tha.e2 && (x.tha.e3 == y.tha.e3 && (x.tha.e4 == y.tha.e4 && (x.tha.e5 == y.tha.e5 && (x.spa.e0 == y.spa.e0 && (x.spa.e1 == y.spa.e1 && (x.spa.e2 == y.spa.e2 && (x.spa.e3 == y.spa.e3 && (x.tpa.e0 == y.tpa.e0 && (x.tpa.e1 == y.tpa.e1 && (x.tpa.e2 == y.tpa.e2 && (x.tpa.e3 == y.tpa.e3 && (true)))))))))))))))))))))
theorem ArpV.eq_refl (x : ArpV) : x.eq x = true := by simp [ArpV.eq]
def arpSh : Sh := (.fld 1 (.int .i64) (.fld 6 (Sh.rep (.int .u8) 1 6) (.fld 6 (Sh.rep (.int .u8) 1 6) (.fld 4 (Sh.rep (.int .u8) 1 4) (.fld 4 (Sh.rep (.int .u8) 1 4) .fin)))))
theorem arp_of {W : World} (c : List Value) (h : arpSh.holds W c) : ∃ x : ArpV, c = x.cells ∧ x.ok (gOf W) := by
  obtain ⟨c0, d0, rfl, -, h0, r0⟩ := h
  obtain ⟨c1, d1, rfl, -, h1, r1⟩ := r0
  obtain ⟨c2, d2, rfl, -, h2, r2⟩ := r1
  obtain ⟨c3, d3, rfl, -, h3, r3⟩ := r2
  obtain ⟨c4, d4, rfl, -, h4, r4⟩ := r3
  obtain rfl : d4 = [] := r4
  obtain ⟨n0, rfl, k0⟩ := h0
  obtain ⟨n1, rfl, k1⟩ := addr_of c1 h1
  obtain ⟨n2, rfl, k2⟩ := addr_of c2 h2
  obtain ⟨n3, rfl, k3⟩ := a4xu8_of c3 h3
  obtain ⟨n4, rfl, k4⟩ := a4xu8_of c4 h4
  exact ⟨⟨n0, n1, n2, n3, n4⟩, rfl, iok_of k0, k1, k2, k3, k4⟩

/-- switchyard/api.Bridge -/
structure BridgeV where
  prio : Int
  ext : Int
  addr : AddrV
def BridgeV.cells (x : BridgeV) : List Value := [.int .i64 x.prio] ++ ([.int .i64 x.ext] ++ (x.addr.cells ++ ([])))
def BridgeV.ok (g : G) (x : BridgeV) : Prop := iok .i64 x.prio ∧ iok .i64 x.ext ∧ x.addr.ok g
def BridgeV.zero : BridgeV := ⟨0, 0, AddrV.zero⟩
def BridgeV.eq (x y : BridgeV) : Bool := x.prio == y.prio && (x.ext == y.ext && (x.addr.e0 == y.addr.e0 && (x.addr.e1 == y.addr.e1 && (x.addr.e2 == y.addr.e2 && (x.addr.e3 == y.addr.e3 && (x.addr.e4 == y.addr.e4 && (x.addr.e5 == y.addr.e5 && (true))))))))
theorem BridgeV.eq_refl (x : BridgeV) : x.eq x = true := by simp [BridgeV.eq]
def bridgeSh : Sh := (.fld 1 (.int .i64) (.fld 1 (.int .i64) (.fld 6 (Sh.rep (.int .u8) 1 6) .fin)))
theorem bridge_of {W : World} (c : List Value) (h : bridgeSh.holds W c) : ∃ x : BridgeV, c = x.cells ∧ x.ok (gOf W) := by
  obtain ⟨c0, d0, rfl, -, h0, r0⟩ := h
  obtain ⟨c1, d1, rfl, -, h1, r1⟩ := r0
  obtain ⟨c2, d2, rfl, -, h2, r2⟩ := r1
  obtain rfl : d2 = [] := r2
  obtain ⟨n0, rfl, k0⟩ := h0
  obtain ⟨n1, rfl, k1⟩ := h1
  obtain ⟨n2, rfl, k2⟩ := addr_of c2 h2
  exact ⟨⟨n0, n1, n2⟩, rfl, iok_of k0, iok_of k1, k2⟩

/-- switchyard/api.Port -/
structure PortV where
  prio : Int
  no : Int
def PortV.cells (x : PortV) : List Value := [.int .i64 x.prio] ++ ([.int .i64 x.no] ++ ([]))
def PortV.ok (_ : G) (x : PortV) : Prop := iok .i64 x.prio ∧ iok .i64 x.no
def PortV.zero : PortV := ⟨0, 0⟩
def PortV.eq (x y : PortV) : Bool := x.prio == y.prio && (x.no == y.no && (true))
theorem PortV.eq_refl (x : PortV) : x.eq x = true := by simp [PortV.eq]
def portSh : Sh := (.fld 1 (.int .i64) (.fld 1 (.int .i64) .fin))
theorem port_of {W : World} (c : List Value) (h : portSh.holds W c) : ∃ x : PortV, c = x.cells ∧ x.ok (gOf W) := by
  obtain ⟨c0, d0, rfl, -, h0, r0⟩ := h
  obtain ⟨c1, d1, rfl, -, h1, r1⟩ := r0
  obtain rfl : d1 = [] := r1
  obtain ⟨n0, rfl, k0⟩ := h0
  obtain ⟨n1, rfl, k1⟩ := h1
  exact ⟨⟨n0, n1⟩, rfl, iok_of k0, iok_of k1⟩

/-- A8xi64 -/
structure A8xi64V where
  e0 : Int
  e1 : Int
  e2 : Int
  e3 : Int
  e4 : Int
  e5 : Int
  e6 : Int
  e7 : Int
def A8xi64V.cells (x : A8xi64V) : List Value := [.int .i64 x.e0] ++ ([.int .i64 x.e1] ++ ([.int .i64 x.e2] ++ ([.int .i64 x.e3] ++ ([.int .i64 x.e4] ++ ([.int .i64 x.e5] ++ ([.int .i64 x.e6] ++ ([.int .i64 x.e7] ++ ([]))))))))
def A8xi64V.ok (_ : G) (x : A8xi64V) : Prop := iok .i64 x.e0 ∧ iok .i64 x.e1 ∧ iok .i64 x.e2 ∧ iok .i64 x.e3 ∧ iok .i64 x.e4 ∧ iok .i64 x.e5 ∧ iok .i64 x.e6 ∧ iok .i64 x.e7
def A8xi64V.zero : A8xi64V := ⟨0, 0, 0, 0, 0, 0, 0, 0⟩
def A8xi64V.eq (x y : A8xi64V) : Bool := x.e0 == y.e0 && (x.e1 == y.e1 && (x.e2 == y.e2 && (x.e3 == y.e3 && (x.e4 == y.e4 && (x.e5 == y.e5 && (x.e6 == y.e6 && (x.e7 == y.e7 && (true))))))))
theorem A8xi64V.eq_refl (x : A8xi64V) : x.eq x = true := by simp [A8xi64V.eq]
def a8xi64Sh : Sh := (Sh.rep (.int .i64) 1 8)
theorem a8xi64_of {W : World} (c : List Value) (h : a8xi64Sh.holds W c) : ∃ x : A8xi64V, c = x.cells ∧ x.ok (gOf W) := by
  obtain ⟨c0, d0, rfl, -, h0, r0⟩ := h
  obtain ⟨c1, d1, rfl, -, h1, r1⟩ := r0
  obtain ⟨c2, d2, rfl, -, h2, r2⟩ := r1
  obtain ⟨c3, d3, rfl, -, h3, r3⟩ := r2
  obtain ⟨c4, d4, rfl, -, h4, r4⟩ := r3
  obtain ⟨c5, d5, rfl, -, h5, r5⟩ := r4
  obtain ⟨c6, d6, rfl, -, h6, r6⟩ := r5
  obtain ⟨c7, d7, rfl, -, h7, r7⟩ := r6
  obtain rfl : d7 = [] := r7
  obtain ⟨n0, rfl, k0⟩ := h0
  obtain ⟨n1, rfl, k1⟩ := h1
  obtain ⟨n2, rfl, k2⟩ := h2
  obtain ⟨n3, rfl, k3⟩ := h3
  obtain ⟨n4, rfl, k4⟩ := h4
  obtain ⟨n5, rfl, k5⟩ := h5
  obtain ⟨n6, rfl, k6⟩ := h6
  obtain ⟨n7, rfl, k7⟩ := h7
  exact ⟨⟨n0, n1, n2, n3, n4, n5, n6, n7⟩, rfl, iok_of k0, iok_of k1, iok_of k2, iok_of k3, iok_of k4, iok_of k5, iok_of k6, iok_of k7⟩

/-- switchyard/api.Pause -/
structure PauseV where
  pfc : Bool
  enable : Int
  times : A8xi64V
def PauseV.cells (x : PauseV) : List Value := [.bool x.pfc] ++ ([.int .i64 x.enable] ++ (x.times.cells ++ ([])))
def PauseV.ok (g : G) (x : PauseV) : Prop := iok .i64 x.enable ∧ x.times.ok g
def PauseV.zero : PauseV := ⟨false, 0, A8xi64V.zero⟩
def PauseV.eq (x y : PauseV) : Bool := x.pfc == y.pfc && (x.enable == y.enable && (x.times.e0 == y.times.e0 && (x.times.e1 == y.times.e1 && (x.times.e2 == y.times.e2 && (x.times.e3 == y.times.e3 && (x.times.e4 == y.times.e4 && (x.times.e5 == y.times.e5 && (x.times.e6 == y.times.e6 && (x.times.e7 == y.times.e7 && (true))))))))))
theorem PauseV.eq_refl (x : PauseV) : x.eq x = true := by simp [PauseV.eq]
def pauseSh : Sh := (.fld 1 .bool (.fld 1 (.int .i64) (.fld 8 (Sh.rep (.int .i64) 1 8) .fin)))
theorem pause_of {W : World} (c : List Value) (h : pauseSh.holds W c) : ∃ x : PauseV, c = x.cells ∧ x.ok (gOf W) := by
  obtain ⟨c0, d0, rfl, -, h0, r0⟩ := h
  obtain ⟨c1, d1, rfl, -, h1, r1⟩ := r0
  obtain ⟨c2, d2, rfl, -, h2, r2⟩ := r1
  obtain rfl : d2 = [] := r2
  obtain ⟨n0, rfl⟩ := h0
  obtain ⟨n1, rfl, k1⟩ := h1
  obtain ⟨n2, rfl, k2⟩ := a8xi64_of c2 h2
  exact ⟨⟨n0, n1, n2⟩, rfl, iok_of k1, k2⟩

/-- switchyard/switchyardref.Fault -/
structure FaultV where
  e : Int
  at_ : Int
def FaultV.cells (x : FaultV) : List Value := [.int .i64 x.e] ++ ([.int .i64 x.at_] ++ ([]))
def FaultV.ok (_ : G) (x : FaultV) : Prop := iok .i64 x.e ∧ iok .i64 x.at_
def FaultV.zero : FaultV := ⟨0, 0⟩
def FaultV.eq (x y : FaultV) : Bool := x.e == y.e && (x.at_ == y.at_ && (true))
theorem FaultV.eq_refl (x : FaultV) : x.eq x = true := by simp [FaultV.eq]
def faultSh : Sh := (.fld 1 (.int .i64) (.fld 1 (.int .i64) .fin))
theorem fault_of {W : World} (c : List Value) (h : faultSh.holds W c) : ∃ x : FaultV, c = x.cells ∧ x.ok (gOf W) := by
  obtain ⟨c0, d0, rfl, -, h0, r0⟩ := h
  obtain ⟨c1, d1, rfl, -, h1, r1⟩ := r0
  obtain rfl : d1 = [] := r1
  obtain ⟨n0, rfl, k0⟩ := h0
  obtain ⟨n1, rfl, k1⟩ := h1
  exact ⟨⟨n0, n1⟩, rfl, iok_of k0, iok_of k1⟩

/-- switchyard/api.Tlv -/
structure TlvV where
  type_ : Int
  text : ByteArray
def TlvV.cells (x : TlvV) : List Value := [.int .i64 x.type_] ++ ([.string x.text] ++ ([]))
def TlvV.ok (_ : G) (x : TlvV) : Prop := iok .i64 x.type_ ∧ sok x.text
def TlvV.zero : TlvV := ⟨0, ⟨#[]⟩⟩
def TlvV.eq (x y : TlvV) : Bool := x.type_ == y.type_ && (x.text.toList == y.text.toList && (true))
theorem TlvV.eq_refl (x : TlvV) : x.eq x = true := by simp [TlvV.eq]
def tlvSh : Sh := (.fld 1 (.int .i64) (.fld 1 .str .fin))
theorem tlv_of {W : World} (c : List Value) (h : tlvSh.holds W c) : ∃ x : TlvV, c = x.cells ∧ x.ok (gOf W) := by
  obtain ⟨c0, d0, rfl, -, h0, r0⟩ := h
  obtain ⟨c1, d1, rfl, -, h1, r1⟩ := r0
  obtain rfl : d1 = [] := r1
  obtain ⟨n0, rfl, k0⟩ := h0
  obtain ⟨n1, rfl, k1⟩ := h1
  exact ⟨⟨n0, n1⟩, rfl, iok_of k0, k1⟩

/-- switchyard/api.Span -/
structure SpanV where
  from_ : Int
  to : Int
  inst : Int
def SpanV.cells (x : SpanV) : List Value := [.int .i64 x.from_] ++ ([.int .i64 x.to] ++ ([.int .i64 x.inst] ++ ([])))
def SpanV.ok (_ : G) (x : SpanV) : Prop := iok .i64 x.from_ ∧ iok .i64 x.to ∧ iok .i64 x.inst
def SpanV.zero : SpanV := ⟨0, 0, 0⟩
def SpanV.eq (x y : SpanV) : Bool := x.from_ == y.from_ && (x.to == y.to && (x.inst == y.inst && (true)))
theorem SpanV.eq_refl (x : SpanV) : x.eq x = true := by simp [SpanV.eq]
def spanSh : Sh := (.fld 1 (.int .i64) (.fld 1 (.int .i64) (.fld 1 (.int .i64) .fin)))
theorem span_of {W : World} (c : List Value) (h : spanSh.holds W c) : ∃ x : SpanV, c = x.cells ∧ x.ok (gOf W) := by
  obtain ⟨c0, d0, rfl, -, h0, r0⟩ := h
  obtain ⟨c1, d1, rfl, -, h1, r1⟩ := r0
  obtain ⟨c2, d2, rfl, -, h2, r2⟩ := r1
  obtain rfl : d2 = [] := r2
  obtain ⟨n0, rfl, k0⟩ := h0
  obtain ⟨n1, rfl, k1⟩ := h1
  obtain ⟨n2, rfl, k2⟩ := h2
  exact ⟨⟨n0, n1, n2⟩, rfl, iok_of k0, iok_of k1, iok_of k2⟩

/-- switchyard/api.At -/
structure AtV where
  err : Int
  place : Int
def AtV.cells (x : AtV) : List Value := [.int .i64 x.err] ++ ([.int .i64 x.place] ++ ([]))
def AtV.ok (_ : G) (x : AtV) : Prop := iok .i64 x.err ∧ iok .i64 x.place
def AtV.zero : AtV := ⟨0, 0⟩
def AtV.eq (x y : AtV) : Bool := x.err == y.err && (x.place == y.place && (true))
theorem AtV.eq_refl (x : AtV) : x.eq x = true := by simp [AtV.eq]
def atSh : Sh := (.fld 1 (.int .i64) (.fld 1 (.int .i64) .fin))
theorem at_of {W : World} (c : List Value) (h : atSh.holds W c) : ∃ x : AtV, c = x.cells ∧ x.ok (gOf W) := by
  obtain ⟨c0, d0, rfl, -, h0, r0⟩ := h
  obtain ⟨c1, d1, rfl, -, h1, r1⟩ := r0
  obtain rfl : d1 = [] := r1
  obtain ⟨n0, rfl, k0⟩ := h0
  obtain ⟨n1, rfl, k1⟩ := h1
  exact ⟨⟨n0, n1⟩, rfl, iok_of k0, iok_of k1⟩
end Go.Proofs.YtfagdcpfebghoaaDoor
