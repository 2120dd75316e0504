/- The Go types of this seat's laws: cells, ranges, comparison, shapes. Conditions: none. -/
import Derived.Test.YtfianfpmnglfnaaDoorProg
import Derived.Test.YtfianfpmnglfnaaDoorBaseC
namespace Go.Proofs.YtfianfpmnglfnaaDoor
open Go.Sx
set_option maxRecDepth 100000
/-- switchyard/api.Name -/
structure NameV where
  sub : Int
  iD : ByteArray
def NameV.cells (x : NameV) : List Value := [.int .i64 x.sub] ++ ([.string x.iD] ++ ([]))
def NameV.ok (_ : G) (x : NameV) : Prop := iok .i64 x.sub ∧ sok x.iD
def NameV.zero : NameV := ⟨0, ⟨#[]⟩⟩
def NameV.eq (x y : NameV) : Bool := x.sub == y.sub && (x.iD.toList == y.iD.toList && (true))
theorem NameV.eq_refl (x : NameV) : x.eq x = true := by simp [NameV.eq]
def nameSh : Sh := (.fld 1 (.int .i64) (.fld 1 .str .fin))
theorem name_of {W : World} (c : List Value) (h : nameSh.holds W c) : ∃ x : NameV, c = x.cells ∧ x.ok (gOf W) := by
  obtain ⟨c0, d0, rfl, -, h0, r0⟩ := h
  obtain ⟨c1, d1, rfl, -, h1, r1⟩ := r0
  obtain rfl : d1 = [] := r1
  obtain ⟨n0, rfl, k0⟩ := h0
  obtain ⟨n1, rfl, k1⟩ := h1
  exact ⟨⟨n0, n1⟩, rfl, iok_of k0, k1⟩

/-- switchyard/api.Caps -/
structure CapsV where
  has : Int
  on_ : Int
def CapsV.cells (x : CapsV) : List Value := [.int .i64 x.has] ++ ([.int .i64 x.on_] ++ ([]))
def CapsV.ok (_ : G) (x : CapsV) : Prop := iok .i64 x.has ∧ iok .i64 x.on_
def CapsV.zero : CapsV := ⟨0, 0⟩
def CapsV.eq (x y : CapsV) : Bool := x.has == y.has && (x.on_ == y.on_ && (true))
theorem CapsV.eq_refl (x : CapsV) : x.eq x = true := by simp [CapsV.eq]
def capsSh : Sh := (.fld 1 (.int .i64) (.fld 1 (.int .i64) .fin))
theorem caps_of {W : World} (c : List Value) (h : capsSh.holds W c) : ∃ x : CapsV, c = x.cells ∧ x.ok (gOf W) := by
  obtain ⟨c0, d0, rfl, -, h0, r0⟩ := h
  obtain ⟨c1, d1, rfl, -, h1, r1⟩ := r0
  obtain rfl : d1 = [] := r1
  obtain ⟨n0, rfl, k0⟩ := h0
  obtain ⟨n1, rfl, k1⟩ := h1
  exact ⟨⟨n0, n1⟩, rfl, iok_of k0, iok_of k1⟩

/-- switchyard/api.Manage -/
structure ManageV where
  addr : NameV
  ifSub : Int
  if_ : Int
  oid : ByteArray
def ManageV.cells (x : ManageV) : List Value := x.addr.cells ++ ([.int .i64 x.ifSub] ++ ([.int .i64 x.if_] ++ ([.string x.oid] ++ ([]))))
def ManageV.ok (g : G) (x : ManageV) : Prop := x.addr.ok g ∧ iok .i64 x.ifSub ∧ iok .i64 x.if_ ∧ sok x.oid
def ManageV.zero : ManageV := ⟨NameV.zero, 0, 0, ⟨#[]⟩⟩
def ManageV.eq (x y : ManageV) : Bool := x.addr.sub == y.addr.sub && (x.addr.iD.toList == y.addr.iD.toList && (x.ifSub == y.ifSub && (x.if_ == y.if_ && (x.oid.toList == y.oid.toList && (true)))))
theorem ManageV.eq_refl (x : ManageV) : x.eq x = true := by simp [ManageV.eq]
def manageSh : Sh := (.fld 2 nameSh (.fld 1 (.int .i64) (.fld 1 (.int .i64) (.fld 1 .str .fin))))
theorem manage_of {W : World} (c : List Value) (h : manageSh.holds W c) : ∃ x : ManageV, c = x.cells ∧ x.ok (gOf W) := by
  obtain ⟨c0, d0, rfl, -, h0, r0⟩ := h
  obtain ⟨c1, d1, rfl, -, h1, r1⟩ := r0
  obtain ⟨c2, d2, rfl, -, h2, r2⟩ := r1
  obtain ⟨c3, d3, rfl, -, h3, r3⟩ := r2
  obtain rfl : d3 = [] := r3
  obtain ⟨n0, rfl, k0⟩ := name_of c0 h0
  obtain ⟨n1, rfl, k1⟩ := h1
  obtain ⟨n2, rfl, k2⟩ := h2
  obtain ⟨n3, rfl, k3⟩ := h3
  exact ⟨⟨n0, n1, n2, n3⟩, rfl, k0, iok_of k1, iok_of k2, k3⟩

/-- switchyard/api.Org -/
structure OrgV where
  oui : Int
  sub : Int
  info : ByteArray
def OrgV.cells (x : OrgV) : List Value := [.int .i64 x.oui] ++ ([.int .i64 x.sub] ++ ([.string x.info] ++ ([])))
def OrgV.ok (_ : G) (x : OrgV) : Prop := iok .i64 x.oui ∧ iok .i64 x.sub ∧ sok x.info
def OrgV.zero : OrgV := ⟨0, 0, ⟨#[]⟩⟩
def OrgV.eq (x y : OrgV) : Bool := x.oui == y.oui && (x.sub == y.sub && (x.info.toList == y.info.toList && (true)))
theorem OrgV.eq_refl (x : OrgV) : x.eq x = true := by simp [OrgV.eq]
def orgSh : Sh := (.fld 1 (.int .i64) (.fld 1 (.int .i64) (.fld 1 .str .fin)))
theorem org_of {W : World} (c : List Value) (h : orgSh.holds W c) : ∃ x : OrgV, c = x.cells ∧ x.ok (gOf W) := by
  obtain ⟨c0, d0, rfl, -, h0, r0⟩ := h
  obtain ⟨c1, d1, rfl, -, h1, r1⟩ := r0
  obtain ⟨c2, d2, rfl, -, h2, r2⟩ := r1
  obtain rfl : d2 = [] := r2
  obtain ⟨n0, rfl, k0⟩ := h0
  obtain ⟨n1, rfl, k1⟩ := h1
  obtain ⟨n2, rfl, k2⟩ := h2
  exact ⟨⟨n0, n1, n2⟩, rfl, iok_of k0, iok_of k1, k2⟩

/-- switchyard/api.Lldp -/
structure LldpV where
  chassis : NameV
  port : NameV
  ttl : Int
  desc : SliceV ByteArray
  host : SliceV ByteArray
  system : SliceV ByteArray
  caps : SliceV CapsV
  manage : SliceV ManageV
  orgs : SliceV OrgV
def LldpV.cells (x : LldpV) : List Value := x.chassis.cells ++ (x.port.cells ++ ([.int .i64 x.ttl] ++ (x.desc.cells ++ (x.host.cells ++ (x.system.cells ++ (x.caps.cells ++ (x.manage.cells ++ (x.orgs.cells ++ ([])))))))))
def LldpV.ok (g : G) (x : LldpV) : Prop := x.chassis.ok g ∧ x.port.ok g ∧ iok .i64 x.ttl ∧ x.desc.ok 1 strC sok g ∧ x.host.ok 1 strC sok g ∧ x.system.ok 1 strC sok g ∧ x.caps.ok 2 CapsV.cells (CapsV.ok g) g ∧ x.manage.ok 5 ManageV.cells (ManageV.ok g) g ∧ x.orgs.ok 3 OrgV.cells (OrgV.ok g) g
def LldpV.zero : LldpV := ⟨NameV.zero, NameV.zero, 0, ⟨none, [], 0⟩, ⟨none, [], 0⟩, ⟨none, [], 0⟩, ⟨none, [], 0⟩, ⟨none, [], 0⟩, ⟨none, [], 0⟩⟩
def lldpSh : Sh := (.fld 2 nameSh (.fld 2 nameSh (.fld 1 (.int .i64) (.fld 1 (.slice 1 .str) (.fld 1 (.slice 1 .str) (.fld 1 (.slice 1 .str) (.fld 1 (.slice 2 capsSh) (.fld 1 (.slice 5 manageSh) (.fld 1 (.slice 3 orgSh) .fin)))))))))
theorem lldp_of {W : World} (c : List Value) (h : lldpSh.holds W c) : ∃ x : LldpV, c = x.cells ∧ x.ok (gOf W) := by
  obtain ⟨c0, d0, rfl, -, h0, r0⟩ := h
  obtain ⟨c1, d1, rfl, -, h1, r1⟩ := r0
  obtain ⟨c2, d2, rfl, -, h2, r2⟩ := r1
  obtain ⟨c3, d3, rfl, -, h3, r3⟩ := r2
  obtain ⟨c4, d4, rfl, -, h4, r4⟩ := r3
  obtain ⟨c5, d5, rfl, -, h5, r5⟩ := r4
  obtain ⟨c6, d6, rfl, -, h6, r6⟩ := r5
  obtain ⟨c7, d7, rfl, -, h7, r7⟩ := r6
  obtain ⟨c8, d8, rfl, -, h8, r8⟩ := r7
  obtain rfl : d8 = [] := r8
  obtain ⟨n0, rfl, k0⟩ := name_of c0 h0
  obtain ⟨n1, rfl, k1⟩ := name_of c1 h1
  obtain ⟨n2, rfl, k2⟩ := h2
  obtain ⟨n3, rfl, k3⟩ := sliceV_of strC (fun _ => rfl) (by decide) sok (fun c _ hc => str_of hc) h3
  obtain ⟨n4, rfl, k4⟩ := sliceV_of strC (fun _ => rfl) (by decide) sok (fun c _ hc => str_of hc) h4
  obtain ⟨n5, rfl, k5⟩ := sliceV_of strC (fun _ => rfl) (by decide) sok (fun c _ hc => str_of hc) h5
  obtain ⟨n6, rfl, k6⟩ := sliceV_of CapsV.cells (fun _ => rfl) (by decide) (CapsV.ok (gOf W)) (fun c _ hc => caps_of c hc) h6
  obtain ⟨n7, rfl, k7⟩ := sliceV_of ManageV.cells (fun _ => rfl) (by decide) (ManageV.ok (gOf W)) (fun c _ hc => manage_of c hc) h7
  obtain ⟨n8, rfl, k8⟩ := sliceV_of OrgV.cells (fun _ => rfl) (by decide) (OrgV.ok (gOf W)) (fun c _ hc => org_of c hc) h8
  exact ⟨⟨n0, n1, n2, n3, n4, n5, n6, n7, n8⟩, rfl, k0, k1, iok_of k2, k3, k4, k5, k6, k7, k8⟩

/-- switchyard/switchyardref.Fault -/
structure FaultV where
  e : Int
  at_ : Int
def FaultV.cells (x : FaultV) : List Value := [.int .i64 x.e] ++ ([.int .i64 x.at_] ++ ([]))
def FaultV.ok (_ : G) (x : FaultV) : Prop := iok .i64 x.e ∧ iok .i64 x.at_
def FaultV.zero : FaultV := ⟨0, 0⟩
def FaultV.eq (x y : FaultV) : Bool := x.e == y.e && (x.at_ == y.at_ && (true))
theorem FaultV.eq_refl (x : FaultV) : x.eq x = true := by simp [FaultV.eq]
def faultSh : Sh := (.fld 1 (.int .i64) (.fld 1 (.int .i64) .fin))
theorem fault_of {W : World} (c : List Value) (h : faultSh.holds W c) : ∃ x : FaultV, c = x.cells ∧ x.ok (gOf W) := by
  obtain ⟨c0, d0, rfl, -, h0, r0⟩ := h
  obtain ⟨c1, d1, rfl, -, h1, r1⟩ := r0
  obtain rfl : d1 = [] := r1
  obtain ⟨n0, rfl, k0⟩ := h0
  obtain ⟨n1, rfl, k1⟩ := h1
  exact ⟨⟨n0, n1⟩, rfl, iok_of k0, iok_of k1⟩

/-- switchyard/api.Addr -/
structure AddrV where
  e0 : Int
  e1 : Int
  e2 : Int
  e3 : Int
  e4 : Int
  e5 : Int
def AddrV.cells (x : AddrV) : List Value := [.int .u8 x.e0] ++ ([.int .u8 x.e1] ++ ([.int .u8 x.e2] ++ ([.int .u8 x.e3] ++ ([.int .u8 x.e4] ++ ([.int .u8 x.e5] ++ ([]))))))
def AddrV.ok (_ : G) (x : AddrV) : Prop := iok .u8 x.e0 ∧ iok .u8 x.e1 ∧ iok .u8 x.e2 ∧ iok .u8 x.e3 ∧ iok .u8 x.e4 ∧ iok .u8 x.e5
def AddrV.zero : AddrV := ⟨0, 0, 0, 0, 0, 0⟩
def AddrV.eq (x y : AddrV) : Bool := x.e0 == y.e0 && (x.e1 == y.e1 && (x.e2 == y.e2 && (x.e3 == y.e3 && (x.e4 == y.e4 && (x.e5 == y.e5 && (true))))))
theorem AddrV.eq_refl (x : AddrV) : x.eq x = true := by simp [AddrV.eq]
def addrSh : Sh := (Sh.rep (.int .u8) 1 6)
theorem addr_of {W : World} (c : List Value) (h : addrSh.holds W c) : ∃ x : AddrV, c = x.cells ∧ x.ok (gOf W) := by
  obtain ⟨c0, d0, rfl, -, h0, r0⟩ := h
  obtain ⟨c1, d1, rfl, -, h1, r1⟩ := r0
  obtain ⟨c2, d2, rfl, -, h2, r2⟩ := r1
  obtain ⟨c3, d3, rfl, -, h3, r3⟩ := r2
  obtain ⟨c4, d4, rfl, -, h4, r4⟩ := r3
  obtain ⟨c5, d5, rfl, -, h5, r5⟩ := r4
  obtain rfl : d5 = [] := r5
  obtain ⟨n0, rfl, k0⟩ := h0
  obtain ⟨n1, rfl, k1⟩ := h1
  obtain ⟨n2, rfl, k2⟩ := h2
  obtain ⟨n3, rfl, k3⟩ := h3
  obtain ⟨n4, rfl, k4⟩ := h4
  obtain ⟨n5, rfl, k5⟩ := h5
  exact ⟨⟨n0, n1, n2, n3, n4, n5⟩, rfl, iok_of k0, iok_of k1, iok_of k2, iok_of k3, iok_of k4, iok_of k5⟩

/-- switchyard/api.Flags -/
structure FlagsV where
  change : Bool
  proposal : Bool
  role : Int
  learn : Bool
  pass : Bool
  agree : Bool
  ack : Bool
def FlagsV.cells (x : FlagsV) : List Value := [.bool x.change] ++ ([.bool x.proposal] ++ ([.int .i64 x.role] ++ ([.bool x.learn] ++ ([.bool x.pass] ++ ([.bool x.agree] ++ ([.bool x.ack] ++ ([])))))))
def FlagsV.ok (_ : G) (x : FlagsV) : Prop := iok .i64 x.role
def FlagsV.zero : FlagsV := ⟨false, false, 0, false, false, false, false⟩
def FlagsV.eq (x y : FlagsV) : Bool := x.change == y.change && (x.proposal == y.proposal && (x.role == y.role && (x.learn == y.learn && (x.pass == y.pass && (x.agree == y.agree && (x.ack == y.ack && (true)))))))
theorem FlagsV.eq_refl (x : FlagsV) : x.eq x = true := by simp [FlagsV.eq]
def flagsSh : Sh := (.fld 1 .bool (.fld 1 .bool (.fld 1 (.int .i64) (.fld 1 .bool (.fld 1 .bool (.fld 1 .bool (.fld 1 .bool .fin)))))))
theorem flags_of {W : World} (c : List Value) (h : flagsSh.holds W c) : ∃ x : FlagsV, c = x.cells ∧ x.ok (gOf W) := by
  obtain ⟨c0, d0, rfl, -, h0, r0⟩ := h
  obtain ⟨c1, d1, rfl, -, h1, r1⟩ := r0
  obtain ⟨c2, d2, rfl, -, h2, r2⟩ := r1
  obtain ⟨c3, d3, rfl, -, h3, r3⟩ := r2
  obtain ⟨c4, d4, rfl, -, h4, r4⟩ := r3
  obtain ⟨c5, d5, rfl, -, h5, r5⟩ := r4
  obtain ⟨c6, d6, rfl, -, h6, r6⟩ := r5
  obtain rfl : d6 = [] := r6
  obtain ⟨n0, rfl⟩ := h0
  obtain ⟨n1, rfl⟩ := h1
  obtain ⟨n2, rfl, k2⟩ := h2
  obtain ⟨n3, rfl⟩ := h3
  obtain ⟨n4, rfl⟩ := h4
  obtain ⟨n5, rfl⟩ := h5
  obtain ⟨n6, rfl⟩ := h6
  exact ⟨⟨n0, n1, n2, n3, n4, n5, n6⟩, rfl, iok_of k2⟩

/-- switchyard/api.Bridge -/
structure BridgeV where
  prio : Int
  ext : Int
  addr : AddrV
def BridgeV.cells (x : BridgeV) : List Value := [.int .i64 x.prio] ++ ([.int .i64 x.ext] ++ (x.addr.cells ++ ([])))
def BridgeV.ok (g : G) (x : BridgeV) : Prop := iok .i64 x.prio ∧ iok .i64 x.ext ∧ x.addr.ok g
def BridgeV.zero : BridgeV := ⟨0, 0, AddrV.zero⟩
def BridgeV.eq (x y : BridgeV) : Bool := x.prio == y.prio && (x.ext == y.ext && (x.addr.e0 == y.addr.e0 && (x.addr.e1 == y.addr.e1 && (x.addr.e2 == y.addr.e2 && (x.addr.e3 == y.addr.e3 && (x.addr.e4 == y.addr.e4 && (x.addr.e5 == y.addr.e5 && (true))))))))
theorem BridgeV.eq_refl (x : BridgeV) : x.eq x = true := by simp [BridgeV.eq]
def bridgeSh : Sh := (.fld 1 (.int .i64) (.fld 1 (.int .i64) (.fld 6 (Sh.rep (.int .u8) 1 6) .fin)))
theorem bridge_of {W : World} (c : List Value) (h : bridgeSh.holds W c) : ∃ x : BridgeV, c = x.cells ∧ x.ok (gOf W) := by
  obtain ⟨c0, d0, rfl, -, h0, r0⟩ := h
  obtain ⟨c1, d1, rfl, -, h1, r1⟩ := r0
  obtain ⟨c2, d2, rfl, -, h2, r2⟩ := r1
  obtain rfl : d2 = [] := r2
  obtain ⟨n0, rfl, k0⟩ := h0
  obtain ⟨n1, rfl, k1⟩ := h1
  obtain ⟨n2, rfl, k2⟩ := addr_of c2 h2
  exact ⟨⟨n0, n1, n2⟩, rfl, iok_of k0, iok_of k1, k2⟩

/-- switchyard/api.Port -/
structure PortV where
  prio : Int
  no : Int
def PortV.cells (x : PortV) : List Value := [.int .i64 x.prio] ++ ([.int .i64 x.no] ++ ([]))
def PortV.ok (_ : G) (x : PortV) : Prop := iok .i64 x.prio ∧ iok .i64 x.no
def PortV.zero : PortV := ⟨0, 0⟩
def PortV.eq (x y : PortV) : Bool := x.prio == y.prio && (x.no == y.no && (true))
theorem PortV.eq_refl (x : PortV) : x.eq x = true := by simp [PortV.eq]
def portSh : Sh := (.fld 1 (.int .i64) (.fld 1 (.int .i64) .fin))
theorem port_of {W : World} (c : List Value) (h : portSh.holds W c) : ∃ x : PortV, c = x.cells ∧ x.ok (gOf W) := by
  obtain ⟨c0, d0, rfl, -, h0, r0⟩ := h
  obtain ⟨c1, d1, rfl, -, h1, r1⟩ := r0
  obtain rfl : d1 = [] := r1
  obtain ⟨n0, rfl, k0⟩ := h0
  obtain ⟨n1, rfl, k1⟩ := h1
  exact ⟨⟨n0, n1⟩, rfl, iok_of k0, iok_of k1⟩

/-- switchyard/api.Tag -/
structure TagV where
  s : Bool
  pcp : Int
  dei : Bool
  vid : Int
def TagV.cells (x : TagV) : List Value := [.bool x.s] ++ ([.int .i64 x.pcp] ++ ([.bool x.dei] ++ ([.int .i64 x.vid] ++ ([]))))
def TagV.ok (_ : G) (x : TagV) : Prop := iok .i64 x.pcp ∧ iok .i64 x.vid
def TagV.zero : TagV := ⟨false, 0, false, 0⟩
def TagV.eq (x y : TagV) : Bool := x.s == y.s && (x.pcp == y.pcp && (x.dei == y.dei && (x.vid == y.vid && (true))))
theorem TagV.eq_refl (x : TagV) : x.eq x = true := by simp [TagV.eq]
def tagSh : Sh := (.fld 1 .bool (.fld 1 (.int .i64) (.fld 1 .bool (.fld 1 (.int .i64) .fin))))
theorem tag_of {W : World} (c : List Value) (h : tagSh.holds W c) : ∃ x : TagV, c = x.cells ∧ x.ok (gOf W) := by
  obtain ⟨c0, d0, rfl, -, h0, r0⟩ := h
  obtain ⟨c1, d1, rfl, -, h1, r1⟩ := r0
  obtain ⟨c2, d2, rfl, -, h2, r2⟩ := r1
  obtain ⟨c3, d3, rfl, -, h3, r3⟩ := r2
  obtain rfl : d3 = [] := r3
  obtain ⟨n0, rfl⟩ := h0
  obtain ⟨n1, rfl, k1⟩ := h1
  obtain ⟨n2, rfl⟩ := h2
  obtain ⟨n3, rfl, k3⟩ := h3
  exact ⟨⟨n0, n1, n2, n3⟩, rfl, iok_of k1, iok_of k3⟩

/-- switchyard/api.Frame -/
structure FrameV where
  dst : AddrV
  src : AddrV
  tags : SliceV TagV
  kind : Int
  type_ : Int
  dsap : Int
  ssap : Int
  ctl : Int
  oui : Int
  pid : Int
  body : ByteArray
def FrameV.cells (x : FrameV) : List Value := x.dst.cells ++ (x.src.cells ++ (x.tags.cells ++ ([.int .i64 x.kind] ++ ([.int .i64 x.type_] ++ ([.int .i64 x.dsap] ++ ([.int .i64 x.ssap] ++ ([.int .i64 x.ctl] ++ ([.int .i64 x.oui] ++ ([.int .i64 x.pid] ++ ([.string x.body] ++ ([])))))))))))
def FrameV.ok (g : G) (x : FrameV) : Prop := x.dst.ok g ∧ x.src.ok g ∧ x.tags.ok 4 TagV.cells (TagV.ok g) g ∧ iok .i64 x.kind ∧ iok .i64 x.type_ ∧ iok .i64 x.dsap ∧ iok .i64 x.ssap ∧ iok .i64 x.ctl ∧ iok .i64 x.oui ∧ iok .i64 x.pid ∧ sok x.body
def FrameV.zero : FrameV := ⟨AddrV.zero, AddrV.zero, ⟨none, [], 0⟩, 0, 0, 0, 0, 0, 0, 0, ⟨#[]⟩⟩
def frameSh : Sh := (.fld 6 (Sh.rep (.int .u8) 1 6) (.fld 6 (Sh.rep (.int .u8) 1 6) (.fld 1 (.slice 4 tagSh) (.fld 1 (.int .i64) (.fld 1 (.int .i64) (.fld 1 (.int .i64) (.fld 1 (.int .i64) (.fld 1 (.int .i64) (.fld 1 (.int .i64) (.fld 1 (.int .i64) (.fld 1 .str .fin)))))))))))
theorem frame_of {W : World} (c : List Value) (h : frameSh.holds W c) : ∃ x : FrameV, c = x.cells ∧ x.ok (gOf W) := by
  obtain ⟨c0, d0, rfl, -, h0, r0⟩ := h
  obtain ⟨c1, d1, rfl, -, h1, r1⟩ := r0
  obtain ⟨c2, d2, rfl, -, h2, r2⟩ := r1
  obtain ⟨c3, d3, rfl, -, h3, r3⟩ := r2
  obtain ⟨c4, d4, rfl, -, h4, r4⟩ := r3
  obtain ⟨c5, d5, rfl, -, h5, r5⟩ := r4
  obtain ⟨c6, d6, rfl, -, h6, r6⟩ := r5
  obtain ⟨c7, d7, rfl, -, h7, r7⟩ := r6
  obtain ⟨c8, d8, rfl, -, h8, r8⟩ := r7
  obtain ⟨c9, d9, rfl, -, h9, r9⟩ := r8
  obtain ⟨c10, d10, rfl, -, h10, r10⟩ := r9
  obtain rfl : d10 = [] := r10
  obtain ⟨n0, rfl, k0⟩ := addr_of c0 h0
  obtain ⟨n1, rfl, k1⟩ := addr_of c1 h1
  obtain ⟨n2, rfl, k2⟩ := sliceV_of TagV.cells (fun _ => rfl) (by decide) (TagV.ok (gOf W)) (fun c _ hc => tag_of c hc) h2
  obtain ⟨n3, rfl, k3⟩ := h3
  obtain ⟨n4, rfl, k4⟩ := h4
  obtain ⟨n5, rfl, k5⟩ := h5
  obtain ⟨n6, rfl, k6⟩ := h6
  obtain ⟨n7, rfl, k7⟩ := h7
  obtain ⟨n8, rfl, k8⟩ := h8
  obtain ⟨n9, rfl, k9⟩ := h9
  obtain ⟨n10, rfl, k10⟩ := h10
  exact ⟨⟨n0, n1, n2, n3, n4, n5, n6, n7, n8, n9, n10⟩, rfl, k0, k1, k2, iok_of k3, iok_of k4, iok_of k5, iok_of k6, iok_of k7, iok_of k8, iok_of k9, k10⟩

/-- A4xu8 -/
structure A4xu8V where
  e0 : Int
  e1 : Int
  e2 : Int
  e3 : Int
def A4xu8V.cells (x : A4xu8V) : List Value := [.int .u8 x.e0] ++ ([.int .u8 x.e1] ++ ([.int .u8 x.e2] ++ ([.int .u8 x.e3] ++ ([]))))
def A4xu8V.ok (_ : G) (x : A4xu8V) : Prop := iok .u8 x.e0 ∧ iok .u8 x.e1 ∧ iok .u8 x.e2 ∧ iok .u8 x.e3
def A4xu8V.zero : A4xu8V := ⟨0, 0, 0, 0⟩
def A4xu8V.eq (x y : A4xu8V) : Bool := x.e0 == y.e0 && (x.e1 == y.e1 && (x.e2 == y.e2 && (x.e3 == y.e3 && (true))))
theorem A4xu8V.eq_refl (x : A4xu8V) : x.eq x = true := by simp [A4xu8V.eq]
def a4xu8Sh : Sh := (Sh.rep (.int .u8) 1 4)
theorem a4xu8_of {W : World} (c : List Value) (h : a4xu8Sh.holds W c) : ∃ x : A4xu8V, c = x.cells ∧ x.ok (gOf W) := by
  obtain ⟨c0, d0, rfl, -, h0, r0⟩ := h
  obtain ⟨c1, d1, rfl, -, h1, r1⟩ := r0
  obtain ⟨c2, d2, rfl, -, h2, r2⟩ := r1
  obtain ⟨c3, d3, rfl, -, h3, r3⟩ := r2
  obtain rfl : d3 = [] := r3
  obtain ⟨n0, rfl, k0⟩ := h0
  obtain ⟨n1, rfl, k1⟩ := h1
  obtain ⟨n2, rfl, k2⟩ := h2
  obtain ⟨n3, rfl, k3⟩ := h3
  exact ⟨⟨n0, n1, n2, n3⟩, rfl, iok_of k0, iok_of k1, iok_of k2, iok_of k3⟩

/-- switchyard/api.Arp -/
structure ArpV where
  op : Int
  sha : AddrV
  tha : AddrV
  spa : A4xu8V
  tpa : A4xu8V
def ArpV.cells (x : ArpV) : List Value := [.int .i64 x.op] ++ (x.sha.cells ++ (x.tha.cells ++ (x.spa.cells ++ (x.tpa.cells ++ ([])))))
def ArpV.ok (g : G) (x : ArpV) : Prop := iok .i64 x.op ∧ x.sha.ok g ∧ x.tha.ok g ∧ x.spa.ok g ∧ x.tpa.ok g
def ArpV.zero : ArpV := ⟨0, AddrV.zero, AddrV.zero, A4xu8V.zero, A4xu8V.zero⟩
def ArpV.eq (x y : ArpV) : Bool := x.op == y.op && (x.sha.e0 == y.sha.e0 && (x.sha.e1 == y.sha.e1 && (x.sha.e2 == y.sha.e2 && (x.sha.e3 == y.sha.e3 && (x.sha.e4 == y.sha.e4 && (x.sha.e5 == y.sha.e5 && (x.tha.e0 == y.tha.e0 && (x.tha.e1 == y.tha.e1 && (x.tha.e2 == y.tha.e2 && (x.tha.e3 == y.tha.e3 && (x.tha.e4 == y.tha.e4 && (x.tha.e5 == y.tha.e5 && (x.spa.e0 == y.spa.e0 && (x.spa.e1 == y.spa.e1 && (x.spa.e2 == y.spa.e2 && (x.spa.e3 == y.spa.e3 && (x.tpa.e0 == y.tpa.e0 && (x.tpa.e1 == y.tpa.e1 && (x.tpa.e2 == y.tpa.e2 && (x.tpa.e3 == y.tpa.e3 && (true)))))))))))))))))))))
theorem ArpV.eq_refl (x : ArpV) : x.eq x = true := by simp [ArpV.eq]
def arpSh : Sh := (.fld 1 (.int .i64) (.fld 6 (Sh.rep (.int .u8) 1 6) (.fld 6 (Sh.rep (.int .u8) 1 6) (.fld 4 (Sh.rep (.int .u8) 1 4) (.fld 4 (Sh.rep (.int .u8) 1 4) .fin)))))
theorem arp_of {W : World} (c : List Value) (h : arpSh.holds W c) : ∃ x : ArpV, c = x.cells ∧ x.ok (gOf W) := by
  obtain ⟨c0, d0, rfl, -, h0, r0⟩ := h
  obtain ⟨c1, d1, rfl, -, h1, r1⟩ := r0
  obtain ⟨c2, d2, rfl, -, h2, r2⟩ := r1
  obtain ⟨c3, d3, rfl, -, h3, r3⟩ := r2
  obtain ⟨c4, d4, rfl, -, h4, r4⟩ := r3
  obtain rfl : d4 = [] := r4
  obtain ⟨n0, rfl, k0⟩ := h0
  obtain ⟨n1, rfl, k1⟩ := addr_of c1 h1
  obtain ⟨n2, rfl, k2⟩ := addr_of c2 h2
  obtain ⟨n3, rfl, k3⟩ := a4xu8_of c3 h3
  obtain ⟨n4, rfl, k4⟩ := a4xu8_of c4 h4
  exact ⟨⟨n0, n1, n2, n3, n4⟩, rfl, iok_of k0, k1, k2, k3, k4⟩

/-- A8xi64 -/
structure A8xi64V where
  e0 : Int
  e1 : Int
  e2 : Int
  e3 : Int
  e4 : Int
  e5 : Int
  e6 : Int
  e7 : Int
def A8xi64V.cells (x : A8xi64V) : List Value := [.int .i64 x.e0] ++ ([.int .i64 x.e1] ++ ([.int .i64 x.e2] ++ ([.int .i64 x.e3] ++ ([.int .i64 x.e4] ++ ([.int .i64 x.e5] ++ ([.int .i64 x.e6] ++ ([.int .i64 x.e7] ++ ([]))))))))
def A8xi64V.ok (_ : G) (x : A8xi64V) : Prop := iok .i64 x.e0 ∧ iok .i64 x.e1 ∧ iok .i64 x.e2 ∧ iok .i64 x.e3 ∧ iok .i64 x.e4 ∧ iok .i64 x.e5 ∧ iok .i64 x.e6 ∧ iok .i64 x.e7
def A8xi64V.zero : A8xi64V := ⟨0, 0, 0, 0, 0, 0, 0, 0⟩
def A8xi64V.eq (x y : A8xi64V) : Bool := x.e0 == y.e0 && (x.e1 == y.e1 && (x.e2 == y.e2 && (x.e3 == y.e3 && (x.e4 == y.e4 && (x.e5 == y.e5 && (x.e6 == y.e6 && (x.e7 == y.e7 && (true))))))))
theorem A8xi64V.eq_refl (x : A8xi64V) : x.eq x = true := by simp [A8xi64V.eq]
def a8xi64Sh : Sh := (Sh.rep (.int .i64) 1 8)
theorem a8xi64_of {W : World} (c : List Value) (h : a8xi64Sh.holds W c) : ∃ x : A8xi64V, c = x.cells ∧ x.ok (gOf W) := by
  obtain ⟨c0, d0, rfl, -, h0, r0⟩ := h
  obtain ⟨c1, d1, rfl, -, h1, r1⟩ := r0
  obtain ⟨c2, d2, rfl, -, h2, r2⟩ := r1
  obtain ⟨c3, d3, rfl, -, h3, r3⟩ := r2
  obtain ⟨c4, d4, rfl, -, h4, r4⟩ := r3
  obtain ⟨c5, d5, rfl, -, h5, r5⟩ := r4
  obtain ⟨c6, d6, rfl, -, h6, r6⟩ := r5
  obtain ⟨c7, d7, rfl, -, h7, r7⟩ := r6
  obtain rfl : d7 = [] := r7
  obtain ⟨n0, rfl, k0⟩ := h0
  obtain ⟨n1, rfl, k1⟩ := h1
  obtain ⟨n2, rfl, k2⟩ := h2
  obtain ⟨n3, rfl, k3⟩ := h3
  obtain ⟨n4, rfl, k4⟩ := h4
  obtain ⟨n5, rfl, k5⟩ := h5
  obtain ⟨n6, rfl, k6⟩ := h6
  obtain ⟨n7, rfl, k7⟩ := h7
  exact ⟨⟨n0, n1, n2, n3, n4, n5, n6, n7⟩, rfl, iok_of k0, iok_of k1, iok_of k2, iok_of k3, iok_of k4, iok_of k5, iok_of k6, iok_of k7⟩

/-- switchyard/api.Pause -/
structure PauseV where
  pfc : Bool
  enable : Int
  times : A8xi64V
def PauseV.cells (x : PauseV) : List Value := [.bool x.pfc] ++ ([.int .i64 x.enable] ++ (x.times.cells ++ ([])))
def PauseV.ok (g : G) (x : PauseV) : Prop := iok .i64 x.enable ∧ x.times.ok g
def PauseV.zero : PauseV := ⟨false, 0, A8xi64V.zero⟩
def PauseV.eq (x y : PauseV) : Bool := x.pfc == y.pfc && (x.enable == y.enable && (x.times.e0 == y.times.e0 && (x.times.e1 == y.times.e1 && (x.times.e2 == y.times.e2 && (x.times.e3 == y.times.e3 && (x.times.e4 == y.times.e4 && (x.times.e5 == y.times.e5 && (x.times.e6 == y.times.e6 && (x.times.e7 == y.times.e7 && (true))))))))))
theorem PauseV.eq_refl (x : PauseV) : x.eq x = true := by simp [PauseV.eq]
def pauseSh : Sh := (.fld 1 .bool (.fld 1 (.int .i64) (.fld 8 (Sh.rep (.int .i64) 1 8) .fin)))
theorem pause_of {W : World} (c : List Value) (h : pauseSh.holds W c) : ∃ x : PauseV, c = x.cells ∧ x.ok (gOf W) := by
  obtain ⟨c0, d0, rfl, -, h0, r0⟩ := h
  obtain ⟨c1, d1, rfl, -, h1, r1⟩ := r0
  obtain ⟨c2, d2, rfl, -, h2, r2⟩ := r1
  obtain rfl : d2 = [] := r2
  obtain ⟨n0, rfl⟩ := h0
  obtain ⟨n1, rfl, k1⟩ := h1
  obtain ⟨n2, rfl, k2⟩ := a8xi64_of c2 h2
  exact ⟨⟨n0, n1, n2⟩, rfl, iok_of k1, k2⟩

/-- switchyard/api.Bpdu -/
structure BpduV where
  kind : Int
  flags : FlagsV
  root : BridgeV
  cost : Int
  sender : BridgeV
  port : PortV
  age : Int
  max : Int
  hello : Int
  wait : Int
def BpduV.cells (x : BpduV) : List Value := [.int .i64 x.kind] ++ (x.flags.cells ++ (x.root.cells ++ ([.int .i64 x.cost] ++ (x.sender.cells ++ (x.port.cells ++ ([.int .i64 x.age] ++ ([.int .i64 x.max] ++ ([.int .i64 x.hello] ++ ([.int .i64 x.wait] ++ ([]))))))))))
def BpduV.ok (g : G) (x : BpduV) : Prop := iok .i64 x.kind ∧ x.flags.ok g ∧ x.root.ok g ∧ iok .i64 x.cost ∧ x.sender.ok g ∧ x.port.ok g ∧ iok .i64 x.age ∧ iok .i64 x.max ∧ iok .i64 x.hello ∧ iok .i64 x.wait
def BpduV.zero : BpduV := ⟨0, FlagsV.zero, BridgeV.zero, 0, BridgeV.zero, PortV.zero, 0, 0, 0, 0⟩
def BpduV.eq (x y : BpduV) : Bool := x.kind == y.kind && (x.flags.change == y.flags.change && (x.flags.proposal == y.flags.proposal && (x.flags.role == y.flags.role && (x.flags.learn == y.flags.learn && (x.flags.pass == y.flags.pass && (x.flags.agree == y.flags.agree && (x.flags.ack == y.flags.ack && (x.root.prio == y.root.prio && (x.root.ext == y.root.ext && (x.root.addr.e0 == y.root.addr.e0 && (x.root.addr.e1 == y.root.addr.e1 && (x.root.addr.e2 == y.root.addr.e2 && (x.root.addr.e3 == y.root.addr.e3 && (x.root.addr.e4 == y.root.addr.e4 && (x.root.addr.e5 == y.root.addr.e5 && (x.cost == y.cost && (x.sender.prio == y.sender.prio && (x.sender.ext == y.sender.ext && (x.sender.addr.e0 == y.sender.addr.e0 && (x.sender.addr.e1 == y.sender.addr.e1 && (x.sender.addr.e2 == y.sender.addr.e2 && (x.sender.addr.e3 == y.sender.addr.e3 && (x.sender.addr.e4 == y.sender.addr.e4 && (x.sender.addr.e5 == y.sender.addr.e5 && (x.port.prio == y.port.prio && (x.port.no == y.port.no && (x.age == y.age && (x.max == y.max && (x.hello == y.hello && (x.wait == y.wait && (true)))))))))))))))))))))))))))))))
theorem BpduV.eq_refl (x : BpduV) : x.eq x = true := by simp [BpduV.eq]
def bpduSh : Sh := (.fld 1 (.int .i64) (.fld 7 flagsSh (.fld 8 bridgeSh (.fld 1 (.int .i64) (.fld 8 bridgeSh (.fld 2 portSh (.fld 1 (.int .i64) (.fld 1 (.int .i64) (.fld 1 (.int .i64) (.fld 1 (.int .i64) .fin))))))))))
theorem bpdu_of {W : World} (c : List Value) (h : bpduSh.holds W c) : ∃ x : BpduV, c = x.cells ∧ x.ok (gOf W) := by
  obtain ⟨c0, d0, rfl, -, h0, r0⟩ := h
  obtain ⟨c1, d1, rfl, -, h1, r1⟩ := r0
  obtain ⟨c2, d2, rfl, -, h2, r2⟩ := r1
  obtain ⟨c3, d3, rfl, -, h3, r3⟩ := r2
  obtain ⟨c4, d4, rfl, -, h4, r4⟩ := r3
  obtain ⟨c5, d5, rfl, -, h5, r5⟩ := r4
  obtain ⟨c6, d6, rfl, -, h6, r6⟩ := r5
  obtain ⟨c7, d7, rfl, -, h7, r7⟩ := r6
  obtain ⟨c8, d8, rfl, -, h8, r8⟩ := r7
  obtain ⟨c9, d9, rfl, -, h9, r9⟩ := r8
  obtain rfl : d9 = [] := r9
  obtain ⟨n0, rfl, k0⟩ := h0
  obtain ⟨n1, rfl, k1⟩ := flags_of c1 h1
  obtain ⟨n2, rfl, k2⟩ := bridge_of c2 h2
  obtain ⟨n3, rfl, k3⟩ := h3
  obtain ⟨n4, rfl, k4⟩ := bridge_of c4 h4
  obtain ⟨n5, rfl, k5⟩ := port_of c5 h5
  obtain ⟨n6, rfl, k6⟩ := h6
  obtain ⟨n7, rfl, k7⟩ := h7
  obtain ⟨n8, rfl, k8⟩ := h8
  obtain ⟨n9, rfl, k9⟩ := h9
  exact ⟨⟨n0, n1, n2, n3, n4, n5, n6, n7, n8, n9⟩, rfl, iok_of k0, k1, k2, iok_of k3, k4, k5, iok_of k6, iok_of k7, iok_of k8, iok_of k9⟩

/-- switchyard/api.Inst -/
structure InstV where
  flags : FlagsV
  root : BridgeV
  cost : Int
  bridge : Int
  port : Int
  hops : Int
def InstV.cells (x : InstV) : List Value := x.flags.cells ++ (x.root.cells ++ ([.int .i64 x.cost] ++ ([.int .i64 x.bridge] ++ ([.int .i64 x.port] ++ ([.int .i64 x.hops] ++ ([]))))))
def InstV.ok (g : G) (x : InstV) : Prop := x.flags.ok g ∧ x.root.ok g ∧ iok .i64 x.cost ∧ iok .i64 x.bridge ∧ iok .i64 x.port ∧ iok .i64 x.hops
def InstV.zero : InstV := ⟨FlagsV.zero, BridgeV.zero, 0, 0, 0, 0⟩
def InstV.eq (x y : InstV) : Bool := x.flags.change == y.flags.change && (x.flags.proposal == y.flags.proposal && (x.flags.role == y.flags.role && (x.flags.learn == y.flags.learn && (x.flags.pass == y.flags.pass && (x.flags.agree == y.flags.agree && (x.flags.ack == y.flags.ack && (x.root.prio == y.root.prio && (x.root.ext == y.root.ext && (x.root.addr.e0 == y.root.addr.e0 && (x.root.addr.e1 == y.root.addr.e1 && (x.root.addr.e2 == y.root.addr.e2 && (x.root.addr.e3 == y.root.addr.e3 && (x.root.addr.e4 == y.root.addr.e4 && (x.root.addr.e5 == y.root.addr.e5 && (x.cost == y.cost && (x.bridge == y.bridge && (x.port == y.port && (x.hops == y.hops && (true)))))))))))))))))))
theorem InstV.eq_refl (x : InstV) : x.eq x = true := by simp [InstV.eq]
def instSh : Sh := (.fld 7 flagsSh (.fld 8 bridgeSh (.fld 1 (.int .i64) (.fld 1 (.int .i64) (.fld 1 (.int .i64) (.fld 1 (.int .i64) .fin))))))
theorem inst_of {W : World} (c : List Value) (h : instSh.holds W c) : ∃ x : InstV, c = x.cells ∧ x.ok (gOf W) := by
  obtain ⟨c0, d0, rfl, -, h0, r0⟩ := h
  obtain ⟨c1, d1, rfl, -, h1, r1⟩ := r0
  obtain ⟨c2, d2, rfl, -, h2, r2⟩ := r1
  obtain ⟨c3, d3, rfl, -, h3, r3⟩ := r2
  obtain ⟨c4, d4, rfl, -, h4, r4⟩ := r3
  obtain ⟨c5, d5, rfl, -, h5, r5⟩ := r4
  obtain rfl : d5 = [] := r5
  obtain ⟨n0, rfl, k0⟩ := flags_of c0 h0
  obtain ⟨n1, rfl, k1⟩ := bridge_of c1 h1
  obtain ⟨n2, rfl, k2⟩ := h2
  obtain ⟨n3, rfl, k3⟩ := h3
  obtain ⟨n4, rfl, k4⟩ := h4
  obtain ⟨n5, rfl, k5⟩ := h5
  exact ⟨⟨n0, n1, n2, n3, n4, n5⟩, rfl, k0, k1, iok_of k2, iok_of k3, iok_of k4, iok_of k5⟩

/-- switchyard/api.Mst -/
structure MstV where
  base : BpduV
  name : ByteArray
  rev : Int
  digest : ByteArray
  cost : Int
  bridge : BridgeV
  hops : Int
  insts : SliceV InstV
def MstV.cells (x : MstV) : List Value := x.base.cells ++ ([.string x.name] ++ ([.int .i64 x.rev] ++ ([.string x.digest] ++ ([.int .i64 x.cost] ++ (x.bridge.cells ++ ([.int .i64 x.hops] ++ (x.insts.cells ++ ([]))))))))
def MstV.ok (g : G) (x : MstV) : Prop := x.base.ok g ∧ sok x.name ∧ iok .i64 x.rev ∧ sok x.digest ∧ iok .i64 x.cost ∧ x.bridge.ok g ∧ iok .i64 x.hops ∧ x.insts.ok 19 InstV.cells (InstV.ok g) g
def MstV.zero : MstV := ⟨BpduV.zero, ⟨#[]⟩, 0, ⟨#[]⟩, 0, BridgeV.zero, 0, ⟨none, [], 0⟩⟩
def mstSh : Sh := (.fld 31 bpduSh (.fld 1 .str (.fld 1 (.int .i64) (.fld 1 .str (.fld 1 (.int .i64) (.fld 8 bridgeSh (.fld 1 (.int .i64) (.fld 1 (.slice 19 instSh) .fin))))))))
theorem mst_of {W : World} (c : List Value) (h : mstSh.holds W c) : ∃ x : MstV, c = x.cells ∧ x.ok (gOf W) := by
  obtain ⟨c0, d0, rfl, -, h0, r0⟩ := h
  obtain ⟨c1, d1, rfl, -, h1, r1⟩ := r0
  obtain ⟨c2, d2, rfl, -, h2, r2⟩ := r1
  obtain ⟨c3, d3, rfl, -, h3, r3⟩ := r2
  obtain ⟨c4, d4, rfl, -, h4, r4⟩ := r3
  obtain ⟨c5, d5, rfl, -, h5, r5⟩ := r4
  obtain ⟨c6, d6, rfl, -, h6, r6⟩ := r5
  obtain ⟨c7, d7, rfl, -, h7, r7⟩ := r6
  obtain rfl : d7 = [] := r7
  obtain ⟨n0, rfl, k0⟩ := bpdu_of c0 h0
  obtain ⟨n1, rfl, k1⟩ := h1
  obtain ⟨n2, rfl, k2⟩ := h2
  obtain ⟨n3, rfl, k3⟩ := h3
  obtain ⟨n4, rfl, k4⟩ := h4
  obtain ⟨n5, rfl, k5⟩ := bridge_of c5 h5
  obtain ⟨n6, rfl, k6⟩ := h6
  obtain ⟨n7, rfl, k7⟩ := sliceV_of InstV.cells (fun _ => rfl) (by decide) (InstV.ok (gOf W)) (fun c _ hc => inst_of c hc) h7
  exact ⟨⟨n0, n1, n2, n3, n4, n5, n6, n7⟩, rfl, k0, k1, iok_of k2, k3, iok_of k4, k5, iok_of k6, k7⟩

/-- switchyard/api.Party -/
structure PartyV where
  sysPrio : Int
  sys : AddrV
  key : Int
  portPrio : Int
  port : Int
  state : Int
def PartyV.cells (x : PartyV) : List Value := [.int .i64 x.sysPrio] ++ (x.sys.cells ++ ([.int .i64 x.key] ++ ([.int .i64 x.portPrio] ++ ([.int .i64 x.port] ++ ([.int .i64 x.state] ++ ([]))))))
def PartyV.ok (g : G) (x : PartyV) : Prop := iok .i64 x.sysPrio ∧ x.sys.ok g ∧ iok .i64 x.key ∧ iok .i64 x.portPrio ∧ iok .i64 x.port ∧ iok .i64 x.state
def PartyV.zero : PartyV := ⟨0, AddrV.zero, 0, 0, 0, 0⟩
def PartyV.eq (x y : PartyV) : Bool := x.sysPrio == y.sysPrio && (x.sys.e0 == y.sys.e0 && (x.sys.e1 == y.sys.e1 && (x.sys.e2 == y.sys.e2 && (x.sys.e3 == y.sys.e3 && (x.sys.e4 == y.sys.e4 && (x.sys.e5 == y.sys.e5 && (x.key == y.key && (x.portPrio == y.portPrio && (x.port == y.port && (x.state == y.state && (true)))))))))))
theorem PartyV.eq_refl (x : PartyV) : x.eq x = true := by simp [PartyV.eq]
def partySh : Sh := (.fld 1 (.int .i64) (.fld 6 (Sh.rep (.int .u8) 1 6) (.fld 1 (.int .i64) (.fld 1 (.int .i64) (.fld 1 (.int .i64) (.fld 1 (.int .i64) .fin))))))
theorem party_of {W : World} (c : List Value) (h : partySh.holds W c) : ∃ x : PartyV, c = x.cells ∧ x.ok (gOf W) := by
  obtain ⟨c0, d0, rfl, -, h0, r0⟩ := h
  obtain ⟨c1, d1, rfl, -, h1, r1⟩ := r0
  obtain ⟨c2, d2, rfl, -, h2, r2⟩ := r1
  obtain ⟨c3, d3, rfl, -, h3, r3⟩ := r2
  obtain ⟨c4, d4, rfl, -, h4, r4⟩ := r3
  obtain ⟨c5, d5, rfl, -, h5, r5⟩ := r4
  obtain rfl : d5 = [] := r5
  obtain ⟨n0, rfl, k0⟩ := h0
  obtain ⟨n1, rfl, k1⟩ := addr_of c1 h1
  obtain ⟨n2, rfl, k2⟩ := h2
  obtain ⟨n3, rfl, k3⟩ := h3
  obtain ⟨n4, rfl, k4⟩ := h4
  obtain ⟨n5, rfl, k5⟩ := h5
  exact ⟨⟨n0, n1, n2, n3, n4, n5⟩, rfl, iok_of k0, k1, iok_of k2, iok_of k3, iok_of k4, iok_of k5⟩

/-- switchyard/api.Lacp -/
structure LacpV where
  actor : PartyV
  partner : PartyV
  delay : Int
def LacpV.cells (x : LacpV) : List Value := x.actor.cells ++ (x.partner.cells ++ ([.int .i64 x.delay] ++ ([])))
def LacpV.ok (g : G) (x : LacpV) : Prop := x.actor.ok g ∧ x.partner.ok g ∧ iok .i64 x.delay
def LacpV.zero : LacpV := ⟨PartyV.zero, PartyV.zero, 0⟩
def LacpV.eq (x y : LacpV) : Bool := x.actor.sysPrio == y.actor.sysPrio && (x.actor.sys.e0 == y.actor.sys.e0 && (x.actor.sys.e1 == y.actor.sys.e1 && (x.actor.sys.e2 == y.actor.sys.e2 && (x.actor.sys.e3 == y.actor.sys.e3 && (x.actor.sys.e4 == y.actor.sys.e4 && (x.actor.sys.e5 == y.actor.sys.e5 && (x.actor.key == y.actor.key && (x.actor.portPrio == y.actor.portPrio && (x.actor.port == y.actor.port && (x.actor.state == y.actor.state && (x.partner.sysPrio == y.partner.sysPrio && (x.partner.sys.e0 == y.partner.sys.e0 && (x.partner.sys.e1 == y.partner.sys.e1 && (x.partner.sys.e2 == y.partner.sys.e2 && (x.partner.sys.e3 == y.partner.sys.e3 && (x.partner.sys.e4 == y.partner.sys.e4 && (x.partner.sys.e5 == y.partner.sys.e5 && (x.partner.key == y.partner.key && (x.partner.portPrio == y.partner.portPrio && (x.partner.port == y.partner.port && (x.partner.state == y.partner.state && (x.delay == y.delay && (true)))))))))))))))))))))))
theorem LacpV.eq_refl (x : LacpV) : x.eq x = true := by simp [LacpV.eq]
def lacpSh : Sh := (.fld 11 partySh (.fld 11 partySh (.fld 1 (.int .i64) .fin)))
theorem lacp_of {W : World} (c : List Value) (h : lacpSh.holds W c) : ∃ x : LacpV, c = x.cells ∧ x.ok (gOf W) := by
  obtain ⟨c0, d0, rfl, -, h0, r0⟩ := h
  obtain ⟨c1, d1, rfl, -, h1, r1⟩ := r0
  obtain ⟨c2, d2, rfl, -, h2, r2⟩ := r1
  obtain rfl : d2 = [] := r2
  obtain ⟨n0, rfl, k0⟩ := party_of c0 h0
  obtain ⟨n1, rfl, k1⟩ := party_of c1 h1
  obtain ⟨n2, rfl, k2⟩ := h2
  exact ⟨⟨n0, n1, n2⟩, rfl, k0, k1, iok_of k2⟩

/-- switchyard/api.Marker -/
structure MarkerV where
  reply : Bool
  port : Int
  sys : AddrV
  txn : Int
def MarkerV.cells (x : MarkerV) : List Value := [.bool x.reply] ++ ([.int .i64 x.port] ++ (x.sys.cells ++ ([.int .i64 x.txn] ++ ([]))))
def MarkerV.ok (g : G) (x : MarkerV) : Prop := iok .i64 x.port ∧ x.sys.ok g ∧ iok .i64 x.txn
def MarkerV.zero : MarkerV := ⟨false, 0, AddrV.zero, 0⟩
def MarkerV.eq (x y : MarkerV) : Bool := x.reply == y.reply && (x.port == y.port && (x.sys.e0 == y.sys.e0 && (x.sys.e1 == y.sys.e1 && (x.sys.e2 == y.sys.e2 && (x.sys.e3 == y.sys.e3 && (x.sys.e4 == y.sys.e4 && (x.sys.e5 == y.sys.e5 && (x.txn == y.txn && (true)))))))))
theorem MarkerV.eq_refl (x : MarkerV) : x.eq x = true := by simp [MarkerV.eq]
def markerSh : Sh := (.fld 1 .bool (.fld 1 (.int .i64) (.fld 6 (Sh.rep (.int .u8) 1 6) (.fld 1 (.int .i64) .fin))))
theorem marker_of {W : World} (c : List Value) (h : markerSh.holds W c) : ∃ x : MarkerV, c = x.cells ∧ x.ok (gOf W) := by
  obtain ⟨c0, d0, rfl, -, h0, r0⟩ := h
  obtain ⟨c1, d1, rfl, -, h1, r1⟩ := r0
  obtain ⟨c2, d2, rfl, -, h2, r2⟩ := r1
  obtain ⟨c3, d3, rfl, -, h3, r3⟩ := r2
  obtain rfl : d3 = [] := r3
  obtain ⟨n0, rfl⟩ := h0
  obtain ⟨n1, rfl, k1⟩ := h1
  obtain ⟨n2, rfl, k2⟩ := addr_of c2 h2
  obtain ⟨n3, rfl, k3⟩ := h3
  exact ⟨⟨n0, n1, n2, n3⟩, rfl, iok_of k1, k2, iok_of k3⟩

/-- switchyard/api.Attr -/
structure AttrV where
  leaveAll : Bool
  first : Int
  events : SliceV Int
def AttrV.cells (x : AttrV) : List Value := [.bool x.leaveAll] ++ ([.int .i64 x.first] ++ (x.events.cells ++ ([])))
def AttrV.ok (g : G) (x : AttrV) : Prop := iok .i64 x.first ∧ x.events.ok 1 (intC .i64) (iok .i64) g
def AttrV.zero : AttrV := ⟨false, 0, ⟨none, [], 0⟩⟩
def attrSh : Sh := (.fld 1 .bool (.fld 1 (.int .i64) (.fld 1 (.slice 1 (.int .i64)) .fin)))
theorem attr_of {W : World} (c : List Value) (h : attrSh.holds W c) : ∃ x : AttrV, c = x.cells ∧ x.ok (gOf W) := by
  obtain ⟨c0, d0, rfl, -, h0, r0⟩ := h
  obtain ⟨c1, d1, rfl, -, h1, r1⟩ := r0
  obtain ⟨c2, d2, rfl, -, h2, r2⟩ := r1
  obtain rfl : d2 = [] := r2
  obtain ⟨n0, rfl⟩ := h0
  obtain ⟨n1, rfl, k1⟩ := h1
  obtain ⟨n2, rfl, k2⟩ := sliceV_of (intC .i64) (fun _ => rfl) (by decide) (iok .i64) (fun c _ hc => int_of hc) h2
  exact ⟨⟨n0, n1, n2⟩, rfl, iok_of k1, k2⟩

/-- switchyard/api.Verdict -/
structure VerdictV where
  kind : Int
  err : Int
  place : Int
  frame : FrameV
  arp : ArpV
  pause : PauseV
  bpdu : BpduV
  mst : MstV
  lldp : LldpV
  lacp : LacpV
  marker : MarkerV
  mvrp : SliceV AttrV
def VerdictV.cells (x : VerdictV) : List Value := [.int .i64 x.kind] ++ ([.int .i64 x.err] ++ ([.int .i64 x.place] ++ (x.frame.cells ++ (x.arp.cells ++ (x.pause.cells ++ (x.bpdu.cells ++ (x.mst.cells ++ (x.lldp.cells ++ (x.lacp.cells ++ (x.marker.cells ++ (x.mvrp.cells ++ ([]))))))))))))
def VerdictV.ok (g : G) (x : VerdictV) : Prop := iok .i64 x.kind ∧ iok .i64 x.err ∧ iok .i64 x.place ∧ x.frame.ok g ∧ x.arp.ok g ∧ x.pause.ok g ∧ x.bpdu.ok g ∧ x.mst.ok g ∧ x.lldp.ok g ∧ x.lacp.ok g ∧ x.marker.ok g ∧ x.mvrp.ok 3 AttrV.cells (AttrV.ok g) g
def VerdictV.zero : VerdictV := ⟨0, 0, 0, FrameV.zero, ArpV.zero, PauseV.zero, BpduV.zero, MstV.zero, LldpV.zero, LacpV.zero, MarkerV.zero, ⟨none, [], 0⟩⟩
def verdictSh : Sh := (.fld 1 (.int .i64) (.fld 1 (.int .i64) (.fld 1 (.int .i64) (.fld 21 frameSh (.fld 21 arpSh (.fld 10 pauseSh (.fld 31 bpduSh (.fld 45 mstSh (.fld 11 lldpSh (.fld 23 lacpSh (.fld 9 markerSh (.fld 1 (.slice 3 attrSh) .fin))))))))))))
theorem verdict_of {W : World} (c : List Value) (h : verdictSh.holds W c) : ∃ x : VerdictV, c = x.cells ∧ x.ok (gOf W) := by
  obtain ⟨c0, d0, rfl, -, h0, r0⟩ := h
  obtain ⟨c1, d1, rfl, -, h1, r1⟩ := r0
  obtain ⟨c2, d2, rfl, -, h2, r2⟩ := r1
  obtain ⟨c3, d3, rfl, -, h3, r3⟩ := r2
  obtain ⟨c4, d4, rfl, -, h4, r4⟩ := r3
  obtain ⟨c5, d5, rfl, -, h5, r5⟩ := r4
  obtain ⟨c6, d6, rfl, -, h6, r6⟩ := r5
  obtain ⟨c7, d7, rfl, -, h7, r7⟩ := r6
  obtain ⟨c8, d8, rfl, -, h8, r8⟩ := r7
  obtain ⟨c9, d9, rfl, -, h9, r9⟩ := r8
  obtain ⟨c10, d10, rfl, -, h10, r10⟩ := r9
  obtain ⟨c11, d11, rfl, -, h11, r11⟩ := r10
  obtain rfl : d11 = [] := r11
  obtain ⟨n0, rfl, k0⟩ := h0
  obtain ⟨n1, rfl, k1⟩ := h1
  obtain ⟨n2, rfl, k2⟩ := h2
  obtain ⟨n3, rfl, k3⟩ := frame_of c3 h3
  obtain ⟨n4, rfl, k4⟩ := arp_of c4 h4
  obtain ⟨n5, rfl, k5⟩ := pause_of c5 h5
  obtain ⟨n6, rfl, k6⟩ := bpdu_of c6 h6
  obtain ⟨n7, rfl, k7⟩ := mst_of c7 h7
  obtain ⟨n8, rfl, k8⟩ := lldp_of c8 h8
  obtain ⟨n9, rfl, k9⟩ := lacp_of c9 h9
  obtain ⟨n10, rfl, k10⟩ := marker_of c10 h10
  obtain ⟨n11, rfl, k11⟩ := sliceV_of AttrV.cells (fun _ => rfl) (by decide) (AttrV.ok (gOf W)) (fun c _ hc => attr_of c hc) h11
  exact ⟨⟨n0, n1, n2, n3, n4, n5, n6, n7, n8, n9, n10, n11⟩, rfl, iok_of k0, iok_of k1, iok_of k2, k3, k4, k5, k6, k7, k8, k9, k10, k11⟩

/-- switchyard/api.Tlv -/
structure TlvV where
  type_ : Int
  text : ByteArray
def TlvV.cells (x : TlvV) : List Value := [.int .i64 x.type_] ++ ([.string x.text] ++ ([]))
def TlvV.ok (_ : G) (x : TlvV) : Prop := iok .i64 x.type_ ∧ sok x.text
def TlvV.zero : TlvV := ⟨0, ⟨#[]⟩⟩
def TlvV.eq (x y : TlvV) : Bool := x.type_ == y.type_ && (x.text.toList == y.text.toList && (true))
theorem TlvV.eq_refl (x : TlvV) : x.eq x = true := by simp [TlvV.eq]
def tlvSh : Sh := (.fld 1 (.int .i64) (.fld 1 .str .fin))
theorem tlv_of {W : World} (c : List Value) (h : tlvSh.holds W c) : ∃ x : TlvV, c = x.cells ∧ x.ok (gOf W) := by
  obtain ⟨c0, d0, rfl, -, h0, r0⟩ := h
  obtain ⟨c1, d1, rfl, -, h1, r1⟩ := r0
  obtain rfl : d1 = [] := r1
  obtain ⟨n0, rfl, k0⟩ := h0
  obtain ⟨n1, rfl, k1⟩ := h1
  exact ⟨⟨n0, n1⟩, rfl, iok_of k0, k1⟩

/-- switchyard/api.At -/
structure AtV where
  err : Int
  place : Int
def AtV.cells (x : AtV) : List Value := [.int .i64 x.err] ++ ([.int .i64 x.place] ++ ([]))
def AtV.ok (_ : G) (x : AtV) : Prop := iok .i64 x.err ∧ iok .i64 x.place
def AtV.zero : AtV := ⟨0, 0⟩
def AtV.eq (x y : AtV) : Bool := x.err == y.err && (x.place == y.place && (true))
theorem AtV.eq_refl (x : AtV) : x.eq x = true := by simp [AtV.eq]
def atSh : Sh := (.fld 1 (.int .i64) (.fld 1 (.int .i64) .fin))
theorem at_of {W : World} (c : List Value) (h : atSh.holds W c) : ∃ x : AtV, c = x.cells ∧ x.ok (gOf W) := by
  obtain ⟨c0, d0, rfl, -, h0, r0⟩ := h
  obtain ⟨c1, d1, rfl, -, h1, r1⟩ := r0
  obtain rfl : d1 = [] := r1
  obtain ⟨n0, rfl, k0⟩ := h0
  obtain ⟨n1, rfl, k1⟩ := h1
  exact ⟨⟨n0, n1⟩, rfl, iok_of k0, iok_of k1⟩
end Go.Proofs.YtfianfpmnglfnaaDoor
