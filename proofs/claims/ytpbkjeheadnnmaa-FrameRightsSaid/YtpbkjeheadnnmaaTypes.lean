/- The Go types of this seat's laws: cells, ranges, comparison, shapes. Conditions: none. -/
import Derived.Test.YtpbkjeheadnnmaaProg
import Derived.Test.YtpbkjeheadnnmaaBaseC
namespace Go.Proofs.Ytpbkjeheadnnmaa
open Go.Sx
set_option maxRecDepth 100000
/-- switchyard/api.Addr -/
structure AddrV where
  e0 : Int
  e1 : Int
  e2 : Int
  e3 : Int
  e4 : Int
  e5 : Int
def AddrV.cells (x : AddrV) : List Value := [.int .u8 x.e0] ++ ([.int .u8 x.e1] ++ ([.int .u8 x.e2] ++ ([.int .u8 x.e3] ++ ([.int .u8 x.e4] ++ ([.int .u8 x.e5] ++ ([]))))))
def AddrV.ok (_ : G) (x : AddrV) : Prop := iok .u8 x.e0 ∧ iok .u8 x.e1 ∧ iok .u8 x.e2 ∧ iok .u8 x.e3 ∧ iok .u8 x.e4 ∧ iok .u8 x.e5
def AddrV.zero : AddrV := ⟨0, 0, 0, 0, 0, 0⟩
def AddrV.eq (x y : AddrV) : Bool := x.e0 == y.e0 && (x.e1 == y.e1 && (x.e2 == y.e2 && (x.e3 == y.e3 && (x.e4 == y.e4 && (x.e5 == y.e5 && (true))))))
theorem AddrV.eq_refl (x : AddrV) : x.eq x = true := by simp [AddrV.eq]
def addrSh : Sh := (Sh.rep (.int .u8) 1 6)
theorem addr_of {W : World} (c : List Value) (h : addrSh.holds W c) : ∃ x : AddrV, c = x.cells ∧ x.ok (gOf W) := by
  obtain ⟨c0, d0, rfl, -, h0, r0⟩ := h
  obtain ⟨c1, d1, rfl, -, h1, r1⟩ := r0
  obtain ⟨c2, d2, rfl, -, h2, r2⟩ := r1
  obtain ⟨c3, d3, rfl, -, h3, r3⟩ := r2
  obtain ⟨c4, d4, rfl, -, h4, r4⟩ := r3
  obtain ⟨c5, d5, rfl, -, h5, r5⟩ := r4
  obtain rfl : d5 = [] := r5
  obtain ⟨n0, rfl, k0⟩ := h0
  obtain ⟨n1, rfl, k1⟩ := h1
  obtain ⟨n2, rfl, k2⟩ := h2
  obtain ⟨n3, rfl, k3⟩ := h3
  obtain ⟨n4, rfl, k4⟩ := h4
  obtain ⟨n5, rfl, k5⟩ := h5
  exact ⟨⟨n0, n1, n2, n3, n4, n5⟩, rfl, iok_of k0, iok_of k1, iok_of k2, iok_of k3, iok_of k4, iok_of k5⟩

/-- switchyard/api.Tag -/
structure TagV where
  s : Bool
  pcp : Int
  dei : Bool
  vid : Int
def TagV.cells (x : TagV) : List Value := [.bool x.s] ++ ([.int .i64 x.pcp] ++ ([.bool x.dei] ++ ([.int .i64 x.vid] ++ ([]))))
def TagV.ok (_ : G) (x : TagV) : Prop := iok .i64 x.pcp ∧ iok .i64 x.vid
def TagV.zero : TagV := ⟨false, 0, false, 0⟩
def TagV.eq (x y : TagV) : Bool := x.s == y.s && (x.pcp == y.pcp && (x.dei == y.dei && (x.vid == y.vid && (true))))
theorem TagV.eq_refl (x : TagV) : x.eq x = true := by simp [TagV.eq]
def tagSh : Sh := (.fld 1 .bool (.fld 1 (.int .i64) (.fld 1 .bool (.fld 1 (.int .i64) .fin))))
theorem tag_of {W : World} (c : List Value) (h : tagSh.holds W c) : ∃ x : TagV, c = x.cells ∧ x.ok (gOf W) := by
  obtain ⟨c0, d0, rfl, -, h0, r0⟩ := h
  obtain ⟨c1, d1, rfl, -, h1, r1⟩ := r0
  obtain ⟨c2, d2, rfl, -, h2, r2⟩ := r1
  obtain ⟨c3, d3, rfl, -, h3, r3⟩ := r2
  obtain rfl : d3 = [] := r3
  obtain ⟨n0, rfl⟩ := h0
  obtain ⟨n1, rfl, k1⟩ := h1
  obtain ⟨n2, rfl⟩ := h2
  obtain ⟨n3, rfl, k3⟩ := h3
  exact ⟨⟨n0, n1, n2, n3⟩, rfl, iok_of k1, iok_of k3⟩

/-- switchyard/api.Frame -/
structure FrameV where
  dst : AddrV
  src : AddrV
  tags : SliceV TagV
  kind : Int
  type_ : Int
  dsap : Int
  ssap : Int
  ctl : Int
  oui : Int
  pid : Int
  body : ByteArray
def FrameV.cells (x : FrameV) : List Value := x.dst.cells ++ (x.src.cells ++ (x.tags.cells ++ ([.int .i64 x.kind] ++ ([.int .i64 x.type_] ++ ([.int .i64 x.dsap] ++ ([.int .i64 x.ssap] ++ ([.int .i64 x.ctl] ++ ([.int .i64 x.oui] ++ ([.int .i64 x.pid] ++ ([.string x.body] ++ ([])))))))))))
def FrameV.ok (g : G) (x : FrameV) : Prop := x.dst.ok g ∧ x.src.ok g ∧ x.tags.ok 4 TagV.cells (TagV.ok g) g ∧ iok .i64 x.kind ∧ iok .i64 x.type_ ∧ iok .i64 x.dsap ∧ iok .i64 x.ssap ∧ iok .i64 x.ctl ∧ iok .i64 x.oui ∧ iok .i64 x.pid ∧ sok x.body
def FrameV.zero : FrameV := ⟨AddrV.zero, AddrV.zero, ⟨none, [], 0⟩, 0, 0, 0, 0, 0, 0, 0, ⟨#[]⟩⟩
def frameSh : Sh := (.fld 6 (Sh.rep (.int .u8) 1 6) (.fld 6 (Sh.rep (.int .u8) 1 6) (.fld 1 (.slice 4 tagSh) (.fld 1 (.int .i64) (.fld 1 (.int .i64) (.fld 1 (.int .i64) (.fld 1 (.int .i64) (.fld 1 (.int .i64) (.fld 1 (.int .i64) (.fld 1 (.int .i64) (.fld 1 .str .fin)))))))))))
theorem frame_of {W : World} (c : List Value) (h : frameSh.holds W c) : ∃ x : FrameV, c = x.cells ∧ x.ok (gOf W) := by
  obtain ⟨c0, d0, rfl, -, h0, r0⟩ := h
  obtain ⟨c1, d1, rfl, -, h1, r1⟩ := r0
  obtain ⟨c2, d2, rfl, -, h2, r2⟩ := r1
  obtain ⟨c3, d3, rfl, -, h3, r3⟩ := r2
  obtain ⟨c4, d4, rfl, -, h4, r4⟩ := r3
  obtain ⟨c5, d5, rfl, -, h5, r5⟩ := r4
  obtain ⟨c6, d6, rfl, -, h6, r6⟩ := r5
  obtain ⟨c7, d7, rfl, -, h7, r7⟩ := r6
  obtain ⟨c8, d8, rfl, -, h8, r8⟩ := r7
  obtain ⟨c9, d9, rfl, -, h9, r9⟩ := r8
  obtain ⟨c10, d10, rfl, -, h10, r10⟩ := r9
  obtain rfl : d10 = [] := r10
  obtain ⟨n0, rfl, k0⟩ := addr_of c0 h0
  obtain ⟨n1, rfl, k1⟩ := addr_of c1 h1
  obtain ⟨n2, rfl, k2⟩ := sliceV_of TagV.cells (fun _ => rfl) (by decide) (TagV.ok (gOf W)) (fun c _ hc => tag_of c hc) h2
  obtain ⟨n3, rfl, k3⟩ := h3
  obtain ⟨n4, rfl, k4⟩ := h4
  obtain ⟨n5, rfl, k5⟩ := h5
  obtain ⟨n6, rfl, k6⟩ := h6
  obtain ⟨n7, rfl, k7⟩ := h7
  obtain ⟨n8, rfl, k8⟩ := h8
  obtain ⟨n9, rfl, k9⟩ := h9
  obtain ⟨n10, rfl, k10⟩ := h10
  exact ⟨⟨n0, n1, n2, n3, n4, n5, n6, n7, n8, n9, n10⟩, rfl, k0, k1, k2, iok_of k3, iok_of k4, iok_of k5, iok_of k6, iok_of k7, iok_of k8, iok_of k9, k10⟩
end Go.Proofs.Ytpbkjeheadnnmaa
