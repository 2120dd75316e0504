/- What a station tells, as Tlvs, in plain Lean. Conditions: none. -/
import Derived.Test.YtfianfpmnglfnaaDoorLldpB
import Derived.Test.YtfianfpmnglfnaaDoorWireC
import Derived.Test.YtfianfpmnglfnaaDoorBaseC
import Derived.Test.YtfianfpmnglfnaaDoorBaseD
namespace Go.Proofs.YtfianfpmnglfnaaDoor
open Go.Sx
set_option maxRecDepth 100000
set_option maxHeartbeats 8000000
attribute [local irreducible] Meets
attribute [local instance] Classical.propDecidable

/-- So many bytes of any number. -/
def beZ (n : Nat) (x : Int) : ByteArray := beS n (IntKind.u64.wrap x).toNat
theorem beZ_size (n : Nat) (x : Int) : (beZ n x).size = n := beS_size _ _
instance szBeZ (n : Nat) (x : Int) : Sz (beZ n x) n := ⟨by rw [beZ_size]; exact Nat.le_refl _⟩
theorem beZ_c (x : Int) (n : Nat) (g : G) (hn : n ≤ 8) : Tells Tryd.prog 79 [.v (.int .i64 x), .v (.int .i64 n)] g (.v (.string (beZ n x))) := be_c x n g (by omega)
def capsT (c : CapsV) : TlvV := ⟨7, beZ 2 c.has ++ beZ 2 c.on_⟩
def manageT (m : ManageV) : TlvV := ⟨8, beZ 1 (m.addr.iD.size + 1) ++ beZ 1 m.addr.sub ++ m.addr.iD ++ beZ 1 m.ifSub ++ beZ 4 m.if_ ++ beZ 1 m.oid.size ++ m.oid⟩
def orgT (o : OrgV) : TlvV := ⟨127, beZ 3 o.oui ++ beZ 1 o.sub ++ o.info⟩
def headT (l : LldpV) : List TlvV := [⟨1, beZ 1 l.chassis.sub ++ l.chassis.iD⟩, ⟨2, beZ 1 l.port.sub ++ l.port.iD⟩, ⟨3, beZ 2 l.ttl⟩]
def strT2 (n : Int) (l : List ByteArray) : List TlvV := l.map fun s => ⟨n, s⟩
/-- All that is told. -/
def tlvsOf (l : LldpV) : List TlvV := headT l ++ strT2 4 l.desc.l ++ strT2 5 l.host.l ++ strT2 6 l.system.l ++ l.caps.l.map capsT ++ l.manage.l.map manageT ++ l.orgs.l.map orgT
theorem map_take {α β : Type} (f : α → β) {l : List α} {k : Nat} {x : α} (h : l[k]? = some x) (p : List β) : p ++ (l.take (k + 1)).map f = (p ++ (l.take k).map f) ++ [f x] := by
  rw [List.take_add_one, h]; simp
theorem all_take {α : Type} (p : α → Bool) {l : List α} {k : Nat} {x : α} (h : l[k]? = some x) (b : Bool) : (b && (l.take (k + 1)).all p) = ((b && (l.take k).all p) && p x) := by
  rw [List.take_add_one, h]; simp [Bool.and_assoc]

/-- No text is too long. -/
structure LldpSmall (l : LldpV) : Prop where
  chassis : l.chassis.iD.size ≤ 1048576
  port : l.port.iD.size ≤ 1048576
  desc : l.desc.l.length ≤ 1048576 ∧ ∀ x ∈ l.desc.l, x.size ≤ 1048576
  host : l.host.l.length ≤ 1048576 ∧ ∀ x ∈ l.host.l, x.size ≤ 1048576
  system : l.system.l.length ≤ 1048576 ∧ ∀ x ∈ l.system.l, x.size ≤ 1048576
  caps : l.caps.l.length ≤ 1048576
  manage : l.manage.l.length ≤ 1048576 ∧ ∀ x ∈ l.manage.l, x.addr.iD.size ≤ 1048576 ∧ x.oid.size ≤ 1048576
  orgs : l.orgs.l.length ≤ 1048576 ∧ ∀ x ∈ l.orgs.l, x.info.size ≤ 1048576

noncomputable def ok1 (l : LldpV) : Bool := decide (nameP l.chassis ∧ nameP l.port ∧ (0 ≤ l.ttl ∧ l.ttl ≤ 65535) ∧ l.caps.l.length ≤ 1 ∧ l.manage.l.length ≤ 20 ∧ l.orgs.l.length ≤ 20)
def strB (x : ByteArray) : Bool := decide ((x.size : Int) ≤ 255)
def lenB (l : List ByteArray) : Bool := decide ((l.length : Int) ≤ 1)
noncomputable def okEnd (l : LldpV) : Bool :=
  (((ok1 l && lenB l.desc.l && l.desc.l.all strB) && lenB l.host.l && l.host.l.all strB) && lenB l.system.l && l.system.l.all strB) && l.caps.l.all (fun c => decide (capsP c)) && l.manage.l.all (fun c => decide (manageP c)) && l.orgs.l.all (fun c => decide (orgP c))
theorem okEnd_eq (l : LldpV) : okEnd l = decide (lldpP l) := by
  rw [Bool.eq_iff_iff, decide_eq_true_iff]
  unfold okEnd ok1 lenB strB lldpP strsP
  simp only [Bool.and_eq_true, decide_eq_true_iff, List.all_eq_true]
  constructor
  · rintro ⟨⟨⟨⟨⟨⟨⟨⟨⟨⟨a, b, c, d, e, f⟩, g⟩, h⟩, i⟩, j⟩, k⟩, m⟩, n⟩, o⟩, p⟩
    exact ⟨⟨a, b, c⟩, ⟨⟨by omega, fun x hx => by have := h x hx; omega⟩, ⟨by omega, fun x hx => by have := j x hx; omega⟩, ⟨by omega, fun x hx => by have := m x hx; omega⟩⟩, ⟨d, n⟩, ⟨e, o⟩, ⟨f, p⟩⟩
  · rintro ⟨⟨a, b, c⟩, ⟨⟨g, h⟩, ⟨i, j⟩, ⟨k, m⟩⟩, ⟨d, n⟩, ⟨e, o⟩, ⟨f, p⟩⟩
    exact ⟨⟨⟨⟨⟨⟨⟨⟨⟨⟨a, b, c, d, e, f⟩, by omega⟩, fun x hx => by have := h x hx; omega⟩, by omega⟩, fun x hx => by have := j x hx; omega⟩, by omega⟩, fun x hx => by have := m x hx; omega⟩, n⟩, o⟩, p⟩
end Go.Proofs.YtfianfpmnglfnaaDoor
