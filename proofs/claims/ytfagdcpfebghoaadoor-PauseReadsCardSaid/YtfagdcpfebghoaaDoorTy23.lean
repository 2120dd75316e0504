/- A symbolic executor of my own, part 23: one cell at an open place of a value or a block of cells; rows of numbers as bytes. Conditions: none. -/
import Derived.Test.YtfagdcpfebghoaaDoorTy22
namespace Go.Sx

/-- One cell of a row of symbolic values, at an open place. -/
theorem idxV {l : List SV} {off : Nat} {x : Value} {K : SV → Prop} (h : l[off]? = some (.v x)) (k : K (.v x)) : ifle (off + 1) l.length (val1 false (slice1 l off 1) K) := by
  have h1 := (List.getElem?_eq_some_iff.1 h).1
  have : slice1 l off 1 = [.v x] := by
    unfold slice1
    rw [List.drop_eq_getElem_cons h1, List.take_succ_cons, List.take_zero]
    rw [List.getElem?_eq_getElem h1] at h
    simpa using h
  unfold ifle ifOk
  rw [show Nat.ble (off + 1) l.length = true from Nat.ble_eq_true_of_le h1, this]
  exact k
/-- The same of numbers. -/
theorem idxI {k : IntKind} {xs : List Int} {l : List SV} {off : Nat} {x : Int} {K : SV → Prop} (hl : l = xs.map fun n => .v (.int k n)) (h : xs[off]? = some x) (kk : K (.v (.int k x))) : ifle (off + 1) l.length (val1 false (slice1 l off 1) K) := by
  refine idxV ?_ kk
  rw [hl, List.getElem?_map, h]; rfl

/-- Numbers of two bytes each, in a row. -/
def packI (n : Nat) (xs : List Int) : List Int := xs.flatMap fun x => beI n x.toNat
theorem packI_length (n : Nat) (xs : List Int) : (packI n xs).length = xs.length * n := by
  rw [packI]
  induction xs with
  | nil => simp
  | cons x xs ih => rw [List.flatMap_cons, List.length_append, ih, beI_length, List.length_cons, Nat.succ_mul, Nat.add_comm]
theorem packI_take {n : Nat} {xs : List Int} {k : Nat} {x : Int} (h : xs[k]? = some x) : packI n (xs.take (k + 1)) = packI n (xs.take k) ++ beI n x.toNat := by
  rw [packI, packI, List.take_add_one, h, List.flatMap_append]
  simp
def packS (n : Nat) (xs : List Int) : ByteArray := bytesOfInts (packI n xs)
theorem packS_size (n : Nat) (xs : List Int) : (packS n xs).size = xs.length * n := by rw [packS, bytesOfInts_size, packI_length]
theorem packS_take {n : Nat} {xs : List Int} {k : Nat} {x : Int} (h : xs[k]? = some x) : packS n (xs.take k) ++ beS n x.toNat = packS n (xs.take (k + 1)) := by
  rw [packS, packS, packI_take h, bytesOfInts_append]; rfl
theorem packS_one (n : Nat) (x : Int) : beS n x.toNat = packS n [x] := by rw [packS, packI]; simp [beS]
theorem packS_app (n : Nat) (xs ys : List Int) : packS n xs ++ packS n ys = packS n (xs ++ ys) := by
  rw [packS, packS, packS, ← bytesOfInts_append, packI, packI, packI, List.flatMap_append]

end Go.Sx
