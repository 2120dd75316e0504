/- The reference of wire.Reader: its two closures, and what is told of a row of operations (plain). Conditions: none. -/
import Derived.Test.YthajjbcnemdacaaDoorWrA
namespace Go.Proofs.YthajjbcnemdacaaDoor
open Go.Sx
set_option maxRecDepth 100000
set_option maxHeartbeats 8000000
attribute [local irreducible] Meets

/-! ### Plain -/
def spS : ByteArray := ⟨#[32]⟩
/-- One operation: what is got, and the reader then. -/
def wrStep (r : RdV) (x : ReadV) : ByteArray × RdV :=
  if x.what = 0 then r.bytes x.n
  else if x.what = 1 then (numS (num64 (tkR r true x.n).1.data.toList), (tkR r true x.n).2)
  else if x.what = 2 then (boolS r.zeros.err.isNone, r.zeros)
  else if x.what = 3 then (numS r.place ++ spS ++ numS (r.bytes x.n).1.size ++ spS ++ (r.bytes x.n).1 ++ spS ++ numS (fa (r.bytes x.n).2).1, (r.bytes x.n).2)
  else if x.what = 4 then (emp, r.fail 6 x.n)
  else (emp, r)
def wrText (y : ByteArray × RdV) : ByteArray := y.1 ++ ⟨#[124]⟩ ++ numS (y.2.s.size - y.2.at_) ++ spS ++ numS y.2.place
def wrOut : List ReadV → RdV → List ByteArray
  | [], _ => []
  | x :: l, r => wrText (wrStep r x) :: wrOut l (wrStep r x).2
def wrEnd : List ReadV → RdV → RdV
  | [], r => r
  | x :: l, r => wrEnd l (wrStep r x).2
theorem wrEnd_app : ∀ (l m : List ReadV) (r : RdV), wrEnd (l ++ m) r = wrEnd m (wrEnd l r)
  | [], _, _ => rfl
  | _ :: l, m, _ => wrEnd_app l m _
theorem wrOut_app : ∀ (l m : List ReadV) (r : RdV), wrOut (l ++ m) r = wrOut l r ++ wrOut m (wrEnd l r)
  | [], _, _ => rfl
  | _ :: l, m, _ => congrArg (_ :: ·) (wrOut_app l m _)
theorem wrOut_len : ∀ (l : List ReadV) (r : RdV), (wrOut l r).length = l.length
  | [], _ => rfl
  | _ :: l, _ => congrArg (· + 1) (wrOut_len l _)
theorem take_snoc {α : Type} {l : List α} {k : Nat} {x : α} (h : l[k]? = some x) : l.take (k + 1) = l.take k ++ [x] := by rw [List.take_add_one, h]; rfl
theorem wrEnd_take {l : List ReadV} {k : Nat} {x : ReadV} (h : l[k]? = some x) (r : RdV) : wrEnd (l.take (k + 1)) r = (wrStep (wrEnd (l.take k) r) x).2 := by rw [take_snoc h, wrEnd_app]; rfl
theorem wrOut_take {l : List ReadV} {k : Nat} {x : ReadV} (h : l[k]? = some x) (r : RdV) : wrOut (l.take (k + 1)) r = wrOut (l.take k) r ++ [wrText (wrStep (wrEnd (l.take k) r) x)] := by rw [take_snoc h, wrOut_app]; rfl
theorem wrOut_at {l : List ReadV} {k : Nat} {x : ReadV} (h : l[k]? = some x) (r : RdV) : (wrOut l r)[k]? = some (wrText (wrStep (wrEnd (l.take k) r) x)) := by
  have hk := (List.getElem?_eq_some_iff.1 h).1
  have e : (wrOut (l.take (k + 1) ++ l.drop (k + 1)) r)[k]? = (wrOut l r)[k]? := by rw [List.take_append_drop]
  rw [← e, wrOut_app, wrOut_take h, List.append_assoc, List.getElem?_append_right (by rw [wrOut_len, List.length_take]; omega), wrOut_len, List.length_take, show k - min k l.length = 0 by omega]
  rfl

/-! What stays: the text, its place, and of what form an error is. -/
def RdOk (s : ByteArray) (off : Int) (r : RdV) : Prop := r.s = s ∧ r.off = off ∧ r.at_ ≤ r.s.size ∧ okE r
theorem fail_ok {s : ByteArray} {off : Int} {r : RdV} (h : RdOk s off r) (n pl : Int) (h1 : 1 ≤ n) (h2 : n ≤ 100) : RdOk s off (r.fail n pl) := by
  obtain ⟨a1, a2, a3, a4⟩ := h
  unfold RdV.fail
  split
  · exact ⟨a1, a2, a3, fun p hp => by cases hp; exact ⟨h1, h2⟩⟩
  · exact ⟨a1, a2, a3, a4⟩
theorem bytes_ok {s : ByteArray} {off : Int} {r : RdV} (h : RdOk s off r) (n : Int) : RdOk s off (r.bytes n).2 := by
  unfold RdV.bytes
  split
  · exact h
  · rename_i he
    split
    · exact fail_ok h _ _ (by decide) (by decide)
    · split
      · exact fail_ok h _ _ (by decide) (by decide)
      · obtain ⟨a1, a2, a3, a4⟩ := h
        exact ⟨a1, a2, by show r.at_ + n.toNat ≤ r.s.size; omega, a4⟩
theorem tk_ok {s : ByteArray} {off : Int} {r : RdV} (h : RdOk s off r) (b : Bool) (n : Int) : RdOk s off (tkR r b n).2 := by
  unfold tkR
  split
  · exact fail_ok h _ _ (by decide) (by decide)
  · exact bytes_ok h n
theorem zeros_ok {s : ByteArray} {off : Int} {r : RdV} (h : RdOk s off r) : RdOk s off r.zeros := by
  obtain ⟨a1, a2, a3, a4⟩ := h
  unfold RdV.zeros
  split
  · exact ⟨a1, a2, a3, a4⟩
  · rename_i he
    split
    · exact ⟨a1, a2, Nat.le_refl _, a4⟩
    · refine ⟨a1, a2, ?_, fun p hp => by cases hp; exact ⟨show (1 : Int) ≤ 15 by decide, show (15 : Int) ≤ 100 by decide⟩⟩
      have := zat_le r.rest
      simp only [RdV.rest, List.length_drop, Array.length_toList] at this ⊢
      have e : r.s.data.size = r.s.size := rfl
      omega
theorem step_ok {s : ByteArray} {off : Int} {r : RdV} (h : RdOk s off r) (x : ReadV) : RdOk s off (wrStep r x).2 := by
  unfold wrStep
  split
  · exact bytes_ok h _
  · split
    · exact tk_ok h _ _
    · split
      · exact zeros_ok h
      · split
        · exact bytes_ok h _
        · split
          · exact fail_ok h _ _ (by decide) (by decide)
          · exact h
theorem end_ok {s : ByteArray} {off : Int} : ∀ (l : List ReadV) {r : RdV}, RdOk s off r → RdOk s off (wrEnd l r)
  | [], _, h => h
  | x :: l, _, h => end_ok l (step_ok h x)
theorem RdOk.rd {s : ByteArray} {off : Int} {r : RdV} (h : RdOk s off r) (hs : s.size ≤ 100) (h0 : 0 ≤ off) (h1 : off ≤ 1099511627776) : r.ok := by
  obtain ⟨a1, a2, a3, a4⟩ := h
  exact ⟨a3, by rw [a1]; omega, by rw [a2]; exact h0, by rw [a2]; omega⟩
theorem RdOk.place {s : ByteArray} {off : Int} {r : RdV} (h : RdOk s off r) (hs : s.size ≤ 100) (h0 : 0 ≤ off) (h1 : off ≤ 1099511627776) : 0 ≤ r.place ∧ r.place ≤ 1099511627876 := by
  obtain ⟨a1, a2, a3, a4⟩ := h
  rw [a1] at a3
  unfold RdV.place
  rw [a2]
  omega
theorem RdOk.fa {s : ByteArray} {off : Int} {r : RdV} (h : RdOk s off r) : 0 ≤ (fa r).1 ∧ (fa r).1 ≤ 100 := by
  cases he : r.err with
  | none => rw [fa_none he]; exact ⟨by decide, by decide⟩
  | some p => rw [fa_some he]; have := h.2.2.2 p he; omega
theorem bytes_len {s : ByteArray} {off : Int} {r : RdV} (h : RdOk s off r) (n : Int) : (r.bytes n).1.size ≤ s.size := by
  rw [← h.1]
  unfold RdV.bytes
  split
  · exact Nat.zero_le _
  · split
    · exact Nat.zero_le _
    · split
      · exact Nat.zero_le _
      · rw [ByteArray.size_extract]; omega
theorem step_size {s : ByteArray} {off : Int} {r : RdV} (h : RdOk s off r) (hs : s.size ≤ 100) (h0 : 0 ≤ off) (h1 : off ≤ 1099511627776) (x : ReadV) : (wrStep r x).1.size ≤ 300 := by
  have hb := bytes_len h x.n
  have hp := h.place hs h0 h1
  unfold wrStep
  split
  · omega
  · split
    · have := num64_rng (tkR r true x.n).1.data.toList
      have := numS_size this.1 this.2
      dsimp only
      omega
    · split
      · have := boolS_size r.zeros.err.isNone
        dsimp only
        omega
      · split
        · have e1 := numS_size (n := r.place) (by omega) (by omega)
          have e2 := numS_size (n := ((r.bytes x.n).1.size : Int)) (by omega) (by omega)
          have hf := (bytes_ok h x.n).fa
          have e3 := numS_size (n := (Go.Proofs.YthajjbcnemdacaaDoor.fa (r.bytes x.n).2).1) (by omega) (by omega)
          have e4 : spS.size = 1 := rfl
          simp only [ByteArray.size_append]
          omega
        · split
          · exact Nat.zero_le _
          · exact Nat.zero_le _

/-! ### The closures -/
theorem good_c (g : G) : Tells Tryd.prog 49 [] g (.agg [.v (.int .i64 0), .v (.int .i64 (-1))]) := by
  refine meets_of mixedW Tryd.func49 (by kernel_rfl) x49_ok (some []) ?_
  exact ⟨rfl, rfl, rfl⟩
theorem is_c (e pl : Int) (g : G) : Tells Tryd.prog 51 [.agg [.v (.int .i64 e), .v (.int .i64 pl)]] g (.v (.bool (e == 0))) := by
  refine meets_of mixedW Tryd.func51 (by kernel_rfl) x51_ok (some []) ?_
  exact ⟨rfl, rfl, rfl⟩
/-- Whether nothing is noted yet. -/
theorem isR_c (r : RdV) (hr : okE r) (g : G) : Tells Tryd.prog 51 [.agg [.v (.int .i64 (fa r).1), .v (.int .i64 (fa r).2)]] g (.v (.bool r.err.isNone)) := by
  have e : ((fa r).1 == 0) = r.err.isNone := by
    cases he : r.err with
    | none => rw [fa_none he]; rfl
    | some p => rw [fa_some he]; have := hr p he; simp; omega
  rw [← e]
  exact is_c _ _ g
def faC (r : RdV) : Chunk := .cells 45 [.v (.int .i64 (fa r).1), .v (.int .i64 (fa r).2)]
theorem fail_eq {r : RdV} (h : r.err = none) (n pl : Int) : r.fail n pl = ⟨r.s, r.at_, r.off, some (n, pl)⟩ := by simp [RdV.fail, h]
theorem note_c (r : RdV) (hr : okE r) (n pl : Int) (g : G) : Meets Tryd.prog 50 [.v (.int .i64 n), .v (.int .i64 pl), .ptr 0 0] [faC r] g (fun o L' g' => o = .ret (.tup []) ∧ L' = [faC (r.fail n pl)] ∧ g' = g) := by
  refine meets_of mixedW Tryd.func50 (by kernel_rfl) x50_ok (some []) ?_
  refine (isR_c r hr g).call rfl rfl rfl ?_
  cases he : r.err with
  | none => exact ⟨rfl, by rw [fail_eq he]; rfl, rfl⟩
  | some p => exact ⟨rfl, by rw [RdV.fail_err he]; rfl, rfl⟩
theorem noteN_c (r : RdV) (hr : okE r) (h : r.err = none) (n pl : Int) (g : G) : Meets Tryd.prog 50 [.v (.int .i64 n), .v (.int .i64 pl), .ptr 0 0] [faC r] g (fun o L' g' => o = .ret (.tup []) ∧ L' = [.cells 45 [.v (.int .i64 n), .v (.int .i64 pl)]] ∧ g' = g) := by
  have e : faC (r.fail n pl) = .cells 45 [.v (.int .i64 n), .v (.int .i64 pl)] := by rw [fail_eq h]; rfl
  rw [← e]
  exact note_c r hr n pl g
def noteV (k : Nat) : SV := .fn 50 [] [.ptr k 0]
/-- What the second closure holds. -/
def tkL (r : RdV) : List Chunk := [faC r, .cells 58 [noteV 0], .cells 3 [.v (.int .i64 r.off)], .cells 3 [.v (.int .i64 r.at_)], .cells 9 [.v (.string r.s)]]
theorem take_c (r : RdV) (hr : r.ok) (he : okE r) (n : Int) (b : Bool) (g : G) : Meets Tryd.prog 52 [.v (.int .i64 n), .v (.bool b), .ptr 0 0, .ptr 1 0, .ptr 2 0, .ptr 3 0, .ptr 4 0] (tkL r) g (fun o L' g' => o = .ret (.v (.string (tkR r b n).1)) ∧ L' = tkL (tkR r b n).2 ∧ g' = g) := by
  obtain ⟨h1, h2, h3, h4⟩ := id hr
  have w0 : IntKind.i64.wrap ((r.s.size : Int) - r.at_) = (r.s.size : Int) - r.at_ := wrap_id (by omega) (by omega)
  have wp : IntKind.i64.wrap (r.off + r.at_) = r.place := wrap_id (by omega) (by omega)
  refine meets_of mixedW Tryd.func52 (by kernel_rfl) x52_ok (some []) ?_
  refine (isR_c r he g).call rfl rfl rfl ?_
  cases hq : r.err with
  | some p =>
    rw [tkR_some hq]
    exact ⟨rfl, rfl, rfl⟩
  | none =>
    have bad : ∀ e : Int, tkR r b n = (emp, ⟨r.s, r.at_, r.off, some (e, r.place)⟩) → tkR r b n = (emp, ⟨r.s, r.at_, r.off, some (e, IntKind.i64.wrap (r.off + r.at_))⟩) := fun e h => by rw [wp]; exact h
    cases b with
    | false =>
      have hk : tkR r false n = r.bytes n := tkR_any (by simp)
      refine bsplit_of (fun k => ?_) (fun k => ?_)
      · have hT := bad 2 (by rw [← fail_eq hq, hk]; simp at k; simp [RdV.bytes, hq, k]; rfl)
        refine (noteN_c r he hq 2 _ g).callS [0] 5 rfl rfl rfl rfl ?_
        rintro o L1 g' ⟨rfl, rfl, rfl⟩ _
        rw [hT]
        exact ⟨rfl, rfl, rfl⟩
      · have hn : 0 ≤ n := by simpa using k
        refine bsplit_of (fun k2 => ?_) (fun k2 => ?_)
        · have k2' : (r.s.size : Int) - r.at_ < n := by rw [w0] at k2; simpa using k2
          have hT := bad 7 (by rw [hk, RdV.bytes_short hq hn k2']; rfl)
          refine (noteN_c r he hq 7 _ g).callS [0] 5 rfl rfl rfl rfl ?_
          rintro o L1 g' ⟨rfl, rfl, rfl⟩ _
          rw [hT]
          exact ⟨rfl, rfl, rfl⟩
        · have k2' : ¬ (r.s.size : Int) - r.at_ < n := by rw [w0] at k2; simpa using k2
          have w1 : IntKind.i64.wrap ((r.at_ : Int) + n) = r.at_ + n := wrap_id (by omega) (by omega)
          have w2 : IntKind.i64.wrap (IntKind.i64.wrap ((r.at_ : Int) + n) - n) = r.at_ := by rw [w1, wrap_id (by omega) (by omega)]; omega
          refine ⟨⟨by rw [w1]; omega, by rw [w1]; omega⟩, ⟨by rw [w2]; omega, by rw [w2, w1]; omega⟩, ?_⟩
          rw [hk, RdV.bytes_good hq hn k2']
          refine ⟨?_, ?_, rfl⟩
          · exact rs (by rw [w2, w1, Int.toNat_natCast]; show _ = r.s.extract r.at_ (r.at_ + n.toNat); congr 1; omega)
          · refine (congrArg (fun x : Int => [faC r, .cells 58 [noteV 0], .cells 3 [.v (.int .i64 r.off)], .cells 3 [.v (.int .i64 x)], .cells 9 [.v (.string r.s)]]) (show IntKind.i64.wrap ((r.at_ : Int) + n) = ((r.at_ + n.toNat : Nat) : Int) by rw [w1]; omega)).trans ?_
            show _ = tkL ⟨r.s, r.at_ + n.toNat, r.off, r.err⟩
            rfl
    | true =>
      refine bsplit_of (fun k => ?_) (fun k => ?_)
      · have hT := bad 2 (by rw [← fail_eq hq]; exact tkR_num hq (by simp at k; omega))
        refine (noteN_c r he hq 2 _ g).callS [0] 5 rfl rfl rfl rfl ?_
        rintro o L1 g' ⟨rfl, rfl, rfl⟩ _
        rw [hT]
        exact ⟨rfl, rfl, rfl⟩
      refine bsplit_of (fun k3 => ?_) (fun k3 => ?_)
      · have hT := bad 2 (by rw [← fail_eq hq]; exact tkR_num hq (by simp at k3; omega))
        refine (noteN_c r he hq 2 _ g).callS [0] 5 rfl rfl rfl rfl ?_
        rintro o L1 g' ⟨rfl, rfl, rfl⟩ _
        rw [hT]
        exact ⟨rfl, rfl, rfl⟩
      refine bsplit_of (fun k4 => ?_) (fun k4 => ?_)
      · have hT := bad 2 (by rw [← fail_eq hq]; exact tkR_num hq (by simp at k4; omega))
        refine (noteN_c r he hq 2 _ g).callS [0] 5 rfl rfl rfl rfl ?_
        rintro o L1 g' ⟨rfl, rfl, rfl⟩ _
        rw [hT]
        exact ⟨rfl, rfl, rfl⟩
      have hk : tkR r true n = r.bytes n := tkR_any (by rintro ⟨-, -, k'⟩; simp at k3 k4; omega)
      have hn : 0 ≤ n := by simpa using k
      refine bsplit_of (fun k2 => ?_) (fun k2 => ?_)
      · have k2' : (r.s.size : Int) - r.at_ < n := by rw [w0] at k2; simpa using k2
        have hT := bad 7 (by rw [hk, RdV.bytes_short hq hn k2']; rfl)
        refine (noteN_c r he hq 7 _ g).callS [0] 5 rfl rfl rfl rfl ?_
        rintro o L1 g' ⟨rfl, rfl, rfl⟩ _
        rw [hT]
        exact ⟨rfl, rfl, rfl⟩
      · have k2' : ¬ (r.s.size : Int) - r.at_ < n := by rw [w0] at k2; simpa using k2
        have w1 : IntKind.i64.wrap ((r.at_ : Int) + n) = r.at_ + n := wrap_id (by omega) (by omega)
        have w2 : IntKind.i64.wrap (IntKind.i64.wrap ((r.at_ : Int) + n) - n) = r.at_ := by rw [w1, wrap_id (by omega) (by omega)]; omega
        refine ⟨⟨by rw [w1]; omega, by rw [w1]; omega⟩, ⟨by rw [w2]; omega, by rw [w2, w1]; omega⟩, ?_⟩
        rw [hk, RdV.bytes_good hq hn k2']
        refine ⟨?_, ?_, rfl⟩
        · exact rs (by rw [w2, w1, Int.toNat_natCast]; show _ = r.s.extract r.at_ (r.at_ + n.toNat); congr 1; omega)
        · refine (congrArg (fun x : Int => [faC r, .cells 58 [noteV 0], .cells 3 [.v (.int .i64 r.off)], .cells 3 [.v (.int .i64 x)], .cells 9 [.v (.string r.s)]]) (show IntKind.i64.wrap ((r.at_ : Int) + n) = ((r.at_ + n.toNat : Nat) : Int) by rw [w1]; omega)).trans ?_
          show _ = tkL ⟨r.s, r.at_ + n.toNat, r.off, r.err⟩
          rfl
end Go.Proofs.YthajjbcnemdacaaDoor
