/- lacp.Write and its reference; the law LacpWrites. Conditions: of the law: the variable errors.errorType is as laid. -/
import Derived.Test.YtpdngikdpepekaaDoorLacpC
namespace Go.Proofs.YtpdngikdpepekaaDoor
open Go.Sx Go.Lib Go.RowKit
set_option maxRecDepth 100000
set_option maxHeartbeats 8000000
attribute [local irreducible] Meets
attribute [local instance] Classical.propDecidable

def zeroS (n : Nat) : ByteArray := ⟨(repeatL [0] n).toArray⟩
theorem zeroS_size (n : Nat) : (zeroS n).size = n := by
  show (repeatL [0] n).toArray.size = n
  rw [List.size_toArray, repeatL_length]; simp
theorem zeroS_next (n : Nat) : zeroS n ++ ⟨#[0]⟩ = zeroS (n + 1) := by
  apply ByteArray.ext
  apply Array.ext'
  rw [ByteArray.data_append, Array.toList_append]
  show repeatL [0] n ++ [0] = repeatL [0] (n + 1)
  rw [repeatL_add, repeatL_one]
theorem rep_c (g : G) : Tells Tryd.prog 31 [.v (.string ⟨#[0]⟩), .v (.int .i64 64)] g (.v (.string (zeroS 64))) :=
  Tells.of_below (by kernel_rfl) rfl fun _ w _ => sh_strings_Repeat ⟨#[0]⟩ 64 w (by decide) (by decide)

def c11 : ByteArray := ⟨#[1, 1]⟩
def accL (l : LacpV) : Nat → ByteArray
  | 0 => c11
  | 1 => c11 ++ sideS 1 l.actor
  | _ => c11 ++ sideS 1 l.actor ++ sideS 2 l.partner
def lacpS (l : LacpV) : ByteArray := c11 ++ sideS 1 l.actor ++ sideS 2 l.partner ++ ⟨#[3, 16]⟩ ++ beS 2 l.delay.toNat ++ zeroS 64
theorem c11_size : c11.size = 2 := rfl
theorem accL_size (l : LacpV) : (accL l 2).size = 42 := by simp only [accL, ByteArray.size_append, sideS_size, c11_size]

attribute [local irreducible] zeroS
theorem write_good (l : LacpV) (g : G) (hl : l.ok g) (h : lacpP l) : Tells Tryd.prog 9 [.agg (l.cells.map .v)] g (.tup [.v (.string (lacpS l)), .v .nilIface]) := by
  refine meets_of mixedW Tryd.func9 (by kernel_rfl) x9_ok (some []) ?_
  refine (lacpRight_c l g hl).call rfl rfl rfl ?_
  refine bsplit_of (fun (q : (!decide (lacpP l)) = true) => absurd q (by simp [h])) (fun _ => ?_)
  have ad := short_in h.2.2 (x := l.delay) (by simp)
  have s1 := side_c 1 (by decide) l.actor g h.1
  have s2 := side_c 2 (by decide) l.partner g h.2.1
  refine s1.call rfl rfl rfl ?_
  refine ⟨by show c11.size + _ ≤ 9223372036854775807; rw [sideS_size, c11_size]; decide, ?_⟩
  refine s2.call rfl rfl rfl ?_
  refine ⟨by show (c11 ++ sideS 1 l.actor).size + _ ≤ 9223372036854775807; simp only [ByteArray.size_append, sideS_size, c11_size]; decide, ?_⟩
  refine ⟨by show (c11 ++ sideS 1 l.actor ++ sideS 2 l.partner).size + _ ≤ 9223372036854775807; simp only [ByteArray.size_append, sideS_size, c11_size, sz2]; decide, ?_⟩
  refine (mustG l.delay 2 g (by decide) (by decide) ad.1 ad.2.1 ad.2.2).call rfl rfl rfl ?_
  refine ⟨by show (c11 ++ sideS 1 l.actor ++ sideS 2 l.partner ++ ⟨#[3, 16]⟩).size + _ ≤ 9223372036854775807; simp only [ByteArray.size_append, sideS_size, c11_size, sz2, beS_size]; decide, ?_⟩
  refine (rep_c g).call rfl rfl rfl ?_
  refine ⟨by show (c11 ++ sideS 1 l.actor ++ sideS 2 l.partner ++ ⟨#[3, 16]⟩ ++ beS 2 l.delay.toNat).size + (zeroS 64).size ≤ 9223372036854775807; simp only [ByteArray.size_append, sideS_size, c11_size, sz2, beS_size, zeroS_size]; decide, ?_⟩
  exact ⟨rfl, rfl, rfl⟩
theorem write_bad (l : LacpV) (g : G) (hl : l.ok g) (h : ¬ lacpP l) : Tells Tryd.prog 9 [.agg (l.cells.map .v)] g (.tup [.v (.string emp), .v (errW 1)]) := by
  refine meets_of mixedW Tryd.func9 (by kernel_rfl) x9_ok (some []) ?_
  refine (lacpRight_c l g hl).call rfl rfl rfl ?_
  refine bsplit_of (fun _ => ⟨rfl, rfl, rfl⟩) (fun (q : (!decide (lacpP l)) = false) => absurd q (by simp [h]))

theorem writeR_bad (l : LacpV) (g : G) (hl : l.ok g) (h : ¬ lacpP l) : Tells Tryd.prog 8 [.agg (l.cells.map .v)] g (.tup [.v (.string emp), .v (.int .i64 1)]) := by
  refine meets_of mixedW Tryd.func8 (by kernel_rfl) x8_ok (some []) ?_
  refine (lacpRightR_c l g hl).call rfl rfl rfl ?_
  refine bsplit_of (fun _ => ⟨rfl, rfl, rfl⟩) (fun (q : (!decide (lacpP l)) = false) => absurd q (by simp [h]))

theorem sideR {k : Nat} (x : Int) (hx : x.toNat = k) (p : PartyV) : beS 1 x.toNat ++ beS 1 (20 : Int).toNat ++ beS 2 p.sysPrio.toNat ++ bytesOfInts [p.sys.e0, p.sys.e1, p.sys.e2, p.sys.e3, p.sys.e4, p.sys.e5] ++ beS 2 p.key.toNat ++ beS 2 p.portPrio.toNat ++ beS 2 p.port.toNat ++ beS 1 p.state.toNat ++ beS 3 (0 : Int).toNat = sideS k p := by
  rw [hx]
  have e1 : beS 1 (20 : Int).toNat = ⟨#[20]⟩ := by decide +kernel
  have e2 : beS 3 (0 : Int).toNat = ⟨#[0, 0, 0]⟩ := by decide +kernel
  rw [e1, e2]
  rfl

theorem writeR_good (l : LacpV) (g : G) (hl : l.ok g) (h : lacpP l) : Tells Tryd.prog 8 [.agg (l.cells.map .v)] g (.tup [.v (.string (lacpS l)), .v (.int .i64 0)]) := by
  refine meets_of mixedW Tryd.func8 (by kernel_rfl) x8_ok (some []) ?_
  refine (lacpRightR_c l g hl).call rfl rfl rfl ?_
  refine bsplit_of (fun (q : (!decide (lacpP l)) = true) => absurd q (by simp [h])) (fun _ => ?_)
  have adl := short_in h.2.2 (x := l.delay) (by simp)
  change LoopW _ _ _ _ _ _ _
  apply loop_rule [] (α := Nat) (fun k => [(16, .v (.int .i64 k)), (4, .v (.string (accL l k)))]) (fun _ => [.cells 27 (l.cells.map .v), .cells 25 ((l.actor.cells ++ l.partner.cells).map .v)]) (fun _ => g) (fun k => k ≤ 2) (fun k => 2 - k) 0
  · intro x; kernel_rfl
  · exact Nat.zero_le _
  · exact ⟨rfl, rfl, trivial⟩
  · rfl
  · rfl
  intro k hk
  obtain rfl | rfl | rfl : k = 0 ∨ k = 1 ∨ k = 2 := by omega
  · refine ⟨⟨by decide, by decide⟩, ?_⟩
    obtain ⟨h1, h2, h3⟩ := h.1
    have a1 := short_in h1 (x := l.actor.sysPrio) (by simp)
    have a2 := short_in h1 (x := l.actor.key) (by simp)
    have a3 := short_in h1 (x := l.actor.portPrio) (by simp)
    have a4 := short_in h1 (x := l.actor.port) (by simp)
    refine (beG (IntKind.i64.wrap (((0 : Nat) : Int) + 1)) 1 g (by decide) (by decide) (by decide)).call rfl rfl rfl ?_
    refine (beG 20 1 g (by decide) (by decide) (by decide)).call rfl rfl rfl ?_
    refine ⟨by show _ ≤ 9223372036854775807; simp only [ByteArray.size_append, beS_size, sz1, sz3, szA]; decide, ?_⟩
    refine (beG l.actor.sysPrio 2 g (by decide) a1.1 a1.2.2).call rfl rfl rfl ?_
    refine ⟨by show _ ≤ 9223372036854775807; simp only [ByteArray.size_append, beS_size, sz1, sz3, szA]; decide, ?_⟩
    refine ⟨by show _ ≤ 9223372036854775807; simp only [ByteArray.size_append, beS_size, sz1, sz3, szA]; decide, ?_⟩
    refine (beG l.actor.key 2 g (by decide) a2.1 a2.2.2).call rfl rfl rfl ?_
    refine ⟨by show _ ≤ 9223372036854775807; simp only [ByteArray.size_append, beS_size, sz1, sz3, szA]; decide, ?_⟩
    refine (beG l.actor.portPrio 2 g (by decide) a3.1 a3.2.2).call rfl rfl rfl ?_
    refine ⟨by show _ ≤ 9223372036854775807; simp only [ByteArray.size_append, beS_size, sz1, sz3, szA]; decide, ?_⟩
    refine (beG l.actor.port 2 g (by decide) a4.1 a4.2.2).call rfl rfl rfl ?_
    refine ⟨by show _ ≤ 9223372036854775807; simp only [ByteArray.size_append, beS_size, sz1, sz3, szA]; decide, ?_⟩
    refine (beG l.actor.state 1 g (by decide) h2 (by omega)).call rfl rfl rfl ?_
    refine ⟨by show _ ≤ 9223372036854775807; simp only [ByteArray.size_append, beS_size, sz1, sz3, szA]; decide, ?_⟩
    refine (beG 0 3 g (by decide) (by decide) (by decide)).call rfl rfl rfl ?_
    refine ⟨by show _ ≤ 9223372036854775807; simp only [ByteArray.size_append, beS_size, sz1, sz3, szA]; decide, ?_⟩
    refine ⟨by show (accL l 0).size + _ ≤ 9223372036854775807; simp only [accL, c11_size, sideS_size, ByteArray.size_append, beS_size, sz1, sz3, szA]; decide, ?_⟩
    refine ⟨0 + 1, by decide, by decide, [0, 1], rfl, ⟨vi (by decide), vs ?_, trivial⟩, rfl, rfl, rfl, rfl⟩
    exact congrArg (accL l 0 ++ ·) (sideR (k := 0 + 1) (IntKind.i64.wrap (((0 : Nat) : Int) + 1)) (by decide) l.actor)
  · refine ⟨⟨by decide, by decide⟩, ?_⟩
    obtain ⟨h1, h2, h3⟩ := h.2.1
    have a1 := short_in h1 (x := l.partner.sysPrio) (by simp)
    have a2 := short_in h1 (x := l.partner.key) (by simp)
    have a3 := short_in h1 (x := l.partner.portPrio) (by simp)
    have a4 := short_in h1 (x := l.partner.port) (by simp)
    refine (beG (IntKind.i64.wrap (((1 : Nat) : Int) + 1)) 1 g (by decide) (by decide) (by decide)).call rfl rfl rfl ?_
    refine (beG 20 1 g (by decide) (by decide) (by decide)).call rfl rfl rfl ?_
    refine ⟨by show _ ≤ 9223372036854775807; simp only [ByteArray.size_append, beS_size, sz1, sz3, szA]; decide, ?_⟩
    refine (beG l.partner.sysPrio 2 g (by decide) a1.1 a1.2.2).call rfl rfl rfl ?_
    refine ⟨by show _ ≤ 9223372036854775807; simp only [ByteArray.size_append, beS_size, sz1, sz3, szA]; decide, ?_⟩
    refine ⟨by show _ ≤ 9223372036854775807; simp only [ByteArray.size_append, beS_size, sz1, sz3, szA]; decide, ?_⟩
    refine (beG l.partner.key 2 g (by decide) a2.1 a2.2.2).call rfl rfl rfl ?_
    refine ⟨by show _ ≤ 9223372036854775807; simp only [ByteArray.size_append, beS_size, sz1, sz3, szA]; decide, ?_⟩
    refine (beG l.partner.portPrio 2 g (by decide) a3.1 a3.2.2).call rfl rfl rfl ?_
    refine ⟨by show _ ≤ 9223372036854775807; simp only [ByteArray.size_append, beS_size, sz1, sz3, szA]; decide, ?_⟩
    refine (beG l.partner.port 2 g (by decide) a4.1 a4.2.2).call rfl rfl rfl ?_
    refine ⟨by show _ ≤ 9223372036854775807; simp only [ByteArray.size_append, beS_size, sz1, sz3, szA]; decide, ?_⟩
    refine (beG l.partner.state 1 g (by decide) h2 (by omega)).call rfl rfl rfl ?_
    refine ⟨by show _ ≤ 9223372036854775807; simp only [ByteArray.size_append, beS_size, sz1, sz3, szA]; decide, ?_⟩
    refine (beG 0 3 g (by decide) (by decide) (by decide)).call rfl rfl rfl ?_
    refine ⟨by show _ ≤ 9223372036854775807; simp only [ByteArray.size_append, beS_size, sz1, sz3, szA]; decide, ?_⟩
    refine ⟨by show (accL l 1).size + _ ≤ 9223372036854775807; simp only [accL, c11_size, sideS_size, ByteArray.size_append, beS_size, sz1, sz3, szA]; decide, ?_⟩
    refine ⟨1 + 1, by decide, by decide, [0, 1], rfl, ⟨vi (by decide), vs ?_, trivial⟩, rfl, rfl, rfl, rfl⟩
    exact congrArg (accL l 1 ++ ·) (sideR (k := 1 + 1) (IntKind.i64.wrap (((1 : Nat) : Int) + 1)) (by decide) l.partner)
  · refine (beG l.delay 2 g (by decide) adl.1 adl.2.2).call rfl rfl rfl ?_
    refine ⟨by show _ ≤ 9223372036854775807; simp only [beS_size, sz2]; decide, ?_⟩
    have hs3 : (accL l 2 ++ (⟨#[3, 16]⟩ ++ beS 2 l.delay.toNat)).size = 46 := by simp only [ByteArray.size_append, accL_size, sz2, beS_size]
    refine ⟨by show (accL l 2).size + _ ≤ 9223372036854775807; simp only [ByteArray.size_append, accL_size, sz2, beS_size]; decide, ?_⟩
    have hfin : accL l 2 ++ (⟨#[3, 16]⟩ ++ beS 2 l.delay.toNat) ++ zeroS 64 = lacpS l := by
      rw [lacpS, ← ByteArray.append_assoc]; rfl
    generalize hS : accL l 2 ++ (⟨#[3, 16]⟩ ++ beS 2 l.delay.toNat) = s3 at hs3 hfin
    change LoopW _ _ _ _ _ _ _
    apply loop_rule [] (α := ByteArray × Nat) (fun x => [(4, .v (.string x.1))]) (fun _ => [.cells 27 (l.cells.map .v), .cells 25 ((l.actor.cells ++ l.partner.cells).map .v)]) (fun _ => g) (fun x => x.1 = s3 ++ zeroS x.2 ∧ x.2 ≤ 64) (fun x => 64 - x.2) (s3, 0)
    · intro x; kernel_rfl
    · refine ⟨?_, Nat.zero_le _⟩
      show s3 = s3 ++ zeroS 0
      have : zeroS 0 = ByteArray.empty := by unfold zeroS; rfl
      rw [this]; simp
    · exact ⟨rfl, trivial⟩
    · rfl
    · rfl
    rintro ⟨t, j⟩ ⟨ht, hj⟩
    dsimp only at ht hj
    have hts : t.size = 46 + j := by rw [ht, ByteArray.size_append, hs3, zeroS_size]
    refine bsplit_of (fun (q : decide ((t.size : Int) < 110) = true) => ?_) (fun (q : decide ((t.size : Int) < 110) = false) => ?_)
    · have q := of_decide_eq_true q
      refine ⟨by show t.size + 1 ≤ _; omega, ?_⟩
      refine ⟨(t ++ ⟨#[0]⟩, j + 1), ⟨?_, by show j + 1 ≤ 64; omega⟩, by show 64 - (j + 1) < 64 - j; omega, [0, 1], rfl, ⟨rfl, trivial⟩, rfl, rfl, rfl, rfl⟩
      show t ++ ⟨#[0]⟩ = s3 ++ zeroS (j + 1)
      rw [ht, ByteArray.append_assoc, zeroS_next]
    · have q := of_decide_eq_false q
      have hj64 : j = 64 := by omega
      subst hj64
      rw [← hfin, ← ht]
      exact ⟨rfl, rfl, rfl⟩

noncomputable def wS (l : LacpV) : ByteArray := if lacpP l then lacpS l else emp
noncomputable def wE (l : LacpV) : Int := if lacpP l then 0 else 1
theorem write_c (l : LacpV) (g : G) (hl : l.ok g) : Tells Tryd.prog 9 [.agg (l.cells.map .v)] g (.tup [.v (.string (wS l)), .v (nilOr (wE l))]) := by
  by_cases h : lacpP l
  · rw [wS, wE, if_pos h, if_pos h, nilOr, if_pos rfl]; exact write_good l g hl h
  · rw [wS, wE, if_neg h, if_neg h, nilOr, if_neg (by decide)]; exact write_bad l g hl h
theorem writeR_c (l : LacpV) (g : G) (hl : l.ok g) : Tells Tryd.prog 8 [.agg (l.cells.map .v)] g (.tup [.v (.string (wS l)), .v (.int .i64 (wE l))]) := by
  by_cases h : lacpP l
  · rw [wS, wE, if_pos h, if_pos h]; exact writeR_good l g hl h
  · rw [wS, wE, if_neg h, if_neg h]; exact writeR_bad l g hl h

/-- The law LacpWrites. -/
theorem lacpWrites_c (l : LacpV) (g : G) (hl : l.ok g) (hE : ErrVar g) : Meets Tryd.prog 3 [.agg (l.cells.map .v)] [] g (fun o _ _ => o = .ret (.v (.bool true))) := by
  refine meets_of mixedW Tryd.func3 (by kernel_rfl) x3_ok (some []) ?_
  refine (writeR_c l g hl).call rfl rfl rfl ?_
  refine (write_c l g hl).call rfl rfl rfl ?_
  refine (bare_c _ _ _ (wE l) g hE (errP_nilOr (wE l))).call rfl rfl rfl ?_
  refine bsplit_of (fun _ => ?_) (fun h => absurd h (by simp))
  refine bsplit_of (fun _ => ?_) (fun (h : ((wS l).toList == (wS l).toList) = false) => absurd h (by simp))
  refine (lacpRight_c l g hl).call rfl rfl rfl ?_
  refine (lacpRightR_c l g hl).call rfl rfl rfl ?_
  exact rb (by simp)
end Go.Proofs.YtpdngikdpepekaaDoor
