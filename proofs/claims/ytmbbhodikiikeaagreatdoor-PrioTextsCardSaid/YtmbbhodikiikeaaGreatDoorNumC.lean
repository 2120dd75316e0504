/- strings.Cut at a byte, strconv.Itoa and Atoi: what each returns. Conditions: that the variables of the library that they read are as laid. -/
import Derived.Test.YtmbbhodikiikeaaGreatDoorNumL
import Derived.Test.YtmbbhodikiikeaaGreatDoorShelfN
import Derived.Test.YtmbbhodikiikeaaGreatDoorMtA
import Derived.Test.YtmbbhodikiikeaaGreatDoorBaseD
import Derived.Lib.AppendIntMem
namespace Go.Proofs.YtmbbhodikiikeaaGreatDoor
open Go.Sx Go.Lib Go.RowKit
set_option maxRecDepth 100000
set_option maxHeartbeats 8000000
attribute [local irreducible] Meets
attribute [local instance] Classical.propDecidable

/-- The table of powers of ten is as laid. -/
def TabVar (g : G) : Prop := ∀ w : World, (∀ b o, g b = some o → w.heap[b]? = some o) → Lib.TabIs Tryz.prog w "internal/strconv.uint64pow10" .u64 Lib.pow10Tab
/-- The errors of strconv are errors. -/
def SynVar (g : G) : Prop := (∃ t x, g.at ⟨1, 0, none⟩ [.iface t x]) ∧ ∃ t x, g.at ⟨2, 0, none⟩ [.iface t x]

theorem cell_of_at {g : G} {w : World} {b : Nat} {v : Value} (him : ∀ b o, g b = some o → w.heap[b]? = some o) (h : g.at ⟨b, 0, none⟩ [v]) : w.cell? ⟨b, 0, none⟩ = some v := by
  obtain ⟨-, c, ty, fz, h2, h3⟩ := h
  have := him _ _ h2
  have h4 := h3 0 (Nat.lt_succ_self 0)
  simp only [World.cell?, this]
  simpa using h4
theorem itoa_c (n : Int) (h0 : -9223372036854775808 ≤ n) (h1 : n ≤ 9223372036854775807) (g : G) (hT : TabVar g) : Tells Tryz.prog 10 [.v (.int .i64 n)] g (.v (.string (numS n))) :=
  Tells.of_below (by kernel_rfl) rfl fun σ w him => by
    refine Calls.mono (sh_strconv_Itoa n h0 h1 w (hT w him)) fun e w' h => ?_
    obtain ⟨h1, k, os, rfl⟩ := h
    exact ⟨h1, below_grow _ w (Nat.le_refl _) k os⟩
theorem cut_c (c : UInt8) (s : ByteArray) (hs : s.size ≤ 1000000) (g : G) (hM : MaxVar g) : Tells Tryz.prog 17 [.v (.string s), .v (.string ⟨#[c]⟩)] g (.tup [.v (.string (cutS c s).1), .v (.string (cutS c s).2.1), .v (.bool (cutS c s).2.2)]) := by
  refine Tells.of_belowR (by kernel_rfl) rfl ⟨rfl, fun h => by cases h⟩ fun σ w him => ?_
  obtain ⟨m, h1⟩ := hM
  refine Calls.mono (sh_strings_Cut s ⟨#[c]⟩ m w (by omega) (cell_of_at him h1)) fun e w' h => ?_
  obtain ⟨h1, n, rfl⟩ := h
  exact ⟨h1, rfl, rfl, rfl, Nat.le_refl _, fun _ _ => rfl⟩
/-- What strconv.Atoi returns. -/
def atoiR (s : ByteArray) (r : SV) : Prop := (∃ v, Lib.atoiAll s.data.toList = .ok v ∧ r = .tup [.v (.int .i64 v), .v .nilIface]) ∨ ((∀ v, Lib.atoiAll s.data.toList ≠ .ok v) ∧ ∃ n t x, r = .tup [.v (.int .i64 n), .v (.iface t x)])
theorem atoi_c (s : ByteArray) (hs : s.size ≤ 1000000) (g : G) (hS : SynVar g) : Meets Tryz.prog 19 [.v (.string s)] [] g (fun o L' g' => ∃ r, atoiR s r ∧ o = .ret r ∧ L' = [] ∧ g' = g) := by
  obtain ⟨⟨t1, x1, h1⟩, t2, x2, h2⟩ := hS
  refine Meets.of_belowE (by kernel_rfl) rfl fun σ w him => ?_
  cases hv : Lib.atoiAll s.data.toList with
  | ok v =>
    refine Calls.mono (sh_strconv_Atoi_ok s (by omega) v hv w) fun e w' h => ?_
    obtain ⟨h1, h2⟩ := h
    refine ⟨.tup [.v (.int .i64 v), .v .nilIface], ⟨rfl, fun h => by cases h⟩, h1, ?_, .inl ⟨v, hv, rfl⟩⟩
    rcases h2 with rfl | ⟨t, rfl⟩
    · exact Below.refl _ _
    · exact bytesWorld_below _ _ _
  | range =>
    refine Calls.mono (sh_strconv_Atoi_range s (by omega) hv (.iface t2 x2) w (cell_of_at him h2) (.inr ⟨_, _, rfl⟩)) fun e w' h => ?_
    obtain ⟨N, h1, -, -, h2⟩ := h
    exact ⟨.tup [.v (.int .i64 (Lib.atoiSat s.data.toList)), .v (.iface 81 (.pointer (some ⟨N, 0, none⟩)))], ⟨rfl, fun h => by cases h⟩, h1, h2, .inr ⟨(fun v h => by rw [hv] at h; cases h), _, _, _, rfl⟩⟩
  | _ =>
    refine Calls.mono (Any.strconv_Atoi_syntax sh_laysC172 s (by omega) hv (.iface t1 x1) w (cell_of_at him h1) (.inr ⟨_, _, rfl⟩)) fun e w' h => ?_
    obtain ⟨N, h1, -, -, h2⟩ := h
    exact ⟨.tup [.v (.int .i64 0), .v (.iface 81 (.pointer (some ⟨N, 0, none⟩)))], ⟨rfl, fun h => by cases h⟩, h1, h2, .inr ⟨(fun v h => by rw [hv] at h; cases h), _, _, _, rfl⟩⟩

theorem rtsT {a b : ByteArray} {e : SV} (h : a = b) : Out.ret (.tup [.v (.string a), e]) = .ret (.tup [.v (.string b), e]) := by rw [h]
theorem gle (g : G) : G.le g g := fun _ _ h => h
theorem byteG {g : G} {ad : Addr} {s : ByteArray} (h : g.at ad (s.data.toList.map fun b => Value.int .u8 b.toNat)) {k : Nat} (hk : k < s.size) : ∃ b : UInt8, s.data.toList[k]? = some b ∧ g.at (ad.add (k * 1)) [.int .u8 b.toNat] := by
  have hl : s.data.toList.length = s.size := by rw [Array.length_toList]; rfl
  obtain ⟨b, hb⟩ : ∃ b, s.data.toList[k]? = some b := lt_some (by omega)
  refine ⟨b, hb, ?_⟩
  have := h.sub k 1 (by rw [List.length_map]; omega)
  rw [Nat.mul_one]
  have e : ((s.data.toList.map fun b => Value.int .u8 b.toNat).drop k).take 1 = [.int .u8 b.toNat] := by
    rw [List.drop_eq_getElem_cons (by rw [List.length_map]; omega), List.take_succ_cons, List.take_zero]
    rw [List.getElem?_eq_getElem (by omega)] at hb
    cases hb
    simp
  rw [e] at this
  exact this
end Go.Proofs.YtmbbhodikiikeaaGreatDoor
