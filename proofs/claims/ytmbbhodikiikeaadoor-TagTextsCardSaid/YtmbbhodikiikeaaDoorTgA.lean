/- strings.Cut at a byte, strconv.Itoa and Atoi; tag.Text and its reference: what each returns. Conditions: that the variables of the library that they read are as laid. -/
import Derived.Test.YtmbbhodikiikeaaDoorXtagt
import Derived.Test.YtmbbhodikiikeaaDoorTgL
import Derived.Test.YtmbbhodikiikeaaDoorShelfN
import Derived.Test.YtmbbhodikiikeaaDoorMtD
import Derived.Test.YtmbbhodikiikeaaDoorBaseD
import Derived.Lib.AppendIntMem
namespace Go.Proofs.YtmbbhodikiikeaaDoor
open Go.Sx Go.Lib Go.RowKit
set_option maxRecDepth 100000
set_option maxHeartbeats 8000000
attribute [local irreducible] Meets
attribute [local instance] Classical.propDecidable

/-- The table of powers of ten is as laid. -/
def TabVar (g : G) : Prop := ∀ w : World, (∀ b o, g b = some o → w.heap[b]? = some o) → Lib.TabIs Tryd.prog w "internal/strconv.uint64pow10" .u64 Lib.pow10Tab
/-- The errors of strconv are errors. -/
def SynVar (g : G) : Prop := (∃ t x, g.at ⟨2, 0, none⟩ [.iface t x]) ∧ ∃ t x, g.at ⟨3, 0, none⟩ [.iface t x]

theorem cell_of_at {g : G} {w : World} {b : Nat} {v : Value} (him : ∀ b o, g b = some o → w.heap[b]? = some o) (h : g.at ⟨b, 0, none⟩ [v]) : w.cell? ⟨b, 0, none⟩ = some v := by
  obtain ⟨-, c, ty, fz, h2, h3⟩ := h
  have := him _ _ h2
  have h4 := h3 0 (Nat.lt_succ_self 0)
  simp only [World.cell?, this]
  simpa using h4
theorem itoa_c (n : Int) (h0 : -9223372036854775808 ≤ n) (h1 : n ≤ 9223372036854775807) (g : G) (hT : TabVar g) : Tells Tryd.prog 20 [.v (.int .i64 n)] g (.v (.string (numS n))) :=
  Tells.of_below (by kernel_rfl) rfl fun σ w him => by
    refine Calls.mono (sh_strconv_Itoa n h0 h1 w (hT w him)) fun e w' h => ?_
    obtain ⟨h1, k, os, rfl⟩ := h
    exact ⟨h1, below_grow _ w (Nat.le_refl _) k os⟩
theorem cut_c (c : UInt8) (s : ByteArray) (hs : s.size ≤ 1000000) (g : G) (hM : MaxVar g) : Tells Tryd.prog 23 [.v (.string s), .v (.string ⟨#[c]⟩)] g (.tup [.v (.string (cutS c s).1), .v (.string (cutS c s).2.1), .v (.bool (cutS c s).2.2)]) := by
  refine Tells.of_belowR (by kernel_rfl) rfl ⟨rfl, fun h => by cases h⟩ fun σ w him => ?_
  obtain ⟨m, h1⟩ := hM
  refine Calls.mono (sh_strings_Cut s ⟨#[c]⟩ m w (by omega) (cell_of_at him h1)) fun e w' h => ?_
  obtain ⟨h1, n, rfl⟩ := h
  exact ⟨h1, rfl, rfl, rfl, Nat.le_refl _, fun _ _ => rfl⟩
/-- What strconv.Atoi returns. -/
def atoiR (s : ByteArray) (r : SV) : Prop := (∃ v, Lib.atoiAll s.data.toList = .ok v ∧ r = .tup [.v (.int .i64 v), .v .nilIface]) ∨ ((∀ v, Lib.atoiAll s.data.toList ≠ .ok v) ∧ ∃ n t x, r = .tup [.v (.int .i64 n), .v (.iface t x)])
theorem atoi_c (s : ByteArray) (hs : s.size ≤ 1000000) (g : G) (hS : SynVar g) : Meets Tryd.prog 24 [.v (.string s)] [] g (fun o L' g' => ∃ r, atoiR s r ∧ o = .ret r ∧ L' = [] ∧ g' = g) := by
  obtain ⟨⟨t1, x1, h1⟩, t2, x2, h2⟩ := hS
  refine Meets.of_belowE (by kernel_rfl) rfl fun σ w him => ?_
  cases hv : Lib.atoiAll s.data.toList with
  | ok v =>
    refine Calls.mono (sh_strconv_Atoi_ok s (by omega) v hv w) fun e w' h => ?_
    obtain ⟨h1, h2⟩ := h
    refine ⟨.tup [.v (.int .i64 v), .v .nilIface], ⟨rfl, fun h => by cases h⟩, h1, ?_, .inl ⟨v, hv, rfl⟩⟩
    rcases h2 with rfl | ⟨t, rfl⟩
    · exact Below.refl _ _
    · exact bytesWorld_below _ _ _
  | range =>
    refine Calls.mono (sh_strconv_Atoi_range s (by omega) hv (.iface t2 x2) w (cell_of_at him h2) (.inr ⟨_, _, rfl⟩)) fun e w' h => ?_
    obtain ⟨N, h1, -, -, h2⟩ := h
    exact ⟨.tup [.v (.int .i64 (Lib.atoiSat s.data.toList)), .v (.iface 87 (.pointer (some ⟨N, 0, none⟩)))], ⟨rfl, fun h => by cases h⟩, h1, h2, .inr ⟨(fun v h => by rw [hv] at h; cases h), _, _, _, rfl⟩⟩
  | _ =>
    refine Calls.mono (Any.strconv_Atoi_syntax sh_laysC172 s (by omega) hv (.iface t1 x1) w (cell_of_at him h1) (.inr ⟨_, _, rfl⟩)) fun e w' h => ?_
    obtain ⟨N, h1, -, -, h2⟩ := h
    exact ⟨.tup [.v (.int .i64 0), .v (.iface 87 (.pointer (some ⟨N, 0, none⟩)))], ⟨rfl, fun h => by cases h⟩, h1, h2, .inr ⟨(fun v h => by rw [hv] at h; cases h), _, _, _, rfl⟩⟩

theorem rtsT {a b : ByteArray} {e : SV} (h : a = b) : Out.ret (.tup [.v (.string a), e]) = .ret (.tup [.v (.string b), e]) := by rw [h]
theorem tagText_bad (t : TagV) (g : G) (h : ¬ tagP t) : Tells Tryd.prog 11 [.agg (t.cells.map .v)] g (.tup [.v (.string ⟨#[]⟩), .v (nilM 1)]) := by
  refine meets_of mixedS Tryd.func11 (by kernel_rfl) x11_ok (some []) ?_
  refine (tagRight_c t g).call rfl rfl rfl ?_
  refine bsplit_of (fun _ => ⟨rfl, rfl, rfl⟩) (fun (q : (!decide (tagP t)) = false) => absurd q (by simp [h]))
theorem tagTextR_bad (t : TagV) (g : G) (h : ¬ tagP t) : Tells Tryd.prog 10 [.agg (t.cells.map .v)] g (.tup [.v (.string ⟨#[]⟩), .v (.int .i64 1)]) := by
  refine meets_ofJ mixedS Tryd.func10 (by kernel_rfl) x10_ok (some []) ?_
  refine (tagRightR_c t g).call rfl rfl rfl ?_
  refine bsplit_of (fun _ => ⟨rfl, rfl, rfl⟩) (fun (q : (!decide (tagP t)) = false) => absurd q (by simp [h]))
attribute [local irreducible] numS

theorem e33 : (⟨#[33]⟩ ++ ⟨#[46]⟩ : ByteArray) = ⟨#[33, 46]⟩ := by decide +kernel
theorem tagText_good (t : TagV) (g : G) (h : tagP t) (hT : TabVar g) : Tells Tryd.prog 11 [.agg (t.cells.map .v)] g (.tup [.v (.string (tagT t)), .v (nilM 0)]) := by
  obtain ⟨s, p, d, v⟩ := t
  obtain ⟨h1, h2, h3, h4⟩ := id h
  dsimp only at h1 h2 h3 h4
  have z1 := numS_size h1 (show p < 100000 by omega)
  have z2 := numS_size h3 (show v < 100000 by omega)
  cases s <;> cases d
  · refine meets_of mixedS Tryd.func11 (by kernel_rfl) x11_ok (some []) ?_
    refine (tagRight_c ⟨false, p, false, v⟩ g).call rfl rfl rfl ?_
    refine bsplit_of (fun (q : (!decide (tagP ⟨false, p, false, v⟩)) = true) => absurd q (by simp [h])) (fun _ => ?_)
    refine (itoa_c p (by omega) (by omega) g hT).call rfl rfl rfl ?_
    refine ⟨by show 1 + (numS p).size ≤ _; omega, ?_⟩
    refine ⟨by show (⟨#[99]⟩ ++ numS p : ByteArray).size + 1 ≤ _; rw [ByteArray.size_append]; show 1 + _ + 1 ≤ _; omega, ?_⟩
    refine (itoa_c v (by omega) (by omega) g hT).call rfl rfl rfl ?_
    refine ⟨by show (⟨#[99]⟩ ++ numS p ++ ⟨#[46]⟩ : ByteArray).size + _ ≤ _; rw [ByteArray.size_append, ByteArray.size_append]; show 1 + _ + 1 + _ ≤ _; omega, ?_⟩
    exact ⟨rfl, rfl, rfl⟩
  · refine meets_of mixedS Tryd.func11 (by kernel_rfl) x11_ok (some []) ?_
    refine (tagRight_c ⟨false, p, true, v⟩ g).call rfl rfl rfl ?_
    refine bsplit_of (fun (q : (!decide (tagP ⟨false, p, true, v⟩)) = true) => absurd q (by simp [h])) (fun _ => ?_)
    refine (itoa_c p (by omega) (by omega) g hT).call rfl rfl rfl ?_
    refine ⟨by show 1 + (numS p).size ≤ _; omega, ?_⟩
    refine ⟨by show (⟨#[99]⟩ ++ numS p : ByteArray).size + 1 ≤ _; rw [ByteArray.size_append]; show 1 + _ + 1 ≤ _; omega, ?_⟩
    refine ⟨by show (⟨#[99]⟩ ++ numS p ++ ⟨#[33]⟩ : ByteArray).size + 1 ≤ _; rw [ByteArray.size_append, ByteArray.size_append]; show 1 + _ + 1 + 1 ≤ _; omega, ?_⟩
    refine (itoa_c v (by omega) (by omega) g hT).call rfl rfl rfl ?_
    refine ⟨by show (⟨#[99]⟩ ++ numS p ++ ⟨#[33]⟩ ++ ⟨#[46]⟩ : ByteArray).size + _ ≤ _; rw [ByteArray.size_append, ByteArray.size_append, ByteArray.size_append]; show 1 + _ + 1 + 1 + _ ≤ _; omega, ?_⟩
    refine ⟨rtsT ?_, rfl, rfl⟩
    exact congrArg (· ++ numS v) ((ByteArray.append_assoc (a := ⟨#[99]⟩ ++ numS p) (b := ⟨#[33]⟩) (c := ⟨#[46]⟩)).trans (congrArg (⟨#[99]⟩ ++ numS p ++ ·) e33))
  · refine meets_of mixedS Tryd.func11 (by kernel_rfl) x11_ok (some []) ?_
    refine (tagRight_c ⟨true, p, false, v⟩ g).call rfl rfl rfl ?_
    refine bsplit_of (fun (q : (!decide (tagP ⟨true, p, false, v⟩)) = true) => absurd q (by simp [h])) (fun _ => ?_)
    refine (itoa_c p (by omega) (by omega) g hT).call rfl rfl rfl ?_
    refine ⟨by show 1 + (numS p).size ≤ _; omega, ?_⟩
    refine ⟨by show (⟨#[115]⟩ ++ numS p : ByteArray).size + 1 ≤ _; rw [ByteArray.size_append]; show 1 + _ + 1 ≤ _; omega, ?_⟩
    refine (itoa_c v (by omega) (by omega) g hT).call rfl rfl rfl ?_
    refine ⟨by show (⟨#[115]⟩ ++ numS p ++ ⟨#[46]⟩ : ByteArray).size + _ ≤ _; rw [ByteArray.size_append, ByteArray.size_append]; show 1 + _ + 1 + _ ≤ _; omega, ?_⟩
    exact ⟨rfl, rfl, rfl⟩
  · refine meets_of mixedS Tryd.func11 (by kernel_rfl) x11_ok (some []) ?_
    refine (tagRight_c ⟨true, p, true, v⟩ g).call rfl rfl rfl ?_
    refine bsplit_of (fun (q : (!decide (tagP ⟨true, p, true, v⟩)) = true) => absurd q (by simp [h])) (fun _ => ?_)
    refine (itoa_c p (by omega) (by omega) g hT).call rfl rfl rfl ?_
    refine ⟨by show 1 + (numS p).size ≤ _; omega, ?_⟩
    refine ⟨by show (⟨#[115]⟩ ++ numS p : ByteArray).size + 1 ≤ _; rw [ByteArray.size_append]; show 1 + _ + 1 ≤ _; omega, ?_⟩
    refine ⟨by show (⟨#[115]⟩ ++ numS p ++ ⟨#[33]⟩ : ByteArray).size + 1 ≤ _; rw [ByteArray.size_append, ByteArray.size_append]; show 1 + _ + 1 + 1 ≤ _; omega, ?_⟩
    refine (itoa_c v (by omega) (by omega) g hT).call rfl rfl rfl ?_
    refine ⟨by show (⟨#[115]⟩ ++ numS p ++ ⟨#[33]⟩ ++ ⟨#[46]⟩ : ByteArray).size + _ ≤ _; rw [ByteArray.size_append, ByteArray.size_append, ByteArray.size_append]; show 1 + _ + 1 + 1 + _ ≤ _; omega, ?_⟩
    refine ⟨rtsT ?_, rfl, rfl⟩
    exact congrArg (· ++ numS v) ((ByteArray.append_assoc (a := ⟨#[115]⟩ ++ numS p) (b := ⟨#[33]⟩) (c := ⟨#[46]⟩)).trans (congrArg (⟨#[115]⟩ ++ numS p ++ ·) e33))

def sT : ByteArray := ⟨#[115]⟩
def sF : ByteArray := ⟨#[99]⟩
def dT : ByteArray := ⟨#[33, 46]⟩
def dF : ByteArray := ⟨#[46]⟩
theorem sT_size : sT.size = 1 := rfl
theorem sF_size : sF.size = 1 := rfl
theorem dT_size : dT.size = 2 := rfl
theorem dF_size : dF.size = 1 := rfl
theorem tagTextR_good (t : TagV) (g : G) (h : tagP t) (hT : TabVar g) : Tells Tryd.prog 10 [.agg (t.cells.map .v)] g (.tup [.v (.string (tagT t)), .v (.int .i64 0)]) := by
  obtain ⟨s, p, d, v⟩ := t
  obtain ⟨h1, h2, h3, h4⟩ := id h
  dsimp only at h1 h2 h3 h4
  have z1 := numS_size h1 (show p < 100000 by omega)
  have z2 := numS_size h3 (show v < 100000 by omega)
  cases s <;> cases d
  · refine meets_ofJ mixedS Tryd.func10 (by kernel_rfl) x10_ok (some []) ?_
    refine (tagRightR_c ⟨false, p, false, v⟩ g).call rfl rfl rfl ?_
    refine bsplit_of (fun (q : (!decide (tagP ⟨false, p, false, v⟩)) = true) => absurd q (by simp [h])) (fun _ => ?_)
    obtain ⟨u, hu⟩ : ∃ u, sF ++ numS p = u := ⟨_, rfl⟩
    have zu : u.size = 1 + (numS p).size := by rw [← hu, ByteArray.size_append, sF_size]
    have zw : (u ++ dF).size ≤ 100 := by rw [ByteArray.size_append, zu, dF_size]; omega
    have hend : u ++ dF ++ numS v = tagT ⟨false, p, false, v⟩ := by rw [← hu]; rfl
    change JoinW _ _ _ _ _ _ _
    refine join_rule [] (α := Array MapEntry × Nat) (fun _ => [(4, .v (.string u))]) (fun y => [.cells 35 ((TagV.cells ⟨false, p, false, v⟩).map .v), .raw (.map y.1 y.2)]) (fun _ => g) (fun _ => True) (fun y => by kernel_rfl) ?_ ?_
    · skip
      refine And.intro ?_ ?_
      · skip
        refine prim_makeMap 1 rfl rfl ?_
        refine And.intro ?_ ?_
        · skip
          refine prim_insert (kt := 4) (et := 9) (d := .bool) (by kernel_rfl) (by kernel_rfl) (by kernel_rfl) rfl rfl rfl ?_
          refine And.intro ?_ ?_
          · skip
            refine prim_insert (kt := 4) (et := 9) (d := .bool) (by kernel_rfl) (by kernel_rfl) (by kernel_rfl) rfl rfl rfl ?_
            refine And.intro ?_ ?_
            · skip
              first | refine prim_lookup (some (0, .string sF)) (kt := 4) (et := 9) (d := .bool) (z := .string ⟨#[]⟩) (i := Tryd.t9) (by kernel_rfl) (by kernel_rfl) (by kernel_rfl) (by kernel_rfl) rfl rfl rfl rfl ?_ | refine prim_lookup (some (1, .string sF)) (kt := 4) (et := 9) (d := .bool) (z := .string ⟨#[]⟩) (i := Tryd.t9) (by kernel_rfl) (by kernel_rfl) (by kernel_rfl) (by kernel_rfl) rfl rfl rfl rfl ?_
              refine (itoa_c p (by omega) (by omega) g hT).call rfl rfl rfl ?_
              refine ⟨by show sF.size + (numS p).size ≤ _; rw [sF_size]; omega, ?_⟩
              exact ⟨(_, _), trivial, [0, 1], rfl, ⟨vs hu, trivial⟩, rfl, rfl, rfl, rfl⟩
            refine (itoa_c p (by omega) (by omega) g hT).call rfl rfl rfl ?_
            first | refine prim_lookup (some (0, .string sF)) (kt := 4) (et := 9) (d := .bool) (z := .string ⟨#[]⟩) (i := Tryd.t9) (by kernel_rfl) (by kernel_rfl) (by kernel_rfl) (by kernel_rfl) rfl rfl rfl rfl ?_ | refine prim_lookup (some (1, .string sF)) (kt := 4) (et := 9) (d := .bool) (z := .string ⟨#[]⟩) (i := Tryd.t9) (by kernel_rfl) (by kernel_rfl) (by kernel_rfl) (by kernel_rfl) rfl rfl rfl rfl ?_
            refine ⟨by show sF.size + (numS p).size ≤ _; rw [sF_size]; omega, ?_⟩
            exact ⟨(_, _), trivial, [0, 1], rfl, ⟨vs hu, trivial⟩, rfl, rfl, rfl, rfl⟩
          refine (itoa_c p (by omega) (by omega) g hT).call rfl rfl rfl ?_
          refine prim_insert (kt := 4) (et := 9) (d := .bool) (by kernel_rfl) (by kernel_rfl) (by kernel_rfl) rfl rfl rfl ?_
          first | refine prim_lookup (some (0, .string sF)) (kt := 4) (et := 9) (d := .bool) (z := .string ⟨#[]⟩) (i := Tryd.t9) (by kernel_rfl) (by kernel_rfl) (by kernel_rfl) (by kernel_rfl) rfl rfl rfl rfl ?_ | refine prim_lookup (some (1, .string sF)) (kt := 4) (et := 9) (d := .bool) (z := .string ⟨#[]⟩) (i := Tryd.t9) (by kernel_rfl) (by kernel_rfl) (by kernel_rfl) (by kernel_rfl) rfl rfl rfl rfl ?_
          refine ⟨by show sF.size + (numS p).size ≤ _; rw [sF_size]; omega, ?_⟩
          exact ⟨(_, _), trivial, [0, 1], rfl, ⟨vs hu, trivial⟩, rfl, rfl, rfl, rfl⟩
        refine And.intro ?_ ?_
        · skip
          refine prim_insert (kt := 4) (et := 9) (d := .bool) (by kernel_rfl) (by kernel_rfl) (by kernel_rfl) rfl rfl rfl ?_
          refine And.intro ?_ ?_
          · skip
            refine prim_insert (kt := 4) (et := 9) (d := .bool) (by kernel_rfl) (by kernel_rfl) (by kernel_rfl) rfl rfl rfl ?_
            refine And.intro ?_ ?_
            · skip
              first | refine prim_lookup (some (0, .string sF)) (kt := 4) (et := 9) (d := .bool) (z := .string ⟨#[]⟩) (i := Tryd.t9) (by kernel_rfl) (by kernel_rfl) (by kernel_rfl) (by kernel_rfl) rfl rfl rfl rfl ?_ | refine prim_lookup (some (1, .string sF)) (kt := 4) (et := 9) (d := .bool) (z := .string ⟨#[]⟩) (i := Tryd.t9) (by kernel_rfl) (by kernel_rfl) (by kernel_rfl) (by kernel_rfl) rfl rfl rfl rfl ?_
              refine (itoa_c p (by omega) (by omega) g hT).call rfl rfl rfl ?_
              refine ⟨by show sF.size + (numS p).size ≤ _; rw [sF_size]; omega, ?_⟩
              exact ⟨(_, _), trivial, [0, 1], rfl, ⟨vs hu, trivial⟩, rfl, rfl, rfl, rfl⟩
            refine (itoa_c p (by omega) (by omega) g hT).call rfl rfl rfl ?_
            first | refine prim_lookup (some (0, .string sF)) (kt := 4) (et := 9) (d := .bool) (z := .string ⟨#[]⟩) (i := Tryd.t9) (by kernel_rfl) (by kernel_rfl) (by kernel_rfl) (by kernel_rfl) rfl rfl rfl rfl ?_ | refine prim_lookup (some (1, .string sF)) (kt := 4) (et := 9) (d := .bool) (z := .string ⟨#[]⟩) (i := Tryd.t9) (by kernel_rfl) (by kernel_rfl) (by kernel_rfl) (by kernel_rfl) rfl rfl rfl rfl ?_
            refine ⟨by show sF.size + (numS p).size ≤ _; rw [sF_size]; omega, ?_⟩
            exact ⟨(_, _), trivial, [0, 1], rfl, ⟨vs hu, trivial⟩, rfl, rfl, rfl, rfl⟩
          refine (itoa_c p (by omega) (by omega) g hT).call rfl rfl rfl ?_
          refine prim_insert (kt := 4) (et := 9) (d := .bool) (by kernel_rfl) (by kernel_rfl) (by kernel_rfl) rfl rfl rfl ?_
          first | refine prim_lookup (some (0, .string sF)) (kt := 4) (et := 9) (d := .bool) (z := .string ⟨#[]⟩) (i := Tryd.t9) (by kernel_rfl) (by kernel_rfl) (by kernel_rfl) (by kernel_rfl) rfl rfl rfl rfl ?_ | refine prim_lookup (some (1, .string sF)) (kt := 4) (et := 9) (d := .bool) (z := .string ⟨#[]⟩) (i := Tryd.t9) (by kernel_rfl) (by kernel_rfl) (by kernel_rfl) (by kernel_rfl) rfl rfl rfl rfl ?_
          refine ⟨by show sF.size + (numS p).size ≤ _; rw [sF_size]; omega, ?_⟩
          exact ⟨(_, _), trivial, [0, 1], rfl, ⟨vs hu, trivial⟩, rfl, rfl, rfl, rfl⟩
        refine (itoa_c p (by omega) (by omega) g hT).call rfl rfl rfl ?_
        refine And.intro ?_ ?_
        · skip
          refine prim_insert (kt := 4) (et := 9) (d := .bool) (by kernel_rfl) (by kernel_rfl) (by kernel_rfl) rfl rfl rfl ?_
          refine prim_insert (kt := 4) (et := 9) (d := .bool) (by kernel_rfl) (by kernel_rfl) (by kernel_rfl) rfl rfl rfl ?_
          first | refine prim_lookup (some (0, .string sF)) (kt := 4) (et := 9) (d := .bool) (z := .string ⟨#[]⟩) (i := Tryd.t9) (by kernel_rfl) (by kernel_rfl) (by kernel_rfl) (by kernel_rfl) rfl rfl rfl rfl ?_ | refine prim_lookup (some (1, .string sF)) (kt := 4) (et := 9) (d := .bool) (z := .string ⟨#[]⟩) (i := Tryd.t9) (by kernel_rfl) (by kernel_rfl) (by kernel_rfl) (by kernel_rfl) rfl rfl rfl rfl ?_
          refine ⟨by show sF.size + (numS p).size ≤ _; rw [sF_size]; omega, ?_⟩
          exact ⟨(_, _), trivial, [0, 1], rfl, ⟨vs hu, trivial⟩, rfl, rfl, rfl, rfl⟩
        refine prim_insert (kt := 4) (et := 9) (d := .bool) (by kernel_rfl) (by kernel_rfl) (by kernel_rfl) rfl rfl rfl ?_
        refine prim_insert (kt := 4) (et := 9) (d := .bool) (by kernel_rfl) (by kernel_rfl) (by kernel_rfl) rfl rfl rfl ?_
        first | refine prim_lookup (some (0, .string sF)) (kt := 4) (et := 9) (d := .bool) (z := .string ⟨#[]⟩) (i := Tryd.t9) (by kernel_rfl) (by kernel_rfl) (by kernel_rfl) (by kernel_rfl) rfl rfl rfl rfl ?_ | refine prim_lookup (some (1, .string sF)) (kt := 4) (et := 9) (d := .bool) (z := .string ⟨#[]⟩) (i := Tryd.t9) (by kernel_rfl) (by kernel_rfl) (by kernel_rfl) (by kernel_rfl) rfl rfl rfl rfl ?_
        refine ⟨by show sF.size + (numS p).size ≤ _; rw [sF_size]; omega, ?_⟩
        exact ⟨(_, _), trivial, [0, 1], rfl, ⟨vs hu, trivial⟩, rfl, rfl, rfl, rfl⟩
      refine (itoa_c p (by omega) (by omega) g hT).call rfl rfl rfl ?_
      refine prim_makeMap 1 rfl rfl ?_
      refine And.intro ?_ ?_
      · skip
        refine prim_insert (kt := 4) (et := 9) (d := .bool) (by kernel_rfl) (by kernel_rfl) (by kernel_rfl) rfl rfl rfl ?_
        refine prim_insert (kt := 4) (et := 9) (d := .bool) (by kernel_rfl) (by kernel_rfl) (by kernel_rfl) rfl rfl rfl ?_
        first | refine prim_lookup (some (0, .string sF)) (kt := 4) (et := 9) (d := .bool) (z := .string ⟨#[]⟩) (i := Tryd.t9) (by kernel_rfl) (by kernel_rfl) (by kernel_rfl) (by kernel_rfl) rfl rfl rfl rfl ?_ | refine prim_lookup (some (1, .string sF)) (kt := 4) (et := 9) (d := .bool) (z := .string ⟨#[]⟩) (i := Tryd.t9) (by kernel_rfl) (by kernel_rfl) (by kernel_rfl) (by kernel_rfl) rfl rfl rfl rfl ?_
        refine ⟨by show sF.size + (numS p).size ≤ _; rw [sF_size]; omega, ?_⟩
        exact ⟨(_, _), trivial, [0, 1], rfl, ⟨vs hu, trivial⟩, rfl, rfl, rfl, rfl⟩
      refine prim_insert (kt := 4) (et := 9) (d := .bool) (by kernel_rfl) (by kernel_rfl) (by kernel_rfl) rfl rfl rfl ?_
      refine prim_insert (kt := 4) (et := 9) (d := .bool) (by kernel_rfl) (by kernel_rfl) (by kernel_rfl) rfl rfl rfl ?_
      first | refine prim_lookup (some (0, .string sF)) (kt := 4) (et := 9) (d := .bool) (z := .string ⟨#[]⟩) (i := Tryd.t9) (by kernel_rfl) (by kernel_rfl) (by kernel_rfl) (by kernel_rfl) rfl rfl rfl rfl ?_ | refine prim_lookup (some (1, .string sF)) (kt := 4) (et := 9) (d := .bool) (z := .string ⟨#[]⟩) (i := Tryd.t9) (by kernel_rfl) (by kernel_rfl) (by kernel_rfl) (by kernel_rfl) rfl rfl rfl rfl ?_
      refine ⟨by show sF.size + (numS p).size ≤ _; rw [sF_size]; omega, ?_⟩
      exact ⟨(_, _), trivial, [0, 1], rfl, ⟨vs hu, trivial⟩, rfl, rfl, rfl, rfl⟩
    rintro ⟨es, ck⟩ -
    clear hu
    change JoinW _ _ _ _ _ _ _
    refine join_rule [] (α := Array MapEntry × Nat) (fun _ => [(2, .v (.string (tagT ⟨false, p, false, v⟩))), (3, .v (.int .i64 0))]) (fun y => [.cells 35 ((TagV.cells ⟨false, p, false, v⟩).map .v), .raw (.map es ck), .raw (.map y.1 y.2)]) (fun _ => g) (fun _ => True) (fun y => by kernel_rfl) ?_ ?_
    · skip
      refine And.intro ?_ ?_
      · skip
        refine prim_makeMap 2 rfl rfl ?_
        refine And.intro ?_ ?_
        · skip
          refine prim_insert (kt := 4) (et := 9) (d := .bool) (by kernel_rfl) (by kernel_rfl) (by kernel_rfl) rfl rfl rfl ?_
          refine And.intro ?_ ?_
          · skip
            refine prim_insert (kt := 4) (et := 9) (d := .bool) (by kernel_rfl) (by kernel_rfl) (by kernel_rfl) rfl rfl rfl ?_
            refine And.intro ?_ ?_
            · skip
              first | refine prim_lookup (some (0, .string dF)) (kt := 4) (et := 9) (d := .bool) (z := .string ⟨#[]⟩) (i := Tryd.t9) (by kernel_rfl) (by kernel_rfl) (by kernel_rfl) (by kernel_rfl) rfl rfl rfl rfl ?_ | refine prim_lookup (some (1, .string dF)) (kt := 4) (et := 9) (d := .bool) (z := .string ⟨#[]⟩) (i := Tryd.t9) (by kernel_rfl) (by kernel_rfl) (by kernel_rfl) (by kernel_rfl) rfl rfl rfl rfl ?_
              refine ⟨by show u.size + dF.size ≤ _; rw [zu, dF_size]; omega, ?_⟩
              refine (itoa_c v (by omega) (by omega) g hT).call rfl rfl rfl ?_
              refine ⟨by show (u ++ dF).size + (numS v).size ≤ _; omega, ?_⟩
              exact ⟨(_, _), trivial, [0, 1, 2], rfl, ⟨vs hend, rfl, trivial⟩, rfl, rfl, rfl, rfl⟩
            refine (itoa_c v (by omega) (by omega) g hT).call rfl rfl rfl ?_
            first | refine prim_lookup (some (0, .string dF)) (kt := 4) (et := 9) (d := .bool) (z := .string ⟨#[]⟩) (i := Tryd.t9) (by kernel_rfl) (by kernel_rfl) (by kernel_rfl) (by kernel_rfl) rfl rfl rfl rfl ?_ | refine prim_lookup (some (1, .string dF)) (kt := 4) (et := 9) (d := .bool) (z := .string ⟨#[]⟩) (i := Tryd.t9) (by kernel_rfl) (by kernel_rfl) (by kernel_rfl) (by kernel_rfl) rfl rfl rfl rfl ?_
            refine ⟨by show u.size + dF.size ≤ _; rw [zu, dF_size]; omega, ?_⟩
            refine ⟨by show (u ++ dF).size + (numS v).size ≤ _; omega, ?_⟩
            exact ⟨(_, _), trivial, [0, 1, 2], rfl, ⟨vs hend, rfl, trivial⟩, rfl, rfl, rfl, rfl⟩
          refine (itoa_c v (by omega) (by omega) g hT).call rfl rfl rfl ?_
          refine prim_insert (kt := 4) (et := 9) (d := .bool) (by kernel_rfl) (by kernel_rfl) (by kernel_rfl) rfl rfl rfl ?_
          first | refine prim_lookup (some (0, .string dF)) (kt := 4) (et := 9) (d := .bool) (z := .string ⟨#[]⟩) (i := Tryd.t9) (by kernel_rfl) (by kernel_rfl) (by kernel_rfl) (by kernel_rfl) rfl rfl rfl rfl ?_ | refine prim_lookup (some (1, .string dF)) (kt := 4) (et := 9) (d := .bool) (z := .string ⟨#[]⟩) (i := Tryd.t9) (by kernel_rfl) (by kernel_rfl) (by kernel_rfl) (by kernel_rfl) rfl rfl rfl rfl ?_
          refine ⟨by show u.size + dF.size ≤ _; rw [zu, dF_size]; omega, ?_⟩
          refine ⟨by show (u ++ dF).size + (numS v).size ≤ _; omega, ?_⟩
          exact ⟨(_, _), trivial, [0, 1, 2], rfl, ⟨vs hend, rfl, trivial⟩, rfl, rfl, rfl, rfl⟩
        refine And.intro ?_ ?_
        · skip
          refine prim_insert (kt := 4) (et := 9) (d := .bool) (by kernel_rfl) (by kernel_rfl) (by kernel_rfl) rfl rfl rfl ?_
          refine And.intro ?_ ?_
          · skip
            refine prim_insert (kt := 4) (et := 9) (d := .bool) (by kernel_rfl) (by kernel_rfl) (by kernel_rfl) rfl rfl rfl ?_
            refine And.intro ?_ ?_
            · skip
              first | refine prim_lookup (some (0, .string dF)) (kt := 4) (et := 9) (d := .bool) (z := .string ⟨#[]⟩) (i := Tryd.t9) (by kernel_rfl) (by kernel_rfl) (by kernel_rfl) (by kernel_rfl) rfl rfl rfl rfl ?_ | refine prim_lookup (some (1, .string dF)) (kt := 4) (et := 9) (d := .bool) (z := .string ⟨#[]⟩) (i := Tryd.t9) (by kernel_rfl) (by kernel_rfl) (by kernel_rfl) (by kernel_rfl) rfl rfl rfl rfl ?_
              refine ⟨by show u.size + dF.size ≤ _; rw [zu, dF_size]; omega, ?_⟩
              refine (itoa_c v (by omega) (by omega) g hT).call rfl rfl rfl ?_
              refine ⟨by show (u ++ dF).size + (numS v).size ≤ _; omega, ?_⟩
              exact ⟨(_, _), trivial, [0, 1, 2], rfl, ⟨vs hend, rfl, trivial⟩, rfl, rfl, rfl, rfl⟩
            refine (itoa_c v (by omega) (by omega) g hT).call rfl rfl rfl ?_
            first | refine prim_lookup (some (0, .string dF)) (kt := 4) (et := 9) (d := .bool) (z := .string ⟨#[]⟩) (i := Tryd.t9) (by kernel_rfl) (by kernel_rfl) (by kernel_rfl) (by kernel_rfl) rfl rfl rfl rfl ?_ | refine prim_lookup (some (1, .string dF)) (kt := 4) (et := 9) (d := .bool) (z := .string ⟨#[]⟩) (i := Tryd.t9) (by kernel_rfl) (by kernel_rfl) (by kernel_rfl) (by kernel_rfl) rfl rfl rfl rfl ?_
            refine ⟨by show u.size + dF.size ≤ _; rw [zu, dF_size]; omega, ?_⟩
            refine ⟨by show (u ++ dF).size + (numS v).size ≤ _; omega, ?_⟩
            exact ⟨(_, _), trivial, [0, 1, 2], rfl, ⟨vs hend, rfl, trivial⟩, rfl, rfl, rfl, rfl⟩
          refine (itoa_c v (by omega) (by omega) g hT).call rfl rfl rfl ?_
          refine prim_insert (kt := 4) (et := 9) (d := .bool) (by kernel_rfl) (by kernel_rfl) (by kernel_rfl) rfl rfl rfl ?_
          first | refine prim_lookup (some (0, .string dF)) (kt := 4) (et := 9) (d := .bool) (z := .string ⟨#[]⟩) (i := Tryd.t9) (by kernel_rfl) (by kernel_rfl) (by kernel_rfl) (by kernel_rfl) rfl rfl rfl rfl ?_ | refine prim_lookup (some (1, .string dF)) (kt := 4) (et := 9) (d := .bool) (z := .string ⟨#[]⟩) (i := Tryd.t9) (by kernel_rfl) (by kernel_rfl) (by kernel_rfl) (by kernel_rfl) rfl rfl rfl rfl ?_
          refine ⟨by show u.size + dF.size ≤ _; rw [zu, dF_size]; omega, ?_⟩
          refine ⟨by show (u ++ dF).size + (numS v).size ≤ _; omega, ?_⟩
          exact ⟨(_, _), trivial, [0, 1, 2], rfl, ⟨vs hend, rfl, trivial⟩, rfl, rfl, rfl, rfl⟩
        refine (itoa_c v (by omega) (by omega) g hT).call rfl rfl rfl ?_
        refine And.intro ?_ ?_
        · skip
          refine prim_insert (kt := 4) (et := 9) (d := .bool) (by kernel_rfl) (by kernel_rfl) (by kernel_rfl) rfl rfl rfl ?_
          refine prim_insert (kt := 4) (et := 9) (d := .bool) (by kernel_rfl) (by kernel_rfl) (by kernel_rfl) rfl rfl rfl ?_
          first | refine prim_lookup (some (0, .string dF)) (kt := 4) (et := 9) (d := .bool) (z := .string ⟨#[]⟩) (i := Tryd.t9) (by kernel_rfl) (by kernel_rfl) (by kernel_rfl) (by kernel_rfl) rfl rfl rfl rfl ?_ | refine prim_lookup (some (1, .string dF)) (kt := 4) (et := 9) (d := .bool) (z := .string ⟨#[]⟩) (i := Tryd.t9) (by kernel_rfl) (by kernel_rfl) (by kernel_rfl) (by kernel_rfl) rfl rfl rfl rfl ?_
          refine ⟨by show u.size + dF.size ≤ _; rw [zu, dF_size]; omega, ?_⟩
          refine ⟨by show (u ++ dF).size + (numS v).size ≤ _; omega, ?_⟩
          exact ⟨(_, _), trivial, [0, 1, 2], rfl, ⟨vs hend, rfl, trivial⟩, rfl, rfl, rfl, rfl⟩
        refine prim_insert (kt := 4) (et := 9) (d := .bool) (by kernel_rfl) (by kernel_rfl) (by kernel_rfl) rfl rfl rfl ?_
        refine prim_insert (kt := 4) (et := 9) (d := .bool) (by kernel_rfl) (by kernel_rfl) (by kernel_rfl) rfl rfl rfl ?_
        first | refine prim_lookup (some (0, .string dF)) (kt := 4) (et := 9) (d := .bool) (z := .string ⟨#[]⟩) (i := Tryd.t9) (by kernel_rfl) (by kernel_rfl) (by kernel_rfl) (by kernel_rfl) rfl rfl rfl rfl ?_ | refine prim_lookup (some (1, .string dF)) (kt := 4) (et := 9) (d := .bool) (z := .string ⟨#[]⟩) (i := Tryd.t9) (by kernel_rfl) (by kernel_rfl) (by kernel_rfl) (by kernel_rfl) rfl rfl rfl rfl ?_
        refine ⟨by show u.size + dF.size ≤ _; rw [zu, dF_size]; omega, ?_⟩
        refine ⟨by show (u ++ dF).size + (numS v).size ≤ _; omega, ?_⟩
        exact ⟨(_, _), trivial, [0, 1, 2], rfl, ⟨vs hend, rfl, trivial⟩, rfl, rfl, rfl, rfl⟩
      refine (itoa_c v (by omega) (by omega) g hT).call rfl rfl rfl ?_
      refine prim_makeMap 2 rfl rfl ?_
      refine And.intro ?_ ?_
      · skip
        refine prim_insert (kt := 4) (et := 9) (d := .bool) (by kernel_rfl) (by kernel_rfl) (by kernel_rfl) rfl rfl rfl ?_
        refine prim_insert (kt := 4) (et := 9) (d := .bool) (by kernel_rfl) (by kernel_rfl) (by kernel_rfl) rfl rfl rfl ?_
        first | refine prim_lookup (some (0, .string dF)) (kt := 4) (et := 9) (d := .bool) (z := .string ⟨#[]⟩) (i := Tryd.t9) (by kernel_rfl) (by kernel_rfl) (by kernel_rfl) (by kernel_rfl) rfl rfl rfl rfl ?_ | refine prim_lookup (some (1, .string dF)) (kt := 4) (et := 9) (d := .bool) (z := .string ⟨#[]⟩) (i := Tryd.t9) (by kernel_rfl) (by kernel_rfl) (by kernel_rfl) (by kernel_rfl) rfl rfl rfl rfl ?_
        refine ⟨by show u.size + dF.size ≤ _; rw [zu, dF_size]; omega, ?_⟩
        refine ⟨by show (u ++ dF).size + (numS v).size ≤ _; omega, ?_⟩
        exact ⟨(_, _), trivial, [0, 1, 2], rfl, ⟨vs hend, rfl, trivial⟩, rfl, rfl, rfl, rfl⟩
      refine prim_insert (kt := 4) (et := 9) (d := .bool) (by kernel_rfl) (by kernel_rfl) (by kernel_rfl) rfl rfl rfl ?_
      refine prim_insert (kt := 4) (et := 9) (d := .bool) (by kernel_rfl) (by kernel_rfl) (by kernel_rfl) rfl rfl rfl ?_
      first | refine prim_lookup (some (0, .string dF)) (kt := 4) (et := 9) (d := .bool) (z := .string ⟨#[]⟩) (i := Tryd.t9) (by kernel_rfl) (by kernel_rfl) (by kernel_rfl) (by kernel_rfl) rfl rfl rfl rfl ?_ | refine prim_lookup (some (1, .string dF)) (kt := 4) (et := 9) (d := .bool) (z := .string ⟨#[]⟩) (i := Tryd.t9) (by kernel_rfl) (by kernel_rfl) (by kernel_rfl) (by kernel_rfl) rfl rfl rfl rfl ?_
      refine ⟨by show u.size + dF.size ≤ _; rw [zu, dF_size]; omega, ?_⟩
      refine ⟨by show (u ++ dF).size + (numS v).size ≤ _; omega, ?_⟩
      exact ⟨(_, _), trivial, [0, 1, 2], rfl, ⟨vs hend, rfl, trivial⟩, rfl, rfl, rfl, rfl⟩
    rintro ⟨es2, ck2⟩ -
    exact ⟨rfl, rfl, rfl⟩
  · refine meets_ofJ mixedS Tryd.func10 (by kernel_rfl) x10_ok (some []) ?_
    refine (tagRightR_c ⟨false, p, true, v⟩ g).call rfl rfl rfl ?_
    refine bsplit_of (fun (q : (!decide (tagP ⟨false, p, true, v⟩)) = true) => absurd q (by simp [h])) (fun _ => ?_)
    obtain ⟨u, hu⟩ : ∃ u, sF ++ numS p = u := ⟨_, rfl⟩
    have zu : u.size = 1 + (numS p).size := by rw [← hu, ByteArray.size_append, sF_size]
    have zw : (u ++ dT).size ≤ 100 := by rw [ByteArray.size_append, zu, dT_size]; omega
    have hend : u ++ dT ++ numS v = tagT ⟨false, p, true, v⟩ := by rw [← hu]; rfl
    change JoinW _ _ _ _ _ _ _
    refine join_rule [] (α := Array MapEntry × Nat) (fun _ => [(4, .v (.string u))]) (fun y => [.cells 35 ((TagV.cells ⟨false, p, true, v⟩).map .v), .raw (.map y.1 y.2)]) (fun _ => g) (fun _ => True) (fun y => by kernel_rfl) ?_ ?_
    · skip
      refine And.intro ?_ ?_
      · skip
        refine prim_makeMap 1 rfl rfl ?_
        refine And.intro ?_ ?_
        · skip
          refine prim_insert (kt := 4) (et := 9) (d := .bool) (by kernel_rfl) (by kernel_rfl) (by kernel_rfl) rfl rfl rfl ?_
          refine And.intro ?_ ?_
          · skip
            refine prim_insert (kt := 4) (et := 9) (d := .bool) (by kernel_rfl) (by kernel_rfl) (by kernel_rfl) rfl rfl rfl ?_
            refine And.intro ?_ ?_
            · skip
              first | refine prim_lookup (some (0, .string sF)) (kt := 4) (et := 9) (d := .bool) (z := .string ⟨#[]⟩) (i := Tryd.t9) (by kernel_rfl) (by kernel_rfl) (by kernel_rfl) (by kernel_rfl) rfl rfl rfl rfl ?_ | refine prim_lookup (some (1, .string sF)) (kt := 4) (et := 9) (d := .bool) (z := .string ⟨#[]⟩) (i := Tryd.t9) (by kernel_rfl) (by kernel_rfl) (by kernel_rfl) (by kernel_rfl) rfl rfl rfl rfl ?_
              refine (itoa_c p (by omega) (by omega) g hT).call rfl rfl rfl ?_
              refine ⟨by show sF.size + (numS p).size ≤ _; rw [sF_size]; omega, ?_⟩
              exact ⟨(_, _), trivial, [0, 1], rfl, ⟨vs hu, trivial⟩, rfl, rfl, rfl, rfl⟩
            refine (itoa_c p (by omega) (by omega) g hT).call rfl rfl rfl ?_
            first | refine prim_lookup (some (0, .string sF)) (kt := 4) (et := 9) (d := .bool) (z := .string ⟨#[]⟩) (i := Tryd.t9) (by kernel_rfl) (by kernel_rfl) (by kernel_rfl) (by kernel_rfl) rfl rfl rfl rfl ?_ | refine prim_lookup (some (1, .string sF)) (kt := 4) (et := 9) (d := .bool) (z := .string ⟨#[]⟩) (i := Tryd.t9) (by kernel_rfl) (by kernel_rfl) (by kernel_rfl) (by kernel_rfl) rfl rfl rfl rfl ?_
            refine ⟨by show sF.size + (numS p).size ≤ _; rw [sF_size]; omega, ?_⟩
            exact ⟨(_, _), trivial, [0, 1], rfl, ⟨vs hu, trivial⟩, rfl, rfl, rfl, rfl⟩
          refine (itoa_c p (by omega) (by omega) g hT).call rfl rfl rfl ?_
          refine prim_insert (kt := 4) (et := 9) (d := .bool) (by kernel_rfl) (by kernel_rfl) (by kernel_rfl) rfl rfl rfl ?_
          first | refine prim_lookup (some (0, .string sF)) (kt := 4) (et := 9) (d := .bool) (z := .string ⟨#[]⟩) (i := Tryd.t9) (by kernel_rfl) (by kernel_rfl) (by kernel_rfl) (by kernel_rfl) rfl rfl rfl rfl ?_ | refine prim_lookup (some (1, .string sF)) (kt := 4) (et := 9) (d := .bool) (z := .string ⟨#[]⟩) (i := Tryd.t9) (by kernel_rfl) (by kernel_rfl) (by kernel_rfl) (by kernel_rfl) rfl rfl rfl rfl ?_
          refine ⟨by show sF.size + (numS p).size ≤ _; rw [sF_size]; omega, ?_⟩
          exact ⟨(_, _), trivial, [0, 1], rfl, ⟨vs hu, trivial⟩, rfl, rfl, rfl, rfl⟩
        refine And.intro ?_ ?_
        · skip
          refine prim_insert (kt := 4) (et := 9) (d := .bool) (by kernel_rfl) (by kernel_rfl) (by kernel_rfl) rfl rfl rfl ?_
          refine And.intro ?_ ?_
          · skip
            refine prim_insert (kt := 4) (et := 9) (d := .bool) (by kernel_rfl) (by kernel_rfl) (by kernel_rfl) rfl rfl rfl ?_
            refine And.intro ?_ ?_
            · skip
              first | refine prim_lookup (some (0, .string sF)) (kt := 4) (et := 9) (d := .bool) (z := .string ⟨#[]⟩) (i := Tryd.t9) (by kernel_rfl) (by kernel_rfl) (by kernel_rfl) (by kernel_rfl) rfl rfl rfl rfl ?_ | refine prim_lookup (some (1, .string sF)) (kt := 4) (et := 9) (d := .bool) (z := .string ⟨#[]⟩) (i := Tryd.t9) (by kernel_rfl) (by kernel_rfl) (by kernel_rfl) (by kernel_rfl) rfl rfl rfl rfl ?_
              refine (itoa_c p (by omega) (by omega) g hT).call rfl rfl rfl ?_
              refine ⟨by show sF.size + (numS p).size ≤ _; rw [sF_size]; omega, ?_⟩
              exact ⟨(_, _), trivial, [0, 1], rfl, ⟨vs hu, trivial⟩, rfl, rfl, rfl, rfl⟩
            refine (itoa_c p (by omega) (by omega) g hT).call rfl rfl rfl ?_
            first | refine prim_lookup (some (0, .string sF)) (kt := 4) (et := 9) (d := .bool) (z := .string ⟨#[]⟩) (i := Tryd.t9) (by kernel_rfl) (by kernel_rfl) (by kernel_rfl) (by kernel_rfl) rfl rfl rfl rfl ?_ | refine prim_lookup (some (1, .string sF)) (kt := 4) (et := 9) (d := .bool) (z := .string ⟨#[]⟩) (i := Tryd.t9) (by kernel_rfl) (by kernel_rfl) (by kernel_rfl) (by kernel_rfl) rfl rfl rfl rfl ?_
            refine ⟨by show sF.size + (numS p).size ≤ _; rw [sF_size]; omega, ?_⟩
            exact ⟨(_, _), trivial, [0, 1], rfl, ⟨vs hu, trivial⟩, rfl, rfl, rfl, rfl⟩
          refine (itoa_c p (by omega) (by omega) g hT).call rfl rfl rfl ?_
          refine prim_insert (kt := 4) (et := 9) (d := .bool) (by kernel_rfl) (by kernel_rfl) (by kernel_rfl) rfl rfl rfl ?_
          first | refine prim_lookup (some (0, .string sF)) (kt := 4) (et := 9) (d := .bool) (z := .string ⟨#[]⟩) (i := Tryd.t9) (by kernel_rfl) (by kernel_rfl) (by kernel_rfl) (by kernel_rfl) rfl rfl rfl rfl ?_ | refine prim_lookup (some (1, .string sF)) (kt := 4) (et := 9) (d := .bool) (z := .string ⟨#[]⟩) (i := Tryd.t9) (by kernel_rfl) (by kernel_rfl) (by kernel_rfl) (by kernel_rfl) rfl rfl rfl rfl ?_
          refine ⟨by show sF.size + (numS p).size ≤ _; rw [sF_size]; omega, ?_⟩
          exact ⟨(_, _), trivial, [0, 1], rfl, ⟨vs hu, trivial⟩, rfl, rfl, rfl, rfl⟩
        refine (itoa_c p (by omega) (by omega) g hT).call rfl rfl rfl ?_
        refine And.intro ?_ ?_
        · skip
          refine prim_insert (kt := 4) (et := 9) (d := .bool) (by kernel_rfl) (by kernel_rfl) (by kernel_rfl) rfl rfl rfl ?_
          refine prim_insert (kt := 4) (et := 9) (d := .bool) (by kernel_rfl) (by kernel_rfl) (by kernel_rfl) rfl rfl rfl ?_
          first | refine prim_lookup (some (0, .string sF)) (kt := 4) (et := 9) (d := .bool) (z := .string ⟨#[]⟩) (i := Tryd.t9) (by kernel_rfl) (by kernel_rfl) (by kernel_rfl) (by kernel_rfl) rfl rfl rfl rfl ?_ | refine prim_lookup (some (1, .string sF)) (kt := 4) (et := 9) (d := .bool) (z := .string ⟨#[]⟩) (i := Tryd.t9) (by kernel_rfl) (by kernel_rfl) (by kernel_rfl) (by kernel_rfl) rfl rfl rfl rfl ?_
          refine ⟨by show sF.size + (numS p).size ≤ _; rw [sF_size]; omega, ?_⟩
          exact ⟨(_, _), trivial, [0, 1], rfl, ⟨vs hu, trivial⟩, rfl, rfl, rfl, rfl⟩
        refine prim_insert (kt := 4) (et := 9) (d := .bool) (by kernel_rfl) (by kernel_rfl) (by kernel_rfl) rfl rfl rfl ?_
        refine prim_insert (kt := 4) (et := 9) (d := .bool) (by kernel_rfl) (by kernel_rfl) (by kernel_rfl) rfl rfl rfl ?_
        first | refine prim_lookup (some (0, .string sF)) (kt := 4) (et := 9) (d := .bool) (z := .string ⟨#[]⟩) (i := Tryd.t9) (by kernel_rfl) (by kernel_rfl) (by kernel_rfl) (by kernel_rfl) rfl rfl rfl rfl ?_ | refine prim_lookup (some (1, .string sF)) (kt := 4) (et := 9) (d := .bool) (z := .string ⟨#[]⟩) (i := Tryd.t9) (by kernel_rfl) (by kernel_rfl) (by kernel_rfl) (by kernel_rfl) rfl rfl rfl rfl ?_
        refine ⟨by show sF.size + (numS p).size ≤ _; rw [sF_size]; omega, ?_⟩
        exact ⟨(_, _), trivial, [0, 1], rfl, ⟨vs hu, trivial⟩, rfl, rfl, rfl, rfl⟩
      refine (itoa_c p (by omega) (by omega) g hT).call rfl rfl rfl ?_
      refine prim_makeMap 1 rfl rfl ?_
      refine And.intro ?_ ?_
      · skip
        refine prim_insert (kt := 4) (et := 9) (d := .bool) (by kernel_rfl) (by kernel_rfl) (by kernel_rfl) rfl rfl rfl ?_
        refine prim_insert (kt := 4) (et := 9) (d := .bool) (by kernel_rfl) (by kernel_rfl) (by kernel_rfl) rfl rfl rfl ?_
        first | refine prim_lookup (some (0, .string sF)) (kt := 4) (et := 9) (d := .bool) (z := .string ⟨#[]⟩) (i := Tryd.t9) (by kernel_rfl) (by kernel_rfl) (by kernel_rfl) (by kernel_rfl) rfl rfl rfl rfl ?_ | refine prim_lookup (some (1, .string sF)) (kt := 4) (et := 9) (d := .bool) (z := .string ⟨#[]⟩) (i := Tryd.t9) (by kernel_rfl) (by kernel_rfl) (by kernel_rfl) (by kernel_rfl) rfl rfl rfl rfl ?_
        refine ⟨by show sF.size + (numS p).size ≤ _; rw [sF_size]; omega, ?_⟩
        exact ⟨(_, _), trivial, [0, 1], rfl, ⟨vs hu, trivial⟩, rfl, rfl, rfl, rfl⟩
      refine prim_insert (kt := 4) (et := 9) (d := .bool) (by kernel_rfl) (by kernel_rfl) (by kernel_rfl) rfl rfl rfl ?_
      refine prim_insert (kt := 4) (et := 9) (d := .bool) (by kernel_rfl) (by kernel_rfl) (by kernel_rfl) rfl rfl rfl ?_
      first | refine prim_lookup (some (0, .string sF)) (kt := 4) (et := 9) (d := .bool) (z := .string ⟨#[]⟩) (i := Tryd.t9) (by kernel_rfl) (by kernel_rfl) (by kernel_rfl) (by kernel_rfl) rfl rfl rfl rfl ?_ | refine prim_lookup (some (1, .string sF)) (kt := 4) (et := 9) (d := .bool) (z := .string ⟨#[]⟩) (i := Tryd.t9) (by kernel_rfl) (by kernel_rfl) (by kernel_rfl) (by kernel_rfl) rfl rfl rfl rfl ?_
      refine ⟨by show sF.size + (numS p).size ≤ _; rw [sF_size]; omega, ?_⟩
      exact ⟨(_, _), trivial, [0, 1], rfl, ⟨vs hu, trivial⟩, rfl, rfl, rfl, rfl⟩
    rintro ⟨es, ck⟩ -
    clear hu
    change JoinW _ _ _ _ _ _ _
    refine join_rule [] (α := Array MapEntry × Nat) (fun _ => [(2, .v (.string (tagT ⟨false, p, true, v⟩))), (3, .v (.int .i64 0))]) (fun y => [.cells 35 ((TagV.cells ⟨false, p, true, v⟩).map .v), .raw (.map es ck), .raw (.map y.1 y.2)]) (fun _ => g) (fun _ => True) (fun y => by kernel_rfl) ?_ ?_
    · skip
      refine And.intro ?_ ?_
      · skip
        refine prim_makeMap 2 rfl rfl ?_
        refine And.intro ?_ ?_
        · skip
          refine prim_insert (kt := 4) (et := 9) (d := .bool) (by kernel_rfl) (by kernel_rfl) (by kernel_rfl) rfl rfl rfl ?_
          refine And.intro ?_ ?_
          · skip
            refine prim_insert (kt := 4) (et := 9) (d := .bool) (by kernel_rfl) (by kernel_rfl) (by kernel_rfl) rfl rfl rfl ?_
            refine And.intro ?_ ?_
            · skip
              first | refine prim_lookup (some (0, .string dT)) (kt := 4) (et := 9) (d := .bool) (z := .string ⟨#[]⟩) (i := Tryd.t9) (by kernel_rfl) (by kernel_rfl) (by kernel_rfl) (by kernel_rfl) rfl rfl rfl rfl ?_ | refine prim_lookup (some (1, .string dT)) (kt := 4) (et := 9) (d := .bool) (z := .string ⟨#[]⟩) (i := Tryd.t9) (by kernel_rfl) (by kernel_rfl) (by kernel_rfl) (by kernel_rfl) rfl rfl rfl rfl ?_
              refine ⟨by show u.size + dT.size ≤ _; rw [zu, dT_size]; omega, ?_⟩
              refine (itoa_c v (by omega) (by omega) g hT).call rfl rfl rfl ?_
              refine ⟨by show (u ++ dT).size + (numS v).size ≤ _; omega, ?_⟩
              exact ⟨(_, _), trivial, [0, 1, 2], rfl, ⟨vs hend, rfl, trivial⟩, rfl, rfl, rfl, rfl⟩
            refine (itoa_c v (by omega) (by omega) g hT).call rfl rfl rfl ?_
            first | refine prim_lookup (some (0, .string dT)) (kt := 4) (et := 9) (d := .bool) (z := .string ⟨#[]⟩) (i := Tryd.t9) (by kernel_rfl) (by kernel_rfl) (by kernel_rfl) (by kernel_rfl) rfl rfl rfl rfl ?_ | refine prim_lookup (some (1, .string dT)) (kt := 4) (et := 9) (d := .bool) (z := .string ⟨#[]⟩) (i := Tryd.t9) (by kernel_rfl) (by kernel_rfl) (by kernel_rfl) (by kernel_rfl) rfl rfl rfl rfl ?_
            refine ⟨by show u.size + dT.size ≤ _; rw [zu, dT_size]; omega, ?_⟩
            refine ⟨by show (u ++ dT).size + (numS v).size ≤ _; omega, ?_⟩
            exact ⟨(_, _), trivial, [0, 1, 2], rfl, ⟨vs hend, rfl, trivial⟩, rfl, rfl, rfl, rfl⟩
          refine (itoa_c v (by omega) (by omega) g hT).call rfl rfl rfl ?_
          refine prim_insert (kt := 4) (et := 9) (d := .bool) (by kernel_rfl) (by kernel_rfl) (by kernel_rfl) rfl rfl rfl ?_
          first | refine prim_lookup (some (0, .string dT)) (kt := 4) (et := 9) (d := .bool) (z := .string ⟨#[]⟩) (i := Tryd.t9) (by kernel_rfl) (by kernel_rfl) (by kernel_rfl) (by kernel_rfl) rfl rfl rfl rfl ?_ | refine prim_lookup (some (1, .string dT)) (kt := 4) (et := 9) (d := .bool) (z := .string ⟨#[]⟩) (i := Tryd.t9) (by kernel_rfl) (by kernel_rfl) (by kernel_rfl) (by kernel_rfl) rfl rfl rfl rfl ?_
          refine ⟨by show u.size + dT.size ≤ _; rw [zu, dT_size]; omega, ?_⟩
          refine ⟨by show (u ++ dT).size + (numS v).size ≤ _; omega, ?_⟩
          exact ⟨(_, _), trivial, [0, 1, 2], rfl, ⟨vs hend, rfl, trivial⟩, rfl, rfl, rfl, rfl⟩
        refine And.intro ?_ ?_
        · skip
          refine prim_insert (kt := 4) (et := 9) (d := .bool) (by kernel_rfl) (by kernel_rfl) (by kernel_rfl) rfl rfl rfl ?_
          refine And.intro ?_ ?_
          · skip
            refine prim_insert (kt := 4) (et := 9) (d := .bool) (by kernel_rfl) (by kernel_rfl) (by kernel_rfl) rfl rfl rfl ?_
            refine And.intro ?_ ?_
            · skip
              first | refine prim_lookup (some (0, .string dT)) (kt := 4) (et := 9) (d := .bool) (z := .string ⟨#[]⟩) (i := Tryd.t9) (by kernel_rfl) (by kernel_rfl) (by kernel_rfl) (by kernel_rfl) rfl rfl rfl rfl ?_ | refine prim_lookup (some (1, .string dT)) (kt := 4) (et := 9) (d := .bool) (z := .string ⟨#[]⟩) (i := Tryd.t9) (by kernel_rfl) (by kernel_rfl) (by kernel_rfl) (by kernel_rfl) rfl rfl rfl rfl ?_
              refine ⟨by show u.size + dT.size ≤ _; rw [zu, dT_size]; omega, ?_⟩
              refine (itoa_c v (by omega) (by omega) g hT).call rfl rfl rfl ?_
              refine ⟨by show (u ++ dT).size + (numS v).size ≤ _; omega, ?_⟩
              exact ⟨(_, _), trivial, [0, 1, 2], rfl, ⟨vs hend, rfl, trivial⟩, rfl, rfl, rfl, rfl⟩
            refine (itoa_c v (by omega) (by omega) g hT).call rfl rfl rfl ?_
            first | refine prim_lookup (some (0, .string dT)) (kt := 4) (et := 9) (d := .bool) (z := .string ⟨#[]⟩) (i := Tryd.t9) (by kernel_rfl) (by kernel_rfl) (by kernel_rfl) (by kernel_rfl) rfl rfl rfl rfl ?_ | refine prim_lookup (some (1, .string dT)) (kt := 4) (et := 9) (d := .bool) (z := .string ⟨#[]⟩) (i := Tryd.t9) (by kernel_rfl) (by kernel_rfl) (by kernel_rfl) (by kernel_rfl) rfl rfl rfl rfl ?_
            refine ⟨by show u.size + dT.size ≤ _; rw [zu, dT_size]; omega, ?_⟩
            refine ⟨by show (u ++ dT).size + (numS v).size ≤ _; omega, ?_⟩
            exact ⟨(_, _), trivial, [0, 1, 2], rfl, ⟨vs hend, rfl, trivial⟩, rfl, rfl, rfl, rfl⟩
          refine (itoa_c v (by omega) (by omega) g hT).call rfl rfl rfl ?_
          refine prim_insert (kt := 4) (et := 9) (d := .bool) (by kernel_rfl) (by kernel_rfl) (by kernel_rfl) rfl rfl rfl ?_
          first | refine prim_lookup (some (0, .string dT)) (kt := 4) (et := 9) (d := .bool) (z := .string ⟨#[]⟩) (i := Tryd.t9) (by kernel_rfl) (by kernel_rfl) (by kernel_rfl) (by kernel_rfl) rfl rfl rfl rfl ?_ | refine prim_lookup (some (1, .string dT)) (kt := 4) (et := 9) (d := .bool) (z := .string ⟨#[]⟩) (i := Tryd.t9) (by kernel_rfl) (by kernel_rfl) (by kernel_rfl) (by kernel_rfl) rfl rfl rfl rfl ?_
          refine ⟨by show u.size + dT.size ≤ _; rw [zu, dT_size]; omega, ?_⟩
          refine ⟨by show (u ++ dT).size + (numS v).size ≤ _; omega, ?_⟩
          exact ⟨(_, _), trivial, [0, 1, 2], rfl, ⟨vs hend, rfl, trivial⟩, rfl, rfl, rfl, rfl⟩
        refine (itoa_c v (by omega) (by omega) g hT).call rfl rfl rfl ?_
        refine And.intro ?_ ?_
        · skip
          refine prim_insert (kt := 4) (et := 9) (d := .bool) (by kernel_rfl) (by kernel_rfl) (by kernel_rfl) rfl rfl rfl ?_
          refine prim_insert (kt := 4) (et := 9) (d := .bool) (by kernel_rfl) (by kernel_rfl) (by kernel_rfl) rfl rfl rfl ?_
          first | refine prim_lookup (some (0, .string dT)) (kt := 4) (et := 9) (d := .bool) (z := .string ⟨#[]⟩) (i := Tryd.t9) (by kernel_rfl) (by kernel_rfl) (by kernel_rfl) (by kernel_rfl) rfl rfl rfl rfl ?_ | refine prim_lookup (some (1, .string dT)) (kt := 4) (et := 9) (d := .bool) (z := .string ⟨#[]⟩) (i := Tryd.t9) (by kernel_rfl) (by kernel_rfl) (by kernel_rfl) (by kernel_rfl) rfl rfl rfl rfl ?_
          refine ⟨by show u.size + dT.size ≤ _; rw [zu, dT_size]; omega, ?_⟩
          refine ⟨by show (u ++ dT).size + (numS v).size ≤ _; omega, ?_⟩
          exact ⟨(_, _), trivial, [0, 1, 2], rfl, ⟨vs hend, rfl, trivial⟩, rfl, rfl, rfl, rfl⟩
        refine prim_insert (kt := 4) (et := 9) (d := .bool) (by kernel_rfl) (by kernel_rfl) (by kernel_rfl) rfl rfl rfl ?_
        refine prim_insert (kt := 4) (et := 9) (d := .bool) (by kernel_rfl) (by kernel_rfl) (by kernel_rfl) rfl rfl rfl ?_
        first | refine prim_lookup (some (0, .string dT)) (kt := 4) (et := 9) (d := .bool) (z := .string ⟨#[]⟩) (i := Tryd.t9) (by kernel_rfl) (by kernel_rfl) (by kernel_rfl) (by kernel_rfl) rfl rfl rfl rfl ?_ | refine prim_lookup (some (1, .string dT)) (kt := 4) (et := 9) (d := .bool) (z := .string ⟨#[]⟩) (i := Tryd.t9) (by kernel_rfl) (by kernel_rfl) (by kernel_rfl) (by kernel_rfl) rfl rfl rfl rfl ?_
        refine ⟨by show u.size + dT.size ≤ _; rw [zu, dT_size]; omega, ?_⟩
        refine ⟨by show (u ++ dT).size + (numS v).size ≤ _; omega, ?_⟩
        exact ⟨(_, _), trivial, [0, 1, 2], rfl, ⟨vs hend, rfl, trivial⟩, rfl, rfl, rfl, rfl⟩
      refine (itoa_c v (by omega) (by omega) g hT).call rfl rfl rfl ?_
      refine prim_makeMap 2 rfl rfl ?_
      refine And.intro ?_ ?_
      · skip
        refine prim_insert (kt := 4) (et := 9) (d := .bool) (by kernel_rfl) (by kernel_rfl) (by kernel_rfl) rfl rfl rfl ?_
        refine prim_insert (kt := 4) (et := 9) (d := .bool) (by kernel_rfl) (by kernel_rfl) (by kernel_rfl) rfl rfl rfl ?_
        first | refine prim_lookup (some (0, .string dT)) (kt := 4) (et := 9) (d := .bool) (z := .string ⟨#[]⟩) (i := Tryd.t9) (by kernel_rfl) (by kernel_rfl) (by kernel_rfl) (by kernel_rfl) rfl rfl rfl rfl ?_ | refine prim_lookup (some (1, .string dT)) (kt := 4) (et := 9) (d := .bool) (z := .string ⟨#[]⟩) (i := Tryd.t9) (by kernel_rfl) (by kernel_rfl) (by kernel_rfl) (by kernel_rfl) rfl rfl rfl rfl ?_
        refine ⟨by show u.size + dT.size ≤ _; rw [zu, dT_size]; omega, ?_⟩
        refine ⟨by show (u ++ dT).size + (numS v).size ≤ _; omega, ?_⟩
        exact ⟨(_, _), trivial, [0, 1, 2], rfl, ⟨vs hend, rfl, trivial⟩, rfl, rfl, rfl, rfl⟩
      refine prim_insert (kt := 4) (et := 9) (d := .bool) (by kernel_rfl) (by kernel_rfl) (by kernel_rfl) rfl rfl rfl ?_
      refine prim_insert (kt := 4) (et := 9) (d := .bool) (by kernel_rfl) (by kernel_rfl) (by kernel_rfl) rfl rfl rfl ?_
      first | refine prim_lookup (some (0, .string dT)) (kt := 4) (et := 9) (d := .bool) (z := .string ⟨#[]⟩) (i := Tryd.t9) (by kernel_rfl) (by kernel_rfl) (by kernel_rfl) (by kernel_rfl) rfl rfl rfl rfl ?_ | refine prim_lookup (some (1, .string dT)) (kt := 4) (et := 9) (d := .bool) (z := .string ⟨#[]⟩) (i := Tryd.t9) (by kernel_rfl) (by kernel_rfl) (by kernel_rfl) (by kernel_rfl) rfl rfl rfl rfl ?_
      refine ⟨by show u.size + dT.size ≤ _; rw [zu, dT_size]; omega, ?_⟩
      refine ⟨by show (u ++ dT).size + (numS v).size ≤ _; omega, ?_⟩
      exact ⟨(_, _), trivial, [0, 1, 2], rfl, ⟨vs hend, rfl, trivial⟩, rfl, rfl, rfl, rfl⟩
    rintro ⟨es2, ck2⟩ -
    exact ⟨rfl, rfl, rfl⟩
  · refine meets_ofJ mixedS Tryd.func10 (by kernel_rfl) x10_ok (some []) ?_
    refine (tagRightR_c ⟨true, p, false, v⟩ g).call rfl rfl rfl ?_
    refine bsplit_of (fun (q : (!decide (tagP ⟨true, p, false, v⟩)) = true) => absurd q (by simp [h])) (fun _ => ?_)
    obtain ⟨u, hu⟩ : ∃ u, sT ++ numS p = u := ⟨_, rfl⟩
    have zu : u.size = 1 + (numS p).size := by rw [← hu, ByteArray.size_append, sT_size]
    have zw : (u ++ dF).size ≤ 100 := by rw [ByteArray.size_append, zu, dF_size]; omega
    have hend : u ++ dF ++ numS v = tagT ⟨true, p, false, v⟩ := by rw [← hu]; rfl
    change JoinW _ _ _ _ _ _ _
    refine join_rule [] (α := Array MapEntry × Nat) (fun _ => [(4, .v (.string u))]) (fun y => [.cells 35 ((TagV.cells ⟨true, p, false, v⟩).map .v), .raw (.map y.1 y.2)]) (fun _ => g) (fun _ => True) (fun y => by kernel_rfl) ?_ ?_
    · skip
      refine And.intro ?_ ?_
      · skip
        refine prim_makeMap 1 rfl rfl ?_
        refine And.intro ?_ ?_
        · skip
          refine prim_insert (kt := 4) (et := 9) (d := .bool) (by kernel_rfl) (by kernel_rfl) (by kernel_rfl) rfl rfl rfl ?_
          refine And.intro ?_ ?_
          · skip
            refine prim_insert (kt := 4) (et := 9) (d := .bool) (by kernel_rfl) (by kernel_rfl) (by kernel_rfl) rfl rfl rfl ?_
            refine And.intro ?_ ?_
            · skip
              first | refine prim_lookup (some (0, .string sT)) (kt := 4) (et := 9) (d := .bool) (z := .string ⟨#[]⟩) (i := Tryd.t9) (by kernel_rfl) (by kernel_rfl) (by kernel_rfl) (by kernel_rfl) rfl rfl rfl rfl ?_ | refine prim_lookup (some (1, .string sT)) (kt := 4) (et := 9) (d := .bool) (z := .string ⟨#[]⟩) (i := Tryd.t9) (by kernel_rfl) (by kernel_rfl) (by kernel_rfl) (by kernel_rfl) rfl rfl rfl rfl ?_
              refine (itoa_c p (by omega) (by omega) g hT).call rfl rfl rfl ?_
              refine ⟨by show sT.size + (numS p).size ≤ _; rw [sT_size]; omega, ?_⟩
              exact ⟨(_, _), trivial, [0, 1], rfl, ⟨vs hu, trivial⟩, rfl, rfl, rfl, rfl⟩
            refine (itoa_c p (by omega) (by omega) g hT).call rfl rfl rfl ?_
            first | refine prim_lookup (some (0, .string sT)) (kt := 4) (et := 9) (d := .bool) (z := .string ⟨#[]⟩) (i := Tryd.t9) (by kernel_rfl) (by kernel_rfl) (by kernel_rfl) (by kernel_rfl) rfl rfl rfl rfl ?_ | refine prim_lookup (some (1, .string sT)) (kt := 4) (et := 9) (d := .bool) (z := .string ⟨#[]⟩) (i := Tryd.t9) (by kernel_rfl) (by kernel_rfl) (by kernel_rfl) (by kernel_rfl) rfl rfl rfl rfl ?_
            refine ⟨by show sT.size + (numS p).size ≤ _; rw [sT_size]; omega, ?_⟩
            exact ⟨(_, _), trivial, [0, 1], rfl, ⟨vs hu, trivial⟩, rfl, rfl, rfl, rfl⟩
          refine (itoa_c p (by omega) (by omega) g hT).call rfl rfl rfl ?_
          refine prim_insert (kt := 4) (et := 9) (d := .bool) (by kernel_rfl) (by kernel_rfl) (by kernel_rfl) rfl rfl rfl ?_
          first | refine prim_lookup (some (0, .string sT)) (kt := 4) (et := 9) (d := .bool) (z := .string ⟨#[]⟩) (i := Tryd.t9) (by kernel_rfl) (by kernel_rfl) (by kernel_rfl) (by kernel_rfl) rfl rfl rfl rfl ?_ | refine prim_lookup (some (1, .string sT)) (kt := 4) (et := 9) (d := .bool) (z := .string ⟨#[]⟩) (i := Tryd.t9) (by kernel_rfl) (by kernel_rfl) (by kernel_rfl) (by kernel_rfl) rfl rfl rfl rfl ?_
          refine ⟨by show sT.size + (numS p).size ≤ _; rw [sT_size]; omega, ?_⟩
          exact ⟨(_, _), trivial, [0, 1], rfl, ⟨vs hu, trivial⟩, rfl, rfl, rfl, rfl⟩
        refine And.intro ?_ ?_
        · skip
          refine prim_insert (kt := 4) (et := 9) (d := .bool) (by kernel_rfl) (by kernel_rfl) (by kernel_rfl) rfl rfl rfl ?_
          refine And.intro ?_ ?_
          · skip
            refine prim_insert (kt := 4) (et := 9) (d := .bool) (by kernel_rfl) (by kernel_rfl) (by kernel_rfl) rfl rfl rfl ?_
            refine And.intro ?_ ?_
            · skip
              first | refine prim_lookup (some (0, .string sT)) (kt := 4) (et := 9) (d := .bool) (z := .string ⟨#[]⟩) (i := Tryd.t9) (by kernel_rfl) (by kernel_rfl) (by kernel_rfl) (by kernel_rfl) rfl rfl rfl rfl ?_ | refine prim_lookup (some (1, .string sT)) (kt := 4) (et := 9) (d := .bool) (z := .string ⟨#[]⟩) (i := Tryd.t9) (by kernel_rfl) (by kernel_rfl) (by kernel_rfl) (by kernel_rfl) rfl rfl rfl rfl ?_
              refine (itoa_c p (by omega) (by omega) g hT).call rfl rfl rfl ?_
              refine ⟨by show sT.size + (numS p).size ≤ _; rw [sT_size]; omega, ?_⟩
              exact ⟨(_, _), trivial, [0, 1], rfl, ⟨vs hu, trivial⟩, rfl, rfl, rfl, rfl⟩
            refine (itoa_c p (by omega) (by omega) g hT).call rfl rfl rfl ?_
            first | refine prim_lookup (some (0, .string sT)) (kt := 4) (et := 9) (d := .bool) (z := .string ⟨#[]⟩) (i := Tryd.t9) (by kernel_rfl) (by kernel_rfl) (by kernel_rfl) (by kernel_rfl) rfl rfl rfl rfl ?_ | refine prim_lookup (some (1, .string sT)) (kt := 4) (et := 9) (d := .bool) (z := .string ⟨#[]⟩) (i := Tryd.t9) (by kernel_rfl) (by kernel_rfl) (by kernel_rfl) (by kernel_rfl) rfl rfl rfl rfl ?_
            refine ⟨by show sT.size + (numS p).size ≤ _; rw [sT_size]; omega, ?_⟩
            exact ⟨(_, _), trivial, [0, 1], rfl, ⟨vs hu, trivial⟩, rfl, rfl, rfl, rfl⟩
          refine (itoa_c p (by omega) (by omega) g hT).call rfl rfl rfl ?_
          refine prim_insert (kt := 4) (et := 9) (d := .bool) (by kernel_rfl) (by kernel_rfl) (by kernel_rfl) rfl rfl rfl ?_
          first | refine prim_lookup (some (0, .string sT)) (kt := 4) (et := 9) (d := .bool) (z := .string ⟨#[]⟩) (i := Tryd.t9) (by kernel_rfl) (by kernel_rfl) (by kernel_rfl) (by kernel_rfl) rfl rfl rfl rfl ?_ | refine prim_lookup (some (1, .string sT)) (kt := 4) (et := 9) (d := .bool) (z := .string ⟨#[]⟩) (i := Tryd.t9) (by kernel_rfl) (by kernel_rfl) (by kernel_rfl) (by kernel_rfl) rfl rfl rfl rfl ?_
          refine ⟨by show sT.size + (numS p).size ≤ _; rw [sT_size]; omega, ?_⟩
          exact ⟨(_, _), trivial, [0, 1], rfl, ⟨vs hu, trivial⟩, rfl, rfl, rfl, rfl⟩
        refine (itoa_c p (by omega) (by omega) g hT).call rfl rfl rfl ?_
        refine And.intro ?_ ?_
        · skip
          refine prim_insert (kt := 4) (et := 9) (d := .bool) (by kernel_rfl) (by kernel_rfl) (by kernel_rfl) rfl rfl rfl ?_
          refine prim_insert (kt := 4) (et := 9) (d := .bool) (by kernel_rfl) (by kernel_rfl) (by kernel_rfl) rfl rfl rfl ?_
          first | refine prim_lookup (some (0, .string sT)) (kt := 4) (et := 9) (d := .bool) (z := .string ⟨#[]⟩) (i := Tryd.t9) (by kernel_rfl) (by kernel_rfl) (by kernel_rfl) (by kernel_rfl) rfl rfl rfl rfl ?_ | refine prim_lookup (some (1, .string sT)) (kt := 4) (et := 9) (d := .bool) (z := .string ⟨#[]⟩) (i := Tryd.t9) (by kernel_rfl) (by kernel_rfl) (by kernel_rfl) (by kernel_rfl) rfl rfl rfl rfl ?_
          refine ⟨by show sT.size + (numS p).size ≤ _; rw [sT_size]; omega, ?_⟩
          exact ⟨(_, _), trivial, [0, 1], rfl, ⟨vs hu, trivial⟩, rfl, rfl, rfl, rfl⟩
        refine prim_insert (kt := 4) (et := 9) (d := .bool) (by kernel_rfl) (by kernel_rfl) (by kernel_rfl) rfl rfl rfl ?_
        refine prim_insert (kt := 4) (et := 9) (d := .bool) (by kernel_rfl) (by kernel_rfl) (by kernel_rfl) rfl rfl rfl ?_
        first | refine prim_lookup (some (0, .string sT)) (kt := 4) (et := 9) (d := .bool) (z := .string ⟨#[]⟩) (i := Tryd.t9) (by kernel_rfl) (by kernel_rfl) (by kernel_rfl) (by kernel_rfl) rfl rfl rfl rfl ?_ | refine prim_lookup (some (1, .string sT)) (kt := 4) (et := 9) (d := .bool) (z := .string ⟨#[]⟩) (i := Tryd.t9) (by kernel_rfl) (by kernel_rfl) (by kernel_rfl) (by kernel_rfl) rfl rfl rfl rfl ?_
        refine ⟨by show sT.size + (numS p).size ≤ _; rw [sT_size]; omega, ?_⟩
        exact ⟨(_, _), trivial, [0, 1], rfl, ⟨vs hu, trivial⟩, rfl, rfl, rfl, rfl⟩
      refine (itoa_c p (by omega) (by omega) g hT).call rfl rfl rfl ?_
      refine prim_makeMap 1 rfl rfl ?_
      refine And.intro ?_ ?_
      · skip
        refine prim_insert (kt := 4) (et := 9) (d := .bool) (by kernel_rfl) (by kernel_rfl) (by kernel_rfl) rfl rfl rfl ?_
        refine prim_insert (kt := 4) (et := 9) (d := .bool) (by kernel_rfl) (by kernel_rfl) (by kernel_rfl) rfl rfl rfl ?_
        first | refine prim_lookup (some (0, .string sT)) (kt := 4) (et := 9) (d := .bool) (z := .string ⟨#[]⟩) (i := Tryd.t9) (by kernel_rfl) (by kernel_rfl) (by kernel_rfl) (by kernel_rfl) rfl rfl rfl rfl ?_ | refine prim_lookup (some (1, .string sT)) (kt := 4) (et := 9) (d := .bool) (z := .string ⟨#[]⟩) (i := Tryd.t9) (by kernel_rfl) (by kernel_rfl) (by kernel_rfl) (by kernel_rfl) rfl rfl rfl rfl ?_
        refine ⟨by show sT.size + (numS p).size ≤ _; rw [sT_size]; omega, ?_⟩
        exact ⟨(_, _), trivial, [0, 1], rfl, ⟨vs hu, trivial⟩, rfl, rfl, rfl, rfl⟩
      refine prim_insert (kt := 4) (et := 9) (d := .bool) (by kernel_rfl) (by kernel_rfl) (by kernel_rfl) rfl rfl rfl ?_
      refine prim_insert (kt := 4) (et := 9) (d := .bool) (by kernel_rfl) (by kernel_rfl) (by kernel_rfl) rfl rfl rfl ?_
      first | refine prim_lookup (some (0, .string sT)) (kt := 4) (et := 9) (d := .bool) (z := .string ⟨#[]⟩) (i := Tryd.t9) (by kernel_rfl) (by kernel_rfl) (by kernel_rfl) (by kernel_rfl) rfl rfl rfl rfl ?_ | refine prim_lookup (some (1, .string sT)) (kt := 4) (et := 9) (d := .bool) (z := .string ⟨#[]⟩) (i := Tryd.t9) (by kernel_rfl) (by kernel_rfl) (by kernel_rfl) (by kernel_rfl) rfl rfl rfl rfl ?_
      refine ⟨by show sT.size + (numS p).size ≤ _; rw [sT_size]; omega, ?_⟩
      exact ⟨(_, _), trivial, [0, 1], rfl, ⟨vs hu, trivial⟩, rfl, rfl, rfl, rfl⟩
    rintro ⟨es, ck⟩ -
    clear hu
    change JoinW _ _ _ _ _ _ _
    refine join_rule [] (α := Array MapEntry × Nat) (fun _ => [(2, .v (.string (tagT ⟨true, p, false, v⟩))), (3, .v (.int .i64 0))]) (fun y => [.cells 35 ((TagV.cells ⟨true, p, false, v⟩).map .v), .raw (.map es ck), .raw (.map y.1 y.2)]) (fun _ => g) (fun _ => True) (fun y => by kernel_rfl) ?_ ?_
    · skip
      refine And.intro ?_ ?_
      · skip
        refine prim_makeMap 2 rfl rfl ?_
        refine And.intro ?_ ?_
        · skip
          refine prim_insert (kt := 4) (et := 9) (d := .bool) (by kernel_rfl) (by kernel_rfl) (by kernel_rfl) rfl rfl rfl ?_
          refine And.intro ?_ ?_
          · skip
            refine prim_insert (kt := 4) (et := 9) (d := .bool) (by kernel_rfl) (by kernel_rfl) (by kernel_rfl) rfl rfl rfl ?_
            refine And.intro ?_ ?_
            · skip
              first | refine prim_lookup (some (0, .string dF)) (kt := 4) (et := 9) (d := .bool) (z := .string ⟨#[]⟩) (i := Tryd.t9) (by kernel_rfl) (by kernel_rfl) (by kernel_rfl) (by kernel_rfl) rfl rfl rfl rfl ?_ | refine prim_lookup (some (1, .string dF)) (kt := 4) (et := 9) (d := .bool) (z := .string ⟨#[]⟩) (i := Tryd.t9) (by kernel_rfl) (by kernel_rfl) (by kernel_rfl) (by kernel_rfl) rfl rfl rfl rfl ?_
              refine ⟨by show u.size + dF.size ≤ _; rw [zu, dF_size]; omega, ?_⟩
              refine (itoa_c v (by omega) (by omega) g hT).call rfl rfl rfl ?_
              refine ⟨by show (u ++ dF).size + (numS v).size ≤ _; omega, ?_⟩
              exact ⟨(_, _), trivial, [0, 1, 2], rfl, ⟨vs hend, rfl, trivial⟩, rfl, rfl, rfl, rfl⟩
            refine (itoa_c v (by omega) (by omega) g hT).call rfl rfl rfl ?_
            first | refine prim_lookup (some (0, .string dF)) (kt := 4) (et := 9) (d := .bool) (z := .string ⟨#[]⟩) (i := Tryd.t9) (by kernel_rfl) (by kernel_rfl) (by kernel_rfl) (by kernel_rfl) rfl rfl rfl rfl ?_ | refine prim_lookup (some (1, .string dF)) (kt := 4) (et := 9) (d := .bool) (z := .string ⟨#[]⟩) (i := Tryd.t9) (by kernel_rfl) (by kernel_rfl) (by kernel_rfl) (by kernel_rfl) rfl rfl rfl rfl ?_
            refine ⟨by show u.size + dF.size ≤ _; rw [zu, dF_size]; omega, ?_⟩
            refine ⟨by show (u ++ dF).size + (numS v).size ≤ _; omega, ?_⟩
            exact ⟨(_, _), trivial, [0, 1, 2], rfl, ⟨vs hend, rfl, trivial⟩, rfl, rfl, rfl, rfl⟩
          refine (itoa_c v (by omega) (by omega) g hT).call rfl rfl rfl ?_
          refine prim_insert (kt := 4) (et := 9) (d := .bool) (by kernel_rfl) (by kernel_rfl) (by kernel_rfl) rfl rfl rfl ?_
          first | refine prim_lookup (some (0, .string dF)) (kt := 4) (et := 9) (d := .bool) (z := .string ⟨#[]⟩) (i := Tryd.t9) (by kernel_rfl) (by kernel_rfl) (by kernel_rfl) (by kernel_rfl) rfl rfl rfl rfl ?_ | refine prim_lookup (some (1, .string dF)) (kt := 4) (et := 9) (d := .bool) (z := .string ⟨#[]⟩) (i := Tryd.t9) (by kernel_rfl) (by kernel_rfl) (by kernel_rfl) (by kernel_rfl) rfl rfl rfl rfl ?_
          refine ⟨by show u.size + dF.size ≤ _; rw [zu, dF_size]; omega, ?_⟩
          refine ⟨by show (u ++ dF).size + (numS v).size ≤ _; omega, ?_⟩
          exact ⟨(_, _), trivial, [0, 1, 2], rfl, ⟨vs hend, rfl, trivial⟩, rfl, rfl, rfl, rfl⟩
        refine And.intro ?_ ?_
        · skip
          refine prim_insert (kt := 4) (et := 9) (d := .bool) (by kernel_rfl) (by kernel_rfl) (by kernel_rfl) rfl rfl rfl ?_
          refine And.intro ?_ ?_
          · skip
            refine prim_insert (kt := 4) (et := 9) (d := .bool) (by kernel_rfl) (by kernel_rfl) (by kernel_rfl) rfl rfl rfl ?_
            refine And.intro ?_ ?_
            · skip
              first | refine prim_lookup (some (0, .string dF)) (kt := 4) (et := 9) (d := .bool) (z := .string ⟨#[]⟩) (i := Tryd.t9) (by kernel_rfl) (by kernel_rfl) (by kernel_rfl) (by kernel_rfl) rfl rfl rfl rfl ?_ | refine prim_lookup (some (1, .string dF)) (kt := 4) (et := 9) (d := .bool) (z := .string ⟨#[]⟩) (i := Tryd.t9) (by kernel_rfl) (by kernel_rfl) (by kernel_rfl) (by kernel_rfl) rfl rfl rfl rfl ?_
              refine ⟨by show u.size + dF.size ≤ _; rw [zu, dF_size]; omega, ?_⟩
              refine (itoa_c v (by omega) (by omega) g hT).call rfl rfl rfl ?_
              refine ⟨by show (u ++ dF).size + (numS v).size ≤ _; omega, ?_⟩
              exact ⟨(_, _), trivial, [0, 1, 2], rfl, ⟨vs hend, rfl, trivial⟩, rfl, rfl, rfl, rfl⟩
            refine (itoa_c v (by omega) (by omega) g hT).call rfl rfl rfl ?_
            first | refine prim_lookup (some (0, .string dF)) (kt := 4) (et := 9) (d := .bool) (z := .string ⟨#[]⟩) (i := Tryd.t9) (by kernel_rfl) (by kernel_rfl) (by kernel_rfl) (by kernel_rfl) rfl rfl rfl rfl ?_ | refine prim_lookup (some (1, .string dF)) (kt := 4) (et := 9) (d := .bool) (z := .string ⟨#[]⟩) (i := Tryd.t9) (by kernel_rfl) (by kernel_rfl) (by kernel_rfl) (by kernel_rfl) rfl rfl rfl rfl ?_
            refine ⟨by show u.size + dF.size ≤ _; rw [zu, dF_size]; omega, ?_⟩
            refine ⟨by show (u ++ dF).size + (numS v).size ≤ _; omega, ?_⟩
            exact ⟨(_, _), trivial, [0, 1, 2], rfl, ⟨vs hend, rfl, trivial⟩, rfl, rfl, rfl, rfl⟩
          refine (itoa_c v (by omega) (by omega) g hT).call rfl rfl rfl ?_
          refine prim_insert (kt := 4) (et := 9) (d := .bool) (by kernel_rfl) (by kernel_rfl) (by kernel_rfl) rfl rfl rfl ?_
          first | refine prim_lookup (some (0, .string dF)) (kt := 4) (et := 9) (d := .bool) (z := .string ⟨#[]⟩) (i := Tryd.t9) (by kernel_rfl) (by kernel_rfl) (by kernel_rfl) (by kernel_rfl) rfl rfl rfl rfl ?_ | refine prim_lookup (some (1, .string dF)) (kt := 4) (et := 9) (d := .bool) (z := .string ⟨#[]⟩) (i := Tryd.t9) (by kernel_rfl) (by kernel_rfl) (by kernel_rfl) (by kernel_rfl) rfl rfl rfl rfl ?_
          refine ⟨by show u.size + dF.size ≤ _; rw [zu, dF_size]; omega, ?_⟩
          refine ⟨by show (u ++ dF).size + (numS v).size ≤ _; omega, ?_⟩
          exact ⟨(_, _), trivial, [0, 1, 2], rfl, ⟨vs hend, rfl, trivial⟩, rfl, rfl, rfl, rfl⟩
        refine (itoa_c v (by omega) (by omega) g hT).call rfl rfl rfl ?_
        refine And.intro ?_ ?_
        · skip
          refine prim_insert (kt := 4) (et := 9) (d := .bool) (by kernel_rfl) (by kernel_rfl) (by kernel_rfl) rfl rfl rfl ?_
          refine prim_insert (kt := 4) (et := 9) (d := .bool) (by kernel_rfl) (by kernel_rfl) (by kernel_rfl) rfl rfl rfl ?_
          first | refine prim_lookup (some (0, .string dF)) (kt := 4) (et := 9) (d := .bool) (z := .string ⟨#[]⟩) (i := Tryd.t9) (by kernel_rfl) (by kernel_rfl) (by kernel_rfl) (by kernel_rfl) rfl rfl rfl rfl ?_ | refine prim_lookup (some (1, .string dF)) (kt := 4) (et := 9) (d := .bool) (z := .string ⟨#[]⟩) (i := Tryd.t9) (by kernel_rfl) (by kernel_rfl) (by kernel_rfl) (by kernel_rfl) rfl rfl rfl rfl ?_
          refine ⟨by show u.size + dF.size ≤ _; rw [zu, dF_size]; omega, ?_⟩
          refine ⟨by show (u ++ dF).size + (numS v).size ≤ _; omega, ?_⟩
          exact ⟨(_, _), trivial, [0, 1, 2], rfl, ⟨vs hend, rfl, trivial⟩, rfl, rfl, rfl, rfl⟩
        refine prim_insert (kt := 4) (et := 9) (d := .bool) (by kernel_rfl) (by kernel_rfl) (by kernel_rfl) rfl rfl rfl ?_
        refine prim_insert (kt := 4) (et := 9) (d := .bool) (by kernel_rfl) (by kernel_rfl) (by kernel_rfl) rfl rfl rfl ?_
        first | refine prim_lookup (some (0, .string dF)) (kt := 4) (et := 9) (d := .bool) (z := .string ⟨#[]⟩) (i := Tryd.t9) (by kernel_rfl) (by kernel_rfl) (by kernel_rfl) (by kernel_rfl) rfl rfl rfl rfl ?_ | refine prim_lookup (some (1, .string dF)) (kt := 4) (et := 9) (d := .bool) (z := .string ⟨#[]⟩) (i := Tryd.t9) (by kernel_rfl) (by kernel_rfl) (by kernel_rfl) (by kernel_rfl) rfl rfl rfl rfl ?_
        refine ⟨by show u.size + dF.size ≤ _; rw [zu, dF_size]; omega, ?_⟩
        refine ⟨by show (u ++ dF).size + (numS v).size ≤ _; omega, ?_⟩
        exact ⟨(_, _), trivial, [0, 1, 2], rfl, ⟨vs hend, rfl, trivial⟩, rfl, rfl, rfl, rfl⟩
      refine (itoa_c v (by omega) (by omega) g hT).call rfl rfl rfl ?_
      refine prim_makeMap 2 rfl rfl ?_
      refine And.intro ?_ ?_
      · skip
        refine prim_insert (kt := 4) (et := 9) (d := .bool) (by kernel_rfl) (by kernel_rfl) (by kernel_rfl) rfl rfl rfl ?_
        refine prim_insert (kt := 4) (et := 9) (d := .bool) (by kernel_rfl) (by kernel_rfl) (by kernel_rfl) rfl rfl rfl ?_
        first | refine prim_lookup (some (0, .string dF)) (kt := 4) (et := 9) (d := .bool) (z := .string ⟨#[]⟩) (i := Tryd.t9) (by kernel_rfl) (by kernel_rfl) (by kernel_rfl) (by kernel_rfl) rfl rfl rfl rfl ?_ | refine prim_lookup (some (1, .string dF)) (kt := 4) (et := 9) (d := .bool) (z := .string ⟨#[]⟩) (i := Tryd.t9) (by kernel_rfl) (by kernel_rfl) (by kernel_rfl) (by kernel_rfl) rfl rfl rfl rfl ?_
        refine ⟨by show u.size + dF.size ≤ _; rw [zu, dF_size]; omega, ?_⟩
        refine ⟨by show (u ++ dF).size + (numS v).size ≤ _; omega, ?_⟩
        exact ⟨(_, _), trivial, [0, 1, 2], rfl, ⟨vs hend, rfl, trivial⟩, rfl, rfl, rfl, rfl⟩
      refine prim_insert (kt := 4) (et := 9) (d := .bool) (by kernel_rfl) (by kernel_rfl) (by kernel_rfl) rfl rfl rfl ?_
      refine prim_insert (kt := 4) (et := 9) (d := .bool) (by kernel_rfl) (by kernel_rfl) (by kernel_rfl) rfl rfl rfl ?_
      first | refine prim_lookup (some (0, .string dF)) (kt := 4) (et := 9) (d := .bool) (z := .string ⟨#[]⟩) (i := Tryd.t9) (by kernel_rfl) (by kernel_rfl) (by kernel_rfl) (by kernel_rfl) rfl rfl rfl rfl ?_ | refine prim_lookup (some (1, .string dF)) (kt := 4) (et := 9) (d := .bool) (z := .string ⟨#[]⟩) (i := Tryd.t9) (by kernel_rfl) (by kernel_rfl) (by kernel_rfl) (by kernel_rfl) rfl rfl rfl rfl ?_
      refine ⟨by show u.size + dF.size ≤ _; rw [zu, dF_size]; omega, ?_⟩
      refine ⟨by show (u ++ dF).size + (numS v).size ≤ _; omega, ?_⟩
      exact ⟨(_, _), trivial, [0, 1, 2], rfl, ⟨vs hend, rfl, trivial⟩, rfl, rfl, rfl, rfl⟩
    rintro ⟨es2, ck2⟩ -
    exact ⟨rfl, rfl, rfl⟩
  · refine meets_ofJ mixedS Tryd.func10 (by kernel_rfl) x10_ok (some []) ?_
    refine (tagRightR_c ⟨true, p, true, v⟩ g).call rfl rfl rfl ?_
    refine bsplit_of (fun (q : (!decide (tagP ⟨true, p, true, v⟩)) = true) => absurd q (by simp [h])) (fun _ => ?_)
    obtain ⟨u, hu⟩ : ∃ u, sT ++ numS p = u := ⟨_, rfl⟩
    have zu : u.size = 1 + (numS p).size := by rw [← hu, ByteArray.size_append, sT_size]
    have zw : (u ++ dT).size ≤ 100 := by rw [ByteArray.size_append, zu, dT_size]; omega
    have hend : u ++ dT ++ numS v = tagT ⟨true, p, true, v⟩ := by rw [← hu]; rfl
    change JoinW _ _ _ _ _ _ _
    refine join_rule [] (α := Array MapEntry × Nat) (fun _ => [(4, .v (.string u))]) (fun y => [.cells 35 ((TagV.cells ⟨true, p, true, v⟩).map .v), .raw (.map y.1 y.2)]) (fun _ => g) (fun _ => True) (fun y => by kernel_rfl) ?_ ?_
    · skip
      refine And.intro ?_ ?_
      · skip
        refine prim_makeMap 1 rfl rfl ?_
        refine And.intro ?_ ?_
        · skip
          refine prim_insert (kt := 4) (et := 9) (d := .bool) (by kernel_rfl) (by kernel_rfl) (by kernel_rfl) rfl rfl rfl ?_
          refine And.intro ?_ ?_
          · skip
            refine prim_insert (kt := 4) (et := 9) (d := .bool) (by kernel_rfl) (by kernel_rfl) (by kernel_rfl) rfl rfl rfl ?_
            refine And.intro ?_ ?_
            · skip
              first | refine prim_lookup (some (0, .string sT)) (kt := 4) (et := 9) (d := .bool) (z := .string ⟨#[]⟩) (i := Tryd.t9) (by kernel_rfl) (by kernel_rfl) (by kernel_rfl) (by kernel_rfl) rfl rfl rfl rfl ?_ | refine prim_lookup (some (1, .string sT)) (kt := 4) (et := 9) (d := .bool) (z := .string ⟨#[]⟩) (i := Tryd.t9) (by kernel_rfl) (by kernel_rfl) (by kernel_rfl) (by kernel_rfl) rfl rfl rfl rfl ?_
              refine (itoa_c p (by omega) (by omega) g hT).call rfl rfl rfl ?_
              refine ⟨by show sT.size + (numS p).size ≤ _; rw [sT_size]; omega, ?_⟩
              exact ⟨(_, _), trivial, [0, 1], rfl, ⟨vs hu, trivial⟩, rfl, rfl, rfl, rfl⟩
            refine (itoa_c p (by omega) (by omega) g hT).call rfl rfl rfl ?_
            first | refine prim_lookup (some (0, .string sT)) (kt := 4) (et := 9) (d := .bool) (z := .string ⟨#[]⟩) (i := Tryd.t9) (by kernel_rfl) (by kernel_rfl) (by kernel_rfl) (by kernel_rfl) rfl rfl rfl rfl ?_ | refine prim_lookup (some (1, .string sT)) (kt := 4) (et := 9) (d := .bool) (z := .string ⟨#[]⟩) (i := Tryd.t9) (by kernel_rfl) (by kernel_rfl) (by kernel_rfl) (by kernel_rfl) rfl rfl rfl rfl ?_
            refine ⟨by show sT.size + (numS p).size ≤ _; rw [sT_size]; omega, ?_⟩
            exact ⟨(_, _), trivial, [0, 1], rfl, ⟨vs hu, trivial⟩, rfl, rfl, rfl, rfl⟩
          refine (itoa_c p (by omega) (by omega) g hT).call rfl rfl rfl ?_
          refine prim_insert (kt := 4) (et := 9) (d := .bool) (by kernel_rfl) (by kernel_rfl) (by kernel_rfl) rfl rfl rfl ?_
          first | refine prim_lookup (some (0, .string sT)) (kt := 4) (et := 9) (d := .bool) (z := .string ⟨#[]⟩) (i := Tryd.t9) (by kernel_rfl) (by kernel_rfl) (by kernel_rfl) (by kernel_rfl) rfl rfl rfl rfl ?_ | refine prim_lookup (some (1, .string sT)) (kt := 4) (et := 9) (d := .bool) (z := .string ⟨#[]⟩) (i := Tryd.t9) (by kernel_rfl) (by kernel_rfl) (by kernel_rfl) (by kernel_rfl) rfl rfl rfl rfl ?_
          refine ⟨by show sT.size + (numS p).size ≤ _; rw [sT_size]; omega, ?_⟩
          exact ⟨(_, _), trivial, [0, 1], rfl, ⟨vs hu, trivial⟩, rfl, rfl, rfl, rfl⟩
        refine And.intro ?_ ?_
        · skip
          refine prim_insert (kt := 4) (et := 9) (d := .bool) (by kernel_rfl) (by kernel_rfl) (by kernel_rfl) rfl rfl rfl ?_
          refine And.intro ?_ ?_
          · skip
            refine prim_insert (kt := 4) (et := 9) (d := .bool) (by kernel_rfl) (by kernel_rfl) (by kernel_rfl) rfl rfl rfl ?_
            refine And.intro ?_ ?_
            · skip
              first | refine prim_lookup (some (0, .string sT)) (kt := 4) (et := 9) (d := .bool) (z := .string ⟨#[]⟩) (i := Tryd.t9) (by kernel_rfl) (by kernel_rfl) (by kernel_rfl) (by kernel_rfl) rfl rfl rfl rfl ?_ | refine prim_lookup (some (1, .string sT)) (kt := 4) (et := 9) (d := .bool) (z := .string ⟨#[]⟩) (i := Tryd.t9) (by kernel_rfl) (by kernel_rfl) (by kernel_rfl) (by kernel_rfl) rfl rfl rfl rfl ?_
              refine (itoa_c p (by omega) (by omega) g hT).call rfl rfl rfl ?_
              refine ⟨by show sT.size + (numS p).size ≤ _; rw [sT_size]; omega, ?_⟩
              exact ⟨(_, _), trivial, [0, 1], rfl, ⟨vs hu, trivial⟩, rfl, rfl, rfl, rfl⟩
            refine (itoa_c p (by omega) (by omega) g hT).call rfl rfl rfl ?_
            first | refine prim_lookup (some (0, .string sT)) (kt := 4) (et := 9) (d := .bool) (z := .string ⟨#[]⟩) (i := Tryd.t9) (by kernel_rfl) (by kernel_rfl) (by kernel_rfl) (by kernel_rfl) rfl rfl rfl rfl ?_ | refine prim_lookup (some (1, .string sT)) (kt := 4) (et := 9) (d := .bool) (z := .string ⟨#[]⟩) (i := Tryd.t9) (by kernel_rfl) (by kernel_rfl) (by kernel_rfl) (by kernel_rfl) rfl rfl rfl rfl ?_
            refine ⟨by show sT.size + (numS p).size ≤ _; rw [sT_size]; omega, ?_⟩
            exact ⟨(_, _), trivial, [0, 1], rfl, ⟨vs hu, trivial⟩, rfl, rfl, rfl, rfl⟩
          refine (itoa_c p (by omega) (by omega) g hT).call rfl rfl rfl ?_
          refine prim_insert (kt := 4) (et := 9) (d := .bool) (by kernel_rfl) (by kernel_rfl) (by kernel_rfl) rfl rfl rfl ?_
          first | refine prim_lookup (some (0, .string sT)) (kt := 4) (et := 9) (d := .bool) (z := .string ⟨#[]⟩) (i := Tryd.t9) (by kernel_rfl) (by kernel_rfl) (by kernel_rfl) (by kernel_rfl) rfl rfl rfl rfl ?_ | refine prim_lookup (some (1, .string sT)) (kt := 4) (et := 9) (d := .bool) (z := .string ⟨#[]⟩) (i := Tryd.t9) (by kernel_rfl) (by kernel_rfl) (by kernel_rfl) (by kernel_rfl) rfl rfl rfl rfl ?_
          refine ⟨by show sT.size + (numS p).size ≤ _; rw [sT_size]; omega, ?_⟩
          exact ⟨(_, _), trivial, [0, 1], rfl, ⟨vs hu, trivial⟩, rfl, rfl, rfl, rfl⟩
        refine (itoa_c p (by omega) (by omega) g hT).call rfl rfl rfl ?_
        refine And.intro ?_ ?_
        · skip
          refine prim_insert (kt := 4) (et := 9) (d := .bool) (by kernel_rfl) (by kernel_rfl) (by kernel_rfl) rfl rfl rfl ?_
          refine prim_insert (kt := 4) (et := 9) (d := .bool) (by kernel_rfl) (by kernel_rfl) (by kernel_rfl) rfl rfl rfl ?_
          first | refine prim_lookup (some (0, .string sT)) (kt := 4) (et := 9) (d := .bool) (z := .string ⟨#[]⟩) (i := Tryd.t9) (by kernel_rfl) (by kernel_rfl) (by kernel_rfl) (by kernel_rfl) rfl rfl rfl rfl ?_ | refine prim_lookup (some (1, .string sT)) (kt := 4) (et := 9) (d := .bool) (z := .string ⟨#[]⟩) (i := Tryd.t9) (by kernel_rfl) (by kernel_rfl) (by kernel_rfl) (by kernel_rfl) rfl rfl rfl rfl ?_
          refine ⟨by show sT.size + (numS p).size ≤ _; rw [sT_size]; omega, ?_⟩
          exact ⟨(_, _), trivial, [0, 1], rfl, ⟨vs hu, trivial⟩, rfl, rfl, rfl, rfl⟩
        refine prim_insert (kt := 4) (et := 9) (d := .bool) (by kernel_rfl) (by kernel_rfl) (by kernel_rfl) rfl rfl rfl ?_
        refine prim_insert (kt := 4) (et := 9) (d := .bool) (by kernel_rfl) (by kernel_rfl) (by kernel_rfl) rfl rfl rfl ?_
        first | refine prim_lookup (some (0, .string sT)) (kt := 4) (et := 9) (d := .bool) (z := .string ⟨#[]⟩) (i := Tryd.t9) (by kernel_rfl) (by kernel_rfl) (by kernel_rfl) (by kernel_rfl) rfl rfl rfl rfl ?_ | refine prim_lookup (some (1, .string sT)) (kt := 4) (et := 9) (d := .bool) (z := .string ⟨#[]⟩) (i := Tryd.t9) (by kernel_rfl) (by kernel_rfl) (by kernel_rfl) (by kernel_rfl) rfl rfl rfl rfl ?_
        refine ⟨by show sT.size + (numS p).size ≤ _; rw [sT_size]; omega, ?_⟩
        exact ⟨(_, _), trivial, [0, 1], rfl, ⟨vs hu, trivial⟩, rfl, rfl, rfl, rfl⟩
      refine (itoa_c p (by omega) (by omega) g hT).call rfl rfl rfl ?_
      refine prim_makeMap 1 rfl rfl ?_
      refine And.intro ?_ ?_
      · skip
        refine prim_insert (kt := 4) (et := 9) (d := .bool) (by kernel_rfl) (by kernel_rfl) (by kernel_rfl) rfl rfl rfl ?_
        refine prim_insert (kt := 4) (et := 9) (d := .bool) (by kernel_rfl) (by kernel_rfl) (by kernel_rfl) rfl rfl rfl ?_
        first | refine prim_lookup (some (0, .string sT)) (kt := 4) (et := 9) (d := .bool) (z := .string ⟨#[]⟩) (i := Tryd.t9) (by kernel_rfl) (by kernel_rfl) (by kernel_rfl) (by kernel_rfl) rfl rfl rfl rfl ?_ | refine prim_lookup (some (1, .string sT)) (kt := 4) (et := 9) (d := .bool) (z := .string ⟨#[]⟩) (i := Tryd.t9) (by kernel_rfl) (by kernel_rfl) (by kernel_rfl) (by kernel_rfl) rfl rfl rfl rfl ?_
        refine ⟨by show sT.size + (numS p).size ≤ _; rw [sT_size]; omega, ?_⟩
        exact ⟨(_, _), trivial, [0, 1], rfl, ⟨vs hu, trivial⟩, rfl, rfl, rfl, rfl⟩
      refine prim_insert (kt := 4) (et := 9) (d := .bool) (by kernel_rfl) (by kernel_rfl) (by kernel_rfl) rfl rfl rfl ?_
      refine prim_insert (kt := 4) (et := 9) (d := .bool) (by kernel_rfl) (by kernel_rfl) (by kernel_rfl) rfl rfl rfl ?_
      first | refine prim_lookup (some (0, .string sT)) (kt := 4) (et := 9) (d := .bool) (z := .string ⟨#[]⟩) (i := Tryd.t9) (by kernel_rfl) (by kernel_rfl) (by kernel_rfl) (by kernel_rfl) rfl rfl rfl rfl ?_ | refine prim_lookup (some (1, .string sT)) (kt := 4) (et := 9) (d := .bool) (z := .string ⟨#[]⟩) (i := Tryd.t9) (by kernel_rfl) (by kernel_rfl) (by kernel_rfl) (by kernel_rfl) rfl rfl rfl rfl ?_
      refine ⟨by show sT.size + (numS p).size ≤ _; rw [sT_size]; omega, ?_⟩
      exact ⟨(_, _), trivial, [0, 1], rfl, ⟨vs hu, trivial⟩, rfl, rfl, rfl, rfl⟩
    rintro ⟨es, ck⟩ -
    clear hu
    change JoinW _ _ _ _ _ _ _
    refine join_rule [] (α := Array MapEntry × Nat) (fun _ => [(2, .v (.string (tagT ⟨true, p, true, v⟩))), (3, .v (.int .i64 0))]) (fun y => [.cells 35 ((TagV.cells ⟨true, p, true, v⟩).map .v), .raw (.map es ck), .raw (.map y.1 y.2)]) (fun _ => g) (fun _ => True) (fun y => by kernel_rfl) ?_ ?_
    · skip
      refine And.intro ?_ ?_
      · skip
        refine prim_makeMap 2 rfl rfl ?_
        refine And.intro ?_ ?_
        · skip
          refine prim_insert (kt := 4) (et := 9) (d := .bool) (by kernel_rfl) (by kernel_rfl) (by kernel_rfl) rfl rfl rfl ?_
          refine And.intro ?_ ?_
          · skip
            refine prim_insert (kt := 4) (et := 9) (d := .bool) (by kernel_rfl) (by kernel_rfl) (by kernel_rfl) rfl rfl rfl ?_
            refine And.intro ?_ ?_
            · skip
              first | refine prim_lookup (some (0, .string dT)) (kt := 4) (et := 9) (d := .bool) (z := .string ⟨#[]⟩) (i := Tryd.t9) (by kernel_rfl) (by kernel_rfl) (by kernel_rfl) (by kernel_rfl) rfl rfl rfl rfl ?_ | refine prim_lookup (some (1, .string dT)) (kt := 4) (et := 9) (d := .bool) (z := .string ⟨#[]⟩) (i := Tryd.t9) (by kernel_rfl) (by kernel_rfl) (by kernel_rfl) (by kernel_rfl) rfl rfl rfl rfl ?_
              refine ⟨by show u.size + dT.size ≤ _; rw [zu, dT_size]; omega, ?_⟩
              refine (itoa_c v (by omega) (by omega) g hT).call rfl rfl rfl ?_
              refine ⟨by show (u ++ dT).size + (numS v).size ≤ _; omega, ?_⟩
              exact ⟨(_, _), trivial, [0, 1, 2], rfl, ⟨vs hend, rfl, trivial⟩, rfl, rfl, rfl, rfl⟩
            refine (itoa_c v (by omega) (by omega) g hT).call rfl rfl rfl ?_
            first | refine prim_lookup (some (0, .string dT)) (kt := 4) (et := 9) (d := .bool) (z := .string ⟨#[]⟩) (i := Tryd.t9) (by kernel_rfl) (by kernel_rfl) (by kernel_rfl) (by kernel_rfl) rfl rfl rfl rfl ?_ | refine prim_lookup (some (1, .string dT)) (kt := 4) (et := 9) (d := .bool) (z := .string ⟨#[]⟩) (i := Tryd.t9) (by kernel_rfl) (by kernel_rfl) (by kernel_rfl) (by kernel_rfl) rfl rfl rfl rfl ?_
            refine ⟨by show u.size + dT.size ≤ _; rw [zu, dT_size]; omega, ?_⟩
            refine ⟨by show (u ++ dT).size + (numS v).size ≤ _; omega, ?_⟩
            exact ⟨(_, _), trivial, [0, 1, 2], rfl, ⟨vs hend, rfl, trivial⟩, rfl, rfl, rfl, rfl⟩
          refine (itoa_c v (by omega) (by omega) g hT).call rfl rfl rfl ?_
          refine prim_insert (kt := 4) (et := 9) (d := .bool) (by kernel_rfl) (by kernel_rfl) (by kernel_rfl) rfl rfl rfl ?_
          first | refine prim_lookup (some (0, .string dT)) (kt := 4) (et := 9) (d := .bool) (z := .string ⟨#[]⟩) (i := Tryd.t9) (by kernel_rfl) (by kernel_rfl) (by kernel_rfl) (by kernel_rfl) rfl rfl rfl rfl ?_ | refine prim_lookup (some (1, .string dT)) (kt := 4) (et := 9) (d := .bool) (z := .string ⟨#[]⟩) (i := Tryd.t9) (by kernel_rfl) (by kernel_rfl) (by kernel_rfl) (by kernel_rfl) rfl rfl rfl rfl ?_
          refine ⟨by show u.size + dT.size ≤ _; rw [zu, dT_size]; omega, ?_⟩
          refine ⟨by show (u ++ dT).size + (numS v).size ≤ _; omega, ?_⟩
          exact ⟨(_, _), trivial, [0, 1, 2], rfl, ⟨vs hend, rfl, trivial⟩, rfl, rfl, rfl, rfl⟩
        refine And.intro ?_ ?_
        · skip
          refine prim_insert (kt := 4) (et := 9) (d := .bool) (by kernel_rfl) (by kernel_rfl) (by kernel_rfl) rfl rfl rfl ?_
          refine And.intro ?_ ?_
          · skip
            refine prim_insert (kt := 4) (et := 9) (d := .bool) (by kernel_rfl) (by kernel_rfl) (by kernel_rfl) rfl rfl rfl ?_
            refine And.intro ?_ ?_
            · skip
              first | refine prim_lookup (some (0, .string dT)) (kt := 4) (et := 9) (d := .bool) (z := .string ⟨#[]⟩) (i := Tryd.t9) (by kernel_rfl) (by kernel_rfl) (by kernel_rfl) (by kernel_rfl) rfl rfl rfl rfl ?_ | refine prim_lookup (some (1, .string dT)) (kt := 4) (et := 9) (d := .bool) (z := .string ⟨#[]⟩) (i := Tryd.t9) (by kernel_rfl) (by kernel_rfl) (by kernel_rfl) (by kernel_rfl) rfl rfl rfl rfl ?_
              refine ⟨by show u.size + dT.size ≤ _; rw [zu, dT_size]; omega, ?_⟩
              refine (itoa_c v (by omega) (by omega) g hT).call rfl rfl rfl ?_
              refine ⟨by show (u ++ dT).size + (numS v).size ≤ _; omega, ?_⟩
              exact ⟨(_, _), trivial, [0, 1, 2], rfl, ⟨vs hend, rfl, trivial⟩, rfl, rfl, rfl, rfl⟩
            refine (itoa_c v (by omega) (by omega) g hT).call rfl rfl rfl ?_
            first | refine prim_lookup (some (0, .string dT)) (kt := 4) (et := 9) (d := .bool) (z := .string ⟨#[]⟩) (i := Tryd.t9) (by kernel_rfl) (by kernel_rfl) (by kernel_rfl) (by kernel_rfl) rfl rfl rfl rfl ?_ | refine prim_lookup (some (1, .string dT)) (kt := 4) (et := 9) (d := .bool) (z := .string ⟨#[]⟩) (i := Tryd.t9) (by kernel_rfl) (by kernel_rfl) (by kernel_rfl) (by kernel_rfl) rfl rfl rfl rfl ?_
            refine ⟨by show u.size + dT.size ≤ _; rw [zu, dT_size]; omega, ?_⟩
            refine ⟨by show (u ++ dT).size + (numS v).size ≤ _; omega, ?_⟩
            exact ⟨(_, _), trivial, [0, 1, 2], rfl, ⟨vs hend, rfl, trivial⟩, rfl, rfl, rfl, rfl⟩
          refine (itoa_c v (by omega) (by omega) g hT).call rfl rfl rfl ?_
          refine prim_insert (kt := 4) (et := 9) (d := .bool) (by kernel_rfl) (by kernel_rfl) (by kernel_rfl) rfl rfl rfl ?_
          first | refine prim_lookup (some (0, .string dT)) (kt := 4) (et := 9) (d := .bool) (z := .string ⟨#[]⟩) (i := Tryd.t9) (by kernel_rfl) (by kernel_rfl) (by kernel_rfl) (by kernel_rfl) rfl rfl rfl rfl ?_ | refine prim_lookup (some (1, .string dT)) (kt := 4) (et := 9) (d := .bool) (z := .string ⟨#[]⟩) (i := Tryd.t9) (by kernel_rfl) (by kernel_rfl) (by kernel_rfl) (by kernel_rfl) rfl rfl rfl rfl ?_
          refine ⟨by show u.size + dT.size ≤ _; rw [zu, dT_size]; omega, ?_⟩
          refine ⟨by show (u ++ dT).size + (numS v).size ≤ _; omega, ?_⟩
          exact ⟨(_, _), trivial, [0, 1, 2], rfl, ⟨vs hend, rfl, trivial⟩, rfl, rfl, rfl, rfl⟩
        refine (itoa_c v (by omega) (by omega) g hT).call rfl rfl rfl ?_
        refine And.intro ?_ ?_
        · skip
          refine prim_insert (kt := 4) (et := 9) (d := .bool) (by kernel_rfl) (by kernel_rfl) (by kernel_rfl) rfl rfl rfl ?_
          refine prim_insert (kt := 4) (et := 9) (d := .bool) (by kernel_rfl) (by kernel_rfl) (by kernel_rfl) rfl rfl rfl ?_
          first | refine prim_lookup (some (0, .string dT)) (kt := 4) (et := 9) (d := .bool) (z := .string ⟨#[]⟩) (i := Tryd.t9) (by kernel_rfl) (by kernel_rfl) (by kernel_rfl) (by kernel_rfl) rfl rfl rfl rfl ?_ | refine prim_lookup (some (1, .string dT)) (kt := 4) (et := 9) (d := .bool) (z := .string ⟨#[]⟩) (i := Tryd.t9) (by kernel_rfl) (by kernel_rfl) (by kernel_rfl) (by kernel_rfl) rfl rfl rfl rfl ?_
          refine ⟨by show u.size + dT.size ≤ _; rw [zu, dT_size]; omega, ?_⟩
          refine ⟨by show (u ++ dT).size + (numS v).size ≤ _; omega, ?_⟩
          exact ⟨(_, _), trivial, [0, 1, 2], rfl, ⟨vs hend, rfl, trivial⟩, rfl, rfl, rfl, rfl⟩
        refine prim_insert (kt := 4) (et := 9) (d := .bool) (by kernel_rfl) (by kernel_rfl) (by kernel_rfl) rfl rfl rfl ?_
        refine prim_insert (kt := 4) (et := 9) (d := .bool) (by kernel_rfl) (by kernel_rfl) (by kernel_rfl) rfl rfl rfl ?_
        first | refine prim_lookup (some (0, .string dT)) (kt := 4) (et := 9) (d := .bool) (z := .string ⟨#[]⟩) (i := Tryd.t9) (by kernel_rfl) (by kernel_rfl) (by kernel_rfl) (by kernel_rfl) rfl rfl rfl rfl ?_ | refine prim_lookup (some (1, .string dT)) (kt := 4) (et := 9) (d := .bool) (z := .string ⟨#[]⟩) (i := Tryd.t9) (by kernel_rfl) (by kernel_rfl) (by kernel_rfl) (by kernel_rfl) rfl rfl rfl rfl ?_
        refine ⟨by show u.size + dT.size ≤ _; rw [zu, dT_size]; omega, ?_⟩
        refine ⟨by show (u ++ dT).size + (numS v).size ≤ _; omega, ?_⟩
        exact ⟨(_, _), trivial, [0, 1, 2], rfl, ⟨vs hend, rfl, trivial⟩, rfl, rfl, rfl, rfl⟩
      refine (itoa_c v (by omega) (by omega) g hT).call rfl rfl rfl ?_
      refine prim_makeMap 2 rfl rfl ?_
      refine And.intro ?_ ?_
      · skip
        refine prim_insert (kt := 4) (et := 9) (d := .bool) (by kernel_rfl) (by kernel_rfl) (by kernel_rfl) rfl rfl rfl ?_
        refine prim_insert (kt := 4) (et := 9) (d := .bool) (by kernel_rfl) (by kernel_rfl) (by kernel_rfl) rfl rfl rfl ?_
        first | refine prim_lookup (some (0, .string dT)) (kt := 4) (et := 9) (d := .bool) (z := .string ⟨#[]⟩) (i := Tryd.t9) (by kernel_rfl) (by kernel_rfl) (by kernel_rfl) (by kernel_rfl) rfl rfl rfl rfl ?_ | refine prim_lookup (some (1, .string dT)) (kt := 4) (et := 9) (d := .bool) (z := .string ⟨#[]⟩) (i := Tryd.t9) (by kernel_rfl) (by kernel_rfl) (by kernel_rfl) (by kernel_rfl) rfl rfl rfl rfl ?_
        refine ⟨by show u.size + dT.size ≤ _; rw [zu, dT_size]; omega, ?_⟩
        refine ⟨by show (u ++ dT).size + (numS v).size ≤ _; omega, ?_⟩
        exact ⟨(_, _), trivial, [0, 1, 2], rfl, ⟨vs hend, rfl, trivial⟩, rfl, rfl, rfl, rfl⟩
      refine prim_insert (kt := 4) (et := 9) (d := .bool) (by kernel_rfl) (by kernel_rfl) (by kernel_rfl) rfl rfl rfl ?_
      refine prim_insert (kt := 4) (et := 9) (d := .bool) (by kernel_rfl) (by kernel_rfl) (by kernel_rfl) rfl rfl rfl ?_
      first | refine prim_lookup (some (0, .string dT)) (kt := 4) (et := 9) (d := .bool) (z := .string ⟨#[]⟩) (i := Tryd.t9) (by kernel_rfl) (by kernel_rfl) (by kernel_rfl) (by kernel_rfl) rfl rfl rfl rfl ?_ | refine prim_lookup (some (1, .string dT)) (kt := 4) (et := 9) (d := .bool) (z := .string ⟨#[]⟩) (i := Tryd.t9) (by kernel_rfl) (by kernel_rfl) (by kernel_rfl) (by kernel_rfl) rfl rfl rfl rfl ?_
      refine ⟨by show u.size + dT.size ≤ _; rw [zu, dT_size]; omega, ?_⟩
      refine ⟨by show (u ++ dT).size + (numS v).size ≤ _; omega, ?_⟩
      exact ⟨(_, _), trivial, [0, 1, 2], rfl, ⟨vs hend, rfl, trivial⟩, rfl, rfl, rfl, rfl⟩
    rintro ⟨es2, ck2⟩ -
    exact ⟨rfl, rfl, rfl⟩
end Go.Proofs.YtmbbhodikiikeaaDoor
