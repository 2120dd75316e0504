/- strings.Builder: WriteString and String of a builder that the function at hand owns. Conditions: none; the strings are of a size that memory holds. -/
import Derived.Test.YtdbkceojpeboeaaDoorXstrb
import Derived.Test.YtdbkceojpeboeaaDoorBaseC
namespace Go.Proofs.YtdbkceojpeboeaaDoor
open Go.Sx Go.Lib Go.Extern Go.RowKit
set_option maxRecDepth 100000
set_option maxHeartbeats 8000000
attribute [local irreducible] Meets

theorem mixedB : Tryd.prog.follows .mixedOrders = true := by kernel_rfl

/-- A builder without a buffer; one that holds bytes. -/
def bld0 : List Chunk := [.cells 49 [.v (.pointer none), .v (.slice none 0 0)]]
def bld (n cap : Nat) (c : List Value) : List Chunk := [.cells 49 [.ptr 0 0, .slc 1 0 n cap], .vals 5 c]

theorem copyCheck0 (g : G) : Meets Tryd.prog 34 [.ptr 0 0] bld0 g (fun o L' g' => o = .ret (.tup []) ∧ L' = [.cells 49 [.ptr 0 0, .v (.slice none 0 0)]] ∧ g' = g) := by
  refine meets_of mixedB Tryd.func34 (by kernel_rfl) x34_ok (some []) ?_
  refine prim_toU (t := 49) (e := 49) (j := Tryd.t49) (l := [.v (.pointer none), .v (.slice none 0 0)]) (by kernel_rfl) (by kernel_rfl) (by kernel_rfl) (by decide) rfl (by decide) rfl ?_
  refine prim_val (.ptr 0 0) rfl (fun _ => rfl) (fun o a σ w ho hev => ?_) ?_
  · rw [exec_ext rfl rfl ho hev]
    show (callFunc 44 #[.pointer (some ⟨σ 0, 0, none⟩)]).run Tryd.prog w = _
    rw [run_callFunc_extern (e := AbiNoEscape.same) Tryd.func44 (by kernel_rfl) (by kernel_rfl) (by kernel_rfl) (by kernel_rfl) _ w]
    rfl
  refine prim_fromU (u := 49) (e := 49) (j := Tryd.t49) (l := [.v (.pointer none), .v (.slice none 0 0)]) (by kernel_rfl) (by kernel_rfl) (by kernel_rfl) rfl (by kernel_rfl) rfl ?_
  exact ⟨rfl, rfl, rfl⟩

theorem copyCheck1 (g : G) (n cap : Nat) (c : List Value) : Meets Tryd.prog 34 [.ptr 0 0] (bld n cap c) g (fun o L' g' => o = .ret (.tup []) ∧ L' = bld n cap c ∧ g' = g) := by
  refine meets_of mixedB Tryd.func34 (by kernel_rfl) x34_ok (some []) ?_
  refine prim_neqP (te := 49) (j := Tryd.t49) (by kernel_rfl) (by kernel_rfl) rfl ?_
  exact ⟨rfl, rfl, rfl⟩

theorem write0 (s : ByteArray) (g : G) (h0 : 0 < s.size) (hs : s.size ≤ 140737488355328) : Meets Tryd.prog 20 [.ptr 0 0, .v (.string s)] bld0 g
    (fun o L' g' => ∃ cap sp, (s.size + sp.length = cap ∧ cap ≤ 9223372036854775807) ∧ o = .ret (.tup [.v (.int .i64 s.size), .v .nilIface]) ∧ L' = bld s.size cap (strCells s ++ sp) ∧ g' = g) := by
  refine meets_of mixedB Tryd.func20 (by kernel_rfl) x20_ok (some [1]) ?_
  refine (copyCheck0 g).callS [0] 1 rfl rfl rfl rfl ?_
  rintro o L1 g' ⟨rfl, rfl, rfl⟩ _
  refine prim_appS0 (t := 38) (u := 9) (e := 5) (i := Tryd.t5) rfl rfl rfl (by kernel_rfl) (by kernel_rfl) (by kernel_rfl) rfl rfl 1 rfl h0 hs rfl fun cap sp h1 h2 h3 => ?_
  exact ⟨cap, sp, ⟨by omega, h2⟩, rfl, rfl, rfl⟩

theorem write1 (t s : ByteArray) (cap : Nat) (sp : List Value) (g : G) (h1 : t.size + sp.length = cap) (h2 : cap ≤ 9223372036854775807) (hs : t.size + s.size ≤ 140737488355328) : Meets Tryd.prog 20 [.ptr 0 0, .v (.string s)] (bld t.size cap (strCells t ++ sp)) g
    (fun o L' g' => ∃ cap sp, ((t ++ s).size + sp.length = cap ∧ cap ≤ 9223372036854775807) ∧ o = .ret (.tup [.v (.int .i64 s.size), .v .nilIface]) ∧ L' = [.cells 49 [.ptr 0 0, .slc 2 0 (t ++ s).size cap], .gone, .vals 5 (strCells (t ++ s) ++ sp)] ∧ g' = g) := by
  have ec : strCells (t ++ s) = strCells t ++ strCells s := by simp [strCells, ByteArray.data_append]
  have es : (t ++ s).size = t.size + s.size := ByteArray.size_append
  refine meets_of mixedB Tryd.func20 (by kernel_rfl) x20_ok (some [2]) ?_
  refine (copyCheck1 g t.size cap (strCells t ++ sp)).callS [0, 1] 2 rfl rfl rfl rfl ?_
  rintro o L1 g' ⟨rfl, rfl, rfl⟩ _
  refine prim_appS1 (t := 38) (u := 9) (e := 5) (i := Tryd.t5) rfl rfl rfl (by kernel_rfl) (by kernel_rfl) (by kernel_rfl) rfl rfl rfl 2 rfl (strCells t) sp rfl (strCells_length t) (by rw [strCells_length]; exact h1) h2 hs rfl fun cap sp k1 k2 k3 => ?_
  refine ⟨cap, sp, ⟨by rw [es]; omega, k2⟩, rfl, ?_, rfl⟩
  rw [ec, es, List.append_assoc]
  rfl

/-- The same, the whole text by a name. -/
theorem write1E (t s u : ByteArray) (e : t ++ s = u) (cap : Nat) (sp : List Value) (g : G) (h1 : t.size + sp.length = cap) (h2 : cap ≤ 9223372036854775807) (hs : t.size + s.size ≤ 140737488355328) : Meets Tryd.prog 20 [.ptr 0 0, .v (.string s)] (bld t.size cap (strCells t ++ sp)) g
    (fun o L' g' => ∃ cap sp, (u.size + sp.length = cap ∧ cap ≤ 9223372036854775807) ∧ o = .ret (.tup [.v (.int .i64 s.size), .v .nilIface]) ∧ L' = [.cells 49 [.ptr 0 0, .slc 2 0 u.size cap], .gone, .vals 5 (strCells u ++ sp)] ∧ g' = g) := by
  subst e
  exact write1 t s cap sp g h1 h2 hs

theorem string0 (g : G) : Meets Tryd.prog 22 [.ptr 0 0] bld0 g (fun o L' g' => o = .ret (.v (.string ByteArray.empty)) ∧ L' = bld0 ∧ g' = g) := by
  refine meets_of mixedB Tryd.func22 (by kernel_rfl) x22_ok (some []) ?_
  refine prim_sdata0 rfl rfl rfl ?_
  refine prim_ustr0 rfl rfl rfl rfl ?_
  exact ⟨rfl, rfl, rfl⟩
theorem string1 (s : ByteArray) (cap : Nat) (sp : List Value) (g : G) (h0 : 0 < s.size) (h1 : s.size + sp.length = cap) (h2 : s.size ≤ 9223372036854775807) : Meets Tryd.prog 22 [.ptr 0 0] (bld s.size cap (strCells s ++ sp)) g
    (fun o L' g' => o = .ret (.v (.string s)) ∧ (∃ ob, L' = [.cells 49 [.ptr 0 0, .slc 1 0 s.size cap], .raw ob]) ∧ g' = g) := by
  refine meets_of mixedB Tryd.func22 (by kernel_rfl) x22_ok (some []) ?_
  refine prim_sdata rfl rfl (by omega) rfl ?_
  refine prim_ustr (pt := 72) (it := 3) (e := 5) (sp := sp) rfl rfl rfl (by kernel_rfl) (by kernel_rfl) rfl h0 h2 rfl fun ob => ?_
  exact ⟨rfl, ⟨ob, rfl⟩, rfl⟩
end Go.Proofs.YtdbkceojpeboeaaDoor
