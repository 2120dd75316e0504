/- Attributes compared: what each returns. Conditions: the slices lie where they say. -/
import Derived.Test.YtfianfpmnglfnaaDoorVsA
namespace Go.Proofs.YtfianfpmnglfnaaDoor
open Go.Sx
set_option maxRecDepth 100000
set_option maxHeartbeats 8000000
attribute [local irreducible] Meets

/-- The events lie where they say. -/
def evOk (g : G) (a : AttrV) : Prop := a.events.ok 1 (intC .i64) (fun _ => True) g
def attrEq (a b : AttrV) : Bool := a.leaveAll == b.leaveAll && (a.first == b.first && eqL eqI a.events.l b.events.l)

theorem attr71_c (a b : AttrV) (g : G) (ha : evOk g a) (hb : evOk g b) : Tells Tryd.prog 97 [.agg (a.cells.map .v), .agg (b.cells.map .v)] g (.v (.bool (attrEq a b))) := by
  refine meets_of mixedW Tryd.func97 (by kernel_rfl) x97_ok (some []) ?_
  refine bsplit_of (fun h1 => ?_) (fun h1 => ?_)
  · refine bsplit_of (fun h2 => ?_) (fun h2 => ?_)
    · refine (eqInts_c a.events b.events g ha hb).call rfl rfl rfl ?_
      exact ⟨rb (by rw [attrEq]; simp at h1 h2; simp [h1, h2]), rfl, rfl⟩
    · exact ⟨rb (by rw [attrEq]; simp at h1 h2; simp [h2]), rfl, rfl⟩
  · exact ⟨rb (by rw [attrEq]; simp at h1; simp [h1]), rfl, rfl⟩

abbrev AttrsOk (g : G) (s : SliceV AttrV) : Prop := s.ok 3 AttrV.cells (evOk g) g

/-- slices.EqualFunc over attributes -/
theorem eqFunc_c (f : FuncId) (s t : SliceV AttrV) (g : G) (hs : AttrsOk g s) (ht : AttrsOk g t) (hf : ∀ a b : AttrV, evOk g a → evOk g b → Tells Tryd.prog f [.agg (a.cells.map .v), .agg (b.cells.map .v)] g (.v (.bool (attrEq a b)))) :
    Tells Tryd.prog 96 [.v (.slice s.a s.l.length s.c), .v (.slice t.a t.l.length t.c), .fn f [] []] g (.v (.bool (eqL attrEq s.l t.l))) := by
  refine meets_of mixedW Tryd.func96 (by kernel_rfl) x96_ok (some []) ?_
  have hlen := hs.len
  refine bsplit_of (fun hne => ?_) (fun hne => ?_)
  · exact ⟨rb (eqL_len (by simp at hne; omega)), rfl, rfl⟩
  · have heq : s.l.length = t.l.length := by simp at hne; omega
    change LoopW _ _ _ _ _ _ _ _ _
    apply loop_rule [] (α := Nat) (fun k => [(17, .v (.int .i64 k))]) (fun _ => []) (fun _ => g) (fun k => k ≤ s.l.length ∧ ∀ (i : Nat) u v, i < k → s.l[i]? = some u → t.l[i]? = some v → attrEq u v = true) (fun k => s.l.length - k) 0
    · intro x; kernel_rfl
    · exact ⟨Nat.zero_le _, fun i u v hi => by omega⟩
    · exact ⟨rfl, trivial⟩
    · rfl
    · rfl
    intro k hk
    refine bsplit_of (fun hlt => ?_) (fun hlt => ?_)
    · have hlt' : k < s.l.length := by simpa using hlt
      obtain ⟨ad, x, ha, hx, hatx, hxok⟩ := hs.elem (fun _ => rfl) hlt'
      obtain ⟨bd, y, hb, hy, haty, hyok⟩ := ht.elem (fun _ => rfl) (show k < t.l.length by omega)
      refine ⟨⟨by omega, by omega⟩, ad, ha, ?_⟩
      refine ⟨x.cells, rfl, hatx, ?_⟩
      refine ⟨⟨by omega, by omega⟩, bd, hb, ?_⟩
      refine ⟨y.cells, rfl, haty, ?_⟩
      refine (hf x y hxok hyok).call rfl rfl rfl ?_
      refine bsplit_of (fun (hd : (!(attrEq x y)) = true) => ?_) (fun (hd : (!(attrEq x y)) = false) => ?_)
      · exact ⟨rb (eqL_bad hx hy (by simpa using hd)), rfl, rfl⟩
      · refine ⟨k + 1, ⟨by omega, eq_next hk.2 hx hy (by simpa using hd)⟩, by omega, [], rfl, ⟨vi (wrap_id (by omega) (by omega)), trivial⟩, rfl, rfl, rfl, rfl⟩
    · exact ⟨rb (eqL_good heq fun i u v hu hv => hk.2 i u v (by have := (List.getElem?_eq_some_iff.1 hu).1; simp at hlt; omega) hu hv), rfl, rfl⟩

theorem sameAttrs_c (s t : SliceV AttrV) (g : G) (hs : AttrsOk g s) (ht : AttrsOk g t) : Tells Tryd.prog 57 [.v (.slice s.a s.l.length s.c), .v (.slice t.a t.l.length t.c)] g (.v (.bool (eqL attrEq s.l t.l))) := by
  refine meets_of mixedW Tryd.func57 (by kernel_rfl) x57_ok (some []) ?_
  refine (eqFunc_c 97 s t g hs ht fun a b ha hb => attr71_c a b g ha hb).call rfl rfl rfl ?_
  exact ⟨rfl, rfl, rfl⟩
end Go.Proofs.YtfianfpmnglfnaaDoor
