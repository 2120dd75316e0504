/- slices.Equal at each of its types: what it returns. Conditions: the slices lie where they say. -/
import Derived.Test.YtfianfpmnglfnaaDoorXver
import Derived.Test.YtfianfpmnglfnaaDoorTypes
import Derived.Test.YtfianfpmnglfnaaDoorWireC
namespace Go.Proofs.YtfianfpmnglfnaaDoor
open Go.Sx
set_option maxRecDepth 100000
set_option maxHeartbeats 8000000
attribute [local irreducible] Meets

def eqI (a b : Int) : Bool := a == b
def eqS (a b : ByteArray) : Bool := a.toList == b.toList

/-- slices.Equal over TagV -/
theorem eqTags_c (s t : SliceV TagV) (g : G) (hs : s.ok 4 TagV.cells (fun _ => True) g) (ht : t.ok 4 TagV.cells (fun _ => True) g) : Tells Tryd.prog 95 [.v (.slice s.a s.l.length s.c), .v (.slice t.a t.l.length t.c)] g (.v (.bool (eqL TagV.eq s.l t.l))) := by
  refine meets_of mixedW Tryd.func95 (by kernel_rfl) x95_ok (some []) ?_
  have hlen := hs.len
  refine bsplit_of (fun hne => ?_) (fun hne => ?_)
  · exact ⟨rb (eqL_len (by simp at hne; omega)), rfl, rfl⟩
  · have heq : s.l.length = t.l.length := by simp at hne; omega
    change LoopW _ _ _ _ _ _ _ _ _
    apply loop_rule [] (α := Nat) (fun k => [(13, .v (.int .i64 k))]) (fun _ => []) (fun _ => g) (fun k => k ≤ s.l.length ∧ ∀ (i : Nat) u v, i < k → s.l[i]? = some u → t.l[i]? = some v → TagV.eq u v = true) (fun k => s.l.length - k) 0
    · intro x; kernel_rfl
    · exact ⟨Nat.zero_le _, fun i u v hi => by omega⟩
    · exact ⟨rfl, trivial⟩
    · rfl
    · rfl
    intro k hk
    refine bsplit_of (fun hlt => ?_) (fun hlt => ?_)
    · have hlt' : k < s.l.length := by simpa using hlt
      obtain ⟨ad, x, ha, hx, hatx, hxok⟩ := hs.elem (fun _ => rfl) hlt'
      obtain ⟨bd, y, hb, hy, haty, hyok⟩ := ht.elem (fun _ => rfl) (show k < t.l.length by omega)
      refine ⟨⟨by omega, by omega⟩, ad, ha, ?_⟩
      refine ⟨TagV.cells x, rfl, hatx, ?_⟩
      refine ⟨⟨by omega, by omega⟩, bd, hb, ?_⟩
      refine ⟨TagV.cells y, rfl, haty, ?_⟩
      refine bsplit_of (fun (hd : (true ^^ TagV.eq x y) = true) => ?_) (fun (hd : (true ^^ TagV.eq x y) = false) => ?_)
      · exact ⟨rb (eqL_bad hx hy (by simpa using hd)), rfl, rfl⟩
      · refine ⟨k + 1, ⟨by omega, eq_next hk.2 hx hy (by simpa using hd)⟩, by omega, [], rfl, ⟨vi (wrap_id (by omega) (by omega)), trivial⟩, rfl, rfl, rfl, rfl⟩
    · exact ⟨rb (eqL_good heq fun i u v hu hv => hk.2 i u v (by have := (List.getElem?_eq_some_iff.1 hu).1; simp at hlt; omega) hu hv), rfl, rfl⟩

/-- slices.Equal over Int -/
theorem eqInts_c (s t : SliceV Int) (g : G) (hs : s.ok 1 (intC .i64) (fun _ => True) g) (ht : t.ok 1 (intC .i64) (fun _ => True) g) : Tells Tryd.prog 98 [.v (.slice s.a s.l.length s.c), .v (.slice t.a t.l.length t.c)] g (.v (.bool (eqL eqI s.l t.l))) := by
  refine meets_of mixedW Tryd.func98 (by kernel_rfl) x98_ok (some []) ?_
  have hlen := hs.len
  refine bsplit_of (fun hne => ?_) (fun hne => ?_)
  · exact ⟨rb (eqL_len (by simp at hne; omega)), rfl, rfl⟩
  · have heq : s.l.length = t.l.length := by simp at hne; omega
    change LoopW _ _ _ _ _ _ _ _ _
    apply loop_rule [] (α := Nat) (fun k => [(13, .v (.int .i64 k))]) (fun _ => []) (fun _ => g) (fun k => k ≤ s.l.length ∧ ∀ (i : Nat) u v, i < k → s.l[i]? = some u → t.l[i]? = some v → eqI u v = true) (fun k => s.l.length - k) 0
    · intro x; kernel_rfl
    · exact ⟨Nat.zero_le _, fun i u v hi => by omega⟩
    · exact ⟨rfl, trivial⟩
    · rfl
    · rfl
    intro k hk
    refine bsplit_of (fun hlt => ?_) (fun hlt => ?_)
    · have hlt' : k < s.l.length := by simpa using hlt
      obtain ⟨ad, x, ha, hx, hatx, hxok⟩ := hs.elem (fun _ => rfl) hlt'
      obtain ⟨bd, y, hb, hy, haty, hyok⟩ := ht.elem (fun _ => rfl) (show k < t.l.length by omega)
      refine ⟨⟨by omega, by omega⟩, ad, ha, ?_⟩
      refine ⟨(intC .i64) x, rfl, hatx, ?_⟩
      refine ⟨⟨by omega, by omega⟩, bd, hb, ?_⟩
      refine ⟨(intC .i64) y, rfl, haty, ?_⟩
      refine bsplit_of (fun (hd : (x != y) = true) => ?_) (fun (hd : (x != y) = false) => ?_)
      · exact ⟨rb (eqL_bad hx hy (by simpa [eqI] using hd)), rfl, rfl⟩
      · refine ⟨k + 1, ⟨by omega, eq_next hk.2 hx hy (by simpa [eqI] using hd)⟩, by omega, [], rfl, ⟨vi (wrap_id (by omega) (by omega)), trivial⟩, rfl, rfl, rfl, rfl⟩
    · exact ⟨rb (eqL_good heq fun i u v hu hv => hk.2 i u v (by have := (List.getElem?_eq_some_iff.1 hu).1; simp at hlt; omega) hu hv), rfl, rfl⟩

/-- slices.Equal over InstV -/
theorem eqInsts_c (s t : SliceV InstV) (g : G) (hs : s.ok 19 InstV.cells (fun _ => True) g) (ht : t.ok 19 InstV.cells (fun _ => True) g) : Tells Tryd.prog 52 [.v (.slice s.a s.l.length s.c), .v (.slice t.a t.l.length t.c)] g (.v (.bool (eqL InstV.eq s.l t.l))) := by
  refine meets_of mixedW Tryd.func52 (by kernel_rfl) x52_ok (some []) ?_
  have hlen := hs.len
  refine bsplit_of (fun hne => ?_) (fun hne => ?_)
  · exact ⟨rb (eqL_len (by simp at hne; omega)), rfl, rfl⟩
  · have heq : s.l.length = t.l.length := by simp at hne; omega
    change LoopW _ _ _ _ _ _ _ _ _
    apply loop_rule [] (α := Nat) (fun k => [(13, .v (.int .i64 k))]) (fun _ => []) (fun _ => g) (fun k => k ≤ s.l.length ∧ ∀ (i : Nat) u v, i < k → s.l[i]? = some u → t.l[i]? = some v → InstV.eq u v = true) (fun k => s.l.length - k) 0
    · intro x; kernel_rfl
    · exact ⟨Nat.zero_le _, fun i u v hi => by omega⟩
    · exact ⟨rfl, trivial⟩
    · rfl
    · rfl
    intro k hk
    refine bsplit_of (fun hlt => ?_) (fun hlt => ?_)
    · have hlt' : k < s.l.length := by simpa using hlt
      obtain ⟨ad, x, ha, hx, hatx, hxok⟩ := hs.elem (fun _ => rfl) hlt'
      obtain ⟨bd, y, hb, hy, haty, hyok⟩ := ht.elem (fun _ => rfl) (show k < t.l.length by omega)
      refine ⟨⟨by omega, by omega⟩, ad, ha, ?_⟩
      refine ⟨InstV.cells x, rfl, hatx, ?_⟩
      refine ⟨⟨by omega, by omega⟩, bd, hb, ?_⟩
      refine ⟨InstV.cells y, rfl, haty, ?_⟩
      refine bsplit_of (fun (hd : (true ^^ InstV.eq x y) = true) => ?_) (fun (hd : (true ^^ InstV.eq x y) = false) => ?_)
      · exact ⟨rb (eqL_bad hx hy (by simpa using hd)), rfl, rfl⟩
      · refine ⟨k + 1, ⟨by omega, eq_next hk.2 hx hy (by simpa using hd)⟩, by omega, [], rfl, ⟨vi (wrap_id (by omega) (by omega)), trivial⟩, rfl, rfl, rfl, rfl⟩
    · exact ⟨rb (eqL_good heq fun i u v hu hv => hk.2 i u v (by have := (List.getElem?_eq_some_iff.1 hu).1; simp at hlt; omega) hu hv), rfl, rfl⟩

/-- slices.Equal over ByteArray -/
theorem eqStrs_c (s t : SliceV ByteArray) (g : G) (hs : s.ok 1 strC (fun _ => True) g) (ht : t.ok 1 strC (fun _ => True) g) : Tells Tryd.prog 53 [.v (.slice s.a s.l.length s.c), .v (.slice t.a t.l.length t.c)] g (.v (.bool (eqL eqS s.l t.l))) := by
  refine meets_of mixedW Tryd.func53 (by kernel_rfl) x53_ok (some []) ?_
  have hlen := hs.len
  refine bsplit_of (fun hne => ?_) (fun hne => ?_)
  · exact ⟨rb (eqL_len (by simp at hne; omega)), rfl, rfl⟩
  · have heq : s.l.length = t.l.length := by simp at hne; omega
    change LoopW _ _ _ _ _ _ _ _ _
    apply loop_rule [] (α := Nat) (fun k => [(13, .v (.int .i64 k))]) (fun _ => []) (fun _ => g) (fun k => k ≤ s.l.length ∧ ∀ (i : Nat) u v, i < k → s.l[i]? = some u → t.l[i]? = some v → eqS u v = true) (fun k => s.l.length - k) 0
    · intro x; kernel_rfl
    · exact ⟨Nat.zero_le _, fun i u v hi => by omega⟩
    · exact ⟨rfl, trivial⟩
    · rfl
    · rfl
    intro k hk
    refine bsplit_of (fun hlt => ?_) (fun hlt => ?_)
    · have hlt' : k < s.l.length := by simpa using hlt
      obtain ⟨ad, x, ha, hx, hatx, hxok⟩ := hs.elem (fun _ => rfl) hlt'
      obtain ⟨bd, y, hb, hy, haty, hyok⟩ := ht.elem (fun _ => rfl) (show k < t.l.length by omega)
      refine ⟨⟨by omega, by omega⟩, ad, ha, ?_⟩
      refine ⟨strC x, rfl, hatx, ?_⟩
      refine ⟨⟨by omega, by omega⟩, bd, hb, ?_⟩
      refine ⟨strC y, rfl, haty, ?_⟩
      refine bsplit_of (fun (hd : (!(eqS x y)) = true) => ?_) (fun (hd : (!(eqS x y)) = false) => ?_)
      · exact ⟨rb (eqL_bad hx hy (by simpa using hd)), rfl, rfl⟩
      · refine ⟨k + 1, ⟨by omega, eq_next hk.2 hx hy (by simpa using hd)⟩, by omega, [], rfl, ⟨vi (wrap_id (by omega) (by omega)), trivial⟩, rfl, rfl, rfl, rfl⟩
    · exact ⟨rb (eqL_good heq fun i u v hu hv => hk.2 i u v (by have := (List.getElem?_eq_some_iff.1 hu).1; simp at hlt; omega) hu hv), rfl, rfl⟩

/-- slices.Equal over CapsV -/
theorem eqCaps_c (s t : SliceV CapsV) (g : G) (hs : s.ok 2 CapsV.cells (fun _ => True) g) (ht : t.ok 2 CapsV.cells (fun _ => True) g) : Tells Tryd.prog 54 [.v (.slice s.a s.l.length s.c), .v (.slice t.a t.l.length t.c)] g (.v (.bool (eqL CapsV.eq s.l t.l))) := by
  refine meets_of mixedW Tryd.func54 (by kernel_rfl) x54_ok (some []) ?_
  have hlen := hs.len
  refine bsplit_of (fun hne => ?_) (fun hne => ?_)
  · exact ⟨rb (eqL_len (by simp at hne; omega)), rfl, rfl⟩
  · have heq : s.l.length = t.l.length := by simp at hne; omega
    change LoopW _ _ _ _ _ _ _ _ _
    apply loop_rule [] (α := Nat) (fun k => [(13, .v (.int .i64 k))]) (fun _ => []) (fun _ => g) (fun k => k ≤ s.l.length ∧ ∀ (i : Nat) u v, i < k → s.l[i]? = some u → t.l[i]? = some v → CapsV.eq u v = true) (fun k => s.l.length - k) 0
    · intro x; kernel_rfl
    · exact ⟨Nat.zero_le _, fun i u v hi => by omega⟩
    · exact ⟨rfl, trivial⟩
    · rfl
    · rfl
    intro k hk
    refine bsplit_of (fun hlt => ?_) (fun hlt => ?_)
    · have hlt' : k < s.l.length := by simpa using hlt
      obtain ⟨ad, x, ha, hx, hatx, hxok⟩ := hs.elem (fun _ => rfl) hlt'
      obtain ⟨bd, y, hb, hy, haty, hyok⟩ := ht.elem (fun _ => rfl) (show k < t.l.length by omega)
      refine ⟨⟨by omega, by omega⟩, ad, ha, ?_⟩
      refine ⟨CapsV.cells x, rfl, hatx, ?_⟩
      refine ⟨⟨by omega, by omega⟩, bd, hb, ?_⟩
      refine ⟨CapsV.cells y, rfl, haty, ?_⟩
      refine bsplit_of (fun (hd : (true ^^ CapsV.eq x y) = true) => ?_) (fun (hd : (true ^^ CapsV.eq x y) = false) => ?_)
      · exact ⟨rb (eqL_bad hx hy (by simpa using hd)), rfl, rfl⟩
      · refine ⟨k + 1, ⟨by omega, eq_next hk.2 hx hy (by simpa using hd)⟩, by omega, [], rfl, ⟨vi (wrap_id (by omega) (by omega)), trivial⟩, rfl, rfl, rfl, rfl⟩
    · exact ⟨rb (eqL_good heq fun i u v hu hv => hk.2 i u v (by have := (List.getElem?_eq_some_iff.1 hu).1; simp at hlt; omega) hu hv), rfl, rfl⟩

/-- slices.Equal over ManageV -/
theorem eqManages_c (s t : SliceV ManageV) (g : G) (hs : s.ok 5 ManageV.cells (fun _ => True) g) (ht : t.ok 5 ManageV.cells (fun _ => True) g) : Tells Tryd.prog 55 [.v (.slice s.a s.l.length s.c), .v (.slice t.a t.l.length t.c)] g (.v (.bool (eqL ManageV.eq s.l t.l))) := by
  refine meets_of mixedW Tryd.func55 (by kernel_rfl) x55_ok (some []) ?_
  have hlen := hs.len
  refine bsplit_of (fun hne => ?_) (fun hne => ?_)
  · exact ⟨rb (eqL_len (by simp at hne; omega)), rfl, rfl⟩
  · have heq : s.l.length = t.l.length := by simp at hne; omega
    change LoopW _ _ _ _ _ _ _ _ _
    apply loop_rule [] (α := Nat) (fun k => [(13, .v (.int .i64 k))]) (fun _ => []) (fun _ => g) (fun k => k ≤ s.l.length ∧ ∀ (i : Nat) u v, i < k → s.l[i]? = some u → t.l[i]? = some v → ManageV.eq u v = true) (fun k => s.l.length - k) 0
    · intro x; kernel_rfl
    · exact ⟨Nat.zero_le _, fun i u v hi => by omega⟩
    · exact ⟨rfl, trivial⟩
    · rfl
    · rfl
    intro k hk
    refine bsplit_of (fun hlt => ?_) (fun hlt => ?_)
    · have hlt' : k < s.l.length := by simpa using hlt
      obtain ⟨ad, x, ha, hx, hatx, hxok⟩ := hs.elem (fun _ => rfl) hlt'
      obtain ⟨bd, y, hb, hy, haty, hyok⟩ := ht.elem (fun _ => rfl) (show k < t.l.length by omega)
      refine ⟨⟨by omega, by omega⟩, ad, ha, ?_⟩
      refine ⟨ManageV.cells x, rfl, hatx, ?_⟩
      refine ⟨⟨by omega, by omega⟩, bd, hb, ?_⟩
      refine ⟨ManageV.cells y, rfl, haty, ?_⟩
      refine bsplit_of (fun (hd : (true ^^ ManageV.eq x y) = true) => ?_) (fun (hd : (true ^^ ManageV.eq x y) = false) => ?_)
      · exact ⟨rb (eqL_bad hx hy (by simpa using hd)), rfl, rfl⟩
      · refine ⟨k + 1, ⟨by omega, eq_next hk.2 hx hy (by simpa using hd)⟩, by omega, [], rfl, ⟨vi (wrap_id (by omega) (by omega)), trivial⟩, rfl, rfl, rfl, rfl⟩
    · exact ⟨rb (eqL_good heq fun i u v hu hv => hk.2 i u v (by have := (List.getElem?_eq_some_iff.1 hu).1; simp at hlt; omega) hu hv), rfl, rfl⟩

/-- slices.Equal over OrgV -/
theorem eqOrgs_c (s t : SliceV OrgV) (g : G) (hs : s.ok 3 OrgV.cells (fun _ => True) g) (ht : t.ok 3 OrgV.cells (fun _ => True) g) : Tells Tryd.prog 56 [.v (.slice s.a s.l.length s.c), .v (.slice t.a t.l.length t.c)] g (.v (.bool (eqL OrgV.eq s.l t.l))) := by
  refine meets_of mixedW Tryd.func56 (by kernel_rfl) x56_ok (some []) ?_
  have hlen := hs.len
  refine bsplit_of (fun hne => ?_) (fun hne => ?_)
  · exact ⟨rb (eqL_len (by simp at hne; omega)), rfl, rfl⟩
  · have heq : s.l.length = t.l.length := by simp at hne; omega
    change LoopW _ _ _ _ _ _ _ _ _
    apply loop_rule [] (α := Nat) (fun k => [(13, .v (.int .i64 k))]) (fun _ => []) (fun _ => g) (fun k => k ≤ s.l.length ∧ ∀ (i : Nat) u v, i < k → s.l[i]? = some u → t.l[i]? = some v → OrgV.eq u v = true) (fun k => s.l.length - k) 0
    · intro x; kernel_rfl
    · exact ⟨Nat.zero_le _, fun i u v hi => by omega⟩
    · exact ⟨rfl, trivial⟩
    · rfl
    · rfl
    intro k hk
    refine bsplit_of (fun hlt => ?_) (fun hlt => ?_)
    · have hlt' : k < s.l.length := by simpa using hlt
      obtain ⟨ad, x, ha, hx, hatx, hxok⟩ := hs.elem (fun _ => rfl) hlt'
      obtain ⟨bd, y, hb, hy, haty, hyok⟩ := ht.elem (fun _ => rfl) (show k < t.l.length by omega)
      refine ⟨⟨by omega, by omega⟩, ad, ha, ?_⟩
      refine ⟨OrgV.cells x, rfl, hatx, ?_⟩
      refine ⟨⟨by omega, by omega⟩, bd, hb, ?_⟩
      refine ⟨OrgV.cells y, rfl, haty, ?_⟩
      refine bsplit_of (fun (hd : (true ^^ OrgV.eq x y) = true) => ?_) (fun (hd : (true ^^ OrgV.eq x y) = false) => ?_)
      · exact ⟨rb (eqL_bad hx hy (by simpa using hd)), rfl, rfl⟩
      · refine ⟨k + 1, ⟨by omega, eq_next hk.2 hx hy (by simpa using hd)⟩, by omega, [], rfl, ⟨vi (wrap_id (by omega) (by omega)), trivial⟩, rfl, rfl, rfl, rfl⟩
    · exact ⟨rb (eqL_good heq fun i u v hu hv => hk.2 i u v (by have := (List.getElem?_eq_some_iff.1 hu).1; simp at hlt; omega) hu hv), rfl, rfl⟩

end Go.Proofs.YtfianfpmnglfnaaDoor
