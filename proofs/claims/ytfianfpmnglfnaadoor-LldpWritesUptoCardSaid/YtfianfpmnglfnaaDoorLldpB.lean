/- lldp.Right: what it returns. Conditions: the slices lie where they say. -/
import Derived.Test.YtfianfpmnglfnaaDoorLldpA
namespace Go.Proofs.YtfianfpmnglfnaaDoor
open Go.Sx
set_option maxRecDepth 100000
set_option maxHeartbeats 8000000
attribute [local irreducible] Meets
attribute [local instance] Classical.propDecidable

abbrev ManagesOk (g : G) (s : SliceV ManageV) : Prop := s.ok 5 ManageV.cells (ManageV.ok g) g
theorem notManage_c (x : ManageV) (g : G) : Meets Tryd.prog 36 [.agg (x.cells.map .v)] [] g (fun o L' g' => o = .ret (.v (.bool (decide (¬ manageP x)))) ∧ L' = [] ∧ g' = g) := by
  refine meets_of mixedS Tryd.func36 (by kernel_rfl) x36_ok (some []) ?_
  refine (lmanage_c x g).call rfl rfl rfl ?_
  exact ⟨rbd (by simp), rfl, rfl⟩
theorem idxManage_c (s : SliceV ManageV) (g : G) (hs : ManagesOk g s) : Tells Tryd.prog 87 [.v (.slice s.a s.l.length s.c), .fn 36 [] []] g (.v (.int .i64 (firstI (fun x => ¬ manageP x) s.l))) := by
  refine meets_of mixedS Tryd.func87 (by kernel_rfl) x87_ok (some []) ?_
  have hlen := hs.len
  change LoopW _ _ _ _ _ _ _ _ _
  apply loop_rule [] (α := Nat) (fun k => [(8, .v (.int .i64 k))]) (fun _ => []) (fun _ => g) (fun k => k ≤ s.l.length ∧ ∀ (i : Nat) y, i < k → s.l[i]? = some y → ¬ ¬ manageP y) (fun k => s.l.length - k) 0
  · intro x; kernel_rfl
  · exact ⟨Nat.zero_le _, fun i t hi => by omega⟩
  · exact ⟨rfl, trivial⟩
  · rfl
  · rfl
  intro k hk
  refine bsplit_of (fun hlt => ?_) (fun hlt => ?_)
  · have hlt' : k < s.l.length := by simpa using hlt
    obtain ⟨ad, x, ha, hx, hat, -⟩ := hs.elem (fun _ => rfl) hlt'
    refine ⟨⟨by omega, by omega⟩, ad, ha, ?_⟩
    refine ⟨x.cells, rfl, hat, ?_⟩
    refine (notManage_c x g).callS [] 0 rfl rfl rfl rfl ?_
    rintro o L1 g' ⟨rfl, rfl, rfl⟩ _
    refine bsplit_of (fun (h : decide (¬ manageP x) = true) => ?_) (fun (h : decide (¬ manageP x) = false) => ?_)
    · exact ⟨ri (firstI_hit (p := fun x => ¬ manageP x) hk.2 hx (of_decide_eq_true h)).symm, rfl, rfl⟩
    · exact ⟨k + 1, ⟨by omega, seen_next (p := fun x => ¬ manageP x) hk.2 hx (of_decide_eq_false h)⟩, by omega, [], rfl, ⟨vi (wrap_id (by omega) (by omega)), trivial⟩, rfl, rfl, rfl, rfl⟩
  · have : s.l.length ≤ k := by simpa using hlt
    exact ⟨ri (firstI_none (p := fun x => ¬ manageP x) fun i y hy => hk.2 i y (by have := (List.getElem?_eq_some_iff.1 hy).1; omega) hy).symm, rfl, rfl⟩
theorem anyManage_c (s : SliceV ManageV) (g : G) (hs : ManagesOk g s) : Tells Tryd.prog 35 [.v (.slice s.a s.l.length s.c), .fn 36 [] []] g (.v (.bool (decide (∃ x ∈ s.l, ¬ manageP x)))) := by
  refine meets_of mixedS Tryd.func35 (by kernel_rfl) x35_ok (some []) ?_
  refine (idxManage_c s g hs).call rfl rfl rfl ?_
  have e := firstI_ge (fun x => ¬ manageP x) s.l
  rw [decide_eq_decide] at e
  exact ⟨rb (decide_eq_decide.2 e.symm), rfl, rfl⟩
abbrev OrgsOk (g : G) (s : SliceV OrgV) : Prop := s.ok 3 OrgV.cells (OrgV.ok g) g
theorem notOrg_c (x : OrgV) (g : G) : Meets Tryd.prog 39 [.agg (x.cells.map .v)] [] g (fun o L' g' => o = .ret (.v (.bool (decide (¬ orgP x)))) ∧ L' = [] ∧ g' = g) := by
  refine meets_of mixedS Tryd.func39 (by kernel_rfl) x39_ok (some []) ?_
  refine (lorg_c x g).call rfl rfl rfl ?_
  exact ⟨rbd (by simp), rfl, rfl⟩
theorem idxOrg_c (s : SliceV OrgV) (g : G) (hs : OrgsOk g s) : Tells Tryd.prog 88 [.v (.slice s.a s.l.length s.c), .fn 39 [] []] g (.v (.int .i64 (firstI (fun x => ¬ orgP x) s.l))) := by
  refine meets_of mixedS Tryd.func88 (by kernel_rfl) x88_ok (some []) ?_
  have hlen := hs.len
  change LoopW _ _ _ _ _ _ _ _ _
  apply loop_rule [] (α := Nat) (fun k => [(8, .v (.int .i64 k))]) (fun _ => []) (fun _ => g) (fun k => k ≤ s.l.length ∧ ∀ (i : Nat) y, i < k → s.l[i]? = some y → ¬ ¬ orgP y) (fun k => s.l.length - k) 0
  · intro x; kernel_rfl
  · exact ⟨Nat.zero_le _, fun i t hi => by omega⟩
  · exact ⟨rfl, trivial⟩
  · rfl
  · rfl
  intro k hk
  refine bsplit_of (fun hlt => ?_) (fun hlt => ?_)
  · have hlt' : k < s.l.length := by simpa using hlt
    obtain ⟨ad, x, ha, hx, hat, -⟩ := hs.elem (fun _ => rfl) hlt'
    refine ⟨⟨by omega, by omega⟩, ad, ha, ?_⟩
    refine ⟨x.cells, rfl, hat, ?_⟩
    refine (notOrg_c x g).callS [] 0 rfl rfl rfl rfl ?_
    rintro o L1 g' ⟨rfl, rfl, rfl⟩ _
    refine bsplit_of (fun (h : decide (¬ orgP x) = true) => ?_) (fun (h : decide (¬ orgP x) = false) => ?_)
    · exact ⟨ri (firstI_hit (p := fun x => ¬ orgP x) hk.2 hx (of_decide_eq_true h)).symm, rfl, rfl⟩
    · exact ⟨k + 1, ⟨by omega, seen_next (p := fun x => ¬ orgP x) hk.2 hx (of_decide_eq_false h)⟩, by omega, [], rfl, ⟨vi (wrap_id (by omega) (by omega)), trivial⟩, rfl, rfl, rfl, rfl⟩
  · have : s.l.length ≤ k := by simpa using hlt
    exact ⟨ri (firstI_none (p := fun x => ¬ orgP x) fun i y hy => hk.2 i y (by have := (List.getElem?_eq_some_iff.1 hy).1; omega) hy).symm, rfl, rfl⟩
theorem anyOrg_c (s : SliceV OrgV) (g : G) (hs : OrgsOk g s) : Tells Tryd.prog 38 [.v (.slice s.a s.l.length s.c), .fn 39 [] []] g (.v (.bool (decide (∃ x ∈ s.l, ¬ orgP x)))) := by
  refine meets_of mixedS Tryd.func38 (by kernel_rfl) x38_ok (some []) ?_
  refine (idxOrg_c s g hs).call rfl rfl rfl ?_
  have e := firstI_ge (fun x => ¬ orgP x) s.l
  rw [decide_eq_decide] at e
  exact ⟨rb (decide_eq_decide.2 e.symm), rfl, rfl⟩

def strsP (l : List ByteArray) : Prop := l.length ≤ 1 ∧ ∀ x ∈ l, x.size ≤ 255
def lldpP (l : LldpV) : Prop := (nameP l.chassis ∧ nameP l.port ∧ (0 ≤ l.ttl ∧ l.ttl ≤ 65535)) ∧ (strsP l.desc.l ∧ strsP l.host.l ∧ strsP l.system.l) ∧ (l.caps.l.length ≤ 1 ∧ ∀ c ∈ l.caps.l, capsP c) ∧ (l.manage.l.length ≤ 20 ∧ ∀ x ∈ l.manage.l, manageP x) ∧ (l.orgs.l.length ≤ 20 ∧ ∀ x ∈ l.orgs.l, orgP x)
theorem one_of {α : Type} {l : List α} (h : l.length = 1) {x : α} (hx : l[0]? = some x) : l = [x] := by
  obtain ⟨h0, rfl⟩ := List.getElem?_eq_some_iff.1 hx
  match l, h with
  | [y], _ => rfl
def lldC (l : LldpV) : List Chunk := [.cells 29 (l.cells.map .v), .cells 24 [.v (.slice l.desc.a l.desc.l.length l.desc.c), .v (.slice l.host.a l.host.l.length l.host.c), .v (.slice l.system.a l.system.l.length l.system.c)]]

theorem lldpRight_c (l : LldpV) (g : G) (hl : l.ok g) : Tells Tryd.prog 11 [.agg (l.cells.map .v)] g (.v (.bool (decide (lldpP l)))) := by
  obtain ⟨R, hR⟩ : ∃ R, decide (lldpP l) = R := ⟨_, rfl⟩
  rw [hR]
  obtain ⟨-, -, -, o3, o4, o5, o6, o7, o8⟩ := hl
  have n3 := o3.len
  have n4 := o4.len
  have n5 := o5.len
  have n6 := o6.len
  have n7 := o7.len
  have n8 := o8.len
  have no : ¬ lldpP l → R = false := fun h => by rw [← hR]; exact decide_eq_false h
  refine meets_of mixedS Tryd.func11 (by kernel_rfl) x11_ok (some []) ?_
  change LoopW _ _ _ _ _ _ _ _ _
  apply loop_rule [] (α := Nat) (fun k => [(13, .v (.int .i64 k))]) (fun _ => lldC l) (fun _ => g) (fun k => k ≤ 3 ∧ (0 < k → strsP l.desc.l) ∧ (1 < k → strsP l.host.l) ∧ (2 < k → strsP l.system.l)) (fun k => 3 - k) 0
  · intro x; kernel_rfl
  · exact ⟨by omega, fun h => by omega, fun h => by omega, fun h => by omega⟩
  · exact ⟨rfl, trivial⟩
  · rfl
  · rfl
  rintro k ⟨hk, s0, s1, s2⟩
  rcases (by omega : k = 0 ∨ k = 1 ∨ k = 2 ∨ k = 3) with rfl | rfl | rfl | rfl
  ·
    refine ⟨⟨by decide, by decide⟩, ?_⟩
    refine bsplit_of (fun k1 => ?_) (fun k1 => ?_)
    ·
      exact ⟨rb (no fun h => absurd h.2.1.1.1 (by have := of_decide_eq_true k1; omega)), rfl, rfl⟩
    refine bsplit_of (fun k2 => ?_) (fun k2 => ?_)
    · have hone : l.desc.l.length = 1 := by have := eq_of_beq k2; omega
      obtain ⟨ad, x, ha, hx, hat, -⟩ := o3.elem (i := 0) (fun _ => rfl) (by omega)
      have hall := one_of hone hx
      have hat : _ := hat
      refine ⟨⟨by decide, by omega⟩, ad, ha, ?_⟩
      refine ⟨[.string x], rfl, hat, ?_⟩
      refine bsplit_of (fun k3 => ?_) (fun k3 => ?_)
      ·
        exact ⟨rb (no fun h => absurd (h.2.1.1.2 x (by rw [hall]; simp)) (by have := of_decide_eq_true k3; omega)), rfl, rfl⟩
      · have hgood : strsP l.desc.l := ⟨by omega, fun y hy => by rw [hall] at hy; simp at hy; subst hy; have := of_decide_eq_false k3; omega⟩
        exact ⟨0 + 1, ⟨by decide, fun _ => hgood, fun h => absurd h (by decide), fun h => absurd h (by decide)⟩, by decide, [0, 1], rfl, ⟨rfl, trivial⟩, rfl, rfl, rfl, rfl⟩
    · have hnil : l.desc.l = [] := List.eq_nil_of_length_eq_zero (by have := ne_of_beq_false k2; have := of_decide_eq_false k1; omega)
      have hgood : strsP l.desc.l := ⟨by rw [hnil]; decide, fun y hy => by rw [hnil] at hy; cases hy⟩
      exact ⟨0 + 1, ⟨by decide, fun _ => hgood, fun h => absurd h (by decide), fun h => absurd h (by decide)⟩, by decide, [0, 1], rfl, ⟨rfl, trivial⟩, rfl, rfl, rfl, rfl⟩
  ·
    refine ⟨⟨by decide, by decide⟩, ?_⟩
    refine bsplit_of (fun k1 => ?_) (fun k1 => ?_)
    ·
      exact ⟨rb (no fun h => absurd h.2.1.2.1.1 (by have := of_decide_eq_true k1; omega)), rfl, rfl⟩
    refine bsplit_of (fun k2 => ?_) (fun k2 => ?_)
    · have hone : l.host.l.length = 1 := by have := eq_of_beq k2; omega
      obtain ⟨ad, x, ha, hx, hat, -⟩ := o4.elem (i := 0) (fun _ => rfl) (by omega)
      have hall := one_of hone hx
      have hat : _ := hat
      refine ⟨⟨by decide, by omega⟩, ad, ha, ?_⟩
      refine ⟨[.string x], rfl, hat, ?_⟩
      refine bsplit_of (fun k3 => ?_) (fun k3 => ?_)
      ·
        exact ⟨rb (no fun h => absurd (h.2.1.2.1.2 x (by rw [hall]; simp)) (by have := of_decide_eq_true k3; omega)), rfl, rfl⟩
      · have hgood : strsP l.host.l := ⟨by omega, fun y hy => by rw [hall] at hy; simp at hy; subst hy; have := of_decide_eq_false k3; omega⟩
        exact ⟨1 + 1, ⟨by decide, fun _ => s0 (by decide), fun _ => hgood, fun h => absurd h (by decide)⟩, by decide, [0, 1], rfl, ⟨rfl, trivial⟩, rfl, rfl, rfl, rfl⟩
    · have hnil : l.host.l = [] := List.eq_nil_of_length_eq_zero (by have := ne_of_beq_false k2; have := of_decide_eq_false k1; omega)
      have hgood : strsP l.host.l := ⟨by rw [hnil]; decide, fun y hy => by rw [hnil] at hy; cases hy⟩
      exact ⟨1 + 1, ⟨by decide, fun _ => s0 (by decide), fun _ => hgood, fun h => absurd h (by decide)⟩, by decide, [0, 1], rfl, ⟨rfl, trivial⟩, rfl, rfl, rfl, rfl⟩
  ·
    refine ⟨⟨by decide, by decide⟩, ?_⟩
    refine bsplit_of (fun k1 => ?_) (fun k1 => ?_)
    ·
      exact ⟨rb (no fun h => absurd h.2.1.2.2.1 (by have := of_decide_eq_true k1; omega)), rfl, rfl⟩
    refine bsplit_of (fun k2 => ?_) (fun k2 => ?_)
    · have hone : l.system.l.length = 1 := by have := eq_of_beq k2; omega
      obtain ⟨ad, x, ha, hx, hat, -⟩ := o5.elem (i := 0) (fun _ => rfl) (by omega)
      have hall := one_of hone hx
      have hat : _ := hat
      refine ⟨⟨by decide, by omega⟩, ad, ha, ?_⟩
      refine ⟨[.string x], rfl, hat, ?_⟩
      refine bsplit_of (fun k3 => ?_) (fun k3 => ?_)
      ·
        exact ⟨rb (no fun h => absurd (h.2.1.2.2.2 x (by rw [hall]; simp)) (by have := of_decide_eq_true k3; omega)), rfl, rfl⟩
      · have hgood : strsP l.system.l := ⟨by omega, fun y hy => by rw [hall] at hy; simp at hy; subst hy; have := of_decide_eq_false k3; omega⟩
        exact ⟨2 + 1, ⟨by decide, fun _ => s0 (by decide), fun _ => s1 (by decide), fun _ => hgood⟩, by decide, [0, 1], rfl, ⟨rfl, trivial⟩, rfl, rfl, rfl, rfl⟩
    · have hnil : l.system.l = [] := List.eq_nil_of_length_eq_zero (by have := ne_of_beq_false k2; have := of_decide_eq_false k1; omega)
      have hgood : strsP l.system.l := ⟨by rw [hnil]; decide, fun y hy => by rw [hnil] at hy; cases hy⟩
      exact ⟨2 + 1, ⟨by decide, fun _ => s0 (by decide), fun _ => s1 (by decide), fun _ => hgood⟩, by decide, [0, 1], rfl, ⟨rfl, trivial⟩, rfl, rfl, rfl, rfl⟩
  have t0 := s0 (by decide)
  have t1 := s1 (by decide)
  have t2 := s2 (by decide)
  refine bsplit_of (fun k1 => ?_) (fun k1 => ?_)
  ·
    exact ⟨rb (no fun h => absurd h.2.2.1.1 (by have := of_decide_eq_true k1; omega)), rfl, rfl⟩
  refine bsplit_of (fun k2 => ?_) (fun k2 => ?_)
  · have hone : l.caps.l.length = 1 := by have := eq_of_beq k2; omega
    obtain ⟨ad, x, ha, hx, hat, -⟩ := o6.elem (i := 0) (fun _ => rfl) (by omega)
    have hall := one_of hone hx
    refine ⟨⟨by decide, by omega⟩, ad, ha, ?_⟩
    refine ⟨x.cells, rfl, hat, ?_⟩
    refine (lcaps_c x g).call rfl rfl rfl ?_
    refine bsplit_of (fun k3 => ?_) (fun k3 => ?_)
    ·
      exact ⟨rb (no fun h => absurd (h.2.2.1.2 x (by rw [hall]; simp)) (by simpa using k3)), rfl, rfl⟩
    have hc : capsP x := by simpa using k3
    have hcaps : l.caps.l.length ≤ 1 ∧ ∀ c ∈ l.caps.l, capsP c := ⟨by omega, fun y hy => by rw [hall] at hy; simp at hy; subst hy; exact hc⟩
    refine bsplit_of (fun k4 => ?_) (fun k4 => ?_)
    ·
      exact ⟨rb (no fun h => absurd h.2.2.2.1.1 (by have := of_decide_eq_true k4; omega)), rfl, rfl⟩
    refine bsplit_of (fun k5 => ?_) (fun k5 => ?_)
    ·
      exact ⟨rb (no fun h => absurd h.2.2.2.2.1 (by have := of_decide_eq_true k5; omega)), rfl, rfl⟩
    have c4 : l.manage.l.length ≤ 20 := by have := of_decide_eq_false k4; omega
    have c5 : l.orgs.l.length ≤ 20 := by have := of_decide_eq_false k5; omega
    refine (lname_c l.chassis g).call rfl rfl rfl ?_
    refine bsplit_of (fun k6 => ?_) (fun k6 => ⟨rb (no fun h => absurd h.1.1 (of_decide_eq_false k6)), rfl, rfl⟩)
    refine (lname_c l.port g).call rfl rfl rfl ?_
    refine bsplit_of (fun k7 => ?_) (fun k7 => ⟨rb (no fun h => absurd h.1.2.1 (of_decide_eq_false k7)), rfl, rfl⟩)
    refine bsplit_of (fun k8 => ?_) (fun k8 => ⟨rb (no fun h => absurd h.1.2.2.1 (of_decide_eq_false k8)), rfl, rfl⟩)
    refine bsplit_of (fun k9 => ?_) (fun k9 => ⟨rb (no fun h => absurd h.1.2.2.2 (of_decide_eq_false k9)), rfl, rfl⟩)
    refine (anyManage_c l.manage g o7).call rfl rfl rfl ?_
    refine bsplit_of (fun k10 => ?_) (fun k10 => ⟨rb (no fun h => by
      have : ∃ x ∈ l.manage.l, ¬ manageP x := by simpa using k10
      obtain ⟨x, hx, hn⟩ := this
      exact hn (h.2.2.2.1.2 x hx)), rfl, rfl⟩)
    have d10 : ∀ x ∈ l.manage.l, manageP x := by simpa using k10
    refine (anyOrg_c l.orgs g o8).call rfl rfl rfl ?_
    refine ⟨rb ?_, rfl, rfl⟩
    rw [← hR]
    by_cases hq : ∀ x ∈ l.orgs.l, orgP x
    · have hP : lldpP l := ⟨⟨of_decide_eq_true k6, of_decide_eq_true k7, of_decide_eq_true k8, of_decide_eq_true k9⟩, ⟨t0, t1, t2⟩, hcaps, ⟨c4, d10⟩, ⟨c5, hq⟩⟩
      rw [decide_eq_true hP]
      simpa using hq
    · rw [decide_eq_false fun h : lldpP l => hq h.2.2.2.2.2]
      simpa using hq
  · have hnil : l.caps.l = [] := List.eq_nil_of_length_eq_zero (by have := ne_of_beq_false k2; have := of_decide_eq_false k1; omega)
    have hcaps : l.caps.l.length ≤ 1 ∧ ∀ c ∈ l.caps.l, capsP c := ⟨by rw [hnil]; decide, fun y hy => by rw [hnil] at hy; cases hy⟩
    refine bsplit_of (fun k4 => ?_) (fun k4 => ?_)
    ·
      exact ⟨rb (no fun h => absurd h.2.2.2.1.1 (by have := of_decide_eq_true k4; omega)), rfl, rfl⟩
    refine bsplit_of (fun k5 => ?_) (fun k5 => ?_)
    ·
      exact ⟨rb (no fun h => absurd h.2.2.2.2.1 (by have := of_decide_eq_true k5; omega)), rfl, rfl⟩
    have c4 : l.manage.l.length ≤ 20 := by have := of_decide_eq_false k4; omega
    have c5 : l.orgs.l.length ≤ 20 := by have := of_decide_eq_false k5; omega
    refine (lname_c l.chassis g).call rfl rfl rfl ?_
    refine bsplit_of (fun k6 => ?_) (fun k6 => ⟨rb (no fun h => absurd h.1.1 (of_decide_eq_false k6)), rfl, rfl⟩)
    refine (lname_c l.port g).call rfl rfl rfl ?_
    refine bsplit_of (fun k7 => ?_) (fun k7 => ⟨rb (no fun h => absurd h.1.2.1 (of_decide_eq_false k7)), rfl, rfl⟩)
    refine bsplit_of (fun k8 => ?_) (fun k8 => ⟨rb (no fun h => absurd h.1.2.2.1 (of_decide_eq_false k8)), rfl, rfl⟩)
    refine bsplit_of (fun k9 => ?_) (fun k9 => ⟨rb (no fun h => absurd h.1.2.2.2 (of_decide_eq_false k9)), rfl, rfl⟩)
    refine (anyManage_c l.manage g o7).call rfl rfl rfl ?_
    refine bsplit_of (fun k10 => ?_) (fun k10 => ⟨rb (no fun h => by
      have : ∃ x ∈ l.manage.l, ¬ manageP x := by simpa using k10
      obtain ⟨x, hx, hn⟩ := this
      exact hn (h.2.2.2.1.2 x hx)), rfl, rfl⟩)
    have d10 : ∀ x ∈ l.manage.l, manageP x := by simpa using k10
    refine (anyOrg_c l.orgs g o8).call rfl rfl rfl ?_
    refine ⟨rb ?_, rfl, rfl⟩
    rw [← hR]
    by_cases hq : ∀ x ∈ l.orgs.l, orgP x
    · have hP : lldpP l := ⟨⟨of_decide_eq_true k6, of_decide_eq_true k7, of_decide_eq_true k8, of_decide_eq_true k9⟩, ⟨t0, t1, t2⟩, hcaps, ⟨c4, d10⟩, ⟨c5, hq⟩⟩
      rw [decide_eq_true hP]
      simpa using hq
    · rw [decide_eq_false fun h : lldpP l => hq h.2.2.2.2.2]
      simpa using hq
end Go.Proofs.YtfianfpmnglfnaaDoor
