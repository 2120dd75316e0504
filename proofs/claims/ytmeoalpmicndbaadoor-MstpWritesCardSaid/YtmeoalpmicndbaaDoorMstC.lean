/- mstp.Right and its reference: what each returns. Conditions: the slices lie where they say. -/
import Derived.Test.YtmeoalpmicndbaaDoorXmstw
import Derived.Test.YtmeoalpmicndbaaDoorBpduWC
import Derived.Test.YtmeoalpmicndbaaDoorShelfH
import Derived.Test.YtmeoalpmicndbaaDoorBaseD
namespace Go.Proofs.YtmeoalpmicndbaaDoor
open Go.Sx Go.Lib Go.RowKit
set_option maxRecDepth 100000
set_option maxHeartbeats 8000000
attribute [local irreducible] Meets
attribute [local instance] Classical.propDecidable

abbrev InstsOk (g : G) (s : SliceV InstV) : Prop := s.ok 19 InstV.cells (InstV.ok g) g
def instP (x : InstV) : Prop := flagsOk x.flags = true ∧ bridgeP x.root ∧ (0 ≤ x.cost ∧ x.cost ≤ 4294967295) ∧ (0 ≤ x.bridge ∧ x.bridge ≤ 15) ∧ (0 ≤ x.port ∧ x.port ≤ 15) ∧ (0 ≤ x.hops ∧ x.hops ≤ 255)
theorem flagsOk_iff (f : FlagsV) : flagsOk f = true ↔ 0 ≤ f.role ∧ f.role ≤ 3 := by simp [flagsOk]
def endsZ (s : ByteArray) : Prop := ∃ l, s.data.toList = l ++ [0]
theorem suffix_iff (s : ByteArray) : hasSuffix s.data.toList (⟨#[0]⟩ : ByteArray).data.toList = true ↔ endsZ s := by
  show List.isSuffixOf [0] s.data.toList = true ↔ _
  rw [List.isSuffixOf_iff_suffix]
  exact ⟨fun ⟨t, h⟩ => ⟨t, h.symm⟩, fun ⟨t, h⟩ => ⟨t, h.symm⟩⟩
theorem suffix_c (s : ByteArray) (hs : s.size ≤ 1000000) (g : G) : Tells Tryd.prog 105 [.v (.string s), .v (.string ⟨#[0]⟩)] g (.v (.bool (decide (endsZ s)))) := by
  have e : decide (endsZ s) = hasSuffix s.data.toList (⟨#[0]⟩ : ByteArray).data.toList := by
    rw [Bool.eq_iff_iff, suffix_iff, decide_eq_true_iff]
  rw [e]
  exact Tells.of_below (by kernel_rfl) rfl fun _ w _ => (sh_strings_HasSuffix s ⟨#[0]⟩ w (by omega)).mono fun _ _ h => ⟨h.1, by rw [h.2]; exact Below.refl _ _⟩
theorem ends_last {s : ByteArray} (h : 0 < s.size) : (((s.data.toList.getD (s.size - 1) 0).toNat : Int) == 0) = decide (endsZ s) := by
  have hl : s.data.toList.length = s.size := by rw [Array.length_toList]; rfl
  obtain ⟨L, b, hb⟩ : ∃ L b, s.data.toList = L ++ [b] := by
    rcases List.eq_nil_or_concat s.data.toList with h0 | ⟨L, b, h0⟩
    · rw [h0] at hl; simp at hl; omega
    · exact ⟨L, b, by simpa using h0⟩
  have hs : s.size - 1 = L.length := by rw [← hl, hb]; simp
  have e2 : s.data.toList.getD (s.size - 1) 0 = b := by
    rw [List.getD_eq_getElem?_getD, hs, hb]; simp
  rw [e2, Bool.eq_iff_iff, decide_eq_true_iff]
  constructor
  · intro h
    refine ⟨L, ?_⟩
    have : b = 0 := by
      apply UInt8.toNat_inj.1
      simp at h
      simpa using h
    rw [hb, this]
  · rintro ⟨l, hl2⟩
    rw [hb] at hl2
    have := (List.append_inj' hl2 rfl).2
    simp at this
    rw [this]; rfl

def mstP (m : MstV) : Prop := m.base.kind = 3 ∧ bpduB m.base = true ∧ m.name.size ≤ 32 ∧ ¬ endsZ m.name ∧ (0 ≤ m.rev ∧ m.rev ≤ 65535) ∧ m.digest.size = 16 ∧ (0 ≤ m.cost ∧ m.cost ≤ 4294967295) ∧ bridgeP m.bridge ∧ (0 ≤ m.hops ∧ m.hops ≤ 255) ∧ m.insts.l.length ≤ 64 ∧ ∀ x ∈ m.insts.l, instP x

theorem inst_c (x : InstV) (g : G) : Tells Tryd.prog 109 [.agg (x.cells.map .v)] g (.v (.bool (decide (instP x)))) := by
  have no : ¬ instP x → Out.ret (.v (.bool false)) = .ret (.v (.bool (decide (instP x)))) := fun h => by rw [decide_eq_false h]
  refine meets_of mixedS Tryd.func109 (by kernel_rfl) x109_ok (some []) ?_
  refine (bpduFlags_b x.flags g).call rfl rfl rfl ?_
  refine bsplit_of (fun (h1 : flagsOk x.flags = true) => ?_) (fun (h : flagsOk x.flags = false) => ⟨no fun hq => by rw [hq.1] at h; exact absurd h (by decide), rfl, rfl⟩)
  refine (prioRight_c x.root g).call rfl rfl rfl ?_
  refine bsplit_of (fun (h2 : decide (bridgeP x.root) = true) => ?_) (fun (h : decide (bridgeP x.root) = false) => ⟨no fun hq => of_decide_eq_false h hq.2.1, rfl, rfl⟩)
  refine bsplit_of (fun (h3 : decide (x.cost ≥ 0) = true) => ?_) (fun (h : decide (x.cost ≥ 0) = false) => ⟨no fun hq => by have h := of_decide_eq_false h; obtain ⟨-, -, q3, q4, q5, q6⟩ := hq; omega, rfl, rfl⟩)
  refine bsplit_of (fun (h4 : decide (x.cost < 4294967296) = true) => ?_) (fun (h : decide (x.cost < 4294967296) = false) => ⟨no fun hq => by have h := of_decide_eq_false h; obtain ⟨-, -, q3, q4, q5, q6⟩ := hq; omega, rfl, rfl⟩)
  refine bsplit_of (fun (h5 : decide (x.bridge ≥ 0) = true) => ?_) (fun (h : decide (x.bridge ≥ 0) = false) => ⟨no fun hq => by have h := of_decide_eq_false h; obtain ⟨-, -, q3, q4, q5, q6⟩ := hq; omega, rfl, rfl⟩)
  refine bsplit_of (fun (h6 : decide (x.bridge ≤ 15) = true) => ?_) (fun (h : decide (x.bridge ≤ 15) = false) => ⟨no fun hq => by have h := of_decide_eq_false h; obtain ⟨-, -, q3, q4, q5, q6⟩ := hq; omega, rfl, rfl⟩)
  refine bsplit_of (fun (h7 : decide (x.port ≥ 0) = true) => ?_) (fun (h : decide (x.port ≥ 0) = false) => ⟨no fun hq => by have h := of_decide_eq_false h; obtain ⟨-, -, q3, q4, q5, q6⟩ := hq; omega, rfl, rfl⟩)
  refine bsplit_of (fun (h8 : decide (x.port ≤ 15) = true) => ?_) (fun (h : decide (x.port ≤ 15) = false) => ⟨no fun hq => by have h := of_decide_eq_false h; obtain ⟨-, -, q3, q4, q5, q6⟩ := hq; omega, rfl, rfl⟩)
  refine bsplit_of (fun (h9 : decide (x.hops ≥ 0) = true) => ?_) (fun (h : decide (x.hops ≥ 0) = false) => ⟨no fun hq => by have h := of_decide_eq_false h; obtain ⟨-, -, q3, q4, q5, q6⟩ := hq; omega, rfl, rfl⟩)
  have h2 := of_decide_eq_true h2; have h3 := of_decide_eq_true h3; have h4 := of_decide_eq_true h4; have h5 := of_decide_eq_true h5; have h6 := of_decide_eq_true h6; have h7 := of_decide_eq_true h7; have h8 := of_decide_eq_true h8; have h9 := of_decide_eq_true h9
  exact ⟨rbd (by rw [decide_eq_true_iff]; exact ⟨fun h => ⟨h1, h2, by omega, by omega, by omega, by omega⟩, fun h => h.2.2.2.2.2.2⟩), rfl, rfl⟩
theorem notInst_c (x : InstV) (g : G) : Meets Tryd.prog 108 [.agg (x.cells.map .v)] [] g (fun o L' g' => o = .ret (.v (.bool (decide (¬ instP x)))) ∧ L' = [] ∧ g' = g) := by
  refine meets_of mixedS Tryd.func108 (by kernel_rfl) x108_ok (some []) ?_
  refine (inst_c x g).call rfl rfl rfl ?_
  exact ⟨rbd (by simp), rfl, rfl⟩
theorem idxInst_c (s : SliceV InstV) (g : G) (hs : InstsOk g s) : Tells Tryd.prog 158 [.v (.slice s.a s.l.length s.c), .fn 108 [] []] g (.v (.int .i64 (firstI (fun x => ¬ instP x) s.l))) := by
  refine meets_of mixedS Tryd.func158 (by kernel_rfl) x158_ok (some []) ?_
  have hlen := hs.len
  change LoopW _ _ _ _ _ _ _ _ _
  apply loop_rule [] (α := Nat) (fun k => [(8, .v (.int .i64 k))]) (fun _ => []) (fun _ => g) (fun k => k ≤ s.l.length ∧ ∀ (i : Nat) y, i < k → s.l[i]? = some y → ¬ ¬ instP y) (fun k => s.l.length - k) 0
  · intro x; kernel_rfl
  · exact ⟨Nat.zero_le _, fun i t hi => by omega⟩
  · exact ⟨rfl, trivial⟩
  · rfl
  · rfl
  intro k hk
  refine bsplit_of (fun hlt => ?_) (fun hlt => ?_)
  · have hlt' : k < s.l.length := by simpa using hlt
    obtain ⟨ad, x, ha, hx, hat, -⟩ := hs.elem (fun _ => rfl) hlt'
    refine ⟨⟨by omega, by omega⟩, ad, ha, ?_⟩
    refine ⟨x.cells, rfl, hat, ?_⟩
    refine (notInst_c x g).callS [] 0 rfl rfl rfl rfl ?_
    rintro o L1 g' ⟨rfl, rfl, rfl⟩ _
    refine bsplit_of (fun (h : decide (¬ instP x) = true) => ?_) (fun (h : decide (¬ instP x) = false) => ?_)
    · exact ⟨ri (firstI_hit (p := fun x => ¬ instP x) hk.2 hx (of_decide_eq_true h)).symm, rfl, rfl⟩
    · exact ⟨k + 1, ⟨by omega, seen_next (p := fun x => ¬ instP x) hk.2 hx (of_decide_eq_false h)⟩, by omega, [], rfl, ⟨vi (wrap_id (by omega) (by omega)), trivial⟩, rfl, rfl, rfl, rfl⟩
  · have : s.l.length ≤ k := by simpa using hlt
    exact ⟨ri (firstI_none (p := fun x => ¬ instP x) fun i y hy => hk.2 i y (by have := (List.getElem?_eq_some_iff.1 hy).1; omega) hy).symm, rfl, rfl⟩
theorem anyInst_c (s : SliceV InstV) (g : G) (hs : InstsOk g s) : Tells Tryd.prog 107 [.v (.slice s.a s.l.length s.c), .fn 108 [] []] g (.v (.bool (decide (∃ x ∈ s.l, ¬ instP x)))) := by
  refine meets_of mixedS Tryd.func107 (by kernel_rfl) x107_ok (some []) ?_
  refine (idxInst_c s g hs).call rfl rfl rfl ?_
  have e := firstI_ge (fun x => ¬ instP x) s.l
  rw [decide_eq_decide] at e
  exact ⟨rb (decide_eq_decide.2 e.symm), rfl, rfl⟩

theorem mstRight_c (m : MstV) (g : G) (hm : m.ok g) : Tells Tryd.prog 34 [.agg (m.cells.map .v)] g (.v (.bool (decide (mstP m)))) := by
  have no : ¬ mstP m → Out.ret (.v (.bool false)) = .ret (.v (.bool (decide (mstP m)))) := fun h => by rw [decide_eq_false h]
  refine meets_of mixedS Tryd.func34 (by kernel_rfl) x34_ok (some []) ?_
  refine bsplit_of (fun (h1 : (m.base.kind == 3) = true) => ?_) (fun (h : (m.base.kind == 3) = false) => ⟨no fun hq => by rw [hq.1] at h; exact absurd h (by decide), rfl, rfl⟩)
  refine (bpduRight_c m.base g).call rfl rfl rfl ?_
  refine bsplit_of (fun (h2 : bpduB m.base = true) => ?_) (fun (h : bpduB m.base = false) => ⟨no fun hq => by rw [hq.2.1] at h; exact absurd h (by decide), rfl, rfl⟩)
  refine bsplit_of (fun (h3 : decide ((m.name.size : Int) ≤ 32) = true) => ?_) (fun (h : decide ((m.name.size : Int) ≤ 32) = false) => ⟨no fun hq => by have h := of_decide_eq_false h; obtain ⟨-, -, q3, q4, q5, q6, q7, q8, q9, q10, -⟩ := hq; omega, rfl, rfl⟩)
  have h3 := of_decide_eq_true h3
  refine (suffix_c m.name (by omega) g).call rfl rfl rfl ?_
  refine bsplit_of (fun (h4 : (!decide (endsZ m.name)) = true) => ?_) (fun (h : (!decide (endsZ m.name)) = false) => ⟨no fun hq => by simp at h; exact hq.2.2.2.1 h, rfl, rfl⟩)
  refine bsplit_of (fun (h5 : decide (m.rev ≥ 0) = true) => ?_) (fun (h : decide (m.rev ≥ 0) = false) => ⟨no fun hq => by have h := of_decide_eq_false h; obtain ⟨-, -, q3, q4, q5, q6, q7, q8, q9, q10, -⟩ := hq; omega, rfl, rfl⟩)
  have h5 := of_decide_eq_true h5
  refine bsplit_of (fun (h6 : decide (m.rev ≤ 65535) = true) => ?_) (fun (h : decide (m.rev ≤ 65535) = false) => ⟨no fun hq => by have h := of_decide_eq_false h; obtain ⟨-, -, q3, q4, q5, q6, q7, q8, q9, q10, -⟩ := hq; omega, rfl, rfl⟩)
  have h6 := of_decide_eq_true h6
  refine bsplit_of (fun (h7 : ((m.digest.size : Int) == 16) = true) => ?_) (fun (h : ((m.digest.size : Int) == 16) = false) => ⟨no fun hq => by rw [hq.2.2.2.2.2.1] at h; exact absurd h (by decide), rfl, rfl⟩)
  refine bsplit_of (fun (h8 : decide (m.cost ≥ 0) = true) => ?_) (fun (h : decide (m.cost ≥ 0) = false) => ⟨no fun hq => by have h := of_decide_eq_false h; obtain ⟨-, -, q3, q4, q5, q6, q7, q8, q9, q10, -⟩ := hq; omega, rfl, rfl⟩)
  have h8 := of_decide_eq_true h8
  refine bsplit_of (fun (h9 : decide (m.cost < 4294967296) = true) => ?_) (fun (h : decide (m.cost < 4294967296) = false) => ⟨no fun hq => by have h := of_decide_eq_false h; obtain ⟨-, -, q3, q4, q5, q6, q7, q8, q9, q10, -⟩ := hq; omega, rfl, rfl⟩)
  have h9 := of_decide_eq_true h9
  refine (prioRight_c m.bridge g).call rfl rfl rfl ?_
  refine bsplit_of (fun (h10 : decide (bridgeP m.bridge) = true) => ?_) (fun (h : decide (bridgeP m.bridge) = false) => ⟨no fun hq => of_decide_eq_false h hq.2.2.2.2.2.2.2.1, rfl, rfl⟩)
  refine bsplit_of (fun (h11 : decide (m.hops ≥ 0) = true) => ?_) (fun (h : decide (m.hops ≥ 0) = false) => ⟨no fun hq => by have h := of_decide_eq_false h; obtain ⟨-, -, q3, q4, q5, q6, q7, q8, q9, q10, -⟩ := hq; omega, rfl, rfl⟩)
  have h11 := of_decide_eq_true h11
  refine bsplit_of (fun (h12 : decide (m.hops ≤ 255) = true) => ?_) (fun (h : decide (m.hops ≤ 255) = false) => ⟨no fun hq => by have h := of_decide_eq_false h; obtain ⟨-, -, q3, q4, q5, q6, q7, q8, q9, q10, -⟩ := hq; omega, rfl, rfl⟩)
  have h12 := of_decide_eq_true h12
  refine bsplit_of (fun (h13 : decide ((m.insts.l.length : Int) ≤ 64) = true) => ?_) (fun (h : decide ((m.insts.l.length : Int) ≤ 64) = false) => ⟨no fun hq => by have h := of_decide_eq_false h; obtain ⟨-, -, q3, q4, q5, q6, q7, q8, q9, q10, -⟩ := hq; omega, rfl, rfl⟩)
  have h13 := of_decide_eq_true h13
  refine (anyInst_c m.insts g hm.2.2.2.2.2.2.2).call rfl rfl rfl ?_
  refine ⟨rb ?_, rfl, rfl⟩
  rw [← decide_not, decide_eq_decide]
  constructor
  · rintro ⟨-, -, -, -, -, -, -, -, -, -, q⟩ ⟨x, hx, hn⟩
    exact hn (q x hx)
  · intro q
    exact ⟨by simpa using h1, h2, by omega, by simpa using h4, ⟨by omega, by omega⟩, by simp at h7; omega, ⟨by omega, by omega⟩, of_decide_eq_true h10, ⟨by omega, by omega⟩, by omega, fun x hx => Classical.byContradiction fun hn => q ⟨x, hx, hn⟩⟩

end Go.Proofs.YtmeoalpmicndbaaDoor
