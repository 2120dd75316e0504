/- mvrp.Right and its reference: whether events may be. Conditions: the slice lies where it says; First is a number of 16 bits. -/
import Derived.Test.YtfianfpmnglfnaaDoorXmvr
import Derived.Test.YtfianfpmnglfnaaDoorMvL
import Derived.Test.YtfianfpmnglfnaaDoorVsB
import Derived.Test.YtfianfpmnglfnaaDoorTagRC
namespace Go.Proofs.YtfianfpmnglfnaaDoor
open Go.Sx
set_option maxRecDepth 100000
set_option maxHeartbeats 8000000
attribute [local irreducible] Meets

abbrev EvsOk (g : G) (s : SliceV Int) : Prop := s.ok 1 (intC .i64) (fun _ => True) g
def AttrV.p (a : AttrV) : AttP := ⟨a.leaveAll, a.first, a.events.l⟩
theorem noB {b : Bool} (h : b = true → False) : false = b := by
  cases b
  · rfl
  · exact (h rfl).elim
theorem notEv_c (e : Int) (g : G) : Tells Tryd.prog 105 [.v (.int .i64 e)] g (.v (.bool (!evB e))) := by
  refine meets_of mixedS Tryd.func105 (by kernel_rfl) x105_ok (some []) ?_
  refine bsplit_of (fun (h : decide (e < 0) = true) => ?_) (fun (h : decide (e < 0) = false) => ?_)
  · have h := of_decide_eq_true h
    exact ⟨rb (by simp [evB]; omega), rfl, rfl⟩
  · have h := of_decide_eq_false h
    exact ⟨rb (by rw [Bool.eq_iff_iff]; simp [evB]; omega), rfl, rfl⟩
theorem idxEv_c (s : SliceV Int) (g : G) (hs : EvsOk g s) : Meets Tryd.prog 111 [.v (.slice s.a s.l.length s.c), .fn 105 [] []] [] g (fun o L' g' => (∃ r : Int, o = .ret (.v (.int .i64 r)) ∧ decide (r ≥ 0) = !s.l.all evB) ∧ L' = [] ∧ g' = g) := by
  refine meets_of mixedS Tryd.func111 (by kernel_rfl) x111_ok (some []) ?_
  have hlen := hs.len
  change LoopW _ _ _ _ _ _ _ _ _
  apply loop_rule [] (α := Nat) (fun k => [(8, .v (.int .i64 k))]) (fun _ => []) (fun _ => g) (fun k => k ≤ s.l.length ∧ ∀ (i : Nat) y, i < k → s.l[i]? = some y → evB y = true) (fun k => s.l.length - k) 0
  · intro x; kernel_rfl
  · exact ⟨Nat.zero_le _, fun i t hi => by omega⟩
  · exact ⟨rfl, trivial⟩
  · rfl
  · rfl
  intro k hk
  refine bsplit_of (fun hlt => ?_) (fun hlt => ?_)
  · have hlt' : k < s.l.length := by simpa using hlt
    obtain ⟨ad, x, ha, hx, hat, -⟩ := hs.elem (fun _ => rfl) hlt'
    refine ⟨⟨by omega, by omega⟩, ad, ha, ?_⟩
    refine ⟨[.int .i64 x], rfl, hat, ?_⟩
    refine (notEv_c x g).call rfl rfl rfl ?_
    refine bsplit_of (fun (h : (!evB x) = true) => ?_) (fun (h : (!evB x) = false) => ?_)
    · refine ⟨⟨k, rfl, ?_⟩, rfl, rfl⟩
      have hx0 : evB x = false := by simpa using h
      have hm : x ∈ s.l := List.mem_of_getElem? hx
      have : s.l.all evB = false := by
        rw [List.all_eq_false]; exact ⟨x, hm, by simp [hx0]⟩
      rw [this]; simp
    · refine ⟨k + 1, ⟨by omega, fun i y hi hy => ?_⟩, by omega, [], rfl, ⟨vi (wrap_id (by omega) (by omega)), trivial⟩, rfl, rfl, rfl, rfl⟩
      by_cases hik : i = k
      · subst hik; rw [hx] at hy; cases hy; simpa using h
      · exact hk.2 i y (by omega) hy
  · have hge : s.l.length ≤ k := by simpa using hlt
    refine ⟨⟨-1, rfl, ?_⟩, rfl, rfl⟩
    have : s.l.all evB = true := by
      rw [List.all_eq_true]
      intro y hy
      obtain ⟨i, hi, rfl⟩ := List.getElem_of_mem hy
      exact hk.2 i _ (by omega) (List.getElem?_eq_getElem hi)
    rw [this]; rfl
theorem anyEv_c (s : SliceV Int) (g : G) (hs : EvsOk g s) : Tells Tryd.prog 104 [.v (.slice s.a s.l.length s.c), .fn 105 [] []] g (.v (.bool (!s.l.all evB))) := by
  refine meets_of mixedS Tryd.func104 (by kernel_rfl) x104_ok (some []) ?_
  refine (idxEv_c s g hs).call0 rfl rfl 0 rfl ?_
  rintro o L1 g' ⟨⟨r, rfl, hr⟩, rfl, rfl⟩
  exact ⟨rb hr.symm, rfl, rfl⟩

theorem attB_nil {a : AttP} (h : a.evs = []) : attB a = (a.la && (decide (0 ≤ a.first) && decide (a.first ≤ 4094))) := by
  unfold attB; rw [h]
theorem attB_some {a : AttP} (h : 0 < a.evs.length) : attB a = (decide ((a.evs.length : Int) ≤ 400) && (decide (1 ≤ a.first) && (decide (a.first ≤ 4094) && (decide (a.first + (a.evs.length : Int) ≤ 4095) && a.evs.all evB)))) := by
  obtain ⟨la, first, evs⟩ := a
  cases evs with
  | nil => exact absurd h (Nat.lt_irrefl 0)
  | cons e t => rfl
theorem mvRight_c (a : AttrV) (g : G) (ha : EvsOk g a.events) (hf : 0 ≤ a.first ∧ a.first ≤ 65535) : Tells Tryd.prog 99 [.agg (a.cells.map .v)] g (.v (.bool (attB a.p))) := by
  have hlen := ha.len
  have hp : a.p.evs = a.events.l := rfl
  have hq : a.p.first = a.first := rfl
  refine meets_of mixedS Tryd.func99 (by kernel_rfl) x99_ok (some []) ?_
  refine bsplit_of (fun (h0 : ((a.events.l.length : Int) == 0) = true) => ?_) (fun (h0 : ((a.events.l.length : Int) == 0) = false) => ?_)
  · have hn : a.p.evs = [] := List.eq_nil_of_length_eq_zero (by rw [hp]; have := eq_of_beq h0; omega)
    rw [attB_nil hn]
    refine bsplit_of (fun (h1 : a.leaveAll = true) => ?_) (fun (h1 : a.leaveAll = false) => ⟨rb (by rw [show a.p.la = false from h1]; rfl), rfl, rfl⟩)
    refine bsplit_of (fun (h2 : decide (a.first ≥ 0) = true) => ?_) (fun (h2 : decide (a.first ≥ 0) = false) => ⟨rb (by rw [hq, show decide (0 ≤ a.first) = false from h2, show a.p.la = true from h1]; rfl), rfl, rfl⟩)
    exact ⟨rb (by rw [hq, show decide (0 ≤ a.first) = true from h2, show a.p.la = true from h1]; simp), rfl, rfl⟩
  have hn : 0 < a.p.evs.length := by rw [hp]; have := ne_of_beq_false h0; omega
  rw [attB_some hn, hp, hq]
  refine bsplit_of (fun (h1 : decide ((a.events.l.length : Int) ≤ 400) = true) => ?_) (fun (h : decide ((a.events.l.length : Int) ≤ 400) = false) => ⟨rb (by have h := of_decide_eq_false h; refine (noB ?_).symm; intro hh; simp at hh; omega), rfl, rfl⟩)
  refine bsplit_of (fun (h2 : decide (a.first ≥ 1) = true) => ?_) (fun (h : decide (a.first ≥ 1) = false) => ⟨rb (by have h := of_decide_eq_false h; refine (noB ?_).symm; intro hh; simp at hh; omega), rfl, rfl⟩)
  refine bsplit_of (fun (h3 : decide (a.first ≤ 4094) = true) => ?_) (fun (h : decide (a.first ≤ 4094) = false) => ⟨rb (by have h := of_decide_eq_false h; refine (noB ?_).symm; intro hh; simp at hh; omega), rfl, rfl⟩)
  have h1' := of_decide_eq_true h1
  have w : IntKind.i64.wrap (IntKind.i64.wrap (a.first + (a.events.l.length : Int)) - 1) = a.first + a.events.l.length - 1 := by rw [show IntKind.i64.wrap (a.first + (a.events.l.length : Int)) = a.first + (a.events.l.length : Int) from wrap_id (by omega) (by omega), wrap_id (by omega) (by omega)]
  refine bsplit_of (fun (h4 : decide (IntKind.i64.wrap (IntKind.i64.wrap (a.first + (a.events.l.length : Int)) - 1) ≤ 4094) = true) => ?_) (fun (h : decide (IntKind.i64.wrap (IntKind.i64.wrap (a.first + (a.events.l.length : Int)) - 1) ≤ 4094) = false) => ⟨rb (by have h := of_decide_eq_false h; rw [w] at h; refine (noB ?_).symm; intro hh; simp at hh; omega), rfl, rfl⟩)
  refine (anyEv_c a.events g ha).call rfl rfl rfl ?_
  have h2 := of_decide_eq_true h2; have h3 := of_decide_eq_true h3; have h4 := of_decide_eq_true h4
  rw [w] at h4
  refine ⟨rb ?_, rfl, rfl⟩
  rw [show decide ((a.events.l.length : Int) ≤ 400) = true from h1, show decide (1 ≤ a.first) = true from decide_eq_true h2, decide_eq_true h3, decide_eq_true (show a.first + (a.events.l.length : Int) ≤ 4095 by omega)]
  simp
theorem mvRightR_c (a : AttrV) (g : G) (ha : EvsOk g a.events) (hf : 0 ≤ a.first ∧ a.first ≤ 65535) : Tells Tryd.prog 64 [.agg (a.cells.map .v)] g (.v (.bool (attB a.p))) := by
  have hlen := ha.len
  have hp : a.p.evs = a.events.l := rfl
  have hq : a.p.first = a.first := rfl
  refine meets_of mixedS Tryd.func64 (by kernel_rfl) x64_ok (some []) ?_
  refine bsplit_of (fun (h0 : ((a.events.l.length : Int) == 0) = true) => ?_) (fun (h0 : ((a.events.l.length : Int) == 0) = false) => ?_)
  · have hn : a.p.evs = [] := List.eq_nil_of_length_eq_zero (by rw [hp]; have := eq_of_beq h0; omega)
    rw [attB_nil hn]
    refine bsplit_of (fun (h1 : a.leaveAll = true) => ?_) (fun (h1 : a.leaveAll = false) => ⟨rb (by rw [show a.p.la = false from h1]; rfl), rfl, rfl⟩)
    refine (within_c a.first 0 4094 g).call rfl rfl rfl ?_
    exact ⟨rb (by rw [show a.p.la = true from h1, hq]; simp), rfl, rfl⟩
  have hn : 0 < a.p.evs.length := by rw [hp]; have := ne_of_beq_false h0; omega
  rw [attB_some hn, hp, hq]
  have hn : 0 < a.events.l.length := hn
  change LoopW _ _ _ _ _ _ _ _ _
  apply loop_rule [] (α := Nat) (fun k => [(19, .v (.int .i64 k))]) (fun _ => [.cells 156 (a.cells.map .v)]) (fun _ => g) (fun k => k ≤ a.events.l.length ∧ (0 < k → 1 ≤ a.first ∧ a.first + k ≤ 4095) ∧ ∀ (i : Nat) y, i < k → a.events.l[i]? = some y → evB y = true) (fun k => a.events.l.length - k) 0
  · intro x; kernel_rfl
  · exact ⟨Nat.zero_le _, fun h => absurd h (Nat.lt_irrefl 0), fun i t hi => by omega⟩
  · exact ⟨rfl, trivial⟩
  · rfl
  · rfl
  intro k hk
  obtain ⟨hk1, hk2, hk3⟩ := hk
  refine bsplit_of (fun hlt => ?_) (fun hlt => ?_)
  · have hlt' : k < a.events.l.length := by simpa using hlt
    obtain ⟨ad, x, ha', hx, hat, -⟩ := ha.elem (fun _ => rfl) hlt'
    have hm : x ∈ a.events.l := List.mem_of_getElem? hx
    refine ⟨⟨by omega, by omega⟩, ad, ha', ?_⟩
    refine ⟨[.int .i64 x], rfl, hat, ?_⟩
    refine (within_c x 0 5 g).call rfl rfl rfl ?_
    refine bsplit_of (fun h => ?_) (fun h => ?_)
    · refine ⟨rb ?_, rfl, rfl⟩
      have : a.events.l.all evB = false := by
        rw [List.all_eq_false]; exact ⟨x, hm, by simp [evB] at h ⊢; omega⟩
      rw [this]; simp
    have hxe : evB x = true := by simp [evB] at h ⊢; omega
    refine (within_c _ 1 4094 g).call rfl rfl rfl ?_
    have w : IntKind.i64.wrap (a.first + (k : Int)) = a.first + k := wrap_id (by omega) (by omega)
    refine bsplit_of (fun h => ?_) (fun h => ?_)
    · refine ⟨rb ?_, rfl, rfl⟩
      rw [w] at h
      refine (noB ?_).symm; intro hh; simp at hh h; omega
    · rw [w] at h
      refine ⟨k + 1, ⟨by omega, fun _ => by simp at h; omega, fun i y hi hy => ?_⟩, by omega, [0], rfl, ⟨vi (wrap_id (by omega) (by omega)), trivial⟩, rfl, rfl, rfl, rfl⟩
      by_cases hik : i = k
      · subst hik; rw [hx] at hy; cases hy; exact hxe
      · exact hk3 i y (by omega) hy
  · have hge : k = a.events.l.length := by simp at hlt; omega
    subst hge
    obtain ⟨b1, b2⟩ := hk2 hn
    have hall : a.events.l.all evB = true := by
      rw [List.all_eq_true]
      intro y hy
      obtain ⟨i, hi, rfl⟩ := List.getElem_of_mem hy
      exact hk3 i _ hi (List.getElem?_eq_getElem hi)
    refine ⟨rb ?_, rfl, rfl⟩
    rw [hall, decide_eq_true b1, decide_eq_true (show a.first ≤ 4094 by omega), decide_eq_true b2]
    simp
end Go.Proofs.YtfianfpmnglfnaaDoor
