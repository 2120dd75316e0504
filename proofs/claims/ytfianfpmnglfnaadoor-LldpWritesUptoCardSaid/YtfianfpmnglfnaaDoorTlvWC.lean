/- tlv.Right, tlv.Write, their references, the law TlvWrites: what each returns. Conditions: not more than 10^9 Tlvs; of the law: the variable errors.errorType is as laid. -/
import Derived.Test.YtfianfpmnglfnaaDoorXtlvw
import Derived.Test.YtfianfpmnglfnaaDoorTagRC
import Derived.Test.YtfianfpmnglfnaaDoorStrBC
import Derived.Test.YtfianfpmnglfnaaDoorRM
import Derived.Test.YtfianfpmnglfnaaDoorBaseC
namespace Go.Proofs.YtfianfpmnglfnaaDoor
open Go.Sx Go.Lib
set_option maxRecDepth 100000
set_option maxHeartbeats 8000000
attribute [local irreducible] Meets
attribute [local instance] Classical.propDecidable

abbrev TlvsOk (g : G) (s : SliceV TlvV) : Prop := s.ok 2 TlvV.cells (fun _ => True) g
def tlvP (t : TlvV) : Prop := 1 ≤ t.type_ ∧ t.type_ ≤ 127 ∧ t.text.size ≤ 511
def tlvNum (t : TlvV) : Int := t.type_ * 512 + t.text.size
def tlvS (t : TlvV) : ByteArray := beS 2 (tlvNum t).toNat ++ t.text
def tlvsS : List TlvV → ByteArray
  | [] => emp
  | t :: l => tlvS t ++ tlvsS l
noncomputable def tlvBad (l : List TlvV) : Option Nat := l.findIdx? fun t => !decide (tlvP t)
def nul2 : ByteArray := ⟨#[0, 0]⟩

theorem tlvsS_app : ∀ a b : List TlvV, tlvsS (a ++ b) = tlvsS a ++ tlvsS b
  | [], b => by show _ = emp ++ _; rw [show emp = ByteArray.empty from rfl]; simp [tlvsS]
  | t :: a, b => by rw [List.cons_append, tlvsS, tlvsS, tlvsS_app a b, ByteArray.append_assoc]
theorem tlvsS_take {l : List TlvV} {k : Nat} {t : TlvV} (h : l[k]? = some t) : tlvsS (l.take (k + 1)) = tlvsS (l.take k) ++ tlvS t := by
  rw [List.take_add_one, h, Option.toList_some, tlvsS_app]
  congr 1
  show tlvS t ++ emp = _
  rw [show emp = ByteArray.empty from rfl]; simp
theorem tlvS_size {t : TlvV} : (tlvS t).size = 2 + t.text.size := by rw [tlvS, ByteArray.size_append, beS_size]
theorem tlvsS_size : ∀ {l : List TlvV}, (∀ t ∈ l, tlvP t) → 2 * l.length ≤ (tlvsS l).size ∧ (tlvsS l).size ≤ 513 * l.length
  | [], _ => ⟨Nat.le_refl _, Nat.le_refl _⟩
  | t :: l, h => by
    have h1 := tlvsS_size (l := l) fun t ht => h t (by simp [ht])
    have h2 := (h t (by simp)).2.2
    rw [tlvsS, ByteArray.size_append, tlvS_size, List.length_cons]
    omega
theorem tlvBad_some {l : List TlvV} {k : Nat} {t : TlvV} (hx : l[k]? = some t) (h : ¬ tlvP t) (hp : ∀ (i : Nat) t, i < k → l[i]? = some t → tlvP t) : tlvBad l = some k := by
  obtain ⟨hk, rfl⟩ := List.getElem?_eq_some_iff.1 hx
  rw [tlvBad, List.findIdx?_eq_some_iff_getElem]
  exact ⟨hk, by simpa using h, fun j hj => by simpa using hp j _ hj (List.getElem?_eq_getElem (by omega))⟩
theorem tlvBad_none {l : List TlvV} (hp : ∀ (i : Nat) t, l[i]? = some t → tlvP t) : tlvBad l = none := by
  rw [tlvBad, List.findIdx?_eq_none_iff]
  intro t ht
  obtain ⟨i, hi, rfl⟩ := List.getElem_of_mem ht
  simpa using hp i _ (List.getElem?_eq_getElem hi)
theorem tlv_take {l : List TlvV} {k : Nat} (hp : ∀ (i : Nat) t, i < k → l[i]? = some t → tlvP t) : ∀ t ∈ l.take k, tlvP t := by
  intro t ht
  obtain ⟨i, hi, rfl⟩ := List.getElem_of_mem ht
  rw [List.length_take] at hi
  exact hp i _ (by omega) (by rw [List.getElem_take]; exact List.getElem?_eq_getElem (by omega))
theorem tlv_next {l : List TlvV} {k : Nat} {t : TlvV} (hx : l[k]? = some t) (h : tlvP t) (hp : ∀ (i : Nat) t, i < k → l[i]? = some t → tlvP t) : ∀ (i : Nat) t, i < k + 1 → l[i]? = some t → tlvP t := by
  intro i u hi hu
  by_cases hik : i = k
  · subst hik; rw [hx] at hu; cases hu; exact h
  · exact hp i u (by omega) hu
theorem tlvNum_rng {t : TlvV} (h : tlvP t) : 512 ≤ tlvNum t ∧ tlvNum t ≤ 65535 := by
  have := h.1; have := h.2.1; have := h.2.2
  rw [tlvNum]; omega

theorem tlvRight_c (t : TlvV) (g : G) : Tells Tryd.prog 83 [.agg (t.cells.map .v)] g (.v (.bool (decide (tlvP t)))) := by
  refine meets_of mixedW Tryd.func83 (by kernel_rfl) x83_ok (some []) ?_
  refine bsplit_of (fun h1 => ?_) (fun h1 => ⟨rbd (by simp at h1; simp [tlvP]; omega), rfl, rfl⟩)
  refine bsplit_of (fun h2 => ?_) (fun h2 => ⟨rbd (by simp at h2; simp [tlvP]; omega), rfl, rfl⟩)
  exact ⟨rbd (by simp at h1 h2; simp [tlvP]; omega), rfl, rfl⟩
theorem tlvRightR_c (t : TlvV) (g : G) : Tells Tryd.prog 81 [.agg (t.cells.map .v)] g (.v (.bool (decide (tlvP t)))) := by
  refine meets_of mixedW Tryd.func81 (by kernel_rfl) x81_ok (some []) ?_
  refine (within_c t.type_ 1 127 g).call rfl rfl rfl ?_
  refine bsplit_of (fun h1 => ?_) (fun h1 => ⟨rbd (by simp at h1; simp [tlvP]; omega), rfl, rfl⟩)
  exact ⟨rbd (by simp at h1; simp [tlvP]; omega), rfl, rfl⟩

theorem tlvWriteR_c (s : SliceV TlvV) (g : G) (hs : TlvsOk g s) (hmax : s.l.length ≤ 1000000000) : Tells Tryd.prog 29 [.v (.slice s.a s.l.length s.c)] g (match tlvBad s.l with
    | some k => .tup [.v (.string emp), .agg [.v (.int .i64 1), .v (.int .i64 k)]]
    | none => .tup [.v (.string (tlvsS s.l ++ nul2)), .agg [.v (.int .i64 0), .v (.int .i64 (-1))]]) := by
  obtain ⟨R, hR⟩ : ∃ R, tlvBad s.l = R := ⟨_, rfl⟩
  rw [hR]
  refine meets_of mixedW Tryd.func29 (by kernel_rfl) x29_ok (some []) ?_
  change LoopW _ _ _ _ _ _ _ _ _
  apply loop_rule [] (α := Nat) (fun x => [(4, .v (.string (tlvsS (s.l.take x)))), (9, .v (.int .i64 x))]) (fun _ => [.cells 40 [.v (.int .i64 0), .v (.int .i64 0)]]) (fun _ => g) (fun x => x ≤ s.l.length ∧ ∀ (i : Nat) t, i < x → s.l[i]? = some t → tlvP t) (fun x => s.l.length - x) 0
  · intro x; kernel_rfl
  · exact ⟨Nat.zero_le _, fun i t hi => by omega⟩
  · exact ⟨rfl, rfl, trivial⟩
  · rfl
  · rfl
  intro k hk
  have hsz := (tlvsS_size (tlv_take hk.2)).2
  rw [List.length_take] at hsz
  refine bsplit_of (fun hlt => ?_) (fun hlt => ?_)
  · have hlt' : k < s.l.length := by simpa using hlt
    obtain ⟨ad, t, ha, ht, hat, htok⟩ := hs.elem (fun _ => rfl) hlt'
    refine ⟨⟨by omega, by omega⟩, ad, ha, ?_⟩
    refine ⟨t.cells, rfl, hat, ?_⟩
    refine (tlvRightR_c t g).call rfl rfl rfl ?_
    refine bsplit_of (fun h1 => ?_) (fun h1 => ?_)
    · have : R = some k := by rw [← hR]; exact tlvBad_some ht (by simpa using h1) hk.2
      rw [this]
      exact ⟨rfl, rfl, rfl⟩
    · have hp : tlvP t := by simpa using h1
      have hn := tlvNum_rng hp
      have hp' := hp
      obtain ⟨p1, p2, p3⟩ := hp'
      have e1 : IntKind.i64.wrap (IntKind.i64.wrap (t.type_ * 512) + (t.text.size : Int)) = tlvNum t := by
        rw [wrap_id (a := t.type_ * 512) (by omega) (by omega)]; exact wrap_id (by omega) (by omega)
      refine (beG (IntKind.i64.wrap (IntKind.i64.wrap (t.type_ * 512) + (t.text.size : Int))) 2 g (by decide) (by rw [e1]; omega) (by rw [e1]; omega)).call rfl rfl rfl ?_
      refine ⟨by simp only [beS_size]; omega, ?_⟩
      refine ⟨by simp only [ByteArray.size_append, beS_size]; omega, ?_⟩
      refine ⟨k + 1, ⟨by omega, tlv_next ht hp hk.2⟩, by omega, [0], rfl, ⟨vs ?_, vi (wrap_id (by omega) (by omega)), trivial⟩, rfl, rfl, rfl, rfl⟩
      rw [e1, tlvsS_take ht, tlvS]
  · have : k = s.l.length := by simp at hlt; omega
    subst this
    have hall : ∀ (i : Nat) t, s.l[i]? = some t → tlvP t := fun i t ht => hk.2 i t (List.getElem?_eq_some_iff.1 ht).1 ht
    have : R = none := by rw [← hR]; exact tlvBad_none hall
    rw [this]
    refine ⟨by show _ + 2 ≤ _; omega, ?_⟩
    refine (good_c g).call rfl rfl rfl ?_
    refine ⟨?_, rfl, rfl⟩
    rw [List.take_length]
    rfl

theorem tlvWrite_b (s : SliceV TlvV) (g : G) (hs : TlvsOk g s) (hmax : s.l.length ≤ 1000000000) : Meets Tryd.prog 31 [.v (.slice s.a s.l.length s.c)] [] g (fun o L' g' => match tlvBad s.l with
    | some k => o = .ret (.tup [.v (.string emp), .iface 136 (.ptr 0 0)]) ∧ L' = [.cells 138 [.v (.int .i64 1), .v (.int .i64 k)]] ∧ g' = g
    | none => o = .ret (.tup [.v (.string (tlvsS s.l ++ nul2)), .v .nilIface]) ∧ L' = [] ∧ g' = g) := by
  obtain ⟨R, hR⟩ : ∃ R, tlvBad s.l = R := ⟨_, rfl⟩
  rw [hR]
  refine meets_of mixedW Tryd.func31 (by kernel_rfl) x31_ok none ?_
  change LoopW _ _ _ _ _ _ _ _ _
  refine loop_gone ?_
  apply loop_rule [1] (α := Nat × Nat × List Value) (fun y => [(9, .v (.int .i64 y.1))]) (fun y => match y.1 with
      | 0 => [.cells 183 [.v (.pointer none), .v (.slice none 0 0)], .gone]
      | k + 1 => [.cells 183 [.ptr 0 0, .slc 1 0 (tlvsS (s.l.take (k + 1))).size y.2.1], .vals 5 (strCells (tlvsS (s.l.take (k + 1))) ++ y.2.2)]) (fun _ => g)
    (fun y => y.1 ≤ s.l.length ∧ (∀ (i : Nat) t, i < y.1 → s.l[i]? = some t → tlvP t) ∧ (0 < y.1 → (tlvsS (s.l.take y.1)).size + y.2.2.length = y.2.1 ∧ y.2.1 ≤ 9223372036854775807)) (fun y => s.l.length - y.1) (0, 0, [])
  · intro x
    obtain ⟨k, cap, sp⟩ := x
    cases k <;> kernel_rfl
  · exact ⟨Nat.zero_le _, fun i t hi => by simp at hi, fun h => absurd h (by decide)⟩
  · exact ⟨rfl, trivial⟩
  · rfl
  · rfl
  intro y hy
  obtain ⟨k, cap, sp⟩ := y
  obtain ⟨hle, hp, hc⟩ := hy
  dsimp only at hle hp hc
  have hsz := tlvsS_size (tlv_take hp)
  rw [List.length_take] at hsz
  rcases k with _ | k
  · refine bsplit_of (fun hlt => ?_) (fun hlt => ?_)
    ·
      have hlt' : 0 < s.l.length := by have := of_decide_eq_true hlt; omega
      obtain ⟨ad, t, ha, ht, hat, htok⟩ := hs.elem (fun _ => rfl) hlt'
      refine ⟨⟨by omega, by omega⟩, ad, ha, ?_⟩
      refine ⟨t.cells, rfl, hat, ?_⟩
      refine (tlvRight_c t g).call rfl rfl rfl ?_
      refine bsplit_of (fun h1 => ?_) (fun h1 => ?_)
      · have : R = some (0) := by rw [← hR]; exact tlvBad_some ht (by simpa using h1) hp
        rw [this]
        exact ⟨[3], rfl, rfl, rfl⟩
      have hpt : tlvP t := by simpa using h1
      have hn := tlvNum_rng hpt
      have hpt' := hpt
      obtain ⟨p1, p2, p3⟩ := hpt'
      have e0 : IntKind.i64.wrap (t.type_ * 2 ^ (min 9 IntKind.i64.bits)) = t.type_ * 512 := by
        rw [shl64 (by decide)]; exact wrap_id (by omega) (by omega)
      have e1 : IntKind.i64.wrap ((BitVec.ofInt IntKind.i64.bits (IntKind.i64.wrap (t.type_ * 2 ^ (min 9 IntKind.i64.bits))) ||| BitVec.ofInt IntKind.i64.bits (t.text.size : Int)).toNat : Int) = tlvNum t := by
        rw [e0]
        exact orI 9 t.type_ (by omega) (by omega) (by omega) (by omega) (by omega) (by decide)
      refine ⟨by decide, ?_⟩
      refine (mustG (IntKind.i64.wrap ((BitVec.ofInt IntKind.i64.bits (IntKind.i64.wrap (t.type_ * 2 ^ (min 9 IntKind.i64.bits))) ||| BitVec.ofInt IntKind.i64.bits (t.text.size : Int)).toNat : Int)) 2 g (by decide) (by decide) (by rw [e1]; omega) (by rw [e1]; omega) (by rw [e1]; omega)).call rfl rfl rfl ?_
      have es : beS 2 (IntKind.i64.wrap ((BitVec.ofInt IntKind.i64.bits (IntKind.i64.wrap (t.type_ * 2 ^ (min 9 IntKind.i64.bits))) ||| BitVec.ofInt IntKind.i64.bits (t.text.size : Int)).toNat : Int)).toNat ++ t.text = tlvS t := by rw [e1, tlvS]
      refine ⟨by simp only [beS_size]; omega, ?_⟩
      have e2 := tlvS_size (t := t)
      have e3 := tlvsS_take ht
      refine (write0 (beS 2 (IntKind.i64.wrap ((BitVec.ofInt IntKind.i64.bits (IntKind.i64.wrap (t.type_ * 2 ^ (min 9 IntKind.i64.bits))) ||| BitVec.ofInt IntKind.i64.bits (t.text.size : Int)).toNat : Int)).toNat ++ t.text) g (by rw [es]; omega) (by rw [es]; omega)).callS [0] 3 rfl rfl rfl rfl ?_
      rintro o L1 g' ⟨cap, sp, hc1, rfl, rfl, rfl⟩ _
      have ez : tlvsS (s.l.take 0) = ByteArray.empty := rfl
      rw [ez, ByteArray.empty_append] at e3
      have e4 : tlvsS (s.l.take (0 + 1)) = (beS 2 (IntKind.i64.wrap ((BitVec.ofInt IntKind.i64.bits (IntKind.i64.wrap (t.type_ * 2 ^ (min 9 IntKind.i64.bits))) ||| BitVec.ofInt IntKind.i64.bits (t.text.size : Int)).toNat : Int)).toNat ++ t.text) := by rw [es, e3]
      refine ⟨(1, cap, sp), ⟨by show 1 ≤ _; omega, tlv_next ht hpt hp, fun _ => by show (tlvsS (s.l.take (0 + 1))).size + _ = _ ∧ _; rw [e4]; exact hc1⟩, by show s.l.length - 1 < s.l.length - 0; omega, [0, 3], rfl, ⟨vi (wrap_id (by omega) (by omega)), trivial⟩, ?_, rfl, rfl, rfl⟩
      show _ = ([.cells 183 [.ptr 0 0, .slc 3 0 (tlvsS (s.l.take (0 + 1))).size cap], .vals 5 (strCells (tlvsS (s.l.take (0 + 1))) ++ sp)] : List Chunk)
      rw [e4]
      rfl
    · have hl : s.l.length = 0 := by have := of_decide_eq_false hlt; omega
      have hnil : s.l = [] := List.eq_nil_of_length_eq_zero hl
      have : R = none := by rw [← hR, hnil]; rfl
      rw [this]
      refine (string0 g).callS [0] 2 rfl rfl rfl rfl ?_
      rintro o L1 g' ⟨rfl, rfl, rfl⟩ _
      refine ⟨by decide, ?_⟩
      refine ⟨[], ?_, rfl, rfl⟩
      rw [hnil]
      rfl
  · refine bsplit_of (fun hlt => ?_) (fun hlt => ?_)
    ·
      have hlt' : k + 1 < s.l.length := by have := of_decide_eq_true hlt; omega
      obtain ⟨ad, t, ha, ht, hat, htok⟩ := hs.elem (fun _ => rfl) hlt'
      refine ⟨⟨by omega, by omega⟩, ad, ha, ?_⟩
      refine ⟨t.cells, rfl, hat, ?_⟩
      refine (tlvRight_c t g).call rfl rfl rfl ?_
      refine bsplit_of (fun h1 => ?_) (fun h1 => ?_)
      · have : R = some (k + 1) := by rw [← hR]; exact tlvBad_some ht (by simpa using h1) hp
        rw [this]
        exact ⟨[3], rfl, rfl, rfl⟩
      have hpt : tlvP t := by simpa using h1
      have hn := tlvNum_rng hpt
      have hpt' := hpt
      obtain ⟨p1, p2, p3⟩ := hpt'
      have e0 : IntKind.i64.wrap (t.type_ * 2 ^ (min 9 IntKind.i64.bits)) = t.type_ * 512 := by
        rw [shl64 (by decide)]; exact wrap_id (by omega) (by omega)
      have e1 : IntKind.i64.wrap ((BitVec.ofInt IntKind.i64.bits (IntKind.i64.wrap (t.type_ * 2 ^ (min 9 IntKind.i64.bits))) ||| BitVec.ofInt IntKind.i64.bits (t.text.size : Int)).toNat : Int) = tlvNum t := by
        rw [e0]
        exact orI 9 t.type_ (by omega) (by omega) (by omega) (by omega) (by omega) (by decide)
      refine ⟨by decide, ?_⟩
      refine (mustG (IntKind.i64.wrap ((BitVec.ofInt IntKind.i64.bits (IntKind.i64.wrap (t.type_ * 2 ^ (min 9 IntKind.i64.bits))) ||| BitVec.ofInt IntKind.i64.bits (t.text.size : Int)).toNat : Int)) 2 g (by decide) (by decide) (by rw [e1]; omega) (by rw [e1]; omega) (by rw [e1]; omega)).call rfl rfl rfl ?_
      have es : beS 2 (IntKind.i64.wrap ((BitVec.ofInt IntKind.i64.bits (IntKind.i64.wrap (t.type_ * 2 ^ (min 9 IntKind.i64.bits))) ||| BitVec.ofInt IntKind.i64.bits (t.text.size : Int)).toNat : Int)).toNat ++ t.text = tlvS t := by rw [e1, tlvS]
      refine ⟨by simp only [beS_size]; omega, ?_⟩
      have e2 := tlvS_size (t := t)
      have e3 := tlvsS_take ht
      have e5 : tlvsS (s.l.take (k + 1)) ++ (beS 2 (IntKind.i64.wrap ((BitVec.ofInt IntKind.i64.bits (IntKind.i64.wrap (t.type_ * 2 ^ (min 9 IntKind.i64.bits))) ||| BitVec.ofInt IntKind.i64.bits (t.text.size : Int)).toNat : Int)).toNat ++ t.text) = tlvsS (s.l.take (k + 1 + 1)) := by rw [es, e3]
      refine (write1 (tlvsS (s.l.take (k + 1))) (beS 2 (IntKind.i64.wrap ((BitVec.ofInt IntKind.i64.bits (IntKind.i64.wrap (t.type_ * 2 ^ (min 9 IntKind.i64.bits))) ||| BitVec.ofInt IntKind.i64.bits (t.text.size : Int)).toNat : Int)).toNat ++ t.text) cap sp g (hc (by omega)).1 (hc (by omega)).2 (by rw [es]; omega)).callS [0, 1] 3 rfl rfl rfl rfl ?_
      rintro o L1 g' ⟨cap, sp, hc1, rfl, rfl, rfl⟩ _
      rw [e5] at hc1
      refine ⟨(k + 1 + 1, cap, sp), ⟨hlt', tlv_next ht hpt hp, fun _ => hc1⟩, by show s.l.length - (k + 1 + 1) < s.l.length - (k + 1); omega, [0, 3], rfl, ⟨vi (wrap_id (by omega) (by omega)), trivial⟩, ?_, rfl, rfl, rfl⟩
      show _ = ([.cells 183 [.ptr 0 0, .slc 3 0 (tlvsS (s.l.take (k + 1 + 1))).size cap], .vals 5 (strCells (tlvsS (s.l.take (k + 1 + 1))) ++ sp)] : List Chunk)
      rw [← e5]
      rfl
    · have hl : s.l.length = k + 1 := by have := of_decide_eq_false hlt; omega
      have hall : ∀ (i : Nat) t, s.l[i]? = some t → tlvP t := fun i t ht => hp i t (by have := (List.getElem?_eq_some_iff.1 ht).1; omega) ht
      have : R = none := by rw [← hR]; exact tlvBad_none hall
      rw [this]
      refine (string1 (tlvsS (s.l.take (k + 1))) cap sp g (by omega) (hc (by omega)).1 (by omega)).callS [0, 1] 2 rfl rfl rfl rfl ?_
      rintro o L1 g' ⟨rfl, ⟨ob, rfl⟩, rfl⟩ _
      refine ⟨by show _ + 2 ≤ _; omega, ?_⟩
      refine ⟨[], ?_, rfl, rfl⟩
      rw [List.take_of_length_le (by omega)]
      rfl

theorem tlvWrite_c (s : SliceV TlvV) (g : G) (hs : TlvsOk g s) (hmax : s.l.length ≤ 1000000000) : Meets Tryd.prog 31 [.v (.slice s.a s.l.length s.c)] [] g (fun o L' g' => match tlvBad s.l with
    | some k => ∃ v, o = .ret (.tup [.v (.string emp), .v v]) ∧ L' = [] ∧ errAt g' v (some (1, k)) ∧ G.le g g'
    | none => o = .ret (.tup [.v (.string (tlvsS s.l ++ nul2)), .v .nilIface]) ∧ L' = [] ∧ G.le g g') := by
  refine Meets.freeze (tlvWrite_b s g hs hmax) fun o L' g' h => ?_
  rcases hb : tlvBad s.l with _ | k
  · rw [hb] at h
    obtain ⟨rfl, rfl, rfl⟩ := h
    exact .inl ⟨rfl, rfl, le_refl _⟩
  · rw [hb] at h
    obtain ⟨rfl, rfl, rfl⟩ := h
    exact .inr ⟨[], 138, [.int .i64 1, .int .i64 k], rfl, by simp, fun b g'' hle hb => ⟨.iface 136 (.pointer (some ⟨b, 0, none⟩)), rfl, rfl, ⟨⟨b, 0, none⟩, rfl, at_frz hb⟩, hle⟩⟩

end Go.Proofs.YtfianfpmnglfnaaDoor
