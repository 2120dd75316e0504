/- ref.MstRight: what it returns. Conditions: the slices lie where they say. -/
import Derived.Test.YtmeoalpmicndbaaDoorMstC
namespace Go.Proofs.YtmeoalpmicndbaaDoor
open Go.Sx Go.Lib Go.RowKit
set_option maxRecDepth 100000
set_option maxHeartbeats 8000000
attribute [local irreducible] Meets
attribute [local instance] Classical.propDecidable

theorem nb_of {p : Prop} {_ : Decidable p} (h : (!decide p) = true) : ¬ p := by simpa using h
theorem yb_of {p : Prop} {_ : Decidable p} (h : (!decide p) = false) : p := by simpa using h
theorem mstRightR_c (m : MstV) (g : G) (hm : m.ok g) : Tells Tryd.prog 35 [.agg (m.cells.map .v)] g (.v (.bool (decide (mstP m)))) := by
  have no : ¬ mstP m → Out.ret (.v (.bool false)) = .ret (.v (.bool (decide (mstP m)))) := fun h => by rw [decide_eq_false h]
  refine meets_of mixedS Tryd.func35 (by kernel_rfl) x35_ok (some []) ?_
  have hio := hm.2.2.2.2.2.2.2
  have hlen := hio.len
  have hsk : m.name.size ≤ 9223372036854775807 := by have := hm.2.1; unfold sok maxLen at this; omega
  refine bsplit_of (fun (h : (m.base.kind != 3) = true) => ⟨no fun hq => by rw [hq.1] at h; exact absurd h (by decide), rfl, rfl⟩) (fun (h1 : (m.base.kind != 3) = false) => ?_)
  refine (bpduRightR_c m.base g).call rfl rfl rfl ?_
  refine bsplit_of (fun (h : (!bpduB m.base) = true) => ⟨no fun hq => by rw [hq.2.1] at h; exact absurd h (by decide), rfl, rfl⟩) (fun (h2 : (!bpduB m.base) = false) => ?_)
  refine bsplit_of (fun (h : decide ((m.name.size : Int) > 32) = true) => ⟨no fun hq => by have h := of_decide_eq_true h; have := hq.2.2.1; omega, rfl, rfl⟩) (fun (h3 : decide ((m.name.size : Int) > 32) = false) => ?_)
  have h3 := of_decide_eq_false h3
  refine bsplit_of (fun (hne : (!(m.name.toList == (⟨#[]⟩ : ByteArray).toList)) = true) => ?_) (fun (hne : (!(m.name.toList == (⟨#[]⟩ : ByteArray).toList)) = false) => ?_)
  · have hpos : 0 < m.name.size := by
      rcases Nat.eq_zero_or_pos m.name.size with h0 | h0
      · have : m.name = ⟨#[]⟩ := by apply ByteArray.ext; exact Array.eq_empty_of_size_eq_zero h0
        rw [this] at hne; simp at hne
      · exact h0
    have hw : IntKind.i64.wrap ((m.name.size : Int) - 1) = ((m.name.size - 1 : Nat) : Int) := by rw [wrap_id (by omega) (by omega)]; omega
    refine ⟨⟨by rw [hw]; omega, by rw [hw]; omega⟩, ?_⟩
    have el : (((m.name.data.toList.getD (IntKind.i64.wrap ((m.name.size : Int) - 1)).toNat 0).toNat : Int) == 0) = decide (endsZ m.name) := by
      rw [hw, Int.toNat_natCast]; exact ends_last hpos
    refine bsplit_of (fun h => ⟨no fun hq => hq.2.2.2.1 (of_decide_eq_true (el.symm.trans h)), rfl, rfl⟩) (fun h4 => ?_)
    have hnz : ¬ endsZ m.name := of_decide_eq_false (el.symm.trans h4)
    refine (within_c m.rev 0 65535 g).call rfl rfl rfl ?_
    refine bsplit_of (fun (h : (!decide (0 ≤ m.rev ∧ m.rev ≤ 65535)) = true) => ⟨no fun hq => nb_of h hq.2.2.2.2.1, rfl, rfl⟩) (fun (h5 : (!decide (0 ≤ m.rev ∧ m.rev ≤ 65535)) = false) => ?_)
    refine bsplit_of (fun (h : ((m.digest.size : Int) != 16) = true) => ⟨no fun hq => by rw [hq.2.2.2.2.2.1] at h; exact absurd h (by decide), rfl, rfl⟩) (fun (h6 : ((m.digest.size : Int) != 16) = false) => ?_)
    refine (within_c m.cost 0 4294967295 g).call rfl rfl rfl ?_
    refine bsplit_of (fun (h : (!decide (0 ≤ m.cost ∧ m.cost ≤ 4294967295)) = true) => ⟨no fun hq => nb_of h hq.2.2.2.2.2.2.1, rfl, rfl⟩) (fun (h7 : (!decide (0 ≤ m.cost ∧ m.cost ≤ 4294967295)) = false) => ?_)
    refine (bridgeRight_c m.bridge g).call rfl rfl rfl ?_
    refine bsplit_of (fun (h : (!decide (bridgeP m.bridge)) = true) => ⟨no fun hq => nb_of h hq.2.2.2.2.2.2.2.1, rfl, rfl⟩) (fun (h8 : (!decide (bridgeP m.bridge)) = false) => ?_)
    refine (within_c m.hops 0 255 g).call rfl rfl rfl ?_
    refine bsplit_of (fun (h : (!decide (0 ≤ m.hops ∧ m.hops ≤ 255)) = true) => ⟨no fun hq => nb_of h hq.2.2.2.2.2.2.2.2.1, rfl, rfl⟩) (fun (h9 : (!decide (0 ≤ m.hops ∧ m.hops ≤ 255)) = false) => ?_)
    refine bsplit_of (fun (h : decide ((m.insts.l.length : Int) > 64) = true) => ⟨no fun hq => by have h := of_decide_eq_true h; have := hq.2.2.2.2.2.2.2.2.2.1; omega, rfl, rfl⟩) (fun (h10 : decide ((m.insts.l.length : Int) > 64) = false) => ?_)
    have h10 := of_decide_eq_false h10
    have yes : (∀ x ∈ m.insts.l, instP x) → mstP m := fun hall => ⟨by simpa using h1, by simpa using h2, by omega, hnz, yb_of h5, by simp at h6; omega, yb_of h7, yb_of h8, yb_of h9, by omega, hall⟩
    change LoopW _ _ _ _ _ _ _ _ _
    apply loop_rule [] (α := Nat) (fun k => [(75, .v (.int .i64 k))]) (fun _ => [.cells 68 (m.cells.map .v)]) (fun _ => g) (fun k => k ≤ m.insts.l.length ∧ ∀ (i : Nat) y, i < k → m.insts.l[i]? = some y → instP y) (fun k => m.insts.l.length - k) 0
    · intro x; kernel_rfl
    · exact ⟨Nat.zero_le _, fun i t hi => by omega⟩
    · exact ⟨rfl, trivial⟩
    · rfl
    · rfl
    intro k hk
    refine bsplit_of (fun hlt => ?_) (fun hlt => ?_)
    · have hlt' : k < m.insts.l.length := by simpa using hlt
      obtain ⟨ad, x, ha, hx, hat, -⟩ := hio.elem (fun _ => rfl) hlt'
      have bad : ¬ instP x → ¬ mstP m := fun h hq => h (hq.2.2.2.2.2.2.2.2.2.2 x (List.mem_of_getElem? hx))
      refine ⟨⟨by omega, by omega⟩, ad, ha, ?_⟩
      refine ⟨x.cells, rfl, hat, ?_⟩
      refine (within_c x.flags.role 0 3 g).call rfl rfl rfl ?_
      refine bsplit_of (fun (h : (!decide (0 ≤ x.flags.role ∧ x.flags.role ≤ 3)) = true) => ⟨no (bad fun hq => nb_of h ((flagsOk_iff _).1 hq.1)), rfl, rfl⟩) (fun (q1 : (!decide (0 ≤ x.flags.role ∧ x.flags.role ≤ 3)) = false) => ?_)
      refine (bridgeRight_c x.root g).call rfl rfl rfl ?_
      refine bsplit_of (fun (h : (!decide (bridgeP x.root)) = true) => ⟨no (bad fun hq => nb_of h hq.2.1), rfl, rfl⟩) (fun (q2 : (!decide (bridgeP x.root)) = false) => ?_)
      refine (within_c x.cost 0 4294967295 g).call rfl rfl rfl ?_
      refine bsplit_of (fun (h : (!decide (0 ≤ x.cost ∧ x.cost ≤ 4294967295)) = true) => ⟨no (bad fun hq => nb_of h hq.2.2.1), rfl, rfl⟩) (fun (q3 : (!decide (0 ≤ x.cost ∧ x.cost ≤ 4294967295)) = false) => ?_)
      refine (within_c x.bridge 0 15 g).call rfl rfl rfl ?_
      refine bsplit_of (fun (h : (!decide (0 ≤ x.bridge ∧ x.bridge ≤ 15)) = true) => ⟨no (bad fun hq => nb_of h hq.2.2.2.1), rfl, rfl⟩) (fun (q4 : (!decide (0 ≤ x.bridge ∧ x.bridge ≤ 15)) = false) => ?_)
      refine (within_c x.port 0 15 g).call rfl rfl rfl ?_
      refine bsplit_of (fun (h : (!decide (0 ≤ x.port ∧ x.port ≤ 15)) = true) => ⟨no (bad fun hq => nb_of h hq.2.2.2.2.1), rfl, rfl⟩) (fun (q5 : (!decide (0 ≤ x.port ∧ x.port ≤ 15)) = false) => ?_)
      refine (within_c x.hops 0 255 g).call rfl rfl rfl ?_
      refine bsplit_of (fun (h : (!decide (0 ≤ x.hops ∧ x.hops ≤ 255)) = true) => ⟨no (bad fun hq => nb_of h hq.2.2.2.2.2), rfl, rfl⟩) (fun (q6 : (!decide (0 ≤ x.hops ∧ x.hops ≤ 255)) = false) => ?_)
      have hxp : instP x := ⟨(flagsOk_iff _).2 (yb_of q1), yb_of q2, yb_of q3, yb_of q4, yb_of q5, yb_of q6⟩
      refine ⟨k + 1, ⟨by omega, fun i y hi hy => ?_⟩, by omega, [0], rfl, ⟨vi (wrap_id (by omega) (by omega)), trivial⟩, rfl, rfl, rfl, rfl⟩
      by_cases hik : i = k
      · subst hik; rw [hx] at hy; cases hy; exact hxp
      · exact hk.2 i y (by omega) hy
    · have hge : m.insts.l.length ≤ k := by simpa using hlt
      refine ⟨rb (decide_eq_true (yes fun x hx => ?_)), rfl, rfl⟩
      obtain ⟨i, hi, rfl⟩ := List.getElem_of_mem hx
      exact hk.2 i _ (by omega) (List.getElem?_eq_getElem hi)
  · have hnz : ¬ endsZ m.name := by
      rw [str_beq] at hne
      have : m.name = ⟨#[]⟩ := by simpa using hne
      rintro ⟨l, hl⟩
      rw [this] at hl
      simp at hl
    refine (within_c m.rev 0 65535 g).call rfl rfl rfl ?_
    refine bsplit_of (fun (h : (!decide (0 ≤ m.rev ∧ m.rev ≤ 65535)) = true) => ⟨no fun hq => nb_of h hq.2.2.2.2.1, rfl, rfl⟩) (fun (h5 : (!decide (0 ≤ m.rev ∧ m.rev ≤ 65535)) = false) => ?_)
    refine bsplit_of (fun (h : ((m.digest.size : Int) != 16) = true) => ⟨no fun hq => by rw [hq.2.2.2.2.2.1] at h; exact absurd h (by decide), rfl, rfl⟩) (fun (h6 : ((m.digest.size : Int) != 16) = false) => ?_)
    refine (within_c m.cost 0 4294967295 g).call rfl rfl rfl ?_
    refine bsplit_of (fun (h : (!decide (0 ≤ m.cost ∧ m.cost ≤ 4294967295)) = true) => ⟨no fun hq => nb_of h hq.2.2.2.2.2.2.1, rfl, rfl⟩) (fun (h7 : (!decide (0 ≤ m.cost ∧ m.cost ≤ 4294967295)) = false) => ?_)
    refine (bridgeRight_c m.bridge g).call rfl rfl rfl ?_
    refine bsplit_of (fun (h : (!decide (bridgeP m.bridge)) = true) => ⟨no fun hq => nb_of h hq.2.2.2.2.2.2.2.1, rfl, rfl⟩) (fun (h8 : (!decide (bridgeP m.bridge)) = false) => ?_)
    refine (within_c m.hops 0 255 g).call rfl rfl rfl ?_
    refine bsplit_of (fun (h : (!decide (0 ≤ m.hops ∧ m.hops ≤ 255)) = true) => ⟨no fun hq => nb_of h hq.2.2.2.2.2.2.2.2.1, rfl, rfl⟩) (fun (h9 : (!decide (0 ≤ m.hops ∧ m.hops ≤ 255)) = false) => ?_)
    refine bsplit_of (fun (h : decide ((m.insts.l.length : Int) > 64) = true) => ⟨no fun hq => by have h := of_decide_eq_true h; have := hq.2.2.2.2.2.2.2.2.2.1; omega, rfl, rfl⟩) (fun (h10 : decide ((m.insts.l.length : Int) > 64) = false) => ?_)
    have h10 := of_decide_eq_false h10
    have yes : (∀ x ∈ m.insts.l, instP x) → mstP m := fun hall => ⟨by simpa using h1, by simpa using h2, by omega, hnz, yb_of h5, by simp at h6; omega, yb_of h7, yb_of h8, yb_of h9, by omega, hall⟩
    change LoopW _ _ _ _ _ _ _ _ _
    apply loop_rule [] (α := Nat) (fun k => [(75, .v (.int .i64 k))]) (fun _ => [.cells 68 (m.cells.map .v)]) (fun _ => g) (fun k => k ≤ m.insts.l.length ∧ ∀ (i : Nat) y, i < k → m.insts.l[i]? = some y → instP y) (fun k => m.insts.l.length - k) 0
    · intro x; kernel_rfl
    · exact ⟨Nat.zero_le _, fun i t hi => by omega⟩
    · exact ⟨rfl, trivial⟩
    · rfl
    · rfl
    intro k hk
    refine bsplit_of (fun hlt => ?_) (fun hlt => ?_)
    · have hlt' : k < m.insts.l.length := by simpa using hlt
      obtain ⟨ad, x, ha, hx, hat, -⟩ := hio.elem (fun _ => rfl) hlt'
      have bad : ¬ instP x → ¬ mstP m := fun h hq => h (hq.2.2.2.2.2.2.2.2.2.2 x (List.mem_of_getElem? hx))
      refine ⟨⟨by omega, by omega⟩, ad, ha, ?_⟩
      refine ⟨x.cells, rfl, hat, ?_⟩
      refine (within_c x.flags.role 0 3 g).call rfl rfl rfl ?_
      refine bsplit_of (fun (h : (!decide (0 ≤ x.flags.role ∧ x.flags.role ≤ 3)) = true) => ⟨no (bad fun hq => nb_of h ((flagsOk_iff _).1 hq.1)), rfl, rfl⟩) (fun (q1 : (!decide (0 ≤ x.flags.role ∧ x.flags.role ≤ 3)) = false) => ?_)
      refine (bridgeRight_c x.root g).call rfl rfl rfl ?_
      refine bsplit_of (fun (h : (!decide (bridgeP x.root)) = true) => ⟨no (bad fun hq => nb_of h hq.2.1), rfl, rfl⟩) (fun (q2 : (!decide (bridgeP x.root)) = false) => ?_)
      refine (within_c x.cost 0 4294967295 g).call rfl rfl rfl ?_
      refine bsplit_of (fun (h : (!decide (0 ≤ x.cost ∧ x.cost ≤ 4294967295)) = true) => ⟨no (bad fun hq => nb_of h hq.2.2.1), rfl, rfl⟩) (fun (q3 : (!decide (0 ≤ x.cost ∧ x.cost ≤ 4294967295)) = false) => ?_)
      refine (within_c x.bridge 0 15 g).call rfl rfl rfl ?_
      refine bsplit_of (fun (h : (!decide (0 ≤ x.bridge ∧ x.bridge ≤ 15)) = true) => ⟨no (bad fun hq => nb_of h hq.2.2.2.1), rfl, rfl⟩) (fun (q4 : (!decide (0 ≤ x.bridge ∧ x.bridge ≤ 15)) = false) => ?_)
      refine (within_c x.port 0 15 g).call rfl rfl rfl ?_
      refine bsplit_of (fun (h : (!decide (0 ≤ x.port ∧ x.port ≤ 15)) = true) => ⟨no (bad fun hq => nb_of h hq.2.2.2.2.1), rfl, rfl⟩) (fun (q5 : (!decide (0 ≤ x.port ∧ x.port ≤ 15)) = false) => ?_)
      refine (within_c x.hops 0 255 g).call rfl rfl rfl ?_
      refine bsplit_of (fun (h : (!decide (0 ≤ x.hops ∧ x.hops ≤ 255)) = true) => ⟨no (bad fun hq => nb_of h hq.2.2.2.2.2), rfl, rfl⟩) (fun (q6 : (!decide (0 ≤ x.hops ∧ x.hops ≤ 255)) = false) => ?_)
      have hxp : instP x := ⟨(flagsOk_iff _).2 (yb_of q1), yb_of q2, yb_of q3, yb_of q4, yb_of q5, yb_of q6⟩
      refine ⟨k + 1, ⟨by omega, fun i y hi hy => ?_⟩, by omega, [0], rfl, ⟨vi (wrap_id (by omega) (by omega)), trivial⟩, rfl, rfl, rfl, rfl⟩
      by_cases hik : i = k
      · subst hik; rw [hx] at hy; cases hy; exact hxp
      · exact hk.2 i y (by omega) hy
    · have hge : m.insts.l.length ≤ k := by simpa using hlt
      refine ⟨rb (decide_eq_true (yes fun x hx => ?_)), rfl, rfl⟩
      obtain ⟨i, hi, rfl⟩ := List.getElem_of_mem hx
      exact hk.2 i _ (by omega) (List.getElem?_eq_getElem hi)
end Go.Proofs.YtmeoalpmicndbaaDoor
