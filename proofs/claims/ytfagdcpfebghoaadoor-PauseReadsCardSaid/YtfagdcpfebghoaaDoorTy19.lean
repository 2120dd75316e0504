/- A symbolic executor of my own, part 19: a range over a map. Conditions: none; it speaks of any program. -/
import Derived.Test.YtfagdcpfebghoaaDoorTy18
import Derived.Maps.RangeRun
namespace Go.Sx

section
variable {P : Program} {L L' : List Chunk} {g : G} {σ : Nat → Nat} {w : World} {chk : List Nat → List Nat → Bool} {K : Out → List Chunk → G → Prop}

/-- The next entry, whichever is drawn; or the end. -/
theorem prim_next {it : Operand} {b mb clock : Nat} {seen : Array Nat} {es : Array MapEntry} (hb : L[b]? = some (.raw (.mapIter (some mb) clock seen clock))) (hg : g mb = some (.map es clock)) (hborn : ∀ x ∈ es.toList, x.born < clock) (hc : chk [] [b] = true)
    (k0 : (∀ x ∈ es.toList, x.born ∈ seen.toList) → K (.ret (.v (.tuple #[.bool false]))) L g)
    (k1 : ∀ x ∈ es.toList, x.born ∉ seen.toList → K (.ret (.v (.tuple #[.bool true, x.key, x.val]))) (L.set b (.raw (.mapIter (some mb) clock (seen.push x.born) clock))) g) :
    PrimX P (.next it false) [it] [.ptr b 0] L g chk K := by
  refine PrimX_of [] [b] hc fun o L' σ a w ho hl hm hsc hv hev _ hids => ?_
  have e1 : a.eval it = .pointer (some ⟨σ b, 0, none⟩) := hev (it, .ptr b 0) (by simp)
  have hbL : L'[b]? = some (.raw (.mapIter (some mb) clock seen clock)) := by rw [hids b (by simp), hb]
  have hw := hm.lo b _ _ hbL rfl
  have hlive := live_of hbL rfl
  have hmap := hm.im _ _ hg
  unfold Oper.wp
  rcases run_next_at (P := P) w o.type (σ b) mb clock clock seen es clock hw hmap hborn (Nat.le_refl _) with ⟨h0, hr⟩ | ⟨e, he, w1, hw1, hr⟩
  · have hr' : (execOp a.eval o).run P w = .ok (.value (.tuple #[.bool false])) w := by
      simp only [execOp, ho, e1, Sem.run_bind, hr, Result.andThen_ok, Sem.run_pure]
    rw [hr']
    refine ⟨_, .v (.tuple #[.bool false]), L, g, σ, rfl, fun _ => rfl, rfl, ⟨Nat.le_refl _, fun _ _ _ => rfl⟩, ?_, hsc, ?_, k0 fun x hx => ?_⟩
    · rw [redo_nil hl hids]; exact hm
    · rw [redo_nil hl hids]; exact Goes.refl _ _ _ _
    · refine Classical.byContradiction fun hn => ?_
      have : x ∈ (leftOf es seen).toList := by
        simp only [leftOf, Array.toList_filter, List.mem_filter]
        refine ⟨hx, ?_⟩
        simpa using hn
      have h1 := List.length_pos_of_mem this
      simp at h1
      omega
  · have hmem : e ∈ es.toList ∧ e.born ∉ seen.toList := by
      simp only [leftOf, Array.toList_filter, List.mem_filter] at he
      exact ⟨he.1, by simpa using he.2⟩
    have hr' : (execOp a.eval o).run P w = .ok (.value (.tuple #[.bool true, e.key, e.val])) (ChangeMaps.setBlock w1 (σ b) (.mapIter (some mb) clock (seen.push e.born) clock)) := by
      simp only [execOp, ho, e1, Sem.run_bind, hr, Result.andThen_ok, Sem.run_pure]
    rw [hr']
    have hrd : redo [b] 0 L' (L.set b (.raw (.mapIter (some mb) clock (seen.push e.born) clock))) = L'.set b (.raw (.mapIter (some mb) clock (seen.push e.born) clock)) := redo_set hl.1 (hids b (by simp))
    have hm2 := hm.write hlive (.raw (.mapIter (some mb) clock (seen.push e.born) clock)) _ rfl
    have hg2 := (Goes.refl σ L' g w).write hlive (.raw (.mapIter (some mb) clock (seen.push e.born) clock)) (.mapIter (some mb) clock (seen.push e.born) clock)
    refine ⟨_, .v (.tuple #[.bool true, e.key, e.val]), _, g, σ, rfl, fun _ => rfl, rfl, ⟨by simp, fun k hk hn => List.getElem?_set_ne (fun e => hn (by simp [e]))⟩, ?_, scH_set hsc rfl, ?_, k1 e hmem.1 hmem.2⟩
    · rw [hrd]
      rcases hw1 with rfl | rfl
      · exact hm2
      · exact hm2.drew (w.drawn + 1)
    · rw [hrd]
      rcases hw1 with rfl | rfl
      · exact hg2
      · exact hg2.drew (w.drawn + 1)

/-- The entry at hand. -/
theorem prim_entry {it : Operand} {b mb clock : Nat} {seen : Array Nat} {es : Array MapEntry} (e : MapEntry) (hb : L[b]? = some (.raw (.mapIter (some mb) clock (seen.push e.born) clock))) (hg : g mb = some (.map es clock)) (he : e ∈ es.toList) (hn : (es.toList.map (·.born)).Nodup) (hc : chk [b] [] = true)
    (k : K (.ret (.v (.tuple #[e.key, e.val]))) L g) : PrimX P (.entry it) [it] [.ptr b 0] L g chk K := by
  refine prim_read [b] (.v (.tuple #[e.key, e.val])) hc (fun _ => rfl) (fun o a σ w ho hev hse => ?_) k
  have e1 : a.eval it = .pointer (some ⟨σ b, 0, none⟩) := hev (it, .ptr b 0) (by simp)
  have hr := run_entry_at (P := P) w (σ b) mb clock seen es clock e (hse.lo b _ _ (by simp) hb rfl) (hse.im _ _ hg) he hn
  simp only [execOp, ho, e1, Sem.run_bind, hr, Result.andThen_ok, Sem.run_pure, SV.re]

end
end Go.Sx
