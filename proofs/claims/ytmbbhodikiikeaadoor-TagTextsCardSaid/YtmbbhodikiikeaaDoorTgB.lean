/- tag.Parse: what it returns. Conditions: that the variables of the library that it reads are as laid. -/
import Derived.Test.YtmbbhodikiikeaaDoorTgA
namespace Go.Proofs.YtmbbhodikiikeaaDoor
open Go.Sx Go.Lib Go.RowKit
set_option maxRecDepth 100000
set_option maxHeartbeats 8000000
attribute [local irreducible] Meets
attribute [local instance] Classical.propDecidable
attribute [local irreducible] numS tagT

/-- What is known of the parts where the text is a tag's. -/
theorem parts_tag {s hd v : ByteArray} {ok : Bool} (hcut : cutS 46 s = (hd, v, ok)) {t : TagV} (ht : tagP t) (hs : tagT t = s) :
    ok = true ∧ Lib.atoiAll v.data.toList = .ok t.vid ∧ 2 ≤ hd.size ∧ (((hd.data.toList.getD 0 0).toNat : Int) = 115 ∨ ((hd.data.toList.getD 0 0).toNat : Int) = 99) ∧ tagH hd t.vid = t := by
  rw [← hs, cutS_tag ht] at hcut
  simp only [Prod.mk.injEq] at hcut
  obtain ⟨rfl, rfl, rfl⟩ := hcut
  refine ⟨rfl, atoi_num ht.2.2.1 (by have := ht.2.2.2; omega), ?_, ?_, tagH_back ht⟩
  · show 2 ≤ ((hdL t).toArray).size
    simp [hdL]
  · show (((svL t.s).toNat : Int) = 115 ∨ ((svL t.s).toNat : Int) = 99)
    cases t.s
    · right; decide
    · left; decide

theorem tagParse_c (s : ByteArray) (hs : s.size ≤ 1000000) (g : G) (hM : MaxVar g) (hS : SynVar g) (hT : TabVar g) : Tells Tryd.prog 13 [.v (.string s)] g (.tup [.agg ((parT s).1.cells.map .v), .v (nilM (parT s).2)]) := by
  obtain ⟨A, E, hAE⟩ : ∃ A E, parT s = (A, E) := ⟨_, _, rfl⟩
  rw [hAE]
  dsimp only
  have miss : (∀ t, tagP t → tagT t ≠ s) → A = TagV.zero ∧ E = 3 := fun h => by rw [parT_miss h] at hAE; cases hAE; exact ⟨rfl, rfl⟩
  have hit : ∀ t, tagP t → tagT t = s → A = t ∧ E = 0 := fun t h1 h2 => by rw [parT_hit h1 h2] at hAE; cases hAE; exact ⟨rfl, rfl⟩
  obtain ⟨hd, v, ok, hcut⟩ : ∃ hd v ok, cutS 46 s = (hd, v, ok) := ⟨_, _, _, rfl⟩
  have back := fun t ht hs => parts_tag (s := s) hcut (t := t) ht hs
  have hz := cutS_size 46 s
  have hc := cut_c 46 s hs g hM
  rw [hcut] at hz hc
  dsimp only at hz hc
  clear hcut hAE
  refine meets_of mixedS Tryd.func13 (by kernel_rfl) x13_ok (some []) ?_
  refine hc.call rfl rfl rfl ?_
  refine (atoi_c v (by omega) g hS).call0 rfl rfl 1 rfl ?_
  rintro o L1 g' ⟨r, hr, rfl, rfl, rfl⟩
  rcases hr with ⟨n, hn, rfl⟩ | ⟨hn, n, et, ex, rfl⟩
  rotate_left
  · obtain ⟨rfl, rfl⟩ := miss fun t h1 h2 => hn _ (back t h1 h2).2.1
    cases ok
    · exact ⟨rfl, rfl, rfl⟩
    · exact ⟨rfl, rfl, rfl⟩
  cases ok
  · obtain ⟨rfl, rfl⟩ := miss fun t h1 h2 => by have := (back t h1 h2).1; cases this
    exact ⟨rfl, rfl, rfl⟩
  have hvid : ∀ t, tagP t → tagT t = s → tagH hd n = t := fun t h1 h2 => by
    obtain ⟨-, b1, -, -, b2⟩ := back t h1 h2
    rw [hn] at b1
    injection b1 with b1
    rw [b1]; exact b2
  refine bsplit_of (fun (h : decide ((hd.size : Int) < 2) = true) => ?_) (fun (h : decide ((hd.size : Int) < 2) = false) => ?_)
  · obtain ⟨rfl, rfl⟩ := miss fun t h1 h2 => by have := (back t h1 h2).2.2.1; have := of_decide_eq_true h; omega
    exact ⟨rfl, rfl, rfl⟩
  have hz2 : 2 ≤ hd.size := by have := of_decide_eq_false h; omega
  refine ⟨⟨by decide, by show (0 : Int) < (hd.size : Int); omega⟩, ?_⟩
  refine bsplit_of (fun (q : (((hd.data.toList.getD 0 0).toNat : Int) != 115) = true) => ?_) (fun (q : (((hd.data.toList.getD 0 0).toNat : Int) != 115) = false) => ?_)
  · refine ⟨⟨by decide, by show (0 : Int) < (hd.size : Int); omega⟩, ?_⟩
    refine bsplit_of (fun (q2 : (((hd.data.toList.getD 0 0).toNat : Int) != 99) = true) => ?_) (fun (q2 : (((hd.data.toList.getD 0 0).toNat : Int) != 99) = false) => ?_)
    · obtain ⟨rfl, rfl⟩ := miss fun t h1 h2 => by
        rcases (back t h1 h2).2.2.2.1 with b | b
        · rw [b] at q; exact absurd q (by decide)
        · rw [b] at q2; exact absurd q2 (by decide)
      exact ⟨rfl, rfl, rfl⟩
    · skip
      refine ⟨⟨by decide, by show (0 : Int) < (hd.size : Int); omega⟩, ?_⟩
      refine ⟨⟨by decide, by show (1 : Int) < (hd.size : Int); omega⟩, ?_⟩
      refine ⟨⟨by decide, by show (2 : Int) ≤ (hd.size : Int); omega⟩, ?_⟩
      by_cases hp : tagP (tagH hd n)
      · refine (tagText_good (tagH hd n) g' hp hT).call rfl rfl rfl ?_
        refine bsplit_of (fun (h : (!((tagT (tagH hd n)).toList == s.toList)) = true) => ?_) (fun (h : (!((tagT (tagH hd n)).toList == s.toList)) = false) => ?_)
        · obtain ⟨rfl, rfl⟩ := miss fun t h1 h2 => by
            rw [hvid t h1 h2, h2] at h
            simp at h
          exact ⟨rfl, rfl, rfl⟩
        · obtain ⟨rfl, rfl⟩ := hit (tagH hd n) hp (by rw [str_beq] at h; simpa using h)
          exact ⟨rfl, rfl, rfl⟩
      · refine (tagText_bad (tagH hd n) g' hp).call rfl rfl rfl ?_
        obtain ⟨rfl, rfl⟩ := miss fun t h1 h2 => hp (by rw [hvid t h1 h2]; exact h1)
        exact ⟨rfl, rfl, rfl⟩
  refine ⟨⟨by decide, by show (0 : Int) < (hd.size : Int); omega⟩, ?_⟩
  refine ⟨⟨by decide, by show (1 : Int) < (hd.size : Int); omega⟩, ?_⟩
  refine ⟨⟨by decide, by show (2 : Int) ≤ (hd.size : Int); omega⟩, ?_⟩
  by_cases hp : tagP (tagH hd n)
  · refine (tagText_good (tagH hd n) g' hp hT).call rfl rfl rfl ?_
    refine bsplit_of (fun (h : (!((tagT (tagH hd n)).toList == s.toList)) = true) => ?_) (fun (h : (!((tagT (tagH hd n)).toList == s.toList)) = false) => ?_)
    · obtain ⟨rfl, rfl⟩ := miss fun t h1 h2 => by
        rw [hvid t h1 h2, h2] at h
        simp at h
      exact ⟨rfl, rfl, rfl⟩
    · obtain ⟨rfl, rfl⟩ := hit (tagH hd n) hp (by rw [str_beq] at h; simpa using h)
      exact ⟨rfl, rfl, rfl⟩
  · refine (tagText_bad (tagH hd n) g' hp).call rfl rfl rfl ?_
    obtain ⟨rfl, rfl⟩ := miss fun t h1 h2 => hp (by rw [hvid t h1 h2]; exact h1)
    exact ⟨rfl, rfl, rfl⟩
end Go.Proofs.YtmbbhodikiikeaaDoor
