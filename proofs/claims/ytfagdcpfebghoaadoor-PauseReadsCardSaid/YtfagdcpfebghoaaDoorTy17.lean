/- A symbolic executor of my own, second design, part 17: single cells read at an open place; blocks of plain values told as such. Conditions: none; it speaks of any program. -/
import Derived.Test.YtfagdcpfebghoaaDoorTy16
namespace Go.Sx

/-- One cell read. -/
theorem val1_at {c : List Value} {off : Nat} {x : Value} {K : SV → Prop} (h : c[off]? = some x) (k : K (.v x)) : val1 false (((c.drop off).take 1).map .v) K := by
  have : (c.drop off).take 1 = [x] := by
    have h1 := (List.getElem?_eq_some_iff.1 h).1
    rw [List.drop_eq_getElem_cons h1, List.take_succ_cons, List.take_zero]
    simpa [List.getElem?_eq_getElem h1] using h
  rw [this]
  exact k
theorem load1_at {c : List Value} {off : Nat} {x : Value} {K : SV → Prop} (h : c[off]? = some x) (k : K (.v x)) : off + 1 ≤ c.length ∧ val1 false (((c.drop off).take 1).map .v) K :=
  ⟨(List.getElem?_eq_some_iff.1 h).1, val1_at h k⟩

def Chunk.pl : Chunk → Chunk
  | .cells ty c => match valsOf c with
    | some xs => .vals ty xs
    | none => .cells ty c
  | c => c
theorem pl_obj (σ : Nat → Nat) (c : Chunk) : c.pl.obj σ = c.obj σ := by
  cases c with
  | cells ty c =>
    simp only [Chunk.pl]
    split
    · rename_i xs h
      rw [valsOf_spec h]
      simp only [Chunk.obj, reL_v]
    · rfl
  | _ => rfl
theorem pl_here (c : Chunk) : c.pl.here = c.here := by
  cases c with
  | cells ty c =>
    simp only [Chunk.pl]
    split <;> rfl
  | _ => rfl
theorem live_pl {L : List Chunk} {k : Nat} : live (L.map Chunk.pl) k ↔ live L k := by
  unfold live liveB
  rw [List.getElem?_map]
  cases L[k]? with
  | none => rfl
  | some c => simp only [Option.map_some, pl_here]

/-- Cells that are plain values, told as such. -/
theorem Meets.pl {P : Program} {f : FuncId} {args : List SV} {L : List Chunk} {g : G} {post : Out → List Chunk → G → Prop} (h : Meets P f args (L.map Chunk.pl) g post) : Meets P f args L g post := by
  refine ⟨h.1, fun σ w hm hL hsc => (h.2 σ w ?_ ?_ (by simpa using hsc)).mono ?_⟩
  · refine ⟨hm.im, fun k c o hk ho => ?_, fun j k hj hk => hm.inj j k (live_pl.1 hj) (live_pl.1 hk), fun k hk => hm.sep k (live_pl.1 hk)⟩
    rw [List.getElem?_map, Option.map_eq_some_iff] at hk
    obtain ⟨d, hd, rfl⟩ := hk
    rw [pl_obj] at ho
    exact hm.lo k d o hd ho
  · intro k ty c hk
    rw [List.getElem?_map, Option.map_eq_some_iff] at hk
    obtain ⟨d, hd, hc⟩ := hk
    cases d with
    | cells ty' c' =>
      simp only [Chunk.pl] at hc
      split at hc
      · cases hc
      · cases hc
        rw [List.length_map]
        exact hL k _ _ hd
    | vals => cases hc
    | gone => cases hc
    | raw => cases hc
  · rintro e w' ⟨out, L', g', σ', h1, h2, h3, h4, h5, h6, h7⟩
    refine ⟨out, L', g', σ', h1, h2, h3, h4, h5, ?_, h7⟩
    exact ⟨fun k hk => h6.agree k (by simpa using hk), by simpa using h6.len, fun k hk hl => live_pl.1 (h6.dead k (by simpa using hk) hl), fun k hk hl => (by
      rcases h6.fresh k (by simpa using hk) hl with h | ⟨j, j1, j2, j3, j4⟩
      · exact .inl h
      · exact .inr ⟨j, by simpa using j1, live_pl.1 j2, j3, j4⟩), h6.gle, fun b h1 h2 => (by
      rcases h6.gnew b h1 h2 with h | ⟨j, j1, j2, j3, j4⟩
      · exact .inl h
      · exact .inr ⟨j, by simpa using j1, live_pl.1 j2, j3, j4⟩), h6.os, h6.tape, h6.output, h6.size, fun b hb hn => h6.keep b hb fun k hk => hn k (live_pl.1 hk)⟩

end Go.Sx
