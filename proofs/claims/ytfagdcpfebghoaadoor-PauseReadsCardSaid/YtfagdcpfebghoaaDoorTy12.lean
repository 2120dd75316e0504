/- A symbolic executor of my own, second design, part 12: calls by contract. Conditions: none; it speaks of any program. -/
import Derived.Test.YtfagdcpfebghoaaDoorTy11
namespace Go.Sx

/-- Where a callee's blocks lie: the first ones are these, new ones follow behind n. -/
def toBig (n : Nat) : List Nat → Nat → Nat
  | [], j => n + j
  | k :: _, 0 => k
  | _ :: l, j + 1 => toBig n l j
def updL : List Chunk → List Nat → List Chunk → List Chunk
  | L, [], M => L ++ M
  | L, k :: ids, c :: M => updL (L.set k c) ids M
  | L, _ :: _, [] => L
def renC (f : Nat → Nat) : List Chunk → List Chunk
  | [] => []
  | c :: l => c.ren f :: renC f l
def Out.ren (f : Nat → Nat) : Out → Out
  | .ret r => .ret (r.ren f)
  | .pan x => .pan (x.ren f)

theorem toBig_lt {n : Nat} : ∀ {ids : List Nat} {j : Nat}, j < ids.length → ids[j]? = some (toBig n ids j)
  | [], j, h => by simp at h
  | k :: l, 0, _ => rfl
  | k :: l, j + 1, h => by rw [List.getElem?_cons_succ]; exact toBig_lt (by simpa using h)
theorem toBig_ge {n : Nat} : ∀ {ids : List Nat} {j : Nat}, ids.length ≤ j → toBig n ids j = n + (j - ids.length)
  | [], j, _ => by simp [toBig]
  | k :: l, 0, h => by simp at h
  | k :: l, j + 1, h => by rw [toBig, toBig_ge (by simpa using h)]; simp
theorem renC_get (f : Nat → Nat) : ∀ (l : List Chunk) (j : Nat), (renC f l)[j]? = (l[j]?).map (Chunk.ren f)
  | [], j => by simp [renC]
  | c :: l, 0 => by simp [renC]
  | c :: l, j + 1 => by simpa [renC] using renC_get f l j
theorem renC_length (f : Nat → Nat) : ∀ l : List Chunk, (renC f l).length = l.length
  | [] => rfl
  | c :: l => by simp [renC, renC_length f l]

theorem updL_length : ∀ (ids : List Nat) (L M : List Chunk), ids.length ≤ M.length → (updL L ids M).length = L.length + (M.length - ids.length)
  | [], L, M, _ => by simp [updL]
  | k :: ids, L, [], h => by simp at h
  | k :: ids, L, c :: M, h => by
    rw [updL, updL_length ids _ M (by simpa using h)]
    simp
theorem updL_not : ∀ (ids : List Nat) (L M : List Chunk) (k : Nat), ids.length ≤ M.length → k < L.length → k ∉ ids → (updL L ids M)[k]? = L[k]?
  | [], L, M, k, _, hk, _ => by rw [updL, List.getElem?_append_left hk]
  | i :: ids, L, [], k, h, _, _ => by simp at h
  | i :: ids, L, c :: M, k, h, hk, hn => by
    simp only [List.mem_cons, not_or] at hn
    rw [updL, updL_not ids _ M k (by simpa using h) (by simpa using hk) hn.2, List.getElem?_set_ne (fun e => hn.1 e.symm)]
theorem updL_at : ∀ (ids : List Nat) (L M : List Chunk) (j : Nat), ids.length ≤ M.length → ids.Nodup → (∀ k ∈ ids, k < L.length) → j < M.length → (updL L ids M)[toBig L.length ids j]? = M[j]?
  | [], L, M, j, _, _, _, hj => by
    rw [updL, toBig, List.getElem?_append_right (by omega)]
    congr 1
    omega
  | i :: ids, L, [], j, h, _, _, _ => by simp at h
  | i :: ids, L, c :: M, 0, h, hn, hl, _ => by
    rw [List.nodup_cons] at hn
    rw [updL, toBig, updL_not ids _ M i (by simpa using h) (by simpa using hl i (by simp)) hn.1, List.getElem?_set_self (hl i (by simp))]
    rfl
  | i :: ids, L, c :: M, j + 1, h, hn, hl, hj => by
    rw [List.nodup_cons] at hn
    have := updL_at ids (L.set i c) M j (by simpa using h) hn.2 (fun k hk => by simpa using hl k (by simp [hk])) (by simpa using hj)
    rw [updL, toBig]
    simpa using this

theorem toBig_inj {n : Nat} {ids : List Nat} (hn : ids.Nodup) (hl : ∀ k ∈ ids, k < n) {i j : Nat} (e : toBig n ids i = toBig n ids j) : i = j := by
  rcases Nat.lt_or_ge i ids.length with hi | hi <;> rcases Nat.lt_or_ge j ids.length with hj | hj
  · have h1 := toBig_lt (n := n) hi
    have h2 := toBig_lt (n := n) hj
    rw [← e] at h2
    exact (List.getElem?_inj hi hn).1 (h1.trans h2.symm)
  · have h1 := hl _ (List.mem_of_getElem? (toBig_lt (n := n) hi))
    rw [toBig_ge hj] at e
    omega
  · have h1 := hl _ (List.mem_of_getElem? (toBig_lt (n := n) hj))
    rw [toBig_ge hi] at e
    omega
  · rw [toBig_ge hi, toBig_ge hj] at e
    omega

theorem sc_ren {n m : Nat} {f : Nat → Nat} (h : ∀ k, k < n → f k < m) {x : SV} (hx : x.sc n = true) : (x.ren f).sc m = true := by
  rw [on_sc] at hx ⊢
  exact ren_on (fun k hk => by simpa using h k (by simpa using hk)) x hx

def blocksAt (ids : List Nat) (L : List Chunk) : List Chunk := ids.map (nthC L)

/-- The call of a function whose contract speaks of a few blocks: they lie at these places. -/
theorem callV_sub {P : Program} {f : FuncId} {as as0 : List SV} {L L0 : List Chunk} {g : G} {K post : Out → List Chunk → G → Prop} (ids : List Nat) (hm : Meets P f as0 L0 g post) (hn : ids.Nodup) (hl : ∀ k ∈ ids, k < L.length) (hlen : L0.length = ids.length)
    (has : as = renL (toBig L.length ids) as0) (hL0 : ∀ (j k : Nat), ids[j]? = some k → ∃ c, L0[j]? = some c ∧ L[k]? = some (c.ren (toBig L.length ids))) (hsc0 : scL L0.length as0 = true) (hscL0 : scH L0)
    (hk : ∀ out L1 g', post out L1 g' → L0.length ≤ L1.length → K (out.ren (toBig L.length ids)) (updL L ids (renC (toBig L.length ids) L1)) g') : CallV P f as L g [] ids K := by
  refine ⟨hm.1, fun L' σ w hless _ hids hM hscL _ => ?_⟩
  subst has
  have hlenL : L'.length = L.length := hless.1
  generalize hF : toBig L.length ids = F at *
  have hFlt : ∀ j, j < ids.length → ids[j]? = some (F j) := fun j hj => by rw [← hF]; exact toBig_lt hj
  have hFge : ∀ j, ids.length ≤ j → F j = L.length + (j - ids.length) := fun j hj => by rw [← hF]; exact toBig_ge hj
  have hFinj : ∀ i j, F i = F j → i = j := fun i j e => toBig_inj hn hl (by rw [hF]; exact e)
  have hlive : ∀ j, live L0 j → live L' (F j) ∧ j < ids.length := fun j hj => by
    have hjl : j < ids.length := by rw [← hlen]; exact live_lt hj
    obtain ⟨c, hc, hcL⟩ := hL0 j _ (hFlt j hjl)
    obtain ⟨c', hc', hh⟩ := live_get hj
    rw [hc] at hc'; cases hc'
    refine ⟨live_of (c := c.ren F) ?_ (by rw [here_ren]; exact hh), hjl⟩
    rw [hids _ (List.mem_of_getElem? (hFlt j hjl)), hcL]
  have hM0 : Mem g L0 (fun k => σ (F k)) w := by
    refine ⟨hM.im, fun j c o hj ho => ?_, fun i j hi hj e => hFinj _ _ (hM.inj _ _ (hlive i hi).1 (hlive j hj).1 e), fun j hj => hM.sep _ (hlive j hj).1⟩
    obtain ⟨_, hjl⟩ := hlive j (live_of hj (obj_here ho))
    obtain ⟨c', hc', hcL⟩ := hL0 j _ (hFlt j hjl)
    rw [hj] at hc'; cases hc'
    refine hM.lo (F j) (c.ren F) o ?_ (by rw [obj_ren]; exact ho)
    rw [hids _ (List.mem_of_getElem? (hFlt j hjl)), hcL]
  have e0 : reL σ (renL F as0) = reL (fun k => σ (F k)) as0 := reL_ren F σ as0
  rw [e0]
  refine (hm.2 _ w hM0 hscL0 hsc0).mono ?_
  rintro e w' ⟨out, L1, g', σ1, he, hj, hM1, hsc1, hosc, hg1, hp⟩
  have hlen1 := hg1.len
  let σ' : Nat → Nat := fun k => if k < L.length then σ k else σ1 (ids.length + (k - L.length))
  have hσ' : ∀ j, σ' (F j) = σ1 j := fun j => by
    rcases Nat.lt_or_ge j ids.length with hj | hj
    · have hlt := hl _ (List.mem_of_getElem? (hFlt j hj))
      show (if F j < L.length then σ (F j) else _) = _
      rw [if_pos hlt]
      exact (hg1.agree j (by omega)).symm
    · show (if F j < L.length then _ else σ1 (ids.length + (F j - L.length))) = _
      rw [hFge j hj, if_neg (by omega)]
      congr 1
      omega
  have hσL : ∀ k, k < L.length → σ' k = σ k := fun k hk => if_pos hk
  have hul : ids.length ≤ (renC F L1).length := by rw [renC_length]; omega
  have hulen : (updL L ids (renC F L1)).length = L.length + (L1.length - ids.length) := by rw [updL_length _ _ _ hul, renC_length]
  have hupd : Upd ids L (updL L ids (renC F L1)) := ⟨by rw [hulen]; omega, fun k hk hkn => updL_not _ _ _ _ hul hk hkn⟩
  have hat : ∀ j, j < L1.length → (updL L ids (renC F L1))[F j]? = (L1[j]?).map (Chunk.ren F) := fun j hj => by
    have := updL_at ids L (renC F L1) j hul hn hl (by rw [renC_length]; exact hj)
    rw [hF] at this
    rw [this, renC_get]
  have hFbound : ∀ j, j < L1.length → F j < (updL L ids (renC F L1)).length := fun j hj => by
    rw [hulen]
    rcases Nat.lt_or_ge j ids.length with h | h
    · have := hl _ (List.mem_of_getElem? (hFlt j h)); omega
    · rw [hFge j h]; omega
  have hsurj : ∀ k, k < (updL L ids (renC F L1)).length → (k < L.length ∧ k ∉ ids) ∨ ∃ j, j < L1.length ∧ F j = k := fun k hk => by
    rw [hulen] at hk
    by_cases hkl : k < L.length
    · by_cases hki : k ∈ ids
      · obtain ⟨j, hj, rfl⟩ := List.getElem_of_mem hki
        refine .inr ⟨j, by omega, ?_⟩
        have := hFlt j hj
        rw [List.getElem?_eq_getElem hj] at this
        exact (Option.some.inj this).symm
      · exact .inl ⟨hkl, hki⟩
    · exact .inr ⟨ids.length + (k - L.length), by omega, by rw [hFge _ (by omega)]; omega⟩
  have hrget : ∀ k, (redo ids 0 L' (updL L ids (renC F L1)))[k]? = if k < L.length ∧ k ∉ ids then L'[k]? else (updL L ids (renC F L1))[k]? := fun k => by
    rw [redo_get _ _ _ _ _ (by rw [hlenL]; exact hupd.1), Nat.zero_add, hlenL]
  have hrF : ∀ j, j < L1.length → (redo ids 0 L' (updL L ids (renC F L1)))[F j]? = (L1[j]?).map (Chunk.ren F) := fun j hj => by
    rw [hrget, if_neg, hat j hj]
    rintro ⟨h1, h2⟩
    rcases Nat.lt_or_ge j ids.length with h | h
    · exact h2 (List.mem_of_getElem? (hFlt j h))
    · rw [hFge j h] at h1; omega
  -- a living block there: an old one that the call did not touch, or one of the callee's
  have hcase : ∀ k, live (redo ids 0 L' (updL L ids (renC F L1))) k → (k < L.length ∧ k ∉ ids ∧ live L' k) ∨ ∃ j, j < L1.length ∧ F j = k ∧ live L1 j := fun k hk => by
    have hkl := live_lt hk
    rw [redo_length _ _ _ _ (by rw [hlenL]; exact hupd.1)] at hkl
    rcases hsurj k hkl with ⟨h1, h2⟩ | ⟨j, hj, rfl⟩
    · refine .inl ⟨h1, h2, ?_⟩
      have := hrget k
      rw [if_pos ⟨h1, h2⟩] at this
      exact (live_congr this).1 hk
    · refine .inr ⟨j, hj, rfl, ?_⟩
      obtain ⟨c, hc, hh⟩ := live_get hk
      rw [hrF j hj] at hc
      simp only [Option.map_eq_some_iff] at hc
      obtain ⟨c1, hc1, rfl⟩ := hc
      exact live_of hc1 (by rw [here_ren] at hh; exact hh)
  have hkeepOld : ∀ k, k < L.length → k ∉ ids → live L' k → (∀ j, live L0 j → σ (F j) ≠ σ k) := fun k hkl hkn hlv j hj e => by
    obtain ⟨h1, h2⟩ := hlive j hj
    have := hM.inj _ _ h1 hlv e
    exact hkn (by rw [← this]; exact List.mem_of_getElem? (hFlt j h2))
  have hsepO : ∀ k, k < L.length → k ∉ ids → live L' k → g' (σ k) = none := fun k hkl hkn hlv => by
    cases hgk : g' (σ k) with
    | none => rfl
    | some o =>
      have h2 := hM.lt hlv
      rcases hg1.gnew (σ k) (hM.sep k hlv) (by simp [hgk]) with h1 | ⟨j, j1, j2, j3, j4⟩
      · omega
      · exact absurd j4 (hkeepOld k hkl hkn hlv j j2)
  have hnewOld : ∀ j k, live L1 j → k < L.length → k ∉ ids → live L' k → σ1 j ≠ σ k := fun j k hj hkl hkn hlv e => by
    have hjl := live_lt hj
    rcases Nat.lt_or_ge j L0.length with h | h
    · have h1 := hg1.dead j h hj
      rw [hg1.agree j h] at e
      exact hkeepOld k hkl hkn hlv j h1 e
    · have h2 := hM.lt hlv
      rcases hg1.fresh j h hj with h1 | ⟨m, m1, m2, m3, m4⟩
      · omega
      · exact hkeepOld k hkl hkn hlv m m2 (m4.trans e)
  have hscB : scH (updL L ids (renC F L1)) := by
    intro k ty l hkc
    have hkl := (List.getElem?_eq_some_iff.1 hkc).1
    rcases hsurj k hkl with ⟨h1, h2⟩ | ⟨j, hj, rfl⟩
    · rw [hupd.2 k h1 h2] at hkc
      exact scL_mono hupd.1 _ (hscL k ty l hkc)
    · rw [hat j hj] at hkc
      simp only [Option.map_eq_some_iff] at hkc
      obtain ⟨c1, hc1, hcr⟩ := hkc
      cases c1 with
      | cells ty1 l1 =>
        simp only [Chunk.ren, Chunk.cells.injEq] at hcr
        rw [← hcr.2]
        refine scL_mem.2 fun x hx => ?_
        have : ∀ (l : List SV), scL L1.length l = true → ∀ x ∈ renL F l, x.sc (updL L ids (renC F L1)).length = true := by
          intro l
          induction l with
          | nil => intro _ x hx; simp [renL] at hx
          | cons y l ih =>
            intro hsc x hx
            simp only [scL, Bool.and_eq_true] at hsc
            rcases List.mem_cons.1 hx with hx | hx
            · rw [hx]; exact sc_ren hFbound hsc.1
            · exact ih hsc.2 x hx
        exact this l1 (hsc1 j ty1 l1 hc1) x hx
      | _ => cases hcr
  refine ⟨out.ren F, updL L ids (renC F L1), g', σ', ?_, ?_, hupd, ⟨hM1.im, fun k c o hkc ho => ?_, fun i j hi hj e => ?_, fun k hk => ?_⟩, hscB, ?_, ?_, hk out L1 g' hp hg1.len⟩
  · cases out with
    | ret r =>
      cases he
      show Ending.returned _ = Ending.returned _
      rw [re_ren]
      congr 1
      exact re_congr (n := L1.length) (fun k _ => (hσ' k).symm) r hosc
    | pan x =>
      cases he
      show Ending.panicked _ = Ending.panicked _
      rw [re_ren]
      congr 3
      exact re_congr (n := L1.length) (fun k _ => (hσ' k).symm) x hosc
  · cases out <;> exact fun e => hj (ren_junk.1 e)
  · rcases hcase k (live_of hkc (obj_here ho)) with ⟨h1, h2, h3⟩ | ⟨j, hj, rfl, hlv⟩
    · have hg := hrget k
      rw [if_pos ⟨h1, h2⟩, hkc] at hg
      have hcs : L[k]? = some c := by rw [← hless.live h3]; exact hg.symm
      have ho' : c.obj σ = some o := by
        rw [← ho]
        exact obj_congr (n := L.length) (fun j hj => (hσL j hj).symm) (fun ty l e => hscL k ty l (by rw [hcs, e]))
      rw [hσL k h1, hg1.keep (σ k) (hM.lt h3) (fun j hj => hkeepOld k h1 h2 h3 j hj)]
      exact hM.lo k c o hg.symm ho'
    · rw [hrF j hj] at hkc
      simp only [Option.map_eq_some_iff] at hkc
      obtain ⟨c1, hc1, rfl⟩ := hkc
      rw [hσ']
      refine hM1.lo j c1 o hc1 ?_
      rw [← ho, obj_ren]
      exact obj_congr (n := L1.length) (fun k _ => (hσ' k).symm) (fun ty l e => hsc1 j ty l (by rw [hc1, e]))
  · rcases hcase i hi with ⟨h1, h2, h3⟩ | ⟨i', hi', rfl, hi3⟩ <;> rcases hcase j hj with ⟨k1, k2, k3⟩ | ⟨j', hj', rfl, hj3⟩
    · rw [hσL i h1, hσL j k1] at e
      exact hM.inj i j h3 k3 e
    · rw [hσL i h1, hσ'] at e
      exact absurd e.symm (hnewOld j' i hj3 h1 h2 h3)
    · rw [hσL j k1, hσ'] at e
      exact absurd e (hnewOld i' j hi3 k1 k2 k3)
    · rw [hσ', hσ'] at e
      rw [hM1.inj i' j' hi3 hj3 e]
  · rcases hcase k hk with ⟨h1, h2, h3⟩ | ⟨j, hj, rfl, hlv⟩
    · rw [hσL k h1]; exact hsepO k h1 h2 h3
    · rw [hσ']; exact hM1.sep j hlv
  · cases out <;> exact sc_ren hFbound hosc
  · refine ⟨fun k hk => hσL k (by omega), by rw [redo_length _ _ _ _ (by rw [hlenL]; exact hupd.1), hlenL]; exact hupd.1, fun k hk hlv => ?_, fun k hk hlv => ?_, hg1.gle, fun b hb1 hb2 => ?_, hg1.os, hg1.tape, hg1.output, hg1.size, fun b hb hnb => ?_⟩
    · rcases hcase k hlv with ⟨_, _, h3⟩ | ⟨j, hj, rfl, hj3⟩
      · exact h3
      · rcases Nat.lt_or_ge j ids.length with h | h
        · exact (hlive j (hg1.dead j (by omega) hj3)).1
        · rw [hFge j h] at hk; omega
    · rcases hcase k hlv with ⟨h1, _, _⟩ | ⟨j, hj, rfl, hj3⟩
      · omega
      · rw [hσ']
        have hjl : L0.length ≤ j := by
          refine Classical.byContradiction fun hn => ?_
          have := hl _ (List.mem_of_getElem? (hFlt j (by omega)))
          omega
        rcases hg1.fresh j hjl hj3 with h1 | ⟨m, m1, m2, m3, m4⟩
        · exact .inl h1
        · obtain ⟨l1, l2⟩ := hlive m m2
          have hFm := hl _ (List.mem_of_getElem? (hFlt m l2))
          refine .inr ⟨F m, by omega, l1, fun hlm => m3 ?_, m4⟩
          rcases hcase _ hlm with ⟨_, hn, _⟩ | ⟨m', hm', e', hlm'⟩
          · exact absurd (List.mem_of_getElem? (hFlt m l2)) hn
          · rw [← hFinj _ _ e']; exact hlm'
    · rcases hg1.gnew b hb1 hb2 with h1 | ⟨m, m1, m2, m3, m4⟩
      · exact .inl h1
      · obtain ⟨l1, l2⟩ := hlive m m2
        have hFm := hl _ (List.mem_of_getElem? (hFlt m l2))
        refine .inr ⟨F m, by omega, l1, fun hlm => m3 ?_, m4⟩
        rcases hcase _ hlm with ⟨_, hn, _⟩ | ⟨m', hm', e', hlm'⟩
        · exact absurd (List.mem_of_getElem? (hFlt m l2)) hn
        · rw [← hFinj _ _ e']; exact hlm'
    · exact hg1.keep b hb fun j hj => hnb _ (hlive j hj).1

/-- What is only read. -/
theorem CallV.ro {P : Program} {f : FuncId} {as : List SV} {L : List Chunk} {g : G} {K : Out → List Chunk → G → Prop} {ids : List Nat} (h : CallV P f as L g [] ids fun o L1 g1 => (∀ k, k ∈ ids → L1[k]? = L[k]?) ∧ K o L1 g1) : CallV P f as L g ids [] K := by
  refine ⟨h.1, fun L' σ w hless hrd _ hM hscL hsc => (h.2 L' σ w hless (fun _ h => by simp at h) hrd hM hscL hsc).mono ?_⟩
  rintro e w' ⟨out, L1, g', σ', h1, h2, h3, h4, h5, h6, h7, h8, h9⟩
  have e : redo [] 0 L' L1 = redo ids 0 L' L1 := by
    apply List.ext_getElem?
    intro k
    have hl : L'.length ≤ L1.length := by rw [hless.1]; exact h3.1
    rw [redo_get _ _ _ _ _ hl, redo_get _ _ _ _ _ hl, Nat.zero_add]
    by_cases hk : k < L'.length
    · rw [if_pos ⟨hk, by simp⟩]
      split
      · rfl
      · rename_i hn
        have hin : k ∈ ids := Classical.byContradiction fun hh => hn ⟨hk, hh⟩
        rw [hrd k hin, h8 k hin]
    · rw [if_neg (fun hh => hk hh.1), if_neg (fun hh => hk hh.1)]
  refine ⟨out, L1, g', σ', h1, h2, ⟨h3.1, fun k hk _ => ?_⟩, by rw [e]; exact h4, h5, h6, by rw [e]; exact h7, h9⟩
  by_cases hin : k ∈ ids
  · exact h8 k hin
  · exact h3.2 k hk hin

end Go.Sx
