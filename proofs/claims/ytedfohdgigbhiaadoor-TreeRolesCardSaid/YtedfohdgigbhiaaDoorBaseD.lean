/- A symbolic executor of my own, put together. Conditions: none; it speaks of any program. -/
import Derived.Test.YtedfohdgigbhiaaDoorBaseC
import Derived.Below
import Derived.Laws.RangeString
import Derived.Lib.OthersKept
/- A symbolic executor of my own, part 33: blocks of the caller's lent to a callee that only reads. Conditions: none; it speaks of any program. -/
section
namespace Go.Sx

/-- **Lending**: what a function tells of blocks that nobody writes it tells of owned blocks, too, which stay as they are. -/
theorem Meets.lend {P : Program} {f : FuncId} {args : List SV} {L : List Chunk} {g : G} {post : Out → Prop} (hc : callable P f = true)
    (h : ∀ (σ : Nat → Nat) (g' : G), G.le g g' → (∀ k c o, L[k]? = some c → c.obj σ = some o → g' (σ k) = some o) →
      ∃ as', (∀ τ, reL τ as' = reL σ args) ∧ scL 0 as' = true ∧ Meets P f as' [] g' (fun o L1 g1 => o.sv.sc 0 = true ∧ L1 = [] ∧ g1 = g' ∧ post o)) :
    Meets P f args L g (fun o L' g' => post o ∧ L' = L ∧ g' = g) := by
  refine ⟨hc, fun σ w hM hH hsc => ?_⟩
  let own : Nat → Prop := fun b => ∃ k, live L k ∧ σ k = b
  let g1 : G := fun b => open Classical in if own b then w.heap[b]? else g b
  have hg1 : G.le g g1 := fun b o hb => by
    show (open Classical in if own b then w.heap[b]? else g b) = some o
    split
    · rename_i hob
      obtain ⟨k, hk, rfl⟩ := hob
      rw [hM.sep k hk] at hb
      cases hb
    · exact hb
  have him : ∀ b o, g1 b = some o → w.heap[b]? = some o := fun b o hb => by
    have hb : (open Classical in if own b then w.heap[b]? else g b) = some o := hb
    split at hb
    · exact hb
    · exact hM.im b o hb
  obtain ⟨as', has, hsc', hm⟩ := h σ g1 hg1 fun k c o hk ho => by
    show (open Classical in if own (σ k) then w.heap[σ k]? else g (σ k)) = some o
    rw [if_pos ⟨k, live_of hk (obj_here ho), rfl⟩]
    exact hM.lo k c o hk ho
  have hM0 : Mem g1 [] σ w := ⟨him, fun k c o hk => by simp at hk, fun j k hj => by have := live_lt hj; simp at this, fun k hk => by have := live_lt hk; simp at this, FamOk.nil _ _ _⟩
  rw [← has σ]
  refine (hm.2 σ w hM0 (fun k ty c hk => by simp at hk) hsc').mono ?_
  rintro e w' ⟨out, L1, g2, σ1, he, hj, hM1, hs1, ho1, hg, hs0, rfl, rfl, hp⟩
  have hkeep : ∀ b, b < w.heap.size → w'.heap[b]? = w.heap[b]? := fun b hb => hg.keep b hb (fun k hk => by have := live_lt hk; simp at this) (not_ownF_nil b)
  have hlt : ∀ {b : Nat} {o : Obj}, w.heap[b]? = some o → b < w.heap.size := fun hb => (Array.getElem?_eq_some_iff.1 hb).1
  refine ⟨out, L, g, σ, ?_, hj, ⟨fun b o hb => ?_, fun k c o hk ho => ?_, hM.inj, hM.sep, hM.fm.to (fun _ _ hk => hk) hM.fm.im hM.fm.sep fun b _ hb => hkeep b hb⟩, hH, ?_, ?_, hp, rfl, rfl⟩
  · have e1 : out.sv.re σ1 = out.sv.re σ := re_congr (n := 0) (fun k hk => absurd hk (Nat.not_lt_zero k)) _ hs0
    cases out with
    | ret r => exact he.trans (by rw [show r.re σ1 = r.re σ from e1])
    | pan x => exact he.trans (by rw [show x.re σ1 = x.re σ from e1])
  · have := hM.im b o hb
    rw [hkeep b (hlt this)]
    exact this
  · have := hM.lo k c o hk ho
    rw [hkeep _ (hlt this)]
    exact this
  · rw [on_sc] at hs0 ⊢
    exact on_mono (fun k hk => by simp at hk) _ hs0
  · exact ⟨fun _ _ => rfl, Nat.le_refl _, fun _ _ hl => hl, fun k h1 h2 => by have := live_lt h2; omega, fun _ _ hb => hb, fun b h1 h2 => absurd h1 h2, hg.os, hg.tape, hg.output, hg.size, fun b hb _ _ => hkeep b hb, fun b hb => .inr (.inr hb)⟩

/-- The same of a function that tells a plain value. -/
theorem Meets.lendT {P : Program} {f : FuncId} {args : List SV} {L : List Chunk} {g : G} {r : SV} (hr : r.sc 0 = true) (hc : callable P f = true)
    (h : ∀ (σ : Nat → Nat) (g' : G), G.le g g' → (∀ k c o, L[k]? = some c → c.obj σ = some o → g' (σ k) = some o) →
      ∃ as', (∀ τ, reL τ as' = reL σ args) ∧ scL 0 as' = true ∧ Tells P f as' g' r) :
    Meets P f args L g (fun o L' g' => o = .ret r ∧ L' = L ∧ g' = g) := by
  refine Meets.lend (post := fun o => o = .ret r) hc fun σ g' h1 h2 => ?_
  obtain ⟨as', a1, a2, a3⟩ := h σ g' h1 h2
  exact ⟨as', a1, a2, a3.mono fun o L' g1 ⟨k1, k2, k3⟩ => ⟨by rw [k1]; exact hr, k2, k3, k1⟩⟩
end Go.Sx
end

/- A symbolic executor of my own, part 34: maps whose keys are structs, told as lists. Conditions: none; it speaks of any program. -/
section
namespace Go.Sx

/-- What is asked of a kind of keys: told by f, compared at once. -/
structure KL {α : Type} [DecidableEq α] (P : Program) (kt : TypeId) (f : α → Value) : Prop where
  check : ∀ (w : World) (e : Bool) (x : α), (Instr.checkKey e 10000 kt (f x)).run P w = .ok () w
  eq : ∀ (w : World) (x y : α), (Op.equal kt (f x) (f y)).run P w = .ok (decide (x = y)) w
  asks : ∃ d, P.underlying kt = some d ∧ ∀ a b, Instr.sameNow d a b = none
  stays : ∀ (w : World) (x : α), (Instr.keyThatStays (f x) (f x)).run P w = .ok (f x) w

section
variable {α : Type} {f : α → Value}
/-- A map's entries: the i-th was born at i. -/
def mkE (f : α → Value) : Nat → List (α × Int) → List MapEntry
  | _, [] => []
  | i, (x, v) :: m => { key := f x, val := .int .i64 v, born := i } :: mkE f (i + 1) m
def mapC (f : α → Value) (m : List (α × Int)) : Chunk := .raw (.map (mkE f 0 m).toArray m.length)
def setM (m : List (α × Int)) (i : Nat) (v : Int) : List (α × Int) := m.modify i fun p => (p.1, v)

theorem mkE_length : ∀ (m : List (α × Int)) (i : Nat), (mkE f i m).length = m.length
  | [], _ => rfl
  | (_, _) :: m, i => by simp [mkE, mkE_length m]
theorem mkE_get : ∀ (m : List (α × Int)) (i j : Nat), (mkE f i m)[j]? = (m[j]?).map fun p => { key := f p.1, val := .int .i64 p.2, born := i + j }
  | [], _, _ => by simp [mkE]
  | (x, v) :: m, i, 0 => by simp [mkE]
  | (x, v) :: m, i, j + 1 => by simp [mkE, mkE_get m, Nat.add_assoc, Nat.add_comm 1 j]
theorem mkE_push (m : List (α × Int)) (x : α) : ∀ b : Nat, mkE f b (m ++ [(x, 0)]) = mkE f b m ++ [{ key := f x, val := .int .i64 0, born := b + m.length }] := by
  induction m with
  | nil => intro b; simp [mkE]
  | cons p m ih => intro b; obtain ⟨y, v⟩ := p; simp [mkE, ih, Nat.add_assoc, Nat.add_comm 1]

theorem mkE_set (m : List (α × Int)) (i : Nat) (v : Int) : (mkE f 0 m).modify i (fun e => { e with val := .int .i64 v }) = mkE f 0 (setM m i v) := by
  apply List.ext_getElem?
  intro n
  simp only [mkE_get, setM, List.getElem?_modify]
  by_cases hn : i = n
  · subst hn
    cases m[i]? <;> simp
  · simp [hn]
theorem mkE_find (m : List (α × Int)) {i : Nat} (hi : i < m.length) : (mkE f 0 m).findIdx? (fun e => (e.born : Int) == (i : Int)) = some i := by
  rw [List.findIdx?_eq_some_iff_getElem]
  refine ⟨by rw [mkE_length]; exact hi, ?_, fun j hj => ?_⟩
  · have h : (mkE f 0 m)[i]? = some { key := f m[i].1, val := .int .i64 m[i].2, born := 0 + i } := by rw [mkE_get, List.getElem?_eq_getElem hi]; rfl
    obtain ⟨h1, h2⟩ := List.getElem?_eq_some_iff.1 h
    rw [h2]; simp
  · have hj' : j < m.length := by omega
    have h : (mkE f 0 m)[j]? = some { key := f m[j].1, val := .int .i64 m[j].2, born := 0 + j } := by rw [mkE_get, List.getElem?_eq_getElem hj']; rfl
    obtain ⟨h1, h2⟩ := List.getElem?_eq_some_iff.1 h
    rw [h2]; simp; omega
theorem setM_length (m : List (α × Int)) (i : Nat) (v : Int) : (setM m i v).length = m.length := by simp [setM]

end

section
variable {α : Type} [DecidableEq α] {P : Program} {kt : TypeId} {f : α → Value}

def findL (x : α) : List (α × Int) → Nat → Option (Nat × Int)
  | [], _ => none
  | (y, v) :: m, i => if x = y then some (i, v) else findL x m (i + 1)
def lookM (m : List (α × Int)) (x : α) : Int := match findL x m 0 with | some p => p.2 | none => 0
def idxM (m : List (α × Int)) (x : α) : Nat := match findL x m 0 with | some p => p.1 | none => m.length
def addM (m : List (α × Int)) (x : α) : List (α × Int) := match findL x m 0 with | some _ => m | none => m ++ [(x, 0)]

theorem findL_some {x : α} : ∀ {m : List (α × Int)} {i j : Nat} {v : Int}, findL x m i = some (j, v) → i ≤ j ∧ m[j - i]? = some (x, v)
  | [], _, _, _, h => by simp [findL] at h
  | (y, u) :: m, i, j, v, h => by
    unfold findL at h
    split at h
    · rename_i e; cases h; subst e; simp
    · obtain ⟨h1, h2⟩ := findL_some h
      refine ⟨by omega, ?_⟩
      rw [show j - i = (j - (i + 1)) + 1 by omega, List.getElem?_cons_succ]
      exact h2
theorem findL_none {x : α} : ∀ {m : List (α × Int)} {i : Nat}, findL x m i = none → x ∉ m.map Prod.fst
  | [], _, _ => by simp
  | (y, u) :: m, i, h => by
    unfold findL at h
    split at h
    · cases h
    · rename_i e
      have := findL_none h
      simp only [List.map_cons, List.mem_cons, not_or]
      exact ⟨e, this⟩

theorem run_findAskingL (hK : KL P kt f) (w : World) (x : α) : ∀ (m : List (α × Int)) (b i : Nat), (Instr.findAsking kt (f x) (mkE f b m) i).run P w = .ok ((findL x m i).map fun p => (p.1, Value.int .i64 p.2)) w
  | [], b, i => by simp [mkE, Instr.findAsking, findL]
  | (y, v) :: m, b, i => by
    by_cases h : x = y
    · subst h; simp [mkE, Instr.findAsking, findL, hK.eq]
    · simp [mkE, Instr.findAsking, findL, hK.eq, h, run_findAskingL hK w x m]
theorem run_findKeyL (hK : KL P kt f) (w : World) (x : α) (m : List (α × Int)) : (Instr.findKey kt (f x) (mkE f 0 m)).run P w = .ok ((findL x m 0).map fun p => (p.1, Value.int .i64 p.2)) w := by
  obtain ⟨d, hd, hn⟩ := hK.asks
  cases m with
  | nil => simp [Instr.findKey, run_underlying hd, mkE, Instr.findNow, findL]
  | cons p m =>
    obtain ⟨y, v⟩ := p
    have := run_findAskingL hK w x ((y, v) :: m) 0 0
    simp only [mkE] at this
    simp [Instr.findKey, run_underlying hd, mkE, Instr.findNow, hn, this]

variable {L : List Chunk} {g : G} {chk : List Nat → List Nat → Bool} {K : Out → List Chunk → G → Prop}

/-- m[k] -/
theorem prim_lookupK (hK : KL P kt f) {t et : TypeId} {i : TypeInfo} {m : List (α × Int)} {mo kx : Operand} {b : Nat} {x : α} {ks : SV} (hks : ∀ σ, ks.re σ = f x) (ht : P.underlying t = some (.map kt et)) (hi : P.info? et = some i) (hz : i.zero = some (.int .i64 0))
    (hb : L[b]? = some (mapC f m)) (hc : chk [b] [] = true) (k : K (.ret (.v (.int .i64 (lookM m x)))) L g) :
    PrimX P (.lookup t mo kx false) [mo, kx] [.mp b, ks] L g chk K := by
  refine prim_read [b] (.v (.int .i64 (lookM m x))) hc (fun _ => rfl) (fun o a σ w ho hev hse => ?_) k
  have e1 : a.eval mo = .map (some (σ b)) := hev (mo, .mp b) (by simp)
  have e2 : a.eval kx = f x := (hev (kx, ks) (by simp)).trans (hks σ)
  have hw := hse.lo b _ _ (by simp) hb rfl
  have hfk := run_findKeyL hK w x m
  unfold lookM
  cases hq : findL x m 0 with
  | some p =>
    rw [hq] at hfk
    simp [execOp, ho, e1, e2, Instr.lookup, Sem.run_bind, run_underlying ht, Result.andThen_ok, MapKept.run_getObj_map hw, hK.check, hfk, SV.re]
  | none =>
    rw [hq] at hfk
    simp [execOp, ho, e1, e2, Instr.lookup, Sem.run_bind, run_underlying ht, Result.andThen_ok, MapKept.run_getObj_map hw, hK.check, hfk, SV.re, zeroValue, typeInfo, hi, hz]

/-- The entry of a key, made where there is none. -/
theorem prim_mapEntryK (hK : KL P kt f) {t et : TypeId} {i : TypeInfo} {m : List (α × Int)} {mo kx : Operand} {b : Nat} {x : α} {ks : SV} (hks : ∀ σ, ks.re σ = f x) (ht : P.underlying t = some (.map kt et)) (hi : P.info? et = some i) (hz : i.zero = some (.int .i64 0))
    (hb : L[b]? = some (mapC f m)) (hc : chk [] [b] = true) (k : K (.ret (.tup [.v (.int .i64 (lookM m x)), .v (.int .i64 (idxM m x))])) (L.set b (mapC f (addM m x))) g) :
    PrimX P (.mapEntry t mo kx) [mo, kx] [.mp b, ks] L g chk K := by
  refine prim_set b [] hc _ hb rfl fun o a σ w ho hev hse => ?_
  have e1 : a.eval mo = .map (some (σ b)) := hev (mo, .mp b) (by simp)
  have e2 : a.eval kx = f x := (hev (kx, ks) (by simp)).trans (hks σ)
  have hw : w.heap[σ b]? = some (.map (mkE f 0 m).toArray m.length) := hse.lo b _ _ (by simp) hb rfl
  have hfk := run_findKeyL hK w x m
  refine ⟨mapC f (addM m x), .map (mkE f 0 (addM m x)).toArray (addM m x).length, _, w.drawn, rfl, fun _ => rfl, ?_, ?_, k⟩
  · rfl
  cases hq : findL x m 0 with
  | some p =>
    obtain ⟨j, v⟩ := p
    rw [hq] at hfk
    obtain ⟨-, hj⟩ := findL_some hq
    rw [Nat.sub_zero] at hj
    have hg : (mkE f 0 m)[j]? = some { key := f x, val := .int .i64 v, born := 0 + j } := by rw [mkE_get, hj]; rfl
    have hlt : j < (mkE f 0 m).length := (List.getElem?_eq_some_iff.1 hg).1
    have hmod : (mkE f 0 m).toArray.modify j (fun e => { e with key := f x }) = (mkE f 0 m).toArray := by
      apply Array.ext_getElem?
      intro n
      rw [Array.getElem?_modify]
      by_cases hn : j = n
      · subst hn
        simp only [if_true, List.getElem?_toArray, hg, Option.map_some]
      · simp [hn]
    have hadd : addM m x = m := by unfold addM; rw [hq]
    rw [hadd]
    simp only [execOp, ho, e1, e2, Instr.mapEntry, Sem.run_bind, run_underlying ht, Result.andThen_ok, MapKept.run_getObj_map hw, hK.check, hfk, Option.map_some, List.getElem?_toArray, hg, Option.getD_some, hK.stays, hmod, MapKept.run_setObj_map _ hw, Sem.run_pure]
    simp [SV.re, reL, lookM, idxM, hq, goInt]
  | none =>
    rw [hq] at hfk
    have hadd : addM m x = m ++ [(x, 0)] := by unfold addM; rw [hq]
    have hpush : mkE f 0 m ++ [{ key := f x, val := .int .i64 0, born := m.length }] = mkE f 0 (m ++ [(x, 0)]) := by
      rw [mkE_push]; simp
    rw [hadd]
    simp [execOp, ho, e1, e2, Instr.mapEntry, Sem.run_bind, run_underlying ht, Result.andThen_ok, MapKept.run_getObj_map hw, hK.check, hfk, zeroValue, typeInfo, hi, hz, hpush, MapKept.run_setObj_map _ hw, SV.re, reL, lookM, idxM, hq, goInt]

end

section
variable {α : Type} {P : Program} {f : α → Value} {L : List Chunk} {g : G} {chk : List Nat → List Nat → Bool} {K : Out → List Chunk → G → Prop}
/-- An entry's value. -/
theorem prim_entryStoreK {t : TypeId} {m : List (α × Int)} {mo sx vx : Operand} {b i : Nat} {v : Int} (hi : i < m.length) (hb : L[b]? = some (mapC f m)) (hc : chk [] [b] = true) (k : K (.ret (.v undef)) (L.set b (mapC f (setM m i v))) g) :
    PrimX P (.entryStore t mo sx vx) [mo, sx, vx] [.mp b, .v (.int .i64 i), .v (.int .i64 v)] L g chk K := by
  refine PrimX_of [] [b] hc fun o L' σ a w ho hl hm hsc hv hev _ hids => ?_
  have e1 : a.eval mo = .map (some (σ b)) := hev (mo, .mp b) (by simp)
  have e2 : a.eval sx = .int .i64 i := hev (sx, .v (.int .i64 i)) (by simp)
  have e3 : a.eval vx = .int .i64 v := hev (vx, .v (.int .i64 v)) (by simp)
  have hbL : L'[b]? = some (mapC f m) := by rw [hids b (by simp), hb]
  have hw : w.heap[σ b]? = some (.map (mkE f 0 m).toArray m.length) := hm.lo b _ _ hbL rfl
  have hlive := live_of hbL rfl
  have hr : (execOp a.eval o).run P w = .ok .skip { w with heap := w.heap.setIfInBounds (σ b) (.map (mkE f 0 (setM m i v)).toArray m.length) } := by
    simp [execOp, ho, e1, e2, e3, Instr.entryStore, Sem.run_bind, Result.andThen_ok, MapKept.run_getObj_map hw, asInt, asIntOf, mkE_find m hi, mkE_set, MapKept.run_setObj_map _ hw]
  unfold Oper.wp
  rw [hr]
  have hrd : redo [b] 0 L' (L.set b (mapC f (setM m i v))) = L'.set b (mapC f (setM m i v)) := redo_set hl.1 (hids b (by simp))
  refine ⟨_, .v undef, _, g, σ, rfl, fun _ => rfl, rfl, ⟨by simp, fun k hk hn => List.getElem?_set_ne (fun e => hn (by simp [e]))⟩, ?_, scH_set hsc rfl, ?_, k⟩
  · rw [hrd]; exact hm.write hlive _ _ (by rw [mapC, setM_length]; rfl)
  · rw [hrd]; exact (Goes.refl σ L' g w).write hlive _ _ rfl

/-- How many a map holds. -/
theorem prim_lenK {c : Call} {t kt et : TypeId} {m : List (α × Int)} {mo : Operand} {b : Nat} (hcal : c.callee = .builtin .len) (hargs : c.args.toList = [mo]) (htys : c.argTypes = #[t]) (ht : P.underlying t = some (.map kt et))
    (hb : L[b]? = some (mapC f m)) (hc : chk [b] [] = true) (k : K (.ret (.v (.int .i64 m.length))) L g) :
    PrimX P (.call c) [mo] [.mp b] L g chk K := by
  refine prim_read [b] (.v (.int .i64 m.length)) hc (fun _ => rfl) (fun o a σ w ho hev hse => ?_) k
  have e1 : a.eval mo = .map (some (σ b)) := hev (mo, .mp b) (by simp)
  have hw : w.heap[σ b]? = some (.map (mkE f 0 m).toArray m.length) := hse.lo b _ _ (by simp) hb rfl
  have e2 : c.args.map a.eval = #[.map (some (σ b))] := by apply Array.ext'; simp [hargs, e1]
  have hr : (Builtin.len_ c.argTypes o.type #[.map (some (σ b))]).run P w = .ok (.int .i64 m.length) w := by
    simp [Builtin.len_, htys, run_underlying ht, MapKept.run_getObj_map hw, mkE_length, goInt]
  simp only [execOp, ho, resolve, hcal, Sem.run_bind, Sem.run_pure, Result.andThen_ok, invoke, builtin, e2, hr, SV.re]
end
end Go.Sx
end

/- A symbolic executor of my own, part 35: blocks lent to a callee that makes blocks of its own. Conditions: none; it speaks of any program. -/
section
namespace Go.Sx

/-- **Lending**, to a function whose result may lead to new blocks. -/
theorem Meets.lendN {P : Program} {f : FuncId} {args : List SV} {L : List Chunk} {g : G} {post : Out → List Chunk → Prop} (hc : callable P f = true)
    (h : ∀ (σ : Nat → Nat) (g' : G), G.le g g' → (∀ k c o, L[k]? = some c → c.obj σ = some o → g' (σ k) = some o) →
      ∃ as', (∀ τ, reL τ as' = reL σ args) ∧ scL 0 as' = true ∧ Meets P f as' [] g' (fun o L1 g1 => g1 = g' ∧ post o L1)) :
    Meets P f args L g (fun o L' g' => g' = g ∧ ∃ o1 L1, post o1 L1 ∧ o = o1.ren (fun j => L.length + j) ∧ L' = L ++ renC (fun j => L.length + j) L1) := by
  refine ⟨hc, fun σ w hM hH hsc => ?_⟩
  let own : Nat → Prop := fun b => ∃ k, live L k ∧ σ k = b
  let g1 : G := fun b => open Classical in if own b then w.heap[b]? else g b
  have hg1 : G.le g g1 := fun b o hb => by
    show (open Classical in if own b then w.heap[b]? else g b) = some o
    split
    · rename_i hob
      obtain ⟨k, hk, rfl⟩ := hob
      rw [hM.sep k hk] at hb
      cases hb
    · exact hb
  have him : ∀ b o, g1 b = some o → w.heap[b]? = some o := fun b o hb => by
    have hb : (open Classical in if own b then w.heap[b]? else g b) = some o := hb
    split at hb
    · exact hb
    · exact hM.im b o hb
  obtain ⟨as', has, hsc', hm⟩ := h σ g1 hg1 fun k c o hk ho => by
    show (open Classical in if own (σ k) then w.heap[σ k]? else g (σ k)) = some o
    rw [if_pos ⟨k, live_of hk (obj_here ho), rfl⟩]
    exact hM.lo k c o hk ho
  have hM0 : Mem g1 [] σ w := ⟨him, fun k c o hk => by simp at hk, fun j k hj => by have := live_lt hj; simp at this, fun k hk => by have := live_lt hk; simp at this, FamOk.nil _ _ _⟩
  rw [← has σ]
  refine (hm.2 σ w hM0 (fun k ty c hk => by simp at hk) hsc').mono ?_
  rintro e w' ⟨out, L1, g2, σ1, he, hj, hM1, hs1, ho1, hg, rfl, hp⟩
  have hkeep : ∀ b, b < w.heap.size → w'.heap[b]? = w.heap[b]? := fun b hb => hg.keep b hb (fun k hk => by have := live_lt hk; simp at this) (not_ownF_nil b)
  have hlt : ∀ {b : Nat} {o : Obj}, w.heap[b]? = some o → b < w.heap.size := fun hb => (Array.getElem?_eq_some_iff.1 hb).1
  let F : Nat → Nat := fun j => L.length + j
  let σ' : Nat → Nat := fun k => if k < L.length then σ k else σ1 (k - L.length)
  have hσF : (fun k => σ' (F k)) = σ1 := funext fun k => by
    show (if L.length + k < L.length then _ else σ1 (L.length + k - L.length)) = σ1 k
    rw [if_neg (by omega), Nat.add_sub_cancel_left]
  have hσL : ∀ k, k < L.length → σ' k = σ k := fun k hk => if_pos hk
  have hnew : ∀ k, live L1 k → w.heap.size ≤ σ1 k := fun k hk => by
    rcases hg.fresh k (Nat.zero_le _) hk with h | ⟨j, hj, -⟩
    · exact h
    · simp at hj
  have hcase : ∀ k, live (L ++ renC F L1) k → (k < L.length ∧ live L k) ∨ (L.length ≤ k ∧ live L1 (k - L.length)) := fun k hk => by
    obtain ⟨c, hc, hh⟩ := live_get hk
    rcases Nat.lt_or_ge k L.length with hl | hl
    · rw [List.getElem?_append_left hl] at hc
      exact .inl ⟨hl, live_of hc hh⟩
    · rw [List.getElem?_append_right hl, renC_get, Option.map_eq_some_iff] at hc
      obtain ⟨d, hd, rfl⟩ := hc
      exact .inr ⟨hl, live_of hd (by rw [here_ren] at hh; exact hh)⟩
  have hcase' : ∀ k, k < L.length → live L k → live (L ++ renC F L1) k := fun k hl hk => by
    obtain ⟨c, hc, hh⟩ := live_get hk
    exact live_of (by rw [List.getElem?_append_left hl]; exact hc) hh
  have hval : ∀ k, L.length ≤ k → σ' k = σ1 (k - L.length) := fun k hk => if_neg (by omega)
  have hcaseF : ∀ (k : Nat) (H : G), (L ++ renC F L1)[k]? = some (Chunk.fam H) → (k < L.length ∧ L[k]? = some (Chunk.fam H)) ∨ (L.length ≤ k ∧ L1[k - L.length]? = some (Chunk.fam H)) := fun k H hk => by
    rcases Nat.lt_or_ge k L.length with hl | hl
    · rw [List.getElem?_append_left hl] at hk
      exact .inl ⟨hl, hk⟩
    · rw [List.getElem?_append_right hl, renC_get, Option.map_eq_some_iff] at hk
      obtain ⟨d, hd, e⟩ := hk
      exact .inr ⟨hl, by rw [hd, ren_fam e]⟩
  have hnewF : ∀ b, ownF L1 b → w.heap.size ≤ b := fun b hb => by
    rcases hg.ffresh b hb with h | ⟨j, hj, -⟩ | h
    · exact h
    · simp at hj
    · exact absurd h (not_ownF_nil b)
  refine ⟨out.ren F, L ++ renC F L1, g, σ', ?_, ?_, ⟨fun b o hb => ?_, fun k c o hk ho => ?_, fun j k hj' hk' e => ?_, fun k hk => ?_, ⟨fun k H b o hk hb => ?_, fun b hb => ?_, fun b j hb hj => ?_, fun i j H H' b hi hj h1 h2 => ?_⟩⟩, ?_, ?_, ?_, rfl, out, L1, hp, rfl, rfl⟩
  · cases out with
    | ret r =>
      show e = .returned ((r.ren F).re σ')
      rw [re_ren, hσF]; exact he
    | pan x =>
      show e = .panicked [{ v := (x.ren F).re σ', recovered := false }]
      rw [re_ren, hσF]; exact he
  · cases out with
    | ret r => cases r <;> first | (intro hh; cases hh; done) | exact fun _ => hj rfl
    | pan x => cases x <;> first | (intro hh; cases hh; done) | exact fun _ => hj rfl
  · have := hM.im b o hb
    rw [hkeep b (hlt this)]
    exact this
  · rcases Nat.lt_or_ge k L.length with hl | hl
    · rw [List.getElem?_append_left hl] at hk
      have hcs : c.obj σ' = c.obj σ := by
        cases c with
        | cells ty l =>
          show some _ = some _
          rw [reL_congr (n := L.length) (σ := σ') (σ' := σ) (fun j hj => hσL j hj) l (hH k ty l hk)]
        | vals => rfl
        | raw => rfl
        | row => rfl
        | gone => rfl
        | fam => rfl
      rw [hcs] at ho
      have := hM.lo k c o hk ho
      rw [hσL k hl, hkeep _ (hlt this)]
      exact this
    · rw [List.getElem?_append_right hl, renC_get, Option.map_eq_some_iff] at hk
      obtain ⟨d, hd, rfl⟩ := hk
      rw [obj_ren, hσF] at ho
      rw [hval k hl]
      exact hM1.lo _ d o hd ho
  · rcases hcase j hj' with ⟨h1, h2⟩ | ⟨h1, h2⟩ <;> rcases hcase k hk' with ⟨h3, h4⟩ | ⟨h3, h4⟩
    · rw [hσL j h1, hσL k h3] at e; exact hM.inj j k h2 h4 e
    · rw [hσL j h1, hval k h3] at e
      have := hM.lt h2; have := hnew _ h4; omega
    · rw [hval j h1, hσL k h3] at e
      have := hM.lt h4; have := hnew _ h2; omega
    · rw [hval j h1, hval k h3] at e
      have := hM1.inj _ _ h2 h4 e; omega
  · rcases hcase k hk with ⟨h1, h2⟩ | ⟨h1, h2⟩
    · rw [hσL k h1]; exact hM.sep k h2
    · rw [hval k h1]
      have := hnew _ h2
      cases hq : g (σ1 (k - L.length)) with
      | none => rfl
      | some o => have := hM.im_lt hq; omega
  · rcases hcaseF k H hk with ⟨h1, h2⟩ | ⟨h1, h2⟩
    · have := hM.fm.at_ k H b o h2 hb
      rw [hkeep b (hlt this)]
      exact this
    · exact hM1.fm.at_ _ H b o h2 hb
  · obtain ⟨k, H, hk, hh⟩ := hb
    rcases hcaseF k H hk with ⟨h1, h2⟩ | ⟨h1, h2⟩
    · exact hM.fm.im b ⟨k, H, h2, hh⟩
    · have := hnewF b ⟨_, H, h2, hh⟩
      cases hq : g b with
      | none => rfl
      | some o => have := hM.im_lt hq; omega
  · obtain ⟨k, H, hk, hh⟩ := hb
    rcases hcaseF k H hk with ⟨h1, h2⟩ | ⟨h1, h2⟩ <;> rcases hcase j hj with ⟨h3, h4⟩ | ⟨h3, h4⟩
    · rw [hσL j h3]; exact hM.fm.sep b j ⟨k, H, h2, hh⟩ h4
    · rw [hval j h3]
      have := hnew _ h4; have := hM.fm.lt ⟨k, H, h2, hh⟩; omega
    · rw [hσL j h3]
      have := hM.lt h4; have := hnewF b ⟨_, H, h2, hh⟩; omega
    · rw [hval j h3]; exact hM1.fm.sep b _ ⟨_, H, h2, hh⟩ h4
  · rcases hcaseF i H hi with ⟨i1, i2⟩ | ⟨i1, i2⟩ <;> rcases hcaseF j H' hj with ⟨j1, j2⟩ | ⟨j1, j2⟩
    · exact hM.fm.dis i j H H' b i2 j2 h1 h2
    · have := hM.fm.lt ⟨i, H, i2, h1⟩; have := hnewF b ⟨_, H', j2, h2⟩; omega
    · have := hM.fm.lt ⟨j, H', j2, h2⟩; have := hnewF b ⟨_, H, i2, h1⟩; omega
    · have := hM1.fm.dis _ _ H H' b i2 j2 h1 h2; omega
  · intro k ty c hk
    rcases Nat.lt_or_ge k L.length with hl | hl
    · rw [List.getElem?_append_left hl] at hk
      exact scL_mono (by simp) _ (hH k ty c hk)
    · rw [List.getElem?_append_right hl, renC_get, Option.map_eq_some_iff] at hk
      obtain ⟨d, hd, hdc⟩ := hk
      cases d with
      | cells ty' l =>
        cases hdc
        have := hs1 _ _ _ hd
        rw [onL_sc] at this ⊢
        exact renL_on (fun j hj => by simp [renC_length, F] at hj ⊢; omega) l this
      | vals => cases hdc
      | raw => cases hdc
      | row => cases hdc
      | gone => cases hdc
      | fam => cases hdc
  · have e1 : (out.ren F).sv = out.sv.ren F := by cases out <;> rfl
    rw [e1]
    exact sc_ren (n := L1.length) (fun k hk => by simp [renC_length, F]; exact hk) ho1
  · refine ⟨hσL, by simp, fun k hk hl => ?_, fun k h1 h2 => ?_, fun _ _ hb => hb, fun b h1 h2 => absurd h1 h2, hg.os, hg.tape, hg.output, hg.size, fun b hb _ _ => hkeep b hb, fun b hb => ?_⟩
    · rcases hcase k hl with ⟨_, h2⟩ | ⟨h1, _⟩
      · exact h2
      · omega
    · rcases hcase k h2 with ⟨h3, _⟩ | ⟨_, h4⟩
      · omega
      · rw [hval k h1]; exact .inl (hnew _ h4)
    · obtain ⟨k, H, hk, hh⟩ := hb
      rcases hcaseF k H hk with ⟨h1, h2⟩ | ⟨h1, h2⟩
      · exact .inr (.inr ⟨k, H, h2, hh⟩)
      · exact .inl (hnewF b ⟨_, H, h2, hh⟩)
end Go.Sx
end

/- A symbolic executor of my own, part 36: a slice of nothing; a slice held against nil. Conditions: none; it speaks of any program. -/
section
namespace Go.Sx

section
variable {P : Program} {L : List Chunk} {g : G} {chk : List Nat → List Nat → Bool} {K : Out → List Chunk → G → Prop}

/-- []T{} -/
theorem prim_bslice0 {t e : TypeId} {i : TypeInfo} (N : Nat) (hN : L.length = N) (ht : P.underlying t = some (.slice e)) (hi : P.info? e = some i) (hc : chk [] [] = true) (k : K (.ret (.slc N 0 0 0)) (L ++ [.vals e []]) g) :
    PrimX P (.buildSlice t 0 #[]) [] [] L g chk K := by
  subst hN
  refine prim_new [] hc fun o a σ w ho hev hse => ?_
  refine ⟨.vals e [], .cells #[] e (0, 0), .slc L.length 0 0 0, .slice (some ⟨w.heap.size, 0, none⟩) 0 0, w.drawn, rfl, fun _ => rfl, by simp [SV.sc], ?_, fun σ' h => by simp [SV.re, h], k⟩
  have h0 : (sizeOf e).run P w = .ok i.size w := by simp [sizeOf, typeInfo, hi]
  have hr : (Instr.buildSlice t 0 #[]).run P w = .ok (.slice (some ⟨w.heap.size, 0, none⟩) 0 0) { w with heap := w.heap.push (.cells #[] e (0, 0)) } := by
    simp only [Instr.buildSlice, Sem.run_bind, run_underlying ht, Result.andThen_ok, h0, Nat.zero_mul]
    simp only [show ¬ (0 > 2 ^ 24) from by decide, if_true, if_false, Sem.run_pure, Sem.run_bind, Result.andThen_ok, Instr.fill, newRow, run_newObj]
    have hz : Array.range 0 = #[] := by simp
    rw [hz]
    simp
  simp only [execOp, ho, Sem.run_bind]
  rw [show (Array.map (fun x : Nat × Operand => (x.1, a.eval x.2)) #[]) = #[] from by simp, hr]
  rfl
/-- s == nil -/
theorem prim_eqNilS {t e rt : TypeId} {x y : Operand} {a : Option Addr} {n c : Nat} (ht : P.underlying t = some (.slice e)) (hc : chk [] [] = true) (k : K (.ret (.v (.bool a.isNone))) L g) :
    PrimX P (.binOp .eql t x y rt) [x, y] [.v (.slice a n c), .v (.slice none 0 0)] L g chk K := by
  refine prim_val (.v (.bool a.isNone)) hc (fun _ => rfl) (fun o A σ w ho hev => ?_) k
  have e1 : A.eval x = .slice a n c := hev (x, .v (.slice a n c)) (by simp)
  have e2 : A.eval y = .slice none 0 0 := hev (y, .v (.slice none 0 0)) (by simp)
  have hg : (eqGuard .eql t x y (.slice a n c) (.slice none 0 0)).run P w = .ok () w := by simp [eqGuard]
  have hr : (binOp .eql t (.slice a n c) (.slice none 0 0)).run P w = .ok (.bool a.isNone) w := by
    have h : ∀ d : Nat, (Op.equalIn (d + 1) t (.slice a n c) (.slice none 0 0)).run P w = .ok a.isNone w := fun d => by
      cases a <;> simp [Op.equalIn, run_underlying ht]
    simp only [binOp, Op.equal, Op.maxDepth, Sem.run_bind]
    rw [h 9999]
    rfl
  simp only [execOp, ho, e1, e2, Sem.run_bind, hg, hr, Result.andThen_ok, Sem.run_pure, SV.re]
end
end Go.Sx
end

/- A symbolic executor of my own, part 37: a contract of the library's, proved of every world, taken as a contract here. Conditions: none; it speaks of any program. -/
section
namespace Go.Sx
open Go.RowKit

theorem Tells.of_below {P : Program} {f : FuncId} {args : List SV} {g : G} {v : Value} (hc : callable P f = true) (hs : scL 0 args = true)
    (h : ∀ (σ : Nat → Nat) (w : World), (∀ b o, g b = some o → w.heap[b]? = some o) → Calls P f (reL σ args).toArray w fun e w' => e = .returned v ∧ Below w.heap.size w w') :
    Tells P f args g (.v v) := by
  refine ⟨hc, fun σ w hM hH _ => (h σ w hM.im).mono ?_⟩
  rintro e w' ⟨rfl, hb⟩
  refine ⟨.ret (.v v), [], g, σ, rfl, (fun hh => by cases hh), ⟨fun b o hbo => ?_, fun k c o hk => by simp at hk, fun j k hj => by have := live_lt hj; simp at this, fun k hk => by have := live_lt hk; simp at this, FamOk.nil _ _ _⟩, hH, rfl, ?_, rfl, rfl, rfl⟩
  · have := hM.im b o hbo
    rw [hb.block b (Array.getElem?_eq_some_iff.1 this).1]
    exact this
  · exact ⟨fun _ _ => rfl, Nat.le_refl _, fun _ _ hl => hl, fun k h1 h2 => by have := live_lt h2; simp at this, fun _ _ hbo => hbo, fun b h1 h2 => absurd h1 h2, hb.os, hb.tape, hb.output, hb.size, fun b hbl _ _ => hb.block b hbl, fun b hbn => absurd hbn (not_ownF_nil b)⟩
end Go.Sx
end

/- A symbolic executor of my own, part 38: where the first of a list is. Conditions: none. -/
section
namespace Go.Sx
section
attribute [local instance] Classical.propDecidable
/-- Where the first is. -/
noncomputable def firstI {α : Type} (p : α → Prop) (l : List α) : Int := match l.findIdx? (fun x => decide (p x)) with | some i => (i : Int) | none => -1
theorem firstI_hit {α : Type} {p : α → Prop} {l : List α} {k : Nat} {x : α} (hb : ∀ (i : Nat) y, i < k → l[i]? = some y → ¬ p y) (hx : l[k]? = some x) (hp : p x) : firstI p l = k := by
  obtain ⟨hk, rfl⟩ := List.getElem?_eq_some_iff.1 hx
  have : l.findIdx? (fun x => decide (p x)) = some k := by
    rw [List.findIdx?_eq_some_iff_getElem]
    exact ⟨hk, by simpa using hp, fun j hj => by simpa using hb j _ hj (List.getElem?_eq_getElem (by omega))⟩
  rw [firstI, this]
theorem firstI_none {α : Type} {p : α → Prop} {l : List α} (hb : ∀ (i : Nat) y, l[i]? = some y → ¬ p y) : firstI p l = -1 := by
  have : l.findIdx? (fun x => decide (p x)) = none := by
    rw [List.findIdx?_eq_none_iff]
    intro t ht
    obtain ⟨i, hi, rfl⟩ := List.getElem_of_mem ht
    simpa using hb i _ (List.getElem?_eq_getElem hi)
  rw [firstI, this]
theorem firstI_ge {α : Type} (p : α → Prop) (l : List α) : decide (firstI p l ≥ 0) = decide (∃ x ∈ l, p x) := by
  rw [decide_eq_decide, firstI]
  cases h : l.findIdx? (fun x => decide (p x)) with
  | none =>
    rw [List.findIdx?_eq_none_iff] at h
    constructor
    · intro hh; simp at hh
    · rintro ⟨x, hx, hp⟩
      have := h x hx
      simp [hp] at this
  | some i =>
    rw [List.findIdx?_eq_some_iff_getElem] at h
    obtain ⟨h1, h2, -⟩ := h
    constructor
    · intro _; exact ⟨l[i], List.getElem_mem h1, by simpa using h2⟩
    · intro _; show (i : Int) ≥ 0; omega
/-- One more looked at. -/
theorem seen_next {α : Type} {p : α → Prop} {l : List α} {k : Nat} {x : α} (hb : ∀ (i : Nat) y, i < k → l[i]? = some y → ¬ p y) (hx : l[k]? = some x) (hp : ¬ p x) : ∀ (i : Nat) y, i < k + 1 → l[i]? = some y → ¬ p y := by
  intro i y hi hy
  by_cases hik : i = k
  · subst hik; rw [hx] at hy; cases hy; exact hp
  · exact hb i y (by omega) hy

end
end Go.Sx
end

/- A symbolic executor of my own, part 39: structs of two numbers as keys of a map; prefixes of slices; distinct elements. Conditions: none; it speaks of any program. -/
section
namespace Go.Sx
section
variable {P : Program} {kt : TypeId}
theorem run_partI {t : TypeId} {k : IntKind} (ht : P.underlying t = some (.int k)) (w : World) {cs : Array Value} {i : Nat} {v : Value} (hv : cs[i]? = some v) : (part t cs i).run P w = .ok v w := by
  simp only [part, Go.isAgg, Sem.run_bind, run_underlying ht, Result.andThen_ok, Sem.run_pure, Bool.false_eq_true, if_false, hv]
theorem run_equalI {t : TypeId} {k : IntKind} (ht : P.underlying t = some (.int k)) (w : World) (n : Nat) (k' : IntKind) (a b : Int) : (Op.equalIn (n + 1) t (.int k' a) (.int k' b)).run P w = .ok (a == b) w := by
  simp only [Op.equalIn, Sem.run_bind, run_underlying ht, Result.andThen_ok, if_true, Sem.run_pure]
theorem KL_two {α : Type} [DecidableEq α] {f : α → Value} {a b : α → Int} {f0 f1 : Field} {k0 k1 : IntKind} (hf : ∀ x, f x = .agg #[.int k0 (a x), .int k1 (b x)]) (hab : ∀ x y, a x = a y → b x = b y → x = y)
    (hu : P.underlying kt = some (.struct #[f0, f1])) (hn0 : f0.name ≠ "_") (hn1 : f1.name ≠ "_") (ho0 : f0.offset = 0) (ho1 : f1.offset = 1) (ht0 : P.underlying f0.type = some (.int k0)) (ht1 : P.underlying f1.type = some (.int k1)) (hs : P.stoodInHeld kt = false) : KL P kt f where
  check w e x := by
    have h0 := run_partI ht0 w (cs := #[.int k0 (a x), .int k1 (b x)]) (i := 0) (v := .int k0 (a x)) rfl
    have h1 := run_partI ht1 w (cs := #[.int k0 (a x), .int k1 (b x)]) (i := 1) (v := .int k1 (b x)) rfl
    have c0 := run_checkKeyN (P := P) (t := f0.type) (by simp [flatKey, ht0]) e (.int k0 (a x)) w 9998
    have c1 := run_checkKeyN (P := P) (t := f1.type) (by simp [flatKey, ht1]) e (.int k1 (b x)) w 9998
    rw [hf, show (10000 : Nat) = 9999 + 1 from rfl, Instr.checkKey]
    simp only [Sem.run_bind, run_underlying hu, Result.andThen_ok]
    rw [← Array.forIn_toList]
    simp only [List.forIn_cons, List.forIn_nil, Sem.run_bind, hn0, hn1, ne_eq, not_false_eq_true, if_true, ho0, ho1, h0, h1, Result.andThen_ok, Sem.run_pure]
    rw [show (9999 : Nat) = 9998 + 1 from rfl, c0]
    simp only [Result.andThen_ok, Sem.run_bind, h1, c1, Sem.run_pure]
  eq w x y := by
    have h0 := fun z => run_partI ht0 w (cs := #[.int k0 (a z), .int k1 (b z)]) (i := 0) (v := .int k0 (a z)) rfl
    have h1 := fun z => run_partI ht1 w (cs := #[.int k0 (a z), .int k1 (b z)]) (i := 1) (v := .int k1 (b z)) rfl
    have c0 := run_equalI ht0 w 9998 k0 (a x) (a y)
    have c1 := run_equalI ht1 w 9998 k1 (b x) (b y)
    rw [hf, hf, Op.equal, Op.maxDepth, show (10000 : Nat) = 9999 + 1 from rfl, Op.equalIn]
    have hp : (program).run P w = .ok P w := rfl
    simp only [Sem.run_bind, run_underlying hu, Result.andThen_ok, hp, hs, Bool.false_eq_true, if_false]
    rw [← Array.forIn_toList]
    simp only [List.forIn_cons, List.forIn_nil, Sem.run_bind, hn0, hn1, ne_eq, not_false_eq_true, if_true, ho0, ho1, h0, h1, Result.andThen_ok, Sem.run_pure]
    rw [show (9999 : Nat) = 9998 + 1 from rfl, c0]
    simp only [Result.andThen_ok]
    cases e0 : (a x == a y) with
    | false =>
      have : x ≠ y := fun h => by rw [h] at e0; simp at e0
      simp [this]
    | true =>
      simp only [Bool.not_true, Bool.false_eq_true, if_false, Sem.run_bind, Sem.run_pure, Result.andThen_ok, h1, c1]
      cases e1 : (b x == b y) with
      | false =>
        have : x ≠ y := fun h => by rw [h] at e1; simp at e1
        simp [this]
      | true => simp [hab x y (by simpa using e0) (by simpa using e1)]
  asks := ⟨_, hu, fun a b => by simp [Instr.sameNow]⟩
  stays w x := by
    rw [hf]
    simp [Instr.keyThatStays, Instr.sameBits]
end

/-! ### Prefixes of slices -/
def SliceV.pre {α : Type} (s : SliceV α) (k : Nat) : SliceV α := ⟨s.a.map fun a => a.add 0, s.l.take k, s.c⟩
theorem SliceV.pre_len {α : Type} {s : SliceV α} {k : Nat} (h : k ≤ s.l.length) : (s.pre k).l.length = k := by simp [SliceV.pre]; omega
theorem SliceV.ok.pre {α : Type} {sz : Nat} {f : α → List Value} (hf : ∀ x, (f x).length = sz) {Q : α → Prop} {g : G} {s : SliceV α} (h : s.ok sz f Q g) {k : Nat} (hk : k ≤ s.l.length) : (s.pre k).ok sz f Q g := by
  obtain ⟨⟨h1, h2⟩, h3, h4, h5, h6⟩ := h
  have hl : (s.pre k).l.length = k := SliceV.pre_len hk
  have hb : ((s.pre k).l.flatMap f).length = k * sz := by rw [flatMap_len f sz hf, hl]
  refine ⟨⟨by rw [hb, hl], fun h0 => ?_⟩, by omega, by show (s.pre k).l.length ≤ s.c; omega, h5, fun x hx => h6 x (List.mem_of_mem_take hx)⟩
  obtain ⟨ad, ha, hat⟩ := h2 (by omega)
  refine ⟨ad.add 0, by show s.a.map _ = _; rw [ha]; rfl, ?_⟩
  have hs : (s.l.flatMap f).length = s.l.length * sz := flatMap_len f sz hf s.l
  have hle : k * sz ≤ s.l.length * sz := Nat.mul_le_mul_right _ hk
  have := hat.sub 0 (k * sz) (by omega)
  rw [List.drop_zero] at this
  have e : (s.l.flatMap f).take (k * sz) = (s.pre k).l.flatMap f := by
    have e1 : s.l.flatMap f = (s.l.take k).flatMap f ++ (s.l.drop k).flatMap f := by rw [← List.flatMap_append, List.take_append_drop]
    rw [e1]
    have e2 : ((s.l.take k).flatMap f).length = k * sz := hb
    rw [← e2, List.take_left]
    rfl
  rw [e] at this
  exact this

/-! ### Lists without repeats -/
theorem nodup_snoc {α : Type} {l : List α} {x : α} : (l ++ [x]).Nodup ↔ l.Nodup ∧ x ∉ l := by
  rw [List.nodup_append]
  constructor
  · rintro ⟨h1, -, h3⟩
    exact ⟨h1, fun hx => h3 x hx x (by simp) rfl⟩
  · rintro ⟨h1, h2⟩
    exact ⟨h1, by simp, fun a ha b hb => by rw [List.mem_singleton] at hb; rw [hb]; exact fun e => h2 (e ▸ ha)⟩
theorem nodup_sub {α : Type} : ∀ (d l : List α), d.Nodup → (∀ x ∈ d, x ∈ l) → d.length ≤ l.length := by
  classical
  intro d
  induction d with
  | nil => intro l _ _; simp
  | cons x d ih =>
    intro l hd hs
    rw [List.nodup_cons] at hd
    have hx : x ∈ l := hs x (by simp)
    have := ih (l.erase x) hd.2 fun y hy => by
      have hne : y ≠ x := fun e => hd.1 (e ▸ hy)
      exact (List.mem_erase_of_ne hne).2 (hs y (List.mem_cons_of_mem _ hy))
    rw [List.length_erase_of_mem hx] at this
    have h0 := List.length_pos_of_mem hx
    simp only [List.length_cons]
    omega
theorem dup_shorter {α : Type} : ∀ l : List α, ¬ l.Nodup → ∃ t : List α, t.length < l.length ∧ ∀ y ∈ l, y ∈ t
  | [], h => absurd List.nodup_nil h
  | x :: l, h => by
    by_cases hx : x ∈ l
    · exact ⟨l, by simp, fun y hy => by rcases List.mem_cons.1 hy with rfl | hy <;> assumption⟩
    · have hl : ¬ l.Nodup := fun hl => h (List.nodup_cons.2 ⟨hx, hl⟩)
      obtain ⟨t, h1, h2⟩ := dup_shorter l hl
      refine ⟨x :: t, by simp only [List.length_cons]; omega, fun y hy => ?_⟩
      rcases List.mem_cons.1 hy with rfl | hy
      · simp
      · exact List.mem_cons_of_mem _ (h2 y hy)
/-- A list of the same elements without repeats is as long as the list has none itself. -/
theorem distinct_lt {α : Type} {l d : List α} (hd : d.Nodup) (hm : ∀ x, x ∈ d ↔ x ∈ l) : d.length < l.length ↔ ¬ l.Nodup := by
  constructor
  · intro h hl
    have := nodup_sub l d hl fun x hx => (hm x).2 hx
    omega
  · intro h
    obtain ⟨t, h1, h2⟩ := dup_shorter l h
    have := nodup_sub d t hd fun x hx => h2 x ((hm x).1 hx)
    omega
theorem take_snoc {α : Type} {l : List α} {k : Nat} {x : α} (h : l[k]? = some x) : l.take (k + 1) = l.take k ++ [x] := by
  rw [List.take_add_one, h]; rfl
theorem mem_take_lt {α : Type} {l : List α} {k : Nat} {x : α} (h : x ∈ l.take k) : ∃ i, i < k ∧ l[i]? = some x := by
  obtain ⟨i, hi, rfl⟩ := List.getElem_of_mem h
  rw [List.length_take] at hi
  exact ⟨i, by omega, by rw [List.getElem_take]; exact List.getElem?_eq_getElem (by omega)⟩
end Go.Sx
end

/- A symbolic executor of my own, part 40: bounds on the sizes of strings, found by their form. Conditions: none. -/
section
namespace Go.Sx
class Sz (s : ByteArray) (n : outParam Nat) : Prop where
  le : s.size ≤ n
instance Sz.app {a b : ByteArray} {m n : Nat} [ha : Sz a m] [hb : Sz b n] : Sz (a ++ b) (m + n) := ⟨by rw [ByteArray.size_append]; exact Nat.add_le_add ha.le hb.le⟩
instance Sz.lit (l : Array UInt8) : Sz ⟨l⟩ l.size := ⟨Nat.le_refl _⟩
instance Sz.be (n x : Nat) : Sz (beS n x) n := ⟨by rw [beS_size]; exact Nat.le_refl _⟩
instance Sz.ints (l : List Int) : Sz (bytesOfInts l) l.length := ⟨by show ((l.map _).toArray).size ≤ _; simp⟩
theorem szOk {a b : ByteArray} {m n : Nat} [ha : Sz a m] [hb : Sz b n] (h : Nat.ble (m + n) 9223372036854775807 = true) : a.size + b.size ≤ 9223372036854775807 := Nat.le_trans (Nat.add_le_add ha.le hb.le) (Nat.le_of_ble_eq_true h)
end Go.Sx
end

/- A symbolic executor of my own, part 41: the builtins max and min of two numbers. Conditions: none; it speaks of any program. -/
section
namespace Go.Sx
section
variable {P : Program} {L : List Chunk} {g : G} {chk : List Nat → List Nat → Bool} {K : Out → List Chunk → G → Prop}
def maxI (a b : Int) : Int := if b > a then b else a
def minI (a b : Int) : Int := if b < a then b else a
theorem prim_max {c : Call} {x y : Operand} {k : IntKind} {a b : Int} (hcal : c.callee = .builtin .max) (hargs : c.args.toList = [x, y]) (hc : chk [] [] = true) (h : K (.ret (.v (.int k (maxI a b)))) L g) :
    PrimX P (.call c) [x, y] [.v (.int k a), .v (.int k b)] L g chk K := by
  refine prim_val (.v (.int k (maxI a b))) hc (fun _ => rfl) (fun o A σ w ho hev => ?_) h
  have e1 : A.eval x = .int k a := hev (x, .v (.int k a)) (by simp)
  have e2 : A.eval y = .int k b := hev (y, .v (.int k b)) (by simp)
  have e3 : c.args.map A.eval = #[.int k a, .int k b] := by apply Array.ext'; simp [hargs, e1, e2]
  have hr : (Builtin.max_ c.argTypes o.type #[.int k a, .int k b]).run P w = .ok (.int k (maxI a b)) w := by
    simp [Builtin.max_, Builtin.max2, maxI]
  simp only [execOp, ho, resolve, hcal, Sem.run_bind, Sem.run_pure, Result.andThen_ok, invoke, builtin, e3, hr, SV.re]
theorem prim_min {c : Call} {x y : Operand} {k : IntKind} {a b : Int} (hcal : c.callee = .builtin .min) (hargs : c.args.toList = [x, y]) (hc : chk [] [] = true) (h : K (.ret (.v (.int k (minI a b)))) L g) :
    PrimX P (.call c) [x, y] [.v (.int k a), .v (.int k b)] L g chk K := by
  refine prim_val (.v (.int k (minI a b))) hc (fun _ => rfl) (fun o A σ w ho hev => ?_) h
  have e1 : A.eval x = .int k a := hev (x, .v (.int k a)) (by simp)
  have e2 : A.eval y = .int k b := hev (y, .v (.int k b)) (by simp)
  have e3 : c.args.map A.eval = #[.int k a, .int k b] := by apply Array.ext'; simp [hargs, e1, e2]
  have hr : (Builtin.min_ c.argTypes o.type #[.int k a, .int k b]).run P w = .ok (.int k (minI a b)) w := by
    simp [Builtin.min_, Builtin.min2, minI]
  simp only [execOp, ho, resolve, hcal, Sem.run_bind, Sem.run_pure, Result.andThen_ok, invoke, builtin, e3, hr, SV.re]
end
end Go.Sx
end

/- A symbolic executor of my own, part 42: a contract of the library's whose result is one new block. Conditions: none; it speaks of any program. -/
section
namespace Go.Sx
open Go.RowKit

theorem Meets.of_alloc {P : Program} {f : FuncId} {args : List SV} {g : G} {ty : TypeId} {cs : List Value} {len cap : Nat} (hc : callable P f = true) (hs : scL 0 args = true)
    (h : ∀ (σ : Nat → Nat) (w : World), (∀ b o, g b = some o → w.heap[b]? = some o) → Calls P f (reL σ args).toArray w fun e w' => e = .returned (.slice (some ⟨w.heap.size, 0, none⟩) len cap) ∧ w' = w.alloc (.cells cs.toArray ty)) :
    Meets P f args [] g (fun o L' g' => o = .ret (.slc 0 0 len cap) ∧ L' = [.vals ty cs] ∧ g' = g) := by
  refine ⟨hc, fun σ w hM hH _ => (h σ w hM.im).mono ?_⟩
  rintro e w' ⟨rfl, rfl⟩
  have hnew : (w.alloc (.cells cs.toArray ty)).heap[w.heap.size]? = some (.cells cs.toArray ty) := by show (w.heap.push _)[w.heap.size]? = _; simp
  have hold : ∀ b, b < w.heap.size → (w.alloc (.cells cs.toArray ty)).heap[b]? = w.heap[b]? := fun b hb => Below.heap_alloc w _ b hb
  have hlt : ∀ {b : Nat} {o : Obj}, w.heap[b]? = some o → b < w.heap.size := fun hb => (Array.getElem?_eq_some_iff.1 hb).1
  have h0 : ∀ k, live [Chunk.vals ty cs] k → k = 0 := fun k hk => by have := live_lt hk; simp at this; exact this
  refine ⟨.ret (.slc 0 0 len cap), [.vals ty cs], g, fun _ => w.heap.size, rfl, (fun hh => by cases hh), ⟨fun b o hb => ?_, fun k c o hk ho => ?_, fun j k hj hk _ => by rw [h0 j hj, h0 k hk], fun k hk => ?_, (FamOk.nil g (fun _ => w.heap.size) (w.alloc (.cells cs.toArray ty))).to (L' := [Chunk.vals ty cs]) (fun k H hk => (fam_app (L := []) (c := .vals ty cs) rfl k H hk)) (fun b hb => absurd hb (not_ownF_nil b)) (fun b j hb => absurd hb (not_ownF_nil b)) fun _ _ _ => rfl⟩, fun k ty' c hk => ?_, rfl, ?_, rfl, rfl, rfl⟩
  · have := hM.im b o hb
    rw [hold b (hlt this)]
    exact this
  · have hk0 : k = 0 := by have := (List.getElem?_eq_some_iff.1 hk).1; simp at this; exact this
    subst hk0
    cases hk
    cases ho
    exact hnew
  · cases hq : g w.heap.size with
    | none => rfl
    | some o => have := hlt (hM.im _ o hq); omega
  · have hk0 : k = 0 := by have := (List.getElem?_eq_some_iff.1 hk).1; simp at this; exact this
    subst hk0
    cases hk
  · refine ⟨fun k hk => by simp at hk, Nat.zero_le _, fun k hk => by simp at hk, fun k h1 h2 => .inl (Nat.le_refl _), fun _ _ hb => hb, fun b h1 h2 => absurd h1 h2, rfl, rfl, rfl, ?_, fun b hb _ _ => hold b hb, fun b hb => absurd (hb.of (L := []) (fun k H hk => fam_app (L := []) (c := .vals ty cs) rfl k H hk)) (not_ownF_nil b)⟩
    have := (Array.getElem?_eq_some_iff.1 hnew).1
    omega
end Go.Sx
end

/- A symbolic executor of my own, part 43: contracts of the library's whose answer is told by a condition. Conditions: none; it speaks of any program. -/
section
namespace Go.Sx
open Go.RowKit

theorem Meets.of_belowE {P : Program} {f : FuncId} {args : List SV} {g : G} {R : SV → Prop} (hc : callable P f = true) (hs : scL 0 args = true)
    (h : ∀ (σ : Nat → Nat) (w : World), (∀ b o, g b = some o → w.heap[b]? = some o) → Calls P f (reL σ args).toArray w fun e w' => ∃ r : SV, (r.sc 0 = true ∧ r ≠ .junk) ∧ e = .returned (r.re σ) ∧ Below w.heap.size w w' ∧ R r) :
    Meets P f args [] g (fun o L' g' => ∃ r, R r ∧ o = .ret r ∧ L' = [] ∧ g' = g) := by
  refine ⟨hc, fun σ w hM hH _ => (h σ w hM.im).mono ?_⟩
  rintro e w' ⟨r, ⟨hr, hj⟩, rfl, hb, hR⟩
  refine ⟨.ret r, [], g, σ, rfl, hj, ⟨fun b o hbo => ?_, fun k c o hk => by simp at hk, fun j k hj => by have := live_lt hj; simp at this, fun k hk => by have := live_lt hk; simp at this, FamOk.nil _ _ _⟩, hH, hr, ?_, r, hR, rfl, rfl, rfl⟩
  · have := hM.im b o hbo
    rw [hb.block b (Array.getElem?_eq_some_iff.1 this).1]
    exact this
  · exact ⟨fun _ _ => rfl, Nat.le_refl _, fun _ _ hl => hl, fun k h1 h2 => by have := live_lt h2; simp at this, fun _ _ hbo => hbo, fun b h1 h2 => absurd h1 h2, hb.os, hb.tape, hb.output, hb.size, fun b hbl _ _ => hb.block b hbl, fun b hbn => absurd hbn (not_ownF_nil b)⟩
theorem Tells.of_belowR {P : Program} {f : FuncId} {args : List SV} {g : G} {r : SV} (hc : callable P f = true) (hs : scL 0 args = true) (hr : r.sc 0 = true ∧ r ≠ .junk)
    (h : ∀ (σ : Nat → Nat) (w : World), (∀ b o, g b = some o → w.heap[b]? = some o) → Calls P f (reL σ args).toArray w fun e w' => e = .returned (r.re σ) ∧ Below w.heap.size w w') : Tells P f args g r := by
  refine (Meets.of_belowE (R := fun x => x = r) hc hs fun σ w him => (h σ w him).mono fun e w' ⟨h1, h2⟩ => ⟨r, hr, h1, h2, rfl⟩).mono ?_
  rintro o L' g' ⟨x, rfl, h1, h2, h3⟩
  exact ⟨h1, h2, h3⟩
end Go.Sx
end

/- A symbolic executor of my own, part 44: noughts appended; a range over a string of plain signs. Conditions: none; it speaks of any program. -/
section
namespace Go.Sx
open Go.Lib
section
variable {P : Program}
theorem run_appZ_nil (w : World) (t u ty e : TypeId) (i : TypeInfo) (z : Value) (ku : IntKind) (ht : P.underlying t = some (.slice e)) (hu : P.underlying u = some (.int ku)) (hi : P.info? e = some i) (hz : i.zero = some z) (hs1 : i.size = 1)
    (m : Nat) (h0 : 0 < m) (hm : m * i.bytes ≤ 140737488355328) (hm2 : m ≤ 140737488355328) :
    (Builtin.append_ #[t, u] ty #[.slice none 0 0, .int .i64 m]).run P w = .ok (.slice (some ⟨w.heap.size, 0, none⟩) m (grownCap w m 0 e)) (w.drew.alloc (.cells (Builtin.zeroCells z.cells m ++ Builtin.zeroCells z.cells (grownCap w m 0 e - m)) e)) := by
  have hn : m ≠ 0 := by omega
  have hw : IntKind.i64.wrap (m : Int) = m := wrap_id (by omega) (by omega)
  have hai : ∀ w : World, (asIntOf (.int .i64 (m : Int))).run P w = .ok (.i64, (m : Int)) w := fun _ => rfl
  have h1 : ¬ ((m : Int) < 0) := by omega
  have h2 : ¬ (281474976710656 < (m : Int) * (i.bytes : Int)) := by
    have : ((m * i.bytes : Nat) : Int) ≤ 140737488355328 := by omega
    rw [Int.natCast_mul] at this
    omega
  have h63' : ¬ (9223372036854775807 < (m : Int)) := by omega
  have h48' : ¬ (281474976710656 < Builtin.nextslicecap m 0 * i.bytes) := by rw [nextslicecap_zero h0]; omega
  simp [Builtin.append_, run_underlying ht, run_underlying hu, sizeOf, typeInfo, zeroValue, hi, hz, hs1, asInt, hai, hw, h1, h2, hn, h63', h48', Question.forced, run_firstCells_none, newRow, grownCap]
theorem run_appZ_room (w : World) (t u ty e : TypeId) (i : TypeInfo) (z : Value) (ku : IntKind) (ht : P.underlying t = some (.slice e)) (hu : P.underlying u = some (.int ku)) (hi : P.info? e = some i) (hz : i.zero = some z) (hs1 : i.size = 1) (hz1 : z.cells = #[z]) (h1 : z.oneCell' = true)
    (g sLen sCap : Nat) (cur : Array Value) (hg : w.heap[g]? = some (.cells cur e (0, 0))) (m : Nat) (h0 : 0 < m) (hm : m * i.bytes ≤ 140737488355328) (hm2 : m ≤ 140737488355328)
    (hroom : sLen + m ≤ sCap) (hfit : sLen + m ≤ cur.size) :
    (Builtin.append_ #[t, u] ty #[.slice (some ⟨g, 0, none⟩) sLen sCap, .int .i64 m]).run P w =
      .ok (.slice (some ⟨g, 0, none⟩) (sLen + m) sCap) (w.setRow g (cur.toList.take sLen ++ List.replicate m z ++ cur.toList.drop (sLen + m)).toArray) := by
  have hn : m ≠ 0 := by omega
  have hw : IntKind.i64.wrap (m : Int) = m := wrap_id (by omega) (by omega)
  have hai : ∀ w : World, (asIntOf (.int .i64 (m : Int))).run P w = .ok (.i64, (m : Int)) w := fun _ => rfl
  have h2 : ¬ ((m : Int) < 0) := by omega
  have h3 : ¬ (281474976710656 < (m : Int) * (i.bytes : Int)) := by
    have : ((m * i.bytes : Nat) : Int) ≤ 140737488355328 := by omega
    rw [Int.natCast_mul] at this
    omega
  have hzc : (Builtin.zeroCells z.cells m).toList = List.replicate m z := by
    rw [hz1]
    apply List.ext_getElem
    · simp [Builtin.zeroCells]
    · intro j q1 q2
      simp [Builtin.zeroCells, Nat.mod_one]
  have hst := run_storeCells_at P g sLen e (List.replicate m z) 0 cur w hg (by simpa using hfit) (fun u hu => by rw [(List.mem_replicate.1 hu).2]; exact h1)
  simp only [Nat.add_zero, List.length_replicate] at hst
  simp [Builtin.append_, run_underlying ht, run_underlying hu, sizeOf, typeInfo, zeroValue, hi, hz, hs1, asInt, hai, hw, h2, h3, hn, hroom, hzc, Addr.add_lit, hst]
theorem run_appZ_grow (w : World) (t u ty e : TypeId) (i : TypeInfo) (z : Value) (ku : IntKind) (ht : P.underlying t = some (.slice e)) (hu : P.underlying u = some (.int ku)) (hi : P.info? e = some i) (hz : i.zero = some z) (hs1 : i.size = 1)
    (b : Addr) (sLen sCap : Nat) (olds : List Value) (hlo : olds.length = sLen) (holds : ∀ j v, olds[j]? = some v → w.cell? (b.add j) = some v) (m : Nat) (h0 : 0 < m) (hm : m * i.bytes ≤ 140737488355328) (hm2 : m ≤ 140737488355328)
    (hg : sCap < sLen + m) (h63 : ((sLen + m : Nat) : Int) ≤ 9223372036854775807) (hfit : Builtin.nextslicecap (sLen + m) sCap * i.bytes ≤ 281474976710656) :
    (Builtin.append_ #[t, u] ty #[.slice (some b) sLen sCap, .int .i64 m]).run P w =
      .ok (.slice (some ⟨w.heap.size, 0, none⟩) (sLen + m) (grownCap w (sLen + m) sCap e))
        (w.drew.alloc (.cells (olds.toArray ++ Builtin.zeroCells z.cells m ++ Builtin.zeroCells z.cells (grownCap w (sLen + m) sCap e - (sLen + m))) e)) := by
  have hn : m ≠ 0 := by omega
  have hw : IntKind.i64.wrap (m : Int) = m := wrap_id (by omega) (by omega)
  have hai : ∀ w : World, (asIntOf (.int .i64 (m : Int))).run P w = .ok (.i64, (m : Int)) w := fun _ => rfl
  have h2 : ¬ ((m : Int) < 0) := by omega
  have h3 : ¬ (281474976710656 < (m : Int) * (i.bytes : Int)) := by
    have : ((m * i.bytes : Nat) : Int) ≤ 140737488355328 := by omega
    rw [Int.natCast_mul] at this
    omega
  have hr : ¬ (sLen + m ≤ sCap) := by omega
  have h63' : ¬ (9223372036854775807 < ((sLen : Int) + (m : Int))) := by omega
  have h48' : ¬ (281474976710656 < Builtin.nextslicecap (sLen + m) sCap * i.bytes) := by omega
  have hfo := run_firstCells_some (P := P) w.drew i.size sLen b sLen sCap olds (by rw [hs1, hlo, Nat.mul_one]) (by simpa using holds)
  rw [hs1] at hfo
  simp [Builtin.append_, run_underlying ht, run_underlying hu, sizeOf, typeInfo, zeroValue, hi, hz, hs1, asInt, hai, hw, h2, h3, hn, hr, h63', h48', Question.forced, hfo, newRow, grownCap]
theorem zeroC_list {z : Value} (hz1 : z.cells = #[z]) (m : Nat) : (Builtin.zeroCells z.cells m).toList = List.replicate m z := by
  rw [hz1]
  apply List.ext_getElem
  · simp [Builtin.zeroCells]
  · intro j q1 q2
    simp [Builtin.zeroCells, Nat.mod_one]
end
section
variable {P : Program} {L : List Chunk} {g : G} {chk : List Nat → List Nat → Bool} {K : Out → List Chunk → G → Prop}
/-- append(nil, make([]T, m)...) -/
theorem prim_appZ0 {c : Call} {s x : Operand} {t u e : TypeId} {i : TypeInfo} {ku : IntKind} {z : Value} (hcal : c.callee = .builtin .append) (hargs : c.args.toList = [s, x]) (htys : c.argTypes = #[t, u]) (ht : P.underlying t = some (.slice e)) (hu : P.underlying u = some (.int ku)) (hi : P.info? e = some i) (hz : i.zero = some z) (hz1 : z.cells = #[z]) (ho1 : z.oneCell' = true)
    {m : Nat} (N : Nat) (hN : L.length = N) (hsz : i.size = 1) (hne : 0 < m) (hb : m * i.bytes ≤ 140737488355328) (hb2 : m ≤ 140737488355328) (hc : chk [] [] = true)
    (k : ∀ (cap : Nat) (spare : List Value), m ≤ cap → cap ≤ 9223372036854775807 → spare.length = cap - m → K (.ret (.slc N 0 m cap)) (L ++ [.vals e (List.replicate m z ++ spare)]) g) :
    PrimX P (.call c) [s, x] [.v (.slice none 0 0), .v (.int .i64 m)] L g chk K := by
  subst hN
  refine prim_new [] hc fun o a σ w ho hev _ => ?_
  have e1 : a.eval s = .slice none 0 0 := hev (s, .v (.slice none 0 0)) (by simp)
  have e2 : a.eval x = .int .i64 m := hev (x, .v (.int .i64 m)) (by simp)
  have hr := run_appZ_nil (P := P) w t u o.type e i z ku ht hu hi hz hsz m hne hb hb2
  have hge := grownCap_ge w m 0 e
  have hle := grownCap_le_maxLen w m 0 e (by simp only [maxLen]; omega)
  generalize grownCap w m 0 e = gc at hr hge hle
  have hzl : (Builtin.zeroCells z.cells (gc - m)).toList.length = gc - m := by
    rw [Array.length_toList, size_zeroCells]; simp [hz1]
  refine ⟨.vals e (List.replicate m z ++ (Builtin.zeroCells z.cells (gc - m)).toList), _, .slc L.length 0 m gc, .slice (some ⟨w.heap.size, 0, none⟩) m gc, w.drew.drawn, rfl, fun σ => rfl, by simp [SV.sc], ?_, fun σ' hs => by simp [SV.re, hs], k gc _ hge (by simpa [maxLen] using hle) hzl⟩
  rw [exec_app hcal hargs htys ho (by rw [e1, e2]; exact hr)]
  have e3 : (Builtin.zeroCells z.cells m ++ Builtin.zeroCells z.cells (gc - m)) = (List.replicate m z ++ (Builtin.zeroCells z.cells (gc - m)).toList).toArray := by
    apply Array.ext'; simp [zeroC_list hz1]
  rw [e3]
  rfl

/-- append(b, make([]T, m)...), b a slice at hand. -/
theorem prim_appZ1 {c : Call} {s x : Operand} {t u e : TypeId} {i : TypeInfo} {ku : IntKind} {z : Value} (hcal : c.callee = .builtin .append) (hargs : c.args.toList = [s, x]) (htys : c.argTypes = #[t, u]) (ht : P.underlying t = some (.slice e)) (hu : P.underlying u = some (.int ku)) (hi : P.info? e = some i) (hz : i.zero = some z) (hz1 : z.cells = #[z]) (ho1 : z.oneCell' = true) (hsz : i.size = 1)
    {m : Nat} (N : Nat) (hN : L.length = N) {b n cap : Nat} (xs sp : List Value) (hL : L[b]? = some (.vals e (xs ++ sp))) (hx : xs.length = n) (hsp : xs.length + sp.length = cap) (hcap : cap ≤ 9223372036854775807) (hne : 0 < m) (hb : (n + m) * i.bytes ≤ 140737488355328) (hb2 : n + m ≤ 140737488355328) (hc : chk [] [b] = true)
    (k : ∀ (cap : Nat) (spare : List Value), n + m ≤ cap → cap ≤ 9223372036854775807 → (n + m) + spare.length = cap → K (.ret (.slc N 0 (n + m) cap)) (L.set b .gone ++ [.vals e (xs ++ (List.replicate m z ++ spare))]) g) :
    PrimX P (.call c) [s, x] [.slc b 0 n cap, .v (.int .i64 m)] L g chk K := by
  subst hN hx
  refine PrimX_of [] [b] hc fun o L' σ a w ho hl hm hsc hv hev _ hids => ?_
  have e1 : a.eval s = .slice (some ⟨σ b, 0, none⟩) xs.length cap := hev (s, .slc b 0 xs.length cap) (by simp)
  have e2 : a.eval x = .int .i64 m := hev (x, .v (.int .i64 m)) (by simp)
  have hlen : L'.length = L.length := hl.1
  have hscL' := scH_less hl hsc
  have hkL : L'[b]? = some (.vals e (xs ++ sp)) := by rw [hids b (by simp), hL]
  have hlive : live L' b := live_of hkL rfl
  have hheap := hm.lo b _ _ hkL rfl
  have hkl : b < L'.length := live_lt hlive
  have hrd : ∀ N, redo [b] 0 L' (L.set b .gone ++ N) = L'.set b .gone ++ N := fun N => redo_app (by simp [hlen]) (by simp) (fun j hj hjm => (by
    by_cases hjk : b = j
    · subst hjk
      rw [List.getElem?_set_self (by omega), List.getElem?_set_self (by omega)]
    · rw [List.getElem?_set_ne hjk, List.getElem?_set_ne hjk]
      exact (hids j hjm).symm)) (fun j _ hjm => (List.getElem?_set_ne (fun e => hjm (by simp [e]))).symm)
  have hupd : ∀ c', Upd [b] L (L.set b .gone ++ [c']) := fun c' => ⟨by simp, fun j hj hjm => by
    rw [List.getElem?_append_left (by simpa using hj), List.getElem?_set_ne (fun e => hjm (by simp [e]))]⟩
  have hscg : scH (L.set b .gone) := scH_set hsc rfl
  have hlen2 : (L.set b Chunk.gone).length = L'.length := by simp [hlen]
  by_cases hroom : xs.length + m ≤ cap
  · have hr := run_appZ_room (P := P) w t u o.type e i z ku ht hu hi hz hsz hz1 ho1 (σ b) xs.length cap _ hheap m hne (by have := Nat.mul_le_mul_right i.bytes (Nat.le_add_left m xs.length); omega) (by omega) hroom (by simp only [List.size_toArray, List.length_append]; omega)
    rw [setRow_eq hheap] at hr
    have e3 : ((xs ++ sp).toArray.toList.take xs.length ++ List.replicate m z ++ (xs ++ sp).toArray.toList.drop (xs.length + m)) = xs ++ (List.replicate m z ++ sp.drop m) := by
      simp only
      rw [List.take_left, List.append_assoc, ← List.drop_drop, List.drop_left]
    rw [e3] at hr
    unfold Oper.wp
    rw [exec_app hcal hargs htys ho (by rw [e1, e2]; exact hr)]
    refine ⟨_, .slc L.length 0 (xs.length + m) cap, _, g, fun j => if j = L'.length then σ b else σ j, rfl, fun _ => by simp [SV.re, hlen], by simp [SV.sc], hupd _, ?_, scH_push hscg, ?_, k cap (sp.drop m) hroom hcap (by rw [List.length_drop]; omega)⟩
    · rw [hrd]; exact hm.take hscL' hlive
    · rw [hrd]; exact Goes.take hlive
  · have holds : ∀ j v, xs[j]? = some v → w.cell? ((⟨σ b, 0, none⟩ : Addr).add j) = some v := by
      intro j v hj
      rw [add_cell]
      simp only [World.cell?, hheap, Option.isSome_none, Bool.false_eq_true, if_false, Nat.zero_add]
      have : j < xs.length := (List.getElem?_eq_some_iff.1 hj).1
      simpa [List.getElem?_append_left this] using hj
    have hr := run_appZ_grow (P := P) w t u o.type e i z ku ht hu hi hz hsz ⟨σ b, 0, none⟩ xs.length cap xs rfl holds m hne (by have := Nat.mul_le_mul_right i.bytes (Nat.le_add_left m xs.length); omega) (by omega) (by omega) (by omega) (growslice_fits (by omega) (by omega))
    have hge := grownCap_ge w (xs.length + m) cap e
    have hle := grownCap_le_maxLen w (xs.length + m) cap e (by simp only [maxLen]; omega)
    generalize grownCap w (xs.length + m) cap e = gc at hr hge hle
    have hzl : (Builtin.zeroCells z.cells (gc - (xs.length + m))).toList.length = gc - (xs.length + m) := by
      rw [Array.length_toList, size_zeroCells]; simp [hz1]
    have hk := k gc (Builtin.zeroCells z.cells (gc - (xs.length + m))).toList hge (by simpa [maxLen] using hle) (by rw [hzl]; omega)
    have hw : w.drew.alloc (.cells (xs.toArray ++ Builtin.zeroCells z.cells m ++ Builtin.zeroCells z.cells (gc - (xs.length + m))) e) = { ({ w with heap := w.heap.push (.cells (xs ++ (List.replicate m z ++ (Builtin.zeroCells z.cells (gc - (xs.length + m))).toList)).toArray e (0, 0)) } : World) with drawn := w.drew.drawn } := by
      have e3 : xs.toArray ++ Builtin.zeroCells z.cells m ++ Builtin.zeroCells z.cells (gc - (xs.length + m)) = (xs ++ (List.replicate m z ++ (Builtin.zeroCells z.cells (gc - (xs.length + m))).toList)).toArray := by apply Array.ext'; simp [zeroC_list hz1]
      rw [e3]
      rfl
    unfold Oper.wp
    rw [exec_app hcal hargs htys ho (by rw [e1, e2]; exact hr)]
    have hgm : Mem g (L'.set b .gone) σ w := hm.less (less_gone L' b)
    have hgg : Goes σ L' g w σ (L'.set b .gone) g w := (Goes.refl σ L' g w).less (less_gone L' b)
    refine ⟨_, .slc L.length 0 (xs.length + m) gc, _, g, fun j => if j = (L'.set b Chunk.gone).length then w.heap.size else σ j, rfl, fun _ => by simp [SV.re, hlen], by simp [SV.sc], hupd _, ?_, scH_push hscg, ?_, hk⟩
    · rw [hrd, hw]; exact (hgm.push (scH_set hscL' rfl)).drew _
    · rw [hrd, hw]; exact (hgg.push).drew _

/-- range s, of a string. -/
theorem prim_rangeS {t : TypeId} {x : Operand} {s : ByteArray} (N : Nat) (hN : L.length = N) (ht : P.underlying t = some .string) (hc : chk [] [] = true) (k : K (.ret (.ptr N 0)) (L ++ [.raw (.stringIter s 0)]) g) : PrimX P (.range t x) [x] [.v (.string s)] L g chk K := by
  subst hN
  refine prim_new [] hc fun o a σ w ho hev _ => ?_
  have e1 : a.eval x = .string s := hev (x, .v (.string s)) (by simp)
  refine ⟨.raw (.stringIter s 0), .stringIter s 0, .ptr L.length 0, .pointer (some ⟨w.heap.size, 0, none⟩), w.drawn, rfl, fun _ => rfl, by simp [SV.sc], ?_, fun σ' hs => by simp [SV.re, hs], k⟩
  simp only [execOp, ho, e1, Sem.run_bind, run_range_string w t s ht, Result.andThen_ok, Sem.run_pure]
  rfl
/-- The next sign, a plain one. -/
theorem prim_nextS {it : Operand} {b pos : Nat} {s : ByteArray} (hb : L[b]? = some (.raw (.stringIter s pos))) (h : pos < s.size) (ha : (s[pos]'h).toNat < 128) (hc : chk [] [b] = true)
    (k : K (.ret (.v (.tuple #[.bool true, .int .i64 pos, .int .i32 (s[pos]'h).toNat]))) (L.set b (.raw (.stringIter s (pos + 1)))) g) : PrimX P (.next it true) [it] [.ptr b 0] L g chk K := by
  refine prim_setC b [] (.raw (.stringIter s (pos + 1))) (.stringIter s (pos + 1)) (.v (.tuple #[.bool true, .int .i64 pos, .int .i32 (s[pos]'h).toNat])) _ hc hb rfl rfl (fun _ => rfl) rfl (fun o a σ w ho hev hse => ?_) k
  have e1 : a.eval it = .pointer (some ⟨σ b, 0, none⟩) := hev (it, .ptr b 0) (by simp)
  have hw := hse.lo b _ _ (by simp) hb rfl
  simp only [execOp, ho, e1, Sem.run_bind, run_next_ascii_at w (σ b) s pos o.type hw h ha, Result.andThen_ok, Sem.run_pure]
  rfl
/-- The end of a range over a string. -/
theorem prim_nextS_end {it : Operand} {b pos : Nat} {s : ByteArray} (hb : L[b]? = some (.raw (.stringIter s pos))) (h : ¬ pos < s.size) (hc : chk [b] [] = true)
    (k : K (.ret (.v (.tuple #[.bool false]))) L g) : PrimX P (.next it true) [it] [.ptr b 0] L g chk K := by
  refine prim_read [b] (.v (.tuple #[.bool false])) hc (fun _ => rfl) (fun o a σ w ho hev hse => ?_) k
  have e1 : a.eval it = .pointer (some ⟨σ b, 0, none⟩) := hev (it, .ptr b 0) (by simp)
  have hw := hse.lo b _ _ (by simp) hb rfl
  simp only [execOp, ho, e1, Sem.run_bind, run_next_end_at w (σ b) s pos o.type hw h, Result.andThen_ok, Sem.run_pure, SV.re]
end
end Go.Sx
end

/- A symbolic executor of my own, part 45: a block that is given up on the way. Conditions: none; it speaks of any program. -/
section
namespace Go.Sx

mutual
theorem sc_frzN {k b n : Nat} : ∀ x : SV, x.sc n = true → (x.frz k b).sc n = true
  | .junk, _ => rfl
  | .v _, _ => rfl
  | .ptr i o, h => by
    simp only [SV.frz]
    split
    · rfl
    · exact h
  | .slc i o m c, h => by
    simp only [SV.frz]
    split
    · rfl
    · exact h
  | .mp i, h => by
    simp only [SV.frz]
    split
    · rfl
    · exact h
  | .fn g a c, h => by
    simp only [SV.sc, Bool.and_eq_true] at h
    simp only [SV.frz, SV.sc, Bool.and_eq_true]
    exact ⟨scL_frzN a h.1, scL_frzN c h.2⟩
  | .iface t x, h => sc_ifaceS (sc_frzN x h)
  | .agg l, h => scL_frzN l h
  | .tup l, h => scL_frzN l h
theorem scL_frzN {k b n : Nat} : ∀ l : List SV, scL n l = true → scL n (frzL k b l) = true
  | [], _ => rfl
  | x :: l, h => by
    simp only [scL, Bool.and_eq_true] at h
    simp only [frzL, scL, Bool.and_eq_true]
    exact ⟨sc_frzN x h.1, scL_frzN l h.2⟩
end
theorem frzL_length (k b : Nat) : ∀ l : List SV, (frzL k b l).length = l.length
  | [] => rfl
  | x :: l => by simp only [frzL, List.length_cons, frzL_length k b l]
theorem get_frzL (k b : Nat) : ∀ (l : List SV) (i : Nat), get (frzL k b l) i = (get l i).frz k b
  | [], _ => rfl
  | x :: l, 0 => rfl
  | x :: l, i + 1 => get_frzL k b l i
theorem live_frzC (k b : Nat) (L : List Chunk) (j : Nat) : live (frzC k b L) j ↔ live L j := by
  constructor
  · intro hj
    obtain ⟨c, hc, hh⟩ := live_get hj
    rw [frzC_get, Option.map_eq_some_iff] at hc
    obtain ⟨d, hd, rfl⟩ := hc
    exact live_of hd (by rwa [here_frz] at hh)
  · intro hj
    obtain ⟨c, hc, hh⟩ := live_get hj
    exact live_of (c := c.frz k b) (by rw [frzC_get, hc]; rfl) (by rw [here_frz]; exact hh)

/-- **A block of plain cells is given up on the way**: nobody writes it any more. -/
theorem turn_freeze {n0 : Nat} {gi : G} {body : List SV → List Chunk → G → KT → Prop} {fr : List SV} {L : List Chunk} {g : G} {K : KT} (k : Nat) (ty : TypeId) (xs : List Value) (hk : L[k]? = some (.vals ty xs) ∨ L[k]? = some (.cells ty (xs.map .v)))
    (h : ∀ b g', G.le g g' → g'.at ⟨b, 0, none⟩ xs → force (frzL k b fr) fun fr => fL (frzC k b (L.set k .gone)) fun L => body fr L g' K) : TurnW n0 gi body fr L g K := by
  refine ⟨fun df σ0 L0 g0 w0 σ a w h0 _ I hg => ?_⟩
  obtain ⟨c, hc, ho⟩ : ∃ c, L[k]? = some c ∧ c.obj σ = some (.cells xs.toArray ty (0, 0)) := by
    rcases hk with hk | hk
    · exact ⟨_, hk, rfl⟩
    · exact ⟨_, hk, by simp [Chunk.obj, reL_v]⟩
  have hM := I.mem.freeze hc ho
  have hG := hg.freeze I.mem hc ho
  have hlv := live_of hc (obj_here ho)
  have hb := h (σ k) _ (G.plus_le (I.mem.sep _ hlv) _) (at_frz (ty := ty) G.plus_at)
  rw [force_eq, fL_eq] at hb
  have hl := live_frzC k (σ k) (L.set k .gone)
  have hlen : (frzC k (σ k) (L.set k .gone)).length = L.length := by rw [frzC_length, List.length_set]
  refine ⟨_, _, _, σ, ⟨⟨?_, fun i x hx hj => ?_⟩, ⟨hM.im, fun j c' o hj ho' => ?_, fun i j hi hj => hM.inj i j ((hl i).1 hi) ((hl j).1 hj), fun j hj => hM.sep j ((hl j).1 hj), hM.fm.to (fun j H hj => frz_fam j H hj) hM.fm.im (fun b j hb hj => hM.fm.sep b j hb ((hl j).1 hj)) fun _ _ _ => rfl⟩, ?_, ?_, I.defers⟩, ⟨hG.agree, ?_, fun j hj hv => hG.dead j hj ((hl j).1 hv), fun j hj hv => ?_, hG.gle, fun b h1 h2 => ?_, hG.os, hG.tape, hG.output, hG.size, hG.keep, fun b hb => (by
    rcases hG.ffresh b (hb.of fun j H hj => frz_fam j H hj) with h3 | ⟨m, m1, m2, m3, m4⟩ | h3
    · exact .inl h3
    · exact .inr (.inl ⟨m, m1, m2, fun hm => m3 ((hl m).1 hm), m4⟩)
    · exact .inr (.inr h3))⟩, hb⟩
  · rw [frzL_length]; exact I.hfr.1
  · rw [get_frzL] at hx
    subst hx
    rw [re_frz rfl]
    refine I.hfr.2 i _ rfl fun e => hj ?_
    rw [e]; rfl
  · rw [frzC_get, Option.map_eq_some_iff] at hj
    obtain ⟨d, hd, rfl⟩ := hj
    rw [obj_frz rfl] at ho'
    exact hM.lo j d o hd ho'
  · rw [hlen]; exact scL_frzN _ I.scF
  · intro j ty' l hj
    rw [frzC_get, Option.map_eq_some_iff] at hj
    obtain ⟨d, hd, hdc⟩ := hj
    rw [hlen]
    cases d with
    | cells ty2 l2 =>
      simp only [Chunk.frz, Chunk.cells.injEq] at hdc
      rw [← hdc.2]
      refine scL_frzN l2 ?_
      by_cases hjk : k = j
      · subst hjk
        rw [List.getElem?_set_self (List.getElem?_eq_some_iff.1 hc).1] at hd
        cases hd
      · rw [List.getElem?_set_ne hjk] at hd
        exact I.hscL j ty2 l2 hd
    | vals => cases hdc
    | gone => cases hdc
    | raw => cases hdc
    | row => cases hdc
    | fam => cases hdc
  · rw [hlen]; exact hg.len
  · rcases hG.fresh j hj ((hl j).1 hv) with h4 | ⟨m, m1, m2, m3, m4⟩
    · exact .inl h4
    · exact .inr ⟨m, m1, m2, fun hm => m3 ((hl m).1 hm), m4⟩
  · rcases hG.gnew b h1 h2 with h4 | ⟨m, m1, m2, m3, m4⟩
    · exact .inl h4
    · exact .inr ⟨m, m1, m2, fun hm => m3 ((hl m).1 hm), m4⟩

/-- **A block of plain cells told as such.** -/
theorem turn_vals {n0 : Nat} {gi : G} {body : List SV → List Chunk → G → KT → Prop} {fr : List SV} {L : List Chunk} {g : G} {K : KT} (k : Nat) (ty : TypeId) (xs : List Value) (hk : L[k]? = some (.cells ty (xs.map .v)))
    (h : fL (L.set k (.vals ty xs)) fun L => body fr L g K) : TurnW n0 gi body fr L g K := by
  refine ⟨fun df σ0 L0 g0 w0 σ a w h0 _ I hg => ?_⟩
  rw [fL_eq] at h
  have hkl := (List.getElem?_eq_some_iff.1 hk).1
  have hob : (Chunk.cells ty (xs.map .v)).obj σ = (Chunk.vals ty xs).obj σ := by simp [Chunk.obj, reL_v]
  have hl : ∀ j, live (L.set k (.vals ty xs)) j ↔ live L j := fun j => by
    by_cases hjk : k = j
    · subst hjk
      exact ⟨fun _ => live_of hk rfl, fun _ => live_of (List.getElem?_set_self hkl) rfl⟩
    · exact live_congr (List.getElem?_set_ne hjk)
  have hlen : (L.set k (.vals ty xs)).length = L.length := List.length_set
  refine ⟨_, _, _, σ, ⟨I.hfr, ⟨I.mem.im, fun j c' o hj ho' => ?_, fun i j hi hj => I.mem.inj i j ((hl i).1 hi) ((hl j).1 hj), fun j hj => I.mem.sep j ((hl j).1 hj), I.mem.fm.to (fam_set rfl) I.mem.fm.im (fun b j hb hj => I.mem.fm.sep b j hb ((hl j).1 hj)) fun _ _ _ => rfl⟩, ?_, ?_, I.defers⟩, ⟨hg.agree, ?_, fun j hj hv => hg.dead j hj ((hl j).1 hv), fun j hj hv => ?_, hg.gle, fun b h1 h2 => ?_, hg.os, hg.tape, hg.output, hg.size, hg.keep, fun b hb => (by
    rcases hg.ffresh b (hb.of (fam_set rfl)) with h3 | ⟨m, m1, m2, m3, m4⟩ | h3
    · exact .inl h3
    · exact .inr (.inl ⟨m, m1, m2, fun hm => m3 ((hl m).1 hm), m4⟩)
    · exact .inr (.inr h3))⟩, h⟩
  · by_cases hjk : k = j
    · subst hjk
      rw [List.getElem?_set_self hkl] at hj
      cases hj
      exact I.mem.lo k _ o hk (by rw [hob]; exact ho')
    · rw [List.getElem?_set_ne hjk] at hj
      exact I.mem.lo j c' o hj ho'
  · rw [hlen]; exact I.scF
  · intro j ty' l hj
    rw [hlen]
    by_cases hjk : k = j
    · subst hjk
      rw [List.getElem?_set_self hkl] at hj
      cases hj
    · rw [List.getElem?_set_ne hjk] at hj
      exact I.hscL j ty' l hj
  · rw [hlen]; exact hg.len
  · rcases hg.fresh j hj ((hl j).1 hv) with h4 | ⟨m, m1, m2, m3, m4⟩
    · exact .inl h4
    · exact .inr ⟨m, m1, m2, fun hm => m3 ((hl m).1 hm), m4⟩
  · rcases hg.gnew b h1 h2 with h4 | ⟨m, m1, m2, m3, m4⟩
    · exact .inl h4
    · exact .inr ⟨m, m1, m2, fun hm => m3 ((hl m).1 hm), m4⟩

/-- **A place where nothing changes.** -/
theorem turn_same {n0 : Nat} {gi : G} {body : List SV → List Chunk → G → KT → Prop} {fr : List SV} {L : List Chunk} {g : G} {K : KT} (h : body fr L g K) : TurnW n0 gi body fr L g K :=
  ⟨fun _ _ _ _ _ _ _ _ _ _ I hg => ⟨_, _, _, _, I, hg, h⟩⟩
end Go.Sx
end

/- A symbolic executor of my own, part 46: a block that was given up is taken back. Conditions: none; it speaks of any program. -/
section
namespace Go.Sx

/-- What is known, but for one block. -/
def G.del (g : G) (b : Nat) : G := fun x => if x = b then none else g x
theorem G.del_le {g g1 : G} {b : Nat} (h : G.le g1 g) (h1 : g1 b = none) : G.le g1 (g.del b) := by
  intro x o hx
  unfold G.del
  split
  · rename_i e; subst e; rw [h1] at hx; cases hx
  · exact h x o hx
theorem G.del_of {g : G} {b x : Nat} {o : Obj} (h : g.del b x = some o) : x ≠ b ∧ g x = some o := by
  unfold G.del at h
  split at h
  · cases h
  · rename_i e; exact ⟨e, h⟩

/-- **A block of plain cells is given up on the way**, and that it is a new one to what is known is told. -/
theorem turn_freezeB {n0 : Nat} {gi : G} {body : List SV → List Chunk → G → KT → Prop} {fr : List SV} {L : List Chunk} {g : G} {K : KT} (k : Nat) (ty : TypeId) (xs : List Value) (hk : L[k]? = some (.vals ty xs) ∨ L[k]? = some (.cells ty (xs.map .v)))
    (h : ∀ b g', g b = none → G.le g g' → g' b = some (.cells xs.toArray ty (0, 0)) → force (frzL k b fr) fun fr => fL (frzC k b (L.set k .gone)) fun L => body fr L g' K) : TurnW n0 gi body fr L g K := by
  refine ⟨fun df σ0 L0 g0 w0 σ a w h0 _ I hg => ?_⟩
  obtain ⟨c, hc, ho⟩ : ∃ c, L[k]? = some c ∧ c.obj σ = some (.cells xs.toArray ty (0, 0)) := by
    rcases hk with hk | hk
    · exact ⟨_, hk, rfl⟩
    · exact ⟨_, hk, by simp [Chunk.obj, reL_v]⟩
  have hM := I.mem.freeze hc ho
  have hG := hg.freeze I.mem hc ho
  have hlv := live_of hc (obj_here ho)
  have hb := h (σ k) _ (I.mem.sep _ hlv) (G.plus_le (I.mem.sep _ hlv) _) G.plus_at
  rw [force_eq, fL_eq] at hb
  have hl := live_frzC k (σ k) (L.set k .gone)
  have hlen : (frzC k (σ k) (L.set k .gone)).length = L.length := by rw [frzC_length, List.length_set]
  refine ⟨_, _, _, σ, ⟨⟨?_, fun i x hx hj => ?_⟩, ⟨hM.im, fun j c' o hj ho' => ?_, fun i j hi hj => hM.inj i j ((hl i).1 hi) ((hl j).1 hj), fun j hj => hM.sep j ((hl j).1 hj), hM.fm.to (fun j H hj => frz_fam j H hj) hM.fm.im (fun b j hb hj => hM.fm.sep b j hb ((hl j).1 hj)) fun _ _ _ => rfl⟩, ?_, ?_, I.defers⟩, ⟨hG.agree, ?_, fun j hj hv => hG.dead j hj ((hl j).1 hv), fun j hj hv => ?_, hG.gle, fun b h1 h2 => ?_, hG.os, hG.tape, hG.output, hG.size, hG.keep, fun b hb => (by
    rcases hG.ffresh b (hb.of fun j H hj => frz_fam j H hj) with h3 | ⟨m, m1, m2, m3, m4⟩ | h3
    · exact .inl h3
    · exact .inr (.inl ⟨m, m1, m2, fun hm => m3 ((hl m).1 hm), m4⟩)
    · exact .inr (.inr h3))⟩, hb⟩
  · rw [frzL_length]; exact I.hfr.1
  · rw [get_frzL] at hx
    subst hx
    rw [re_frz rfl]
    refine I.hfr.2 i _ rfl fun e => hj ?_
    rw [e]; rfl
  · rw [frzC_get, Option.map_eq_some_iff] at hj
    obtain ⟨d, hd, rfl⟩ := hj
    rw [obj_frz rfl] at ho'
    exact hM.lo j d o hd ho'
  · rw [hlen]; exact scL_frzN _ I.scF
  · intro j ty' l hj
    rw [frzC_get, Option.map_eq_some_iff] at hj
    obtain ⟨d, hd, hdc⟩ := hj
    rw [hlen]
    cases d with
    | cells ty2 l2 =>
      simp only [Chunk.frz, Chunk.cells.injEq] at hdc
      rw [← hdc.2]
      refine scL_frzN l2 ?_
      by_cases hjk : k = j
      · subst hjk
        rw [List.getElem?_set_self (List.getElem?_eq_some_iff.1 hc).1] at hd
        cases hd
      · rw [List.getElem?_set_ne hjk] at hd
        exact I.hscL j ty2 l2 hd
    | vals => cases hdc
    | gone => cases hdc
    | raw => cases hdc
    | row => cases hdc
    | fam => cases hdc
  · rw [hlen]; exact hg.len
  · rcases hG.fresh j hj ((hl j).1 hv) with h4 | ⟨m, m1, m2, m3, m4⟩
    · exact .inl h4
    · exact .inr ⟨m, m1, m2, fun hm => m3 ((hl m).1 hm), m4⟩
  · rcases hG.gnew b h1 h2 with h4 | ⟨m, m1, m2, m3, m4⟩
    · exact .inl h4
    · exact .inr ⟨m, m1, m2, fun hm => m3 ((hl m).1 hm), m4⟩


/-- **A block that was given up is taken back**: whoever holds it in this slot may write it again. It is a new one to what was known where the function began. -/
theorem turn_thaw {n0 : Nat} {gi : G} {body : List SV → List Chunk → G → KT → Prop} {fr : List SV} {L : List Chunk} {g : G} {K : KT} (t b n cap : Nat) (ty : TypeId) (xs : List Value) (ht : get fr t = .v (.slice (some ⟨b, 0, none⟩) n cap)) (hb : g b = some (.cells xs.toArray ty (0, 0))) (hgi : gi b = none)
    (h : ∀ g', g' = g.del b → force (put fr t (.slc L.length 0 n cap)) fun fr => fL (L ++ [.vals ty xs]) fun L => body fr L g' K) : TurnW n0 gi body fr L g K := by
  refine ⟨fun df σ0 L0 g0 w0 σ a w h0 h1 I hg => ?_⟩
  subst h1
  have hh := h _ rfl
  rw [force_eq, fL_eq] at hh
  have hnb : ∀ k, live L k → σ k ≠ b := fun k hk e => by
    have := I.mem.sep k hk
    rw [e, hb] at this; cases this
  have hlt : ∀ {k}, live L k → k < L.length := fun hk => live_lt hk
  obtain ⟨σ', hσ⟩ : ∃ σ' : Nat → Nat, σ' = fun k => if k = L.length then b else σ k := ⟨_, rfl⟩
  have hσl : ∀ k, k < L.length → σ' k = σ k := fun k hk => by rw [hσ]; simp only; rw [if_neg (by omega)]
  have hσn : σ' L.length = b := by rw [hσ]; simp
  have hlv : ∀ k, live (L ++ [Chunk.vals ty xs]) k ↔ live L k ∨ k = L.length := fun k => by
    by_cases hk : k < L.length
    · rw [live_congr (L := L ++ [Chunk.vals ty xs]) (L' := L) (List.getElem?_append_left hk)]
      exact ⟨.inl, fun h => h.resolve_right (by omega)⟩
    · by_cases he : k = L.length
      · subst he
        exact ⟨fun _ => .inr rfl, fun _ => live_of (c := .vals ty xs) (by simp) rfl⟩
      · refine ⟨fun hl => ?_, fun hl => ?_⟩
        · have := live_lt hl; simp at this; omega
        · rcases hl with hl | hl
          · have := hlt hl; omega
          · exact absurd hl he
  have hF : FR σ' fr a.tmps := I.hfr.on (p := fun k => decide (k < L.length)) (fun k hk => (hσl k (by simpa using hk)).symm) fun t => by rw [← on_sc]; exact sc_get I.scF t
  refine ⟨put fr t (.slc L.length 0 n cap), L ++ [.vals ty xs], g.del b, σ', ⟨⟨?_, fun i x hx hj => ?_⟩, ⟨fun x o hx => I.mem.im x o (G.del_of hx).2, fun k c o hk ho => ?_, fun i j hi hj e => ?_, fun k hk => ?_, I.mem.fm.to (fam_app rfl) (fun x hx => ?_) (fun x j hx hj => ?_) fun _ _ _ => rfl⟩, ?_, ?_, I.defers⟩, ⟨?_, ?_, fun j hj hv => ?_, fun j hj hv => ?_, ?_, fun x h2 h3 => ?_, hg.os, hg.tape, hg.output, hg.size, hg.keep, fun x hx => ?_⟩, hh⟩
  rotate_left 5
  · unfold G.del
    split
    · rfl
    · exact I.mem.fm.im x hx
  · rcases (hlv j).1 hj with h2 | h2
    · rw [hσl j (hlt h2)]; exact I.mem.fm.sep x j hx h2
    · rw [h2, hσn]
      intro e
      have := I.mem.fm.im x hx
      rw [← e, hb] at this; cases this
  rotate_left 8
  · rcases hg.ffresh x (hx.of (fam_app rfl)) with h3 | ⟨m, m1, m2, m3, m4⟩ | h3
    · exact .inl h3
    · refine .inr (.inl ⟨m, m1, m2, fun hm => ?_, m4⟩)
      rcases (hlv m).1 hm with h4 | h4
      · exact m3 h4
      · have := hg.len; omega
    · exact .inr (.inr h3)
  · rw [put_length]; exact hF.1
  · rw [get_put] at hx
    split at hx
    · rename_i hit
      obtain ⟨rfl, -⟩ := hit
      subst hx
      have := hF.2 t _ ht (by simp)
      rw [this]
      simp only [SV.re, hσn]
    · exact hF.2 i x hx hj
  · rcases getElem?_append_one hk with ⟨h2, h3⟩ | ⟨h2, h3⟩
    · have hc : c.obj σ' = c.obj σ := (obj_congr (n := L.length) (fun j hj => (hσl j hj).symm) (fun ty l e => I.hscL k ty l (by rw [h3, e]))).symm
      rw [hσl k h2]
      exact I.mem.lo k c o h3 (by rw [← hc]; exact ho)
    · subst h2 h3
      cases ho
      rw [hσn]
      exact I.mem.im b _ hb
  · rcases (hlv i).1 hi with h2 | h2 <;> rcases (hlv j).1 hj with h3 | h3
    · rw [hσl i (hlt h2), hσl j (hlt h3)] at e; exact I.mem.inj i j h2 h3 e
    · subst h3; rw [hσl i (hlt h2), hσn] at e; exact absurd e (hnb i h2)
    · subst h2; rw [hσl j (hlt h3), hσn] at e; exact absurd e.symm (hnb j h3)
    · rw [h2, h3]
  · rcases (hlv k).1 hk with h2 | h2
    · rw [hσl k (hlt h2)]
      unfold G.del
      rw [if_neg (hnb k h2)]
      exact I.mem.sep k h2
    · subst h2; rw [hσn]; unfold G.del; rw [if_pos rfl]
  · rw [List.length_append]
    exact sc_put (scL_mono (by simp) _ I.scF) _ (by simp [SV.sc])
  · exact scH_push I.hscL
  · intro k hk
    rw [hσl k (Nat.lt_of_lt_of_le hk hg.len)]; exact hg.agree k hk
  · rw [List.length_append]; exact Nat.le_trans hg.len (Nat.le_add_right _ _)
  · rcases (hlv j).1 hv with h2 | h2
    · exact hg.dead j hj h2
    · have := hg.len; omega
  · have hdead : ∀ m, m < L0.length → ¬ live L m → ¬ live (L ++ [Chunk.vals ty xs]) m := fun m hm hn hl => by
      rcases (hlv m).1 hl with h2 | h2
      · exact hn h2
      · have := hg.len; omega
    rcases (hlv j).1 hv with h2 | h2
    · rw [hσl j (hlt h2)]
      rcases hg.fresh j hj h2 with h4 | ⟨m, m1, m2, m3, m4⟩
      · exact .inl h4
      · exact .inr ⟨m, m1, m2, hdead m m1 m3, m4⟩
    · subst h2
      rw [hσn]
      rcases hg.gnew b hgi (by rw [hb]; simp) with h4 | ⟨m, m1, m2, m3, m4⟩
      · exact .inl h4
      · exact .inr ⟨m, m1, m2, hdead m m1 m3, m4⟩
  · exact G.del_le hg.gle hgi
  · have hx : g x ≠ none := fun e => by
      apply h3
      unfold G.del
      split
      · rfl
      · exact e
    rcases hg.gnew x h2 hx with h4 | ⟨m, m1, m2, m3, m4⟩
    · exact .inl h4
    · refine .inr ⟨m, m1, m2, fun hl => ?_, m4⟩
      rcases (hlv m).1 hl with h5 | h5
      · exact m3 h5
      · have := hg.len; omega
end Go.Sx
end

/- A symbolic executor of my own, part 47: bytes of a string that may be written; a string copied into a block of plain cells. Conditions: none; it speaks of any program. -/
section
namespace Go.Sx
section
variable {P : Program} {L : List Chunk} {g : G} {chk : List Nat → List Nat → Bool} {K : Out → List Chunk → G → Prop}

/-- []byte(s), to be written. -/
theorem prim_bytesR {src dst e : TypeId} {x : Operand} {s : ByteArray} (N : Nat) (hN : L.length = N) (hs : P.underlying src = some .string) (hd : P.underlying dst = some (.slice e)) (he : P.underlying e = some (.int .u8)) (hc : chk [] [] = true) (hsz : s.size ≤ 9223372036854775807)
    (k : ∀ (cap : Nat) (sp : List Value) (fz : Nat × Nat), s.size ≤ cap → cap ≤ 9223372036854775807 → sp.length = cap - s.size → hzOk fz ((s.data.toList.map fun b => Value.int .u8 b.toNat) ++ sp).length → K (.ret (.slc N 0 s.size cap)) (L ++ [.row e ((s.data.toList.map fun b => Value.int .u8 b.toNat) ++ sp) fz]) g) :
    PrimX P (.convert src dst x) [x] [.v (.string s)] L g chk K := by
  subst hN
  refine prim_new [] hc fun o a σ w ho hev _ => ?_
  have e1 : a.eval x = .string s := hev (x, .v (.string s)) (by simp)
  have hr := run_bytes_of_string (P := P) w src dst e s hs hd he
  have hge := grownCap_ge w s.size 0 e
  have hle := grownCap_le_maxLen w s.size 0 e (by simp only [maxLen]; omega)
  generalize grownCap w s.size 0 e = gc at hge hle hr
  have hrow : bytesRow s gc = ((s.data.toList.map fun b => Value.int .u8 b.toNat) ++ List.replicate (gc - s.size) (Value.int .u8 0)).toArray := by
    apply Array.ext'
    simp [bytesRow]
  have hk := k gc (List.replicate (gc - s.size) (Value.int .u8 0)) ((bytesRow s gc).size, (bytesRow s gc).size + 1) hge (by simpa [maxLen] using hle) (by simp) (by rw [hrow, List.size_toArray]; exact hzOk.end_ _)
  refine ⟨.row e ((s.data.toList.map fun b => Value.int .u8 b.toNat) ++ List.replicate (gc - s.size) (Value.int .u8 0)) ((bytesRow s gc).size, (bytesRow s gc).size + 1), .cells (bytesRow s gc) e ((bytesRow s gc).size, (bytesRow s gc).size + 1), .slc L.length 0 s.size gc, .slice (some ⟨w.heap.size, 0, none⟩) s.size gc, w.drawn + 1, rfl, fun σ => by simp only [Chunk.obj, hrow], by simp [SV.sc], ?_, fun σ' hs => by simp only [SV.re, hs], hk⟩
  simp only [execOp, ho, e1, Sem.run_bind, hr, Result.andThen_ok, Sem.run_pure]
  rfl

/-- copy(dst, s): s a string no longer than dst, dst a stretch of a block of plain cells. -/
theorem prim_copyV {c : Call} {x y : Operand} {dT sT elem : TypeId} {b off n cap : Nat} {s : ByteArray} (ty : TypeId) (cur : List Value) (hcal : c.callee = .builtin .copy) (hargs : c.args.toList = [x, y]) (htys : c.argTypes = #[dT, sT]) (hu : P.underlying dT = some (.slice elem)) (hs : (P.info? elem).map (·.size) = some 1)
    (hL : L[b]? = some (.vals ty cur)) (hle : s.size ≤ n) (hfit : off + s.size ≤ cur.length) (hc : chk [] [b] = true) (cells : List Value) (hcells : cur.take off ++ (Go.Lib.strCells s ++ cur.drop (off + s.size)) = cells)
    (k : K (.ret (.v (.int .i64 s.size))) (L.set b (.vals ty cells)) g) :
    PrimX P (.call c) [x, y] [.slc b off n cap, .v (.string s)] L g chk K := by
  subst hcells
  refine prim_setS b [] hc _ hL rfl (.vals ty (cur.take off ++ (Go.Lib.strCells s ++ cur.drop (off + s.size)))) rfl (.v (.int .i64 s.size)) rfl (fun o a σ w ho hev hse => ?_) k
  have e1 : a.eval x = .slice (some ⟨σ b, off, none⟩) n cap := hev (x, .slc b off n cap) (by simp)
  have e2 : a.eval y = .string s := hev (y, .v (.string s)) (by simp)
  have e3 : c.args.map a.eval = #[.slice (some ⟨σ b, off, none⟩) n cap, .string s] := by apply Array.ext'; simp [hargs, e1, e2]
  have hheap := hse.lo b _ _ (by simp) hL rfl
  have hr := Go.Lib.run_copy_row_string (P := P) w dT sT o.type elem (σ b) off n cap s _ ty hu hs hheap hle (by simpa using hfit)
  rw [setRow_eq hheap] at hr
  refine ⟨_, w.drawn, rfl, ?_⟩
  simp only [execOp, ho, resolve, hcal, Sem.run_bind, Sem.run_pure, Result.andThen_ok, invoke, builtin, htys, e3, hr]
  have e4 : (cur.take off ++ (Go.Lib.strCells s ++ cur.drop (off + s.size))).toArray = (cur.toArray.toList.take off ++ Go.Lib.byteCells s.data.toList ++ cur.toArray.toList.drop (off + s.size)).toArray := by
    rw [List.append_assoc]
    rfl
  rw [e4]
  rfl
end
end Go.Sx
end

/- A symbolic executor of my own, part 48: families of blocks: an empty one, a block that joins one. Conditions: none; it speaks of any program. -/
section
namespace Go.Sx

def G.none : G := fun _ => Option.none
theorem live_app_fam (L : List Chunk) (H : G) (j : Nat) : live (L ++ [Chunk.fam H]) j ↔ live L j := by
  constructor
  · intro hj
    obtain ⟨c, hc, hh⟩ := live_get hj
    rcases getElem?_append_one hc with ⟨_, h2⟩ | ⟨_, rfl⟩
    · exact live_of h2 hh
    · cases hh
  · intro hj
    have := live_lt hj
    rwa [live_congr (L := L ++ [Chunk.fam H]) (L' := L) (List.getElem?_append_left this)]
theorem fam_app_none {L : List Chunk} {j : Nat} {H : G} (h : (L ++ [Chunk.fam G.none])[j]? = some (Chunk.fam H)) : (j = L.length ∧ H = G.none) ∨ L[j]? = some (Chunk.fam H) := by
  rcases getElem?_append_one h with ⟨_, h2⟩ | ⟨h1, h2⟩
  · exact .inr h2
  · cases h2; exact .inl ⟨h1, rfl⟩
theorem ownF_app_none {L : List Chunk} {b : Nat} (h : ownF (L ++ [Chunk.fam G.none]) b) : ownF L b := by
  obtain ⟨j, H, hj, hh⟩ := h
  rcases fam_app_none hj with ⟨_, rfl⟩ | h2
  · exact absurd rfl hh
  · exact ⟨j, H, h2, hh⟩

/-- **An empty family.** -/
theorem turn_famNew {n0 : Nat} {gi : G} {body : List SV → List Chunk → G → KT → Prop} {fr : List SV} {L : List Chunk} {g : G} {K : KT}
    (h : fL (L ++ [.fam G.none]) fun L => body fr L g K) : TurnW n0 gi body fr L g K := by
  refine ⟨fun df σ0 L0 g0 w0 σ a w h0 _ I hg => ?_⟩
  rw [fL_eq] at h
  have hl := live_app_fam L G.none
  refine ⟨_, _, _, σ, ⟨I.hfr, ⟨I.mem.im, fun j c' o hj ho' => ?_, fun i j hi hj => I.mem.inj i j ((hl i).1 hi) ((hl j).1 hj), fun j hj => I.mem.sep j ((hl j).1 hj),
    ⟨fun k H b o hk hb => ?_, fun b hb => I.mem.fm.im b (ownF_app_none hb), fun b j hb hj => I.mem.fm.sep b j (ownF_app_none hb) ((hl j).1 hj), fun i j H H' b hi hj h1 h2 => ?_⟩⟩, ?_, ?_, I.defers⟩,
    ⟨hg.agree, by rw [List.length_append]; exact Nat.le_trans hg.len (Nat.le_add_right _ _), fun j hj hv => hg.dead j hj ((hl j).1 hv), fun j hj hv => ?_, hg.gle, fun b h1 h2 => ?_, hg.os, hg.tape, hg.output, hg.size, hg.keep, fun b hb => ?_⟩, h⟩
  · rcases getElem?_append_one hj with ⟨_, h2⟩ | ⟨_, rfl⟩
    · exact I.mem.lo j c' o h2 ho'
    · cases ho'
  · rcases fam_app_none hk with ⟨_, rfl⟩ | h2
    · cases hb
    · exact I.mem.fm.at_ k H b o h2 hb
  · rcases fam_app_none hi with ⟨_, rfl⟩ | i2
    · exact absurd rfl h1
    · rcases fam_app_none hj with ⟨_, rfl⟩ | j2
      · exact absurd rfl h2
      · exact I.mem.fm.dis i j H H' b i2 j2 h1 h2
  · exact scL_mono (by simp) _ I.scF
  · intro k ty l hk
    rcases getElem?_append_one hk with ⟨_, h2⟩ | ⟨_, h2⟩
    · exact scL_mono (by simp) _ (I.hscL k ty l h2)
    · cases h2
  · rcases hg.fresh j hj ((hl j).1 hv) with h4 | ⟨m, m1, m2, m3, m4⟩
    · exact .inl h4
    · exact .inr ⟨m, m1, m2, fun hm => m3 ((hl m).1 hm), m4⟩
  · rcases hg.gnew b h1 h2 with h4 | ⟨m, m1, m2, m3, m4⟩
    · exact .inl h4
    · exact .inr ⟨m, m1, m2, fun hm => m3 ((hl m).1 hm), m4⟩
  · rcases hg.ffresh b (ownF_app_none hb) with h4 | ⟨m, m1, m2, m3, m4⟩ | h4
    · exact .inl h4
    · exact .inr (.inl ⟨m, m1, m2, fun hm => m3 ((hl m).1 hm), m4⟩)
    · exact .inr (.inr h4)

/-- **A block of plain cells joins a family**: it is known by its place from now on. -/
theorem turn_famIn {n0 : Nat} {gi : G} {body : List SV → List Chunk → G → KT → Prop} {fr : List SV} {L : List Chunk} {g : G} {K : KT} (k j : Nat) (ty : TypeId) (xs : List Value) (H : G) (hk : L[k]? = some (.vals ty xs) ∨ L[k]? = some (.cells ty (xs.map .v))) (hj : L[j]? = some (.fam H))
    (h : ∀ b, H b = none → g b = none → force (frzL k b fr) fun fr => fL (frzC k b ((L.set k .gone).set j (.fam (H.put b (.cells xs.toArray ty (0, 0)))))) fun L => body fr L g K) : TurnW n0 gi body fr L g K := by
  refine ⟨fun df σ0 L0 g0 w0 σ a w h0 _ I hg => ?_⟩
  obtain ⟨c, hc, ho⟩ : ∃ c, L[k]? = some c ∧ c.obj σ = some (.cells xs.toArray ty (0, 0)) := by
    rcases hk with hk | hk
    · exact ⟨_, hk, rfl⟩
    · exact ⟨_, hk, by simp [Chunk.obj, reL_v]⟩
  have hlv := live_of hc (obj_here ho)
  have hkl := live_lt hlv
  have hjl := (List.getElem?_eq_some_iff.1 hj).1
  have hkj : k ≠ j := fun e => by subst e; rw [hj] at hc; cases hc; cases ho
  have hbo : ∀ x, ownF L x → σ k ≠ x := fun x hx => I.mem.fm.sep x k hx hlv
  have hHb : H (σ k) = none := by
    cases hq : H (σ k) with
    | none => rfl
    | some o => exact absurd rfl (hbo _ ⟨j, H, hj, by rw [hq]; simp⟩)
  have hb := h (σ k) hHb (I.mem.sep _ hlv)
  rw [force_eq, fL_eq] at hb
  obtain ⟨L', hL'⟩ : ∃ L', (L.set k Chunk.gone).set j (.fam (H.put (σ k) (.cells xs.toArray ty (0, 0)))) = L' := ⟨_, rfl⟩
  rw [hL'] at hb
  have hlen' : L'.length = L.length := by rw [← hL']; simp
  have hgk : L'[k]? = some .gone := by rw [← hL', List.getElem?_set_ne hkj.symm, List.getElem?_set_self hkl]
  have hgj : L'[j]? = some (.fam (H.put (σ k) (.cells xs.toArray ty (0, 0)))) := by rw [← hL', List.getElem?_set_self (by simpa using hjl)]
  have hgo : ∀ i, i ≠ k → i ≠ j → L'[i]? = L[i]? := fun i h1 h2 => by rw [← hL', List.getElem?_set_ne (fun e => h2 e.symm), List.getElem?_set_ne (fun e => h1 e.symm)]
  have hlL : ∀ i, live L' i → i ≠ k ∧ live L i := fun i hi => by
    by_cases h1 : i = k
    · subst h1
      obtain ⟨c', hc', hh⟩ := live_get hi
      rw [hgk] at hc'; cases hc'; cases hh
    · refine ⟨h1, ?_⟩
      by_cases h2 : i = j
      · subst h2
        obtain ⟨c', hc', hh⟩ := live_get hi
        rw [hgj] at hc'; cases hc'; cases hh
      · exact (live_congr (hgo i h1 h2)).1 hi
  have hl := live_frzC k (σ k) L'
  have hlen : (frzC k (σ k) L').length = L.length := by rw [frzC_length, hlen']
  have hfam : ∀ (i : Nat) (H2 : G), (frzC k (σ k) L')[i]? = some (Chunk.fam H2) → (i = j ∧ H2 = H.put (σ k) (.cells xs.toArray ty (0, 0))) ∨ (i ≠ j ∧ L[i]? = some (.fam H2)) := fun i H2 hi => by
    have hi2 := frz_fam i H2 hi
    by_cases h2 : i = j
    · rw [h2, hgj] at hi2; cases hi2; exact .inl ⟨h2, rfl⟩
    · by_cases h1 : i = k
      · rw [h1, hgk] at hi2; cases hi2
      · rw [hgo i h1 h2] at hi2; exact .inr ⟨h2, hi2⟩
  have hput : ∀ x, H.put (σ k) (.cells xs.toArray ty (0, 0)) x ≠ none → x = σ k ∨ H x ≠ none := fun x hx => by
    by_cases hxe : x = σ k
    · exact .inl hxe
    · rw [G.put_ne hxe] at hx; exact .inr hx
  have hown : ∀ x, ownF (frzC k (σ k) L') x → x = σ k ∨ ownF L x := fun x ⟨i, H2, hi, hh⟩ => by
    rcases hfam i H2 hi with ⟨rfl, rfl⟩ | ⟨_, h2⟩
    · rcases hput x hh with h1 | h1
      · exact .inl h1
      · exact .inr ⟨i, H, hj, h1⟩
    · exact .inr ⟨i, H2, h2, hh⟩
  have src : ∀ {L2 : List Chunk}, (∀ m, live L2 m → m ≠ k ∧ live L m) → w0.heap.size ≤ σ k ∨ (∃ m, m < L0.length ∧ live L0 m ∧ ¬ live L2 m ∧ σ0 m = σ k) := fun {L2} hsub => by
    by_cases hkn : k < L0.length
    · exact .inr ⟨k, hkn, hg.dead k hkn hlv, fun hm => (hsub k hm).1 rfl, (hg.agree k hkn).symm⟩
    · rcases hg.fresh k (by omega) hlv with h3 | ⟨m, m1, m2, m3, m4⟩
      · exact .inl h3
      · exact .inr ⟨m, m1, m2, fun hm => m3 (hsub m hm).2, m4⟩
  have hlF : ∀ i, live (frzC k (σ k) L') i → i ≠ k ∧ live L i := fun i hi => hlL i ((hl i).1 hi)
  refine ⟨_, _, _, σ, ⟨⟨?_, fun i x hx hjj => ?_⟩, ⟨I.mem.im, fun i c' o hi ho' => ?_, fun i1 i2 h1 h2 => I.mem.inj i1 i2 (hlF i1 h1).2 (hlF i2 h2).2, fun i hi => I.mem.sep i (hlF i hi).2,
    ⟨fun i H2 b o hi hbb => ?_, fun b hbb => ?_, fun b i hbb hi => ?_, fun i1 i2 H1 H2 b h1 h2 q1 q2 => ?_⟩⟩, ?_, ?_, I.defers⟩,
    ⟨hg.agree, by rw [hlen]; exact hg.len, fun i hi hv => hg.dead i hi (hlF i hv).2, fun i hi hv => ?_, hg.gle, fun b h1 h2 => ?_, hg.os, hg.tape, hg.output, hg.size, hg.keep, fun b hbb => ?_⟩, hb⟩
  · rw [frzL_length]; exact I.hfr.1
  · rw [get_frzL] at hx
    subst hx
    rw [re_frz rfl]
    refine I.hfr.2 i _ rfl fun e => hjj ?_
    rw [e]; rfl
  · rw [frzC_get, Option.map_eq_some_iff] at hi
    obtain ⟨d, hd, rfl⟩ := hi
    rw [obj_frz rfl] at ho'
    have hlvd := hlL i (live_of hd (obj_here ho'))
    have hij : i ≠ j := fun e => by subst e; rw [hgj] at hd; cases hd; cases ho'
    rw [hgo i hlvd.1 hij] at hd
    exact I.mem.lo i d o hd ho'
  · rcases hfam i H2 hi with ⟨rfl, rfl⟩ | ⟨_, h2⟩
    · by_cases hbe : b = σ k
      · subst hbe
        rw [G.put_self] at hbb
        cases hbb
        exact I.mem.lo k c _ hc ho
      · rw [G.put_ne hbe] at hbb
        exact I.mem.fm.at_ i H b o hj hbb
    · exact I.mem.fm.at_ i H2 b o h2 hbb
  · rcases hown b hbb with h1 | h1
    · subst h1; exact I.mem.sep k hlv
    · exact I.mem.fm.im b h1
  · obtain ⟨h1, h2⟩ := hlF i hi
    rcases hown b hbb with h3 | h3
    · subst h3; exact fun e => h1 (I.mem.inj i k h2 hlv e)
    · exact I.mem.fm.sep b i h3 h2
  · rcases hfam i1 H1 h1 with ⟨rfl, rfl⟩ | ⟨n1, h1⟩ <;> rcases hfam i2 H2 h2 with ⟨rfl, rfl⟩ | ⟨n2, h2⟩
    · rfl
    · rcases hput b q1 with q | q
      · subst q; exact absurd rfl (hbo _ ⟨i2, H2, h2, q2⟩)
      · exact I.mem.fm.dis _ _ H H2 b hj h2 q q2
    · rcases hput b q2 with q | q
      · subst q; exact absurd rfl (hbo _ ⟨i1, H1, h1, q1⟩)
      · exact I.mem.fm.dis _ _ H1 H b h1 hj q1 q
    · exact I.mem.fm.dis i1 i2 H1 H2 b h1 h2 q1 q2
  · rw [hlen]; exact scL_frzN _ I.scF
  · intro i ty' l hi
    rw [frzC_get, Option.map_eq_some_iff] at hi
    obtain ⟨d, hd, hdc⟩ := hi
    rw [hlen]
    cases d with
    | cells ty2 l2 =>
      simp only [Chunk.frz, Chunk.cells.injEq] at hdc
      rw [← hdc.2]
      refine scL_frzN l2 ?_
      have hlvd := hlL i (live_of hd rfl)
      have hij : i ≠ j := fun e => by subst e; rw [hgj] at hd; cases hd
      rw [hgo i hlvd.1 hij] at hd
      exact I.hscL i ty2 l2 hd
    | vals => cases hdc
    | gone => cases hdc
    | raw => cases hdc
    | row => cases hdc
    | fam => cases hdc
  · rcases hg.fresh i hi (hlF i hv).2 with h4 | ⟨m, m1, m2, m3, m4⟩
    · exact .inl h4
    · exact .inr ⟨m, m1, m2, fun hm => m3 (hlF m hm).2, m4⟩
  · rcases hg.gnew b h1 h2 with h4 | ⟨m, m1, m2, m3, m4⟩
    · exact .inl h4
    · exact .inr ⟨m, m1, m2, fun hm => m3 (hlF m hm).2, m4⟩
  · rcases hown b hbb with h3 | h3
    · subst h3
      rcases src hlF with h4 | h4
      · exact .inl h4
      · exact .inr (.inl h4)
    · rcases hg.ffresh b h3 with h4 | ⟨m, m1, m2, m3, m4⟩ | h4
      · exact .inl h4
      · exact .inr (.inl ⟨m, m1, m2, fun hm => m3 (hlF m hm).2, m4⟩)
      · exact .inr (.inr h4)
end Go.Sx
end
