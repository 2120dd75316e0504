/- A symbolic executor of my own, part 27: a block made last is given up: nobody writes it any more. Conditions: none; it speaks of any program. -/
import Derived.Test.YtfagdcpfebghoaaDoorTy26
import Derived.Lib.BufferWrite
namespace Go.Sx

def ifaceS (t : TypeId) : SV → SV
  | .v y => .v (.iface t y)
  | x => .iface t x
theorem re_ifaceS (σ : Nat → Nat) (t : TypeId) (x : SV) : (ifaceS t x).re σ = .iface t (x.re σ) := by cases x <;> rfl
mutual
/-- A block's number told as an address. -/
def SV.frz (k b : Nat) : SV → SV
  | .junk => .junk
  | .v x => .v x
  | .ptr i o => match Nat.beq i k with
    | true => .v (.pointer (some ⟨b, o, none⟩))
    | false => .ptr i o
  | .slc i o n c => match Nat.beq i k with
    | true => .v (.slice (some ⟨b, o, none⟩) n c)
    | false => .slc i o n c
  | .mp i => match Nat.beq i k with
    | true => .v (.map (some b))
    | false => .mp i
  | .fn h a c => .fn h (frzL k b a) (frzL k b c)
  | .iface t x => ifaceS t (x.frz k b)
  | .agg l => .agg (frzL k b l)
  | .tup l => .tup (frzL k b l)
def frzL (k b : Nat) : List SV → List SV
  | [] => []
  | x :: l => x.frz k b :: frzL k b l
end
mutual
theorem re_frz {σ : Nat → Nat} {k b : Nat} (h : σ k = b) : ∀ x : SV, (x.frz k b).re σ = x.re σ
  | .junk => rfl
  | .v _ => rfl
  | .ptr i o => by
    simp only [SV.frz]
    split
    · rename_i hb; have := Nat.eq_of_beq_eq_true hb; subst this; subst h; rfl
    · rfl
  | .slc i o n c => by
    simp only [SV.frz]
    split
    · rename_i hb; have := Nat.eq_of_beq_eq_true hb; subst this; subst h; rfl
    · rfl
  | .mp i => by
    simp only [SV.frz]
    split
    · rename_i hb; have := Nat.eq_of_beq_eq_true hb; subst this; subst h; rfl
    · rfl
  | .fn g a c => by simp only [SV.frz, SV.re, reL_frz h a, reL_frz h c]
  | .iface t x => by simp only [SV.frz, re_ifaceS, SV.re, re_frz h x]
  | .agg l => by simp only [SV.frz, SV.re, reL_frz h l]
  | .tup l => by simp only [SV.frz, SV.re, reL_frz h l]
theorem reL_frz {σ : Nat → Nat} {k b : Nat} (h : σ k = b) : ∀ l : List SV, reL σ (frzL k b l) = reL σ l
  | [] => rfl
  | x :: l => by simp only [frzL, reL, re_frz h x, reL_frz h l]
end
theorem sc_ifaceS {n : Nat} {t : TypeId} {x : SV} (h : x.sc n = true) : (ifaceS t x).sc n = true := by
  cases x <;> first | rfl | exact h
mutual
theorem sc_frz {k b : Nat} : ∀ x : SV, x.sc (k + 1) = true → (x.frz k b).sc k = true
  | .junk, _ => rfl
  | .v _, _ => rfl
  | .ptr i o, h => by
    simp only [SV.frz]
    split
    · rfl
    · rename_i hb
      have hne : i ≠ k := fun e => by subst e; simp at hb
      simp only [SV.sc, decide_eq_true_eq] at h ⊢
      omega
  | .slc i o n c, h => by
    simp only [SV.frz]
    split
    · rfl
    · rename_i hb
      have hne : i ≠ k := fun e => by subst e; simp at hb
      simp only [SV.sc, decide_eq_true_eq] at h ⊢
      omega
  | .mp i, h => by
    simp only [SV.frz]
    split
    · rfl
    · rename_i hb
      have hne : i ≠ k := fun e => by subst e; simp at hb
      simp only [SV.sc, decide_eq_true_eq] at h ⊢
      omega
  | .fn g a c, h => by
    simp only [SV.sc, Bool.and_eq_true] at h
    simp only [SV.frz, SV.sc, Bool.and_eq_true]
    exact ⟨scL_frz a h.1, scL_frz c h.2⟩
  | .iface t x, h => sc_ifaceS (sc_frz x h)
  | .agg l, h => scL_frz l h
  | .tup l, h => scL_frz l h
theorem scL_frz {k b : Nat} : ∀ l : List SV, scL (k + 1) l = true → scL k (frzL k b l) = true
  | [], _ => rfl
  | x :: l, h => by
    simp only [scL, Bool.and_eq_true] at h
    simp only [frzL, scL, Bool.and_eq_true]
    exact ⟨sc_frz x h.1, scL_frz l h.2⟩
end
theorem frz_junk {k b : Nat} {x : SV} (h : x ≠ .junk) : x.frz k b ≠ .junk := by
  cases x <;> simp only [SV.frz] <;> first | exact absurd rfl h | (split <;> simp) | (rename_i t y; cases (y.frz k b) <;> simp [ifaceS]) | simp
def Chunk.frz (k b : Nat) : Chunk → Chunk
  | .cells ty c => .cells ty (frzL k b c)
  | c => c
theorem obj_frz {σ : Nat → Nat} {k b : Nat} (h : σ k = b) (c : Chunk) : (c.frz k b).obj σ = c.obj σ := by
  cases c with
  | cells ty l => simp only [Chunk.frz, Chunk.obj, reL_frz h l]
  | _ => rfl
theorem here_frz (k b : Nat) (c : Chunk) : (c.frz k b).here = c.here := by cases c <;> rfl
def Out.frz (k b : Nat) : Out → Out
  | .ret x => .ret (x.frz k b)
  | .pan x => .pan (x.frz k b)
def frzC (k b : Nat) : List Chunk → List Chunk
  | [] => []
  | c :: l => c.frz k b :: frzC k b l
theorem frzC_get (k b : Nat) : ∀ (l : List Chunk) (j : Nat), (frzC k b l)[j]? = (l[j]?).map (Chunk.frz k b)
  | [], _ => rfl
  | c :: l, 0 => rfl
  | c :: l, j + 1 => by simp only [frzC, List.getElem?_cons_succ, frzC_get k b l j]
theorem frzC_length (k b : Nat) : ∀ l : List Chunk, (frzC k b l).length = l.length
  | [] => rfl
  | c :: l => by simp only [frzC, List.length_cons, frzC_length k b l]

/-- **The block made last is given up.** -/
theorem Meets.freeze {P : Program} {f : FuncId} {args : List SV} {L : List Chunk} {g : G} {post post' : Out → List Chunk → G → Prop} (h : Meets P f args L g post)
    (hp : ∀ out L' g', post out L' g' → post' out L' g' ∨ ∃ (L1 : List Chunk) (ty : TypeId) (xs : List Value), L' = L1 ++ [.cells ty (xs.map .v)] ∧ L.length ≤ L1.length ∧ ∀ b g'', G.le g' g'' → g'' b = some (.cells xs.toArray ty (0, 0)) → post' (out.frz L1.length b) (frzC L1.length b L1) g'') : Meets P f args L g post' := by
  refine ⟨h.1, fun σ w h1 h2 h3 => (h.2 σ w h1 h2 h3).mono ?_⟩
  rintro e w' ⟨out, L', g', σ', he, hj, hM, hL, hs, hG, hk⟩
  rcases hp out L' g' hk with hk | ⟨L1, ty, xs, rfl, hlen, hk⟩
  · exact ⟨out, L', g', σ', he, hj, hM, hL, hs, hG, hk⟩
  have hlast : (L1 ++ [Chunk.cells ty (xs.map .v)])[L1.length]? = some (.cells ty (xs.map .v)) := by simp
  have hob : (Chunk.cells ty (xs.map .v)).obj σ' = some (.cells xs.toArray ty (0, 0)) := by
    simp [Chunk.obj, reL_v]
  have hlv : live (L1 ++ [Chunk.cells ty (xs.map .v)]) L1.length := live_of hlast rfl
  have hM2 := hM.freeze hlast hob
  have hG2 := hG.freeze hM hlast hob
  have hset : (L1 ++ [Chunk.cells ty (xs.map .v)]).set L1.length .gone = L1 ++ [Chunk.gone] := by simp
  rw [hset] at hM2 hG2
  have hget : ∀ j, live L1 j → (L1 ++ [Chunk.gone])[j]? = L1[j]? := fun j hj => List.getElem?_append_left (live_lt hj)
  have hlv1 : ∀ j, live (frzC L1.length (σ' L1.length) L1) j → live L1 j := fun j hj => by
    obtain ⟨c, hc, hh⟩ := live_get hj
    rw [frzC_get, Option.map_eq_some_iff] at hc
    obtain ⟨d, hd, rfl⟩ := hc
    exact live_of hd (by rwa [here_frz] at hh)
  have hlv2 : ∀ j, live L1 j → live (L1 ++ [Chunk.gone]) j := fun j hj => (live_congr (hget j hj)).2 hj
  have hlv3 : ∀ j, live L1 j → live (frzC L1.length (σ' L1.length) L1) j := fun j hj => by
    obtain ⟨c, hc, hh⟩ := live_get hj
    exact live_of (c := c.frz _ _) (by rw [frzC_get, hc]; rfl) (by rw [here_frz]; exact hh)
  have hlv4 : ∀ j, live (L1 ++ [Chunk.gone]) j → live L1 j := fun j hj => by
    obtain ⟨c, hc, hh⟩ := live_get hj
    rcases getElem?_append_one hc with ⟨_, h2⟩ | ⟨_, rfl⟩
    · exact live_of h2 hh
    · cases hh
  have hscx : out.sv.sc (L1.length + 1) = true := by simpa using hs
  refine ⟨out.frz L1.length (σ' L1.length), frzC L1.length (σ' L1.length) L1, _, σ', ?_, ?_, ⟨hM2.im, ?_, ?_, ?_⟩, ?_, ?_, ⟨hG2.agree, ?_, ?_, ?_, hG2.gle, ?_, hG2.os, hG2.tape, hG2.output, hG2.size, hG2.keep⟩, hk _ _ (G.plus_le (hM.sep _ hlv) _) G.plus_at⟩
  · cases out with
    | ret x => cases he; show Ending.returned _ = _; rw [re_frz rfl]
    | pan x => cases he; show Ending.panicked _ = _; rw [re_frz rfl]
  · cases out with
    | ret x => exact frz_junk hj
    | pan x => exact frz_junk hj
  · intro k c o hc ho
    rw [frzC_get, Option.map_eq_some_iff] at hc
    obtain ⟨d, hd, rfl⟩ := hc
    rw [obj_frz rfl] at ho
    exact hM2.lo k d o (by rw [hget k (live_of hd (obj_here ho))]; exact hd) ho
  · exact fun i j hi hj e => hM2.inj i j (hlv2 i (hlv1 i hi)) (hlv2 j (hlv1 j hj)) e
  · exact fun k hk => hM2.sep k (hlv2 k (hlv1 k hk))
  · intro k ty' c hc
    rw [frzC_get, Option.map_eq_some_iff] at hc
    obtain ⟨d, hd, hdc⟩ := hc
    cases d with
    | cells ty2 l =>
      simp only [Chunk.frz, Chunk.cells.injEq] at hdc
      rw [← hdc.2, frzC_length]
      refine scL_frz l ?_
      have := hL k ty2 l (by rw [List.getElem?_append_left (List.getElem?_eq_some_iff.1 hd).1]; exact hd)
      simpa using this
    | vals => cases hdc
    | gone => cases hdc
    | raw => cases hdc
  · rw [frzC_length]
    cases out with
    | ret x => exact sc_frz x hscx
    | pan x => exact sc_frz x hscx
  · rw [frzC_length]; exact hlen
  · exact fun k hk hl => hG2.dead k hk (hlv2 k (hlv1 k hl))
  · intro k hk hl
    rcases hG2.fresh k hk (hlv2 k (hlv1 k hl)) with h4 | ⟨m, m1, m2, m3, m4⟩
    · exact .inl h4
    · exact .inr ⟨m, m1, m2, fun hm => m3 (hlv2 m (hlv1 m hm)), m4⟩
  · intro b h4 h5
    rcases hG2.gnew b h4 h5 with h6 | ⟨m, m1, m2, m3, m4⟩
    · exact .inl h6
    · exact .inr ⟨m, m1, m2, fun hm => m3 (hlv2 m (hlv1 m hm)), m4⟩

/-- What the given up block tells. -/
theorem at_frz {g : G} {b : Nat} {ty : TypeId} {xs : List Value} (h : g b = some (.cells xs.toArray ty (0, 0))) : g.at ⟨b, 0, none⟩ xs :=
  ⟨rfl, _, _, _, h, fun i _ => by simp⟩

section
variable {P : Program} {L : List Chunk} {g : G} {op : Op} {args : List Operand} {vs : List SV} {chk : List Nat → List Nat → Bool} {K : Out → List Chunk → G → Prop}

/-- It writes a block at hand, whose cells may lead to blocks at hand. -/
theorem prim_setS (b : Nat) (ids : List Nat) (hc : chk [] (b :: ids) = true) (d : Chunk) (hd : L[b]? = some d) (hlv : d.here = true) (c : Chunk) (hcs : scC L.length c = true) (r : SV) (hr : r.sc L.length = true)
    (hrun : ∀ (o : Oper) (a : Act) (σ : Nat → Nat) (w : World), o.op = op → (∀ p ∈ args.zip vs, a.eval p.1 = p.2.re σ) → Sees (b :: ids) L g σ w → ∃ ob dn, c.obj σ = some ob ∧
      (execOp a.eval o).run P w = .ok (.value (r.re σ)) { ({ w with heap := w.heap.setIfInBounds (σ b) ob } : World) with drawn := dn }) (k : K (.ret r) (L.set b c) g) : PrimX P op args vs L g chk K := by
  refine PrimX_of [] (b :: ids) hc fun o L' σ a w ho hl hm hsc hv hev _ hids => ?_
  obtain ⟨ob, dn, hob, hrun⟩ := hrun o a σ w ho hev (sees_of hm hids)
  unfold Oper.wp
  rw [hrun]
  have hbL : L'[b]? = some d := by rw [hids b (by simp), hd]
  have hlive := live_of hbL hlv
  have hrd : redo (b :: ids) 0 L' (L.set b c) = L'.set b c := by
    have h := redo_app (ids := b :: ids) (L' := L') (M := L.set b c) (M' := L'.set b c) (N := []) (by rw [List.length_set, hl.1]) (by simp) (fun j hj hjm => (by
        by_cases hjk : b = j
        · subst hjk
          rw [List.getElem?_set_self (by rw [← hl.1]; omega), List.getElem?_set_self (by omega)]
        · rw [List.getElem?_set_ne hjk, List.getElem?_set_ne hjk]
          exact (hids j hjm).symm)) (fun j _ hjm => (List.getElem?_set_ne (fun e => hjm (by simp [e]))).symm)
    simpa using h
  refine ⟨_, r, L.set b c, g, σ, rfl, fun _ => rfl, by simpa using hr, ⟨by simp, fun k hk hn => List.getElem?_set_ne (fun e => hn (by simp [e]))⟩, ?_, scH_set hsc hcs, ?_, k⟩
  · rw [hrd]; exact (hm.write hlive c ob hob).drew _
  · rw [hrd]; exact ((Goes.refl σ L' g w).write hlive c ob).drew _

/-- copy(dst, s): s a string no longer than dst, dst a stretch of a block at hand. -/
theorem prim_copyS {c : Call} {x y : Operand} {dT sT elem : TypeId} {b off n cap : Nat} {s : ByteArray} (ty : TypeId) (cur : List SV) (hcal : c.callee = .builtin .copy) (hargs : c.args.toList = [x, y]) (htys : c.argTypes = #[dT, sT]) (hu : P.underlying dT = some (.slice elem)) (hs : (P.info? elem).map (·.size) = some 1)
    (hL : L[b]? = some (.cells ty cur)) (hle : s.size ≤ n) (hfit : off + s.size ≤ cur.length) (hcs : scL L.length cur = true) (hc : chk [] [b] = true)
    (k : K (.ret (.v (.int .i64 s.size))) (L.set b (.cells ty (cur.take off ++ ((Go.Lib.strCells s).map SV.v ++ cur.drop (off + s.size))))) g) :
    PrimX P (.call c) [x, y] [.slc b off n cap, .v (.string s)] L g chk K := by
  have hcs2 : scL L.length (cur.take off ++ ((Go.Lib.strCells s).map SV.v ++ cur.drop (off + s.size))) = true := by
    rw [scL_append, scL_append]
    exact ⟨scL_take _ hcs, scL_v _, scL_drop _ hcs⟩
  refine prim_setS b [] hc _ hL rfl (.cells ty (cur.take off ++ ((Go.Lib.strCells s).map SV.v ++ cur.drop (off + s.size)))) hcs2 (.v (.int .i64 s.size)) rfl (fun o a σ w ho hev hse => ?_) k
  have e1 : a.eval x = .slice (some ⟨σ b, off, none⟩) n cap := hev (x, .slc b off n cap) (by simp)
  have e2 : a.eval y = .string s := hev (y, .v (.string s)) (by simp)
  have e3 : c.args.map a.eval = #[.slice (some ⟨σ b, off, none⟩) n cap, .string s] := by apply Array.ext'; simp [hargs, e1, e2]
  have hheap := hse.lo b _ _ (by simp) hL rfl
  have hr := Go.Lib.run_copy_row_string (P := P) w dT sT o.type elem (σ b) off n cap s _ ty hu hs hheap hle (by simpa [reL_length] using hfit)
  rw [setRow_eq hheap] at hr
  refine ⟨_, w.drawn, rfl, ?_⟩
  simp only [execOp, ho, resolve, hcal, Sem.run_bind, Sem.run_pure, Result.andThen_ok, invoke, builtin, htys, e3, hr]
  have e4 : (reL σ (cur.take off ++ ((Go.Lib.strCells s).map SV.v ++ cur.drop (off + s.size)))).toArray = ((reL σ cur).toArray.toList.take off ++ Go.Lib.byteCells s.data.toList ++ (reL σ cur).toArray.toList.drop (off + s.size)).toArray := by
    rw [reL_append, reL_append, reL_v, reL_take, reL_drop, List.append_assoc]
    rfl
  rw [e4]
  rfl
end

end Go.Sx
