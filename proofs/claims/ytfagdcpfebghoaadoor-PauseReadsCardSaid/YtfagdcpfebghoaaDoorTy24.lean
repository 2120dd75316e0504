/- A symbolic executor of my own, part 24: a string appended to a slice of bytes; unsafe.SliceData, unsafe.String (strings.Builder). Conditions: none; it speaks of any program. -/
import Derived.Test.YtfagdcpfebghoaaDoorTy23
import Derived.Lib.AppendStr
import Derived.Lib.UnsafeStr
import Derived.Lib.Builder
namespace Go.Sx
open Go.Lib

section
variable {P : Program} {L : List Chunk} {g : G} {chk : List Nat → List Nat → Bool} {K : Out → List Chunk → G → Prop}

theorem exec_app {c : Call} {s x : Operand} {t u : TypeId} (hcal : c.callee = .builtin .append) (hargs : c.args.toList = [s, x]) (htys : c.argTypes = #[t, u]) {o : Oper} {a : Act} {w w' : World} {v : Value} (ho : o.op = .call c)
    (hr : (Builtin.append_ #[t, u] o.type #[a.eval s, a.eval x]).run P w = .ok v w') : (execOp a.eval o).run P w = .ok (.value v) w' := by
  have e1 : c.args.map a.eval = #[a.eval s, a.eval x] := by apply Array.ext'; simp [hargs]
  simp only [execOp, ho, resolve, hcal, Sem.run_bind, Sem.run_pure, Result.andThen_ok, invoke, builtin, htys, e1, hr]

/-- append(nil, s...) -/
theorem prim_appS0 {c : Call} {s x : Operand} {t u e : TypeId} {i : TypeInfo} (hcal : c.callee = .builtin .append) (hargs : c.args.toList = [s, x]) (htys : c.argTypes = #[t, u]) (ht : P.underlying t = some (.slice e)) (hu : P.underlying u = some .string) (hi : P.info? e = some i) (hz : i.zero = some (.int .u8 0)) (hby : i.bytes = 1)
    {bs : ByteArray} (N : Nat) (hN : L.length = N) (hne : 0 < bs.size) (hb : bs.size ≤ 140737488355328) (hc : chk [] [] = true)
    (k : ∀ (cap : Nat) (spare : List Value), bs.size ≤ cap → cap ≤ 9223372036854775807 → spare.length = cap - bs.size → K (.ret (.slc N 0 bs.size cap)) (L ++ [.vals e (strCells bs ++ spare)]) g) :
    PrimX P (.call c) [s, x] [.v (.slice none 0 0), .v (.string bs)] L g chk K := by
  subst hN
  refine prim_new [] hc fun o a σ w ho hev _ => ?_
  have e1 : a.eval s = .slice none 0 0 := hev (s, .v (.slice none 0 0)) (by simp)
  have e2 : a.eval x = .string bs := hev (x, .v (.string bs)) (by simp)
  have hr := run_append_nil_string (P := P) w t u o.type e i (.int .u8 0) ht hu hi hz bs hne (by omega) (by rw [hby]; omega)
  have hge := grownCap_ge w bs.size 0 e
  have hle := grownCap_le_maxLen w bs.size 0 e (by simp only [maxLen]; omega)
  generalize grownCap w bs.size 0 e = gc at hr hge hle
  have hzl : (Builtin.zeroCells (Value.int .u8 0).cells (gc - bs.size)).toList.length = gc - bs.size := by
    rw [Array.length_toList, size_zeroCells]; simp [Value.cells]
  refine ⟨.vals e (strCells bs ++ (Builtin.zeroCells (Value.int .u8 0).cells (gc - bs.size)).toList), _, .slc L.length 0 bs.size gc, .slice (some ⟨w.heap.size, 0, none⟩) bs.size gc, w.drew.drawn, rfl, fun σ => rfl, by simp [SV.sc], ?_, fun σ' hs => by simp [SV.re, hs], k gc _ hge (by simpa [maxLen] using hle) hzl⟩
  rw [exec_app hcal hargs htys ho (by rw [e1, e2]; exact hr)]
  have e3 : (bs.data.map (fun b => Value.int .u8 b.toNat) ++ Builtin.zeroCells (Value.int .u8 0).cells (gc - bs.size)) = (strCells bs ++ (Builtin.zeroCells (Value.int .u8 0).cells (gc - bs.size)).toList).toArray := by
    apply Array.ext'; simp [strCells]
  rw [e3]
  rfl

/-- append(b, s...), b a slice of bytes at hand. -/
theorem prim_appS1 {c : Call} {s x : Operand} {t u e : TypeId} {i : TypeInfo} (hcal : c.callee = .builtin .append) (hargs : c.args.toList = [s, x]) (htys : c.argTypes = #[t, u]) (ht : P.underlying t = some (.slice e)) (hu : P.underlying u = some .string) (hi : P.info? e = some i) (hz : i.zero = some (.int .u8 0)) (hsz : i.size = 1) (hby : i.bytes = 1)
    {bs : ByteArray} (N : Nat) (hN : L.length = N) {b n cap : Nat} (xs sp : List Value) (hL : L[b]? = some (.vals e (xs ++ sp))) (hx : xs.length = n) (hsp : xs.length + sp.length = cap) (hcap : cap ≤ 9223372036854775807) (hb : n + bs.size ≤ 140737488355328) (hc : chk [] [b] = true)
    (k : ∀ (cap : Nat) (spare : List Value), n + bs.size ≤ cap → cap ≤ 9223372036854775807 → (n + bs.size) + spare.length = cap → K (.ret (.slc N 0 (n + bs.size) cap)) (L.set b .gone ++ [.vals e (xs ++ (strCells bs ++ spare))]) g) :
    PrimX P (.call c) [s, x] [.slc b 0 n cap, .v (.string bs)] L g chk K := by
  subst hN hx
  refine PrimX_of [] [b] hc fun o L' σ a w ho hl hm hsc hv hev _ hids => ?_
  have e1 : a.eval s = .slice (some ⟨σ b, 0, none⟩) xs.length cap := hev (s, .slc b 0 xs.length cap) (by simp)
  have e2 : a.eval x = .string bs := hev (x, .v (.string bs)) (by simp)
  have hlen : L'.length = L.length := hl.1
  have hscL' := scH_less hl hsc
  have hkL : L'[b]? = some (.vals e (xs ++ sp)) := by rw [hids b (by simp), hL]
  have hlive : live L' b := live_of hkL rfl
  have hheap := hm.lo b _ _ hkL rfl
  have hkl : b < L'.length := live_lt hlive
  have hrd : ∀ N, redo [b] 0 L' (L.set b .gone ++ N) = L'.set b .gone ++ N := fun N => redo_app (by simp [hlen]) (by simp) (fun j hj hjm => (by
    by_cases hjk : b = j
    · subst hjk
      rw [List.getElem?_set_self (by omega), List.getElem?_set_self (by omega)]
    · rw [List.getElem?_set_ne hjk, List.getElem?_set_ne hjk]
      exact (hids j hjm).symm)) (fun j _ hjm => (List.getElem?_set_ne (fun e => hjm (by simp [e]))).symm)
  have hupd : ∀ c', Upd [b] L (L.set b .gone ++ [c']) := fun c' => ⟨by simp, fun j hj hjm => by
    rw [List.getElem?_append_left (by simpa using hj), List.getElem?_set_ne (fun e => hjm (by simp [e]))]⟩
  have hscg : scH (L.set b .gone) := scH_set hsc rfl
  have hlen2 : (L.set b Chunk.gone).length = L'.length := by simp [hlen]
  by_cases hroom : xs.length + bs.size ≤ cap
  · have hr := run_append_room_string (P := P) w t u o.type e i ht hu hi hsz (σ b) xs.length cap _ hheap bs hroom (by simp only [List.size_toArray, List.length_append]; omega)
    rw [setRow_eq hheap] at hr
    have e3 : ((xs ++ sp).toArray.toList.take xs.length ++ strCells bs ++ (xs ++ sp).toArray.toList.drop (xs.length + bs.size)) = xs ++ (strCells bs ++ sp.drop bs.size) := by
      simp only
      rw [List.take_left, List.append_assoc, ← List.drop_drop, List.drop_left]
    rw [e3] at hr
    unfold Oper.wp
    rw [exec_app hcal hargs htys ho (by rw [e1, e2]; exact hr)]
    refine ⟨_, .slc L.length 0 (xs.length + bs.size) cap, _, g, fun j => if j = L'.length then σ b else σ j, rfl, fun _ => by simp [SV.re, hlen], by simp [SV.sc], hupd _, ?_, scH_push hscg, ?_, k cap (sp.drop bs.size) hroom hcap (by rw [List.length_drop]; omega)⟩
    · rw [hrd]; exact hm.take hscL' hlive
    · rw [hrd]; exact Goes.take hlive
  · have holds : ∀ j v, xs[j]? = some v → w.cell? ((⟨σ b, 0, none⟩ : Addr).add j) = some v := by
      intro j v hj
      rw [add_cell]
      simp only [World.cell?, hheap, Option.isSome_none, Bool.false_eq_true, if_false, Nat.zero_add]
      have : j < xs.length := (List.getElem?_eq_some_iff.1 hj).1
      simpa [List.getElem?_append_left this] using hj
    have hr := run_append_grow_string (P := P) w t u o.type e i (.int .u8 0) ht hu hi hz ⟨σ b, 0, none⟩ xs.length cap xs (by rw [hsz]; simp) holds bs (by omega) (by omega) (by rw [hby]; exact growslice_fits (by omega) (by omega))
    have hge := grownCap_ge w (xs.length + bs.size) cap e
    have hle := grownCap_le_maxLen w (xs.length + bs.size) cap e (by simp only [maxLen]; omega)
    generalize grownCap w (xs.length + bs.size) cap e = gc at hr hge hle
    have hzl : (Builtin.zeroCells (Value.int .u8 0).cells (gc - (xs.length + bs.size))).toList.length = gc - (xs.length + bs.size) := by
      rw [Array.length_toList, size_zeroCells]; simp [Value.cells]
    have hk := k gc (Builtin.zeroCells (Value.int .u8 0).cells (gc - (xs.length + bs.size))).toList hge (by simpa [maxLen] using hle) (by rw [hzl]; omega)
    have hw : w.drew.alloc (.cells (xs.toArray ++ (strCells bs).toArray ++ Builtin.zeroCells (Value.int .u8 0).cells (gc - (xs.length + bs.size))) e) = { ({ w with heap := w.heap.push (.cells (xs ++ (strCells bs ++ (Builtin.zeroCells (Value.int .u8 0).cells (gc - (xs.length + bs.size))).toList)).toArray e (0, 0)) } : World) with drawn := w.drew.drawn } := by
      have e3 : xs.toArray ++ (strCells bs).toArray ++ Builtin.zeroCells (Value.int .u8 0).cells (gc - (xs.length + bs.size)) = (xs ++ (strCells bs ++ (Builtin.zeroCells (Value.int .u8 0).cells (gc - (xs.length + bs.size))).toList)).toArray := by apply Array.ext'; simp
      rw [e3]
      rfl
    unfold Oper.wp
    rw [exec_app hcal hargs htys ho (by rw [e1, e2]; exact hr)]
    have hgm : Mem g (L'.set b .gone) σ w := hm.less (less_gone L' b)
    have hgg : Goes σ L' g w σ (L'.set b .gone) g w := (Goes.refl σ L' g w).less (less_gone L' b)
    refine ⟨_, .slc L.length 0 (xs.length + bs.size) gc, _, g, fun j => if j = (L'.set b Chunk.gone).length then w.heap.size else σ j, rfl, fun _ => by simp [SV.re, hlen], by simp [SV.sc], hupd _, ?_, scH_push hscg, ?_, hk⟩
    · rw [hrd, hw]; exact (hgm.push (scH_set hscL' rfl)).drew _
    · rw [hrd, hw]; exact (hgg.push).drew _

/-- unsafe.SliceData of a slice of some capacity. -/
theorem prim_sdata {c : Call} {x : Operand} {b n cap : Nat} (hcal : c.callee = .builtin .unsafeSliceData) (hargs : c.args.toList = [x]) (h0 : cap ≠ 0) (hc : chk [] [] = true) (k : K (.ret (.ptr b 0)) L g) : PrimX P (.call c) [x] [.slc b 0 n cap] L g chk K := by
  refine prim_val (.ptr b 0) hc (fun h => by simpa [scL, SV.sc] using h) (fun o a σ w ho hev => ?_) k
  have e1 : a.eval x = .slice (some ⟨σ b, 0, none⟩) n cap := hev (x, .slc b 0 n cap) (by simp)
  have e2 : c.args.map a.eval = #[.slice (some ⟨σ b, 0, none⟩) n cap] := by apply Array.ext'; simp [hargs, e1]
  have hr := run_unsafeSliceData_row (P := P) w c.argTypes o.type ⟨σ b, 0, none⟩ n cap h0
  simp only [execOp, ho, resolve, hcal, Sem.run_bind, Sem.run_pure, Result.andThen_ok, invoke, builtin, e2, hr, SV.re]
theorem prim_sdata0 {c : Call} {x : Operand} (hcal : c.callee = .builtin .unsafeSliceData) (hargs : c.args.toList = [x]) (hc : chk [] [] = true) (k : K (.ret (.v (.pointer none))) L g) : PrimX P (.call c) [x] [.v (.slice none 0 0)] L g chk K := by
  refine prim_val (.v (.pointer none)) hc (fun _ => rfl) (fun o a σ w ho hev => ?_) k
  have e1 : a.eval x = .slice none 0 0 := hev (x, .v (.slice none 0 0)) (by simp)
  have e2 : c.args.map a.eval = #[.slice none 0 0] := by apply Array.ext'; simp [hargs, e1]
  have hr := run_unsafeSliceData_nil (P := P) w c.argTypes o.type 0 0
  simp only [execOp, ho, resolve, hcal, Sem.run_bind, Sem.run_pure, Result.andThen_ok, invoke, builtin, e2, hr, SV.re]

/-- unsafe.String of a row at hand: its head, frozen from now on; nobody reads the row any more. -/
theorem prim_ustr {c : Call} {x y : Operand} {pt it e : TypeId} {b : Nat} {bs : ByteArray} {sp : List Value} (hcal : c.callee = .builtin .unsafeString) (hargs : c.args.toList = [x, y]) (htys : c.argTypes = #[pt, it]) (hp : P.underlying pt = some (.pointer e)) (he : P.cellsOf e = 1)
    (hL : L[b]? = some (.vals e (strCells bs ++ sp))) (h0 : 0 < bs.size) (hm : bs.size ≤ 9223372036854775807) (hc : chk [] [b] = true) (k : ∀ ob, K (.ret (.v (.string bs))) (L.set b (.raw ob)) g) :
    PrimX P (.call c) [x, y] [.ptr b 0, .v (.int .i64 bs.size)] L g chk K := by
  refine prim_set b [] hc _ hL rfl fun o a σ w ho hev hse => ?_
  have e1 : a.eval x = .pointer (some ⟨σ b, 0, none⟩) := hev (x, .ptr b 0) (by simp)
  have e2 : a.eval y = .int .i64 bs.size := hev (y, .v (.int .i64 bs.size)) (by simp)
  have e3 : c.args.map a.eval = #[.pointer (some ⟨σ b, 0, none⟩), .int .i64 bs.size] := by apply Array.ext'; simp [hargs, e1, e2]
  have hheap := hse.lo b _ _ (by simp) hL rfl
  have hl0 : bs.data.toList ≠ [] := by
    intro h
    have := congrArg List.length h
    simp only [Array.length_toList, List.length_nil] at this
    rw [ByteArray.size] at h0
    omega
  have hlen : bs.data.toList.length = bs.size := by rw [Array.length_toList]; rfl
  have hr := run_unsafeString_row (P := P) w pt it o.type e hp he (σ b) (strCells bs ++ sp).toArray.size (by simp [World.shape?, hheap]) bs.data.toList hl0 (by rw [hlen]; simp [strCells_length]) (by rw [hlen]; exact hm) (fun j z hj => by
    rw [add_cell]
    have hjl := (List.getElem?_eq_some_iff.1 hj).1
    simp only [World.cell?, hheap, Option.isSome_none, Bool.false_eq_true, if_false, Nat.zero_add]
    simp only [List.getElem?_toArray]
    rw [List.getElem?_append_left (by rw [strCells_length, ← hlen]; exact hjl), strCells, List.getElem?_map, hj]
    rfl)
  rw [hlen] at hr
  have es : (⟨bs.data.toList.toArray⟩ : ByteArray) = bs := by apply ByteArray.ext; simp
  rw [es] at hr
  have hrun : (execOp a.eval o).run P w = .ok (.value (.string bs)) (w.freeze ⟨σ b, 0, none⟩ bs.size) := by
    simp only [execOp, ho, resolve, hcal, Sem.run_bind, Sem.run_pure, Result.andThen_ok, invoke, builtin, htys, e3, hr]
  refine ⟨.raw (.cells (strCells bs ++ sp).toArray e (0, 0 + bs.size)), _, .v (.string bs), w.drawn, rfl, fun _ => rfl, rfl, ?_, k _⟩
  rw [hrun]
  have hw : w.freeze ⟨σ b, 0, none⟩ bs.size = { w with heap := w.heap.setIfInBounds (σ b) (.cells (strCells bs ++ sp).toArray e (0, 0 + bs.size)) } := by
    unfold World.freeze
    rw [if_neg (by omega)]
    congr 1
    apply Array.ext_getElem?
    intro j
    have hlt : σ b < w.heap.size := (Array.getElem?_eq_some_iff.1 hheap).1
    by_cases hj : σ b = j
    · subst hj
      rw [Array.getElem?_modify, if_pos rfl, hheap, Array.getElem?_setIfInBounds_self, if_pos hlt]
      rfl
    · rw [Array.getElem?_setIfInBounds_ne hj, Array.getElem?_modify, if_neg hj]
  rw [hw]
  rfl
theorem prim_ustr0 {c : Call} {x y : Operand} {pt it : TypeId} (hcal : c.callee = .builtin .unsafeString) (hargs : c.args.toList = [x, y]) (htys : c.argTypes = #[pt, it]) (hc : chk [] [] = true) (k : K (.ret (.v (.string ByteArray.empty))) L g) :
    PrimX P (.call c) [x, y] [.v (.pointer none), .v (.int .i64 0)] L g chk K := by
  refine prim_val (.v (.string ByteArray.empty)) hc (fun _ => rfl) (fun o a σ w ho hev => ?_) k
  have e1 : a.eval x = .pointer none := hev (x, .v (.pointer none)) (by simp)
  have e2 : a.eval y = .int .i64 0 := hev (y, .v (.int .i64 0)) (by simp)
  have e3 : c.args.map a.eval = #[.pointer none, .int .i64 0] := by apply Array.ext'; simp [hargs, e1, e2]
  have hr := run_unsafeString_none (P := P) w pt it o.type none
  simp only [execOp, ho, resolve, hcal, Sem.run_bind, Sem.run_pure, Result.andThen_ok, invoke, builtin, htys, e3, hr, SV.re]

/-- A pointer to a block at hand, as an unsafe.Pointer; and back. -/
theorem prim_toU {src dst t e : TypeId} {j : TypeInfo} {x : Operand} {b : Nat} {l : List SV} (hs : P.underlying src = some (.pointer t)) (hd : P.underlying dst = some .unsafePointer) (ht : P.info? t = some j) (hj : j.size ≠ 0) (hL : L[b]? = some (.cells e l)) (hl : 0 < l.length) (hc : chk [b] [] = true)
    (k : K (.ret (.ptr b 0)) L g) : PrimX P (.convert src dst x) [x] [.ptr b 0] L g chk K := by
  refine prim_read [b] (.ptr b 0) hc (fun h => by simpa [scL, SV.sc] using h) (fun o a σ w ho hev hse => ?_) k
  have e1 : a.eval x = .pointer (some ⟨σ b, 0, none⟩) := hev (x, .ptr b 0) (by simp)
  have hheap := hse.lo b _ _ (by simp) hL rfl
  have hr := run_to_unsafe (P := P) w (src := src) (dst := dst) (e := e) (cells := l.length) ⟨σ b, 0, none⟩ hs hd ht hj (by simp [World.shape?, hheap, reL_length]) hl
  simp only [execOp, ho, e1, Sem.run_bind, hr, Result.andThen_ok, Sem.run_pure, SV.re]
theorem prim_fromU {src dst u e : TypeId} {j : TypeInfo} {x : Operand} {b : Nat} {l : List SV} (hs : P.underlying src = some .unsafePointer) (hd : P.underlying dst = some (.pointer u)) (hu : P.info? u = some j) (hL : L[b]? = some (.cells e l)) (hlies : liesAt P P.depth e (l.length / P.cellsOf e) 0 u 1 = true) (hc : chk [b] [] = true)
    (k : K (.ret (.ptr b 0)) L g) : PrimX P (.convert src dst x) [x] [.ptr b 0] L g chk K := by
  refine prim_read [b] (.ptr b 0) hc (fun h => by simpa [scL, SV.sc] using h) (fun o a σ w ho hev hse => ?_) k
  have e1 : a.eval x = .pointer (some ⟨σ b, 0, none⟩) := hev (x, .ptr b 0) (by simp)
  have hheap := hse.lo b _ _ (by simp) hL rfl
  have hr := run_from_unsafe (P := P) w (src := src) (dst := dst) (e := e) (cells := l.length) ⟨σ b, 0, none⟩ hs hd hu (by simp [World.shape?, hheap, reL_length]) hlies
  simp only [execOp, ho, e1, Sem.run_bind, hr, Result.andThen_ok, Sem.run_pure, SV.re]
/-- A pointer held against itself. -/
theorem prim_neqP {tp te : TypeId} {j : TypeInfo} {x y : Operand} {rt : TypeId} {b : Nat} (hp : P.underlying tp = some (.pointer te)) (hte : P.info? te = some j) (hc : chk [] [] = true) (k : K (.ret (.v (.bool false))) L g) : PrimX P (.binOp .neq tp x y rt) [x, y] [.ptr b 0, .ptr b 0] L g chk K := by
  refine prim_val (.v (.bool false)) hc (fun _ => rfl) (fun o a σ w ho hev => ?_) k
  have e1 : a.eval x = .pointer (some ⟨σ b, 0, none⟩) := hev (x, .ptr b 0) (by simp)
  have e2 : a.eval y = .pointer (some ⟨σ b, 0, none⟩) := hev (y, .ptr b 0) (by simp)
  have hr := run_neq_ptr_same (P := P) w (tp := tp) ⟨σ b, 0, none⟩ hp hte
  have hg : eqGuard .neq tp x y (.pointer (some ⟨σ b, 0, none⟩)) (.pointer (some ⟨σ b, 0, none⟩)) = pure () := rfl
  simp only [execOp, ho, e1, e2, hg, Sem.run_bind, hr, Result.andThen_ok, Sem.run_pure, SV.re]
end
end Go.Sx
