/- A symbolic executor of my own, put together. Conditions: none; it speaks of any program. -/
import Derived.Test.YtedfohdgigbhiaaDoorBaseB
import Derived.Laws.MakeOwn
import Derived.Laws.IdiomStrings
import Derived.Laws.Externs
import Derived.MapKept
import Derived.Maps.RangeRun
import Derived.Stop.Asserts
import Derived.IntWalk
import Derived.Laws.Strings
import Derived.Lib.AppendStr
import Derived.Lib.UnsafeStr
import Derived.Lib.Builder
import Derived.Recover
import Derived.Lib.BufferWrite
/- A symbolic executor of my own, second design, part 16: ranges of numbers, slices as lists, for arguments. Conditions: none; it speaks of any program. -/
section
namespace Go.Sx

/-- In the range of its kind. -/
def iok (k : IntKind) (n : Int) : Prop := match k with
  | .i8 => -128 ≤ n ∧ n ≤ 127
  | .i16 => -32768 ≤ n ∧ n ≤ 32767
  | .i32 => -2147483648 ≤ n ∧ n ≤ 2147483647
  | .i64 => -9223372036854775808 ≤ n ∧ n ≤ 9223372036854775807
  | .u8 => 0 ≤ n ∧ n ≤ 255
  | .u16 => 0 ≤ n ∧ n ≤ 65535
  | .u32 => 0 ≤ n ∧ n ≤ 4294967295
  | .u64 => 0 ≤ n ∧ n ≤ 18446744073709551615
theorem iok_of {k : IntKind} {n : Int} (h : (Lit.int k n).wf = true) : iok k n := by
  cases k <;> simp [Lit.wf, IntKind.signed, IntKind.bits, IntKind.min, IntKind.max] at h <;> unfold iok <;> simp only <;> omega
def sok (s : ByteArray) : Prop := s.size ≤ maxLen
def intC (k : IntKind) (n : Int) : List Value := [.int k n]
def strC (s : ByteArray) : List Value := [.string s]
def boolC (b : Bool) : List Value := [.bool b]

theorem int_of {W : World} {k : IntKind} {c : List Value} (h : (Sh.int k).holds W c) : ∃ n, c = intC k n ∧ iok k n := by
  obtain ⟨n, rfl, hn⟩ := h
  exact ⟨n, rfl, iok_of hn⟩
theorem str_of {W : World} {c : List Value} (h : Sh.str.holds W c) : ∃ s, c = strC s ∧ sok s := by
  obtain ⟨s, rfl, hs⟩ := h
  exact ⟨s, rfl, hs⟩
theorem bool_of {W : World} {c : List Value} (h : Sh.bool.holds W c) : ∃ b, c = boolC b ∧ True := by
  obtain ⟨b, rfl⟩ := h
  exact ⟨b, rfl, trivial⟩

/-- A slice that nobody writes: where it lies, what it holds, its capacity. -/
structure SliceV (α : Type) where
  a : Option Addr
  l : List α
  c : Nat
def SliceV.cells {α : Type} (s : SliceV α) : List Value := [.slice s.a s.l.length s.c]
def SliceV.ok {α : Type} (sz : Nat) (f : α → List Value) (Q : α → Prop) (g : G) (s : SliceV α) : Prop :=
  SliceAt g s.a s.l.length sz (s.l.flatMap f) ∧ s.l.length ≤ maxLen ∧ s.l.length ≤ s.c ∧ s.c ≤ maxLen ∧ ∀ x ∈ s.l, Q x

theorem sliceV_of {α : Type} {W : World} {sz : Nat} (f : α → List Value) (hf : ∀ x, (f x).length = sz) (hsz : 0 < sz) (Q : α → Prop) {e : Sh} (hQ : ∀ c, c.length = sz → e.holds W c → ∃ x, c = f x ∧ Q x) {cs : List Value} (h : (Sh.slice sz e).holds W cs) :
    ∃ s : SliceV α, cs = s.cells ∧ s.ok sz f Q (gOf W) := by
  obtain ⟨a, l, cap, rfl, h1, h2, h3, h4, h5⟩ := slice_of f hf hsz Q hQ h
  exact ⟨⟨a, l, cap⟩, rfl, h4, h1, h2, h3, h5⟩

theorem SliceV.ok.len {α : Type} {sz : Nat} {f : α → List Value} {Q : α → Prop} {g : G} {s : SliceV α} (h : s.ok sz f Q g) : s.l.length ≤ 9223372036854775807 := by
  have := h.2.1
  unfold maxLen at this
  omega
/-- The i-th element, where it lies. -/
theorem SliceV.ok.elem {α : Type} {sz : Nat} {f : α → List Value} {Q : α → Prop} {g : G} {s : SliceV α} (h : s.ok sz f Q g) (hf : ∀ x, (f x).length = sz) {i : Nat} (hi : i < s.l.length) : ∃ ad x, s.a = some ad ∧ s.l[i]? = some x ∧ g.at (ad.add (i * sz)) (f x) ∧ Q x := by
  obtain ⟨ad, ha, hat⟩ := h.1.elem hi
  obtain ⟨x, hx⟩ := lt_some hi
  rw [flatMap_at _ sz hf _ i x hx] at hat
  exact ⟨ad, x, ha, hx, hat, h.2.2.2.2 x (List.mem_of_getElem? hx)⟩

theorem rv {x y : SV} (h : x = y) : Out.ret x = .ret y := by rw [h]
theorem rb {a b : Bool} (h : a = b) : Out.ret (.v (.bool b)) = .ret (.v (.bool a)) := by rw [h]
theorem ri {k : IntKind} {a b : Int} (h : a = b) : Out.ret (.v (.int k a)) = .ret (.v (.int k b)) := by rw [h]
theorem rbd {c : Bool} {p : Prop} [Decidable p] (h : c = true ↔ p) : Out.ret (.v (.bool c)) = .ret (.v (.bool (decide p))) := rv (vb h)

end Go.Sx
end

/- A symbolic executor of my own, second design, part 17: single cells read at an open place; blocks of plain values told as such. Conditions: none; it speaks of any program. -/
section
namespace Go.Sx

/-- One cell read. -/
theorem val1_at {c : List Value} {off : Nat} {x : Value} {K : SV → Prop} (h : c[off]? = some x) (k : K (.v x)) : val1 false (((c.drop off).take 1).map .v) K := by
  have : (c.drop off).take 1 = [x] := by
    have h1 := (List.getElem?_eq_some_iff.1 h).1
    rw [List.drop_eq_getElem_cons h1, List.take_succ_cons, List.take_zero]
    simpa [List.getElem?_eq_getElem h1] using h
  rw [this]
  exact k
theorem load1_at {c : List Value} {off : Nat} {x : Value} {K : SV → Prop} (h : c[off]? = some x) (k : K (.v x)) : off + 1 ≤ c.length ∧ val1 false (((c.drop off).take 1).map .v) K :=
  ⟨(List.getElem?_eq_some_iff.1 h).1, val1_at h k⟩

def Chunk.pl : Chunk → Chunk
  | .cells ty c => match valsOf c with
    | some xs => .vals ty xs
    | none => .cells ty c
  | c => c
theorem pl_obj (σ : Nat → Nat) (c : Chunk) : c.pl.obj σ = c.obj σ := by
  cases c with
  | cells ty c =>
    simp only [Chunk.pl]
    split
    · rename_i xs h
      rw [valsOf_spec h]
      simp only [Chunk.obj, reL_v]
    · rfl
  | _ => rfl
theorem pl_here (c : Chunk) : c.pl.here = c.here := by
  cases c with
  | cells ty c =>
    simp only [Chunk.pl]
    split <;> rfl
  | _ => rfl
theorem live_pl {L : List Chunk} {k : Nat} : live (L.map Chunk.pl) k ↔ live L k := by
  unfold live liveB
  rw [List.getElem?_map]
  cases L[k]? with
  | none => rfl
  | some c => simp only [Option.map_some, pl_here]

theorem pl_fam {L : List Chunk} (k : Nat) (H : G) : (L.map Chunk.pl)[k]? = some (Chunk.fam H) ↔ L[k]? = some (Chunk.fam H) := by
  rw [List.getElem?_map, Option.map_eq_some_iff]
  constructor
  · rintro ⟨c, hc, e⟩
    cases c with
    | cells ty l =>
      simp only [Chunk.pl] at e
      split at e <;> cases e
    | fam h => cases e; exact hc
    | _ => cases e
  · intro h; exact ⟨_, h, rfl⟩
theorem pl_ownF {L : List Chunk} {b : Nat} : ownF (L.map Chunk.pl) b ↔ ownF L b :=
  ⟨fun ⟨k, H, hk, hh⟩ => ⟨k, H, (pl_fam k H).1 hk, hh⟩, fun ⟨k, H, hk, hh⟩ => ⟨k, H, (pl_fam k H).2 hk, hh⟩⟩
/-- Cells that are plain values, told as such. -/
theorem Meets.pl {P : Program} {f : FuncId} {args : List SV} {L : List Chunk} {g : G} {post : Out → List Chunk → G → Prop} (h : Meets P f args (L.map Chunk.pl) g post) : Meets P f args L g post := by
  refine ⟨h.1, fun σ w hm hL hsc => (h.2 σ w ?_ ?_ (by simpa using hsc)).mono ?_⟩
  · refine ⟨hm.im, fun k c o hk ho => ?_, fun j k hj hk => hm.inj j k (live_pl.1 hj) (live_pl.1 hk), fun k hk => hm.sep k (live_pl.1 hk), hm.fm.to (fun k H => (pl_fam k H).1) hm.fm.im (fun b j hb hj => hm.fm.sep b j hb (live_pl.1 hj)) fun _ _ _ => rfl⟩
    rw [List.getElem?_map, Option.map_eq_some_iff] at hk
    obtain ⟨d, hd, rfl⟩ := hk
    rw [pl_obj] at ho
    exact hm.lo k d o hd ho
  · intro k ty c hk
    rw [List.getElem?_map, Option.map_eq_some_iff] at hk
    obtain ⟨d, hd, hc⟩ := hk
    cases d with
    | cells ty' c' =>
      simp only [Chunk.pl] at hc
      split at hc
      · cases hc
      · cases hc
        rw [List.length_map]
        exact hL k _ _ hd
    | vals => cases hc
    | gone => cases hc
    | raw => cases hc
    | row => cases hc
    | fam => cases hc
  · rintro e w' ⟨out, L', g', σ', h1, h2, h3, h4, h5, h6, h7⟩
    refine ⟨out, L', g', σ', h1, h2, h3, h4, h5, ?_, h7⟩
    exact ⟨fun k hk => h6.agree k (by simpa using hk), by simpa using h6.len, fun k hk hl => live_pl.1 (h6.dead k (by simpa using hk) hl), fun k hk hl => (by
      rcases h6.fresh k (by simpa using hk) hl with h | ⟨j, j1, j2, j3, j4⟩
      · exact .inl h
      · exact .inr ⟨j, by simpa using j1, live_pl.1 j2, j3, j4⟩), h6.gle, fun b h1 h2 => (by
      rcases h6.gnew b h1 h2 with h | ⟨j, j1, j2, j3, j4⟩
      · exact .inl h
      · exact .inr ⟨j, by simpa using j1, live_pl.1 j2, j3, j4⟩), h6.os, h6.tape, h6.output, h6.size, fun b hb hn hf => h6.keep b hb (fun k hk => hn k (live_pl.1 hk)) (fun ho => hf (pl_ownF.1 ho)), fun b hb => (by
      rcases h6.ffresh b hb with h | ⟨j, j1, j2, j3, j4⟩ | h
      · exact .inl h
      · exact .inr (.inl ⟨j, by simpa using j1, live_pl.1 j2, j3, j4⟩)
      · exact .inr (.inr (pl_ownF.1 h)))⟩

end Go.Sx
end

/- A symbolic executor of my own, part 18: operations told by the model: what makes a block, reads, writes one, panics, calls by a method; slices made, bytes of a string, copy; maps. Conditions: none; it speaks of any program. -/
section
namespace Go.Sx

def Chunk.lone : Chunk → Bool
  | .cells _ _ => false
  | .gone => false
  | .fam _ => false
  | _ => true
theorem lone_nfam {c : Chunk} (h : c.lone = true) : isFam c = false := by cases c <;> first | rfl | cases h
theorem lone_on {c : Chunk} (h : c.lone = true) (p : Nat → Bool) : c.on p = true := by cases c <;> first | rfl | cases h
theorem lone_here {c : Chunk} (h : c.lone = true) : c.here = true := by cases c <;> first | rfl | cases h
theorem lone_sc {c : Chunk} (h : c.lone = true) (n : Nat) : scC n c = true := by cases c <;> first | rfl | cases h
theorem lone_obj {c : Chunk} (h : c.lone = true) : ∃ ob, ∀ σ, c.obj σ = some ob := by cases c <;> first | exact ⟨_, fun _ => rfl⟩ | cases h

section
variable {P : Program} {L L' : List Chunk} {g : G} {σ : Nat → Nat} {w : World} {op : Op} {args : List Operand} {vs : List SV} {chk : List Nat → List Nat → Bool} {K : Out → List Chunk → G → Prop}

theorem offNew (hsc : scH L) : ∀ (j : Nat) (c' : Chunk), (L ++ [Chunk.gone])[j]? = some c' → c'.on (fun i => !(i == L.length)) = true := by
  intro j c' hjc
  rcases getElem?_append_one hjc with ⟨_, h2⟩ | ⟨_, rfl⟩
  · cases c' with
    | cells ty l =>
      have := hsc j ty l h2
      rw [onL_sc] at this
      exact onL_mono (fun k hk => by simp at hk ⊢; omega) l this
    | _ => rfl
  · rfl
theorem Mem.pushC (h : Mem g L σ w) (hsc : scH L) {c : Chunk} (hp : c.lone = true) {ob : Obj} (ho : ∀ σ, c.obj σ = some ob) :
    Mem g (L ++ [c]) (fun j => if j = L.length then w.heap.size else σ j) { w with heap := w.heap.push ob } := by
  have := h.place.born (k := L.length) (by simp) (offNew hsc) c (lone_on hp _) _ (ho _)
  rwa [set_last] at this
theorem Goes.pushC {σ0 L0 g0 w0} (h : Goes σ0 L0 g0 w0 σ L g w) (c : Chunk) (ob : Obj) (hcf : isFam c = false) :
    Goes σ0 L0 g0 w0 (fun j => if j = L.length then w.heap.size else σ j) (L ++ [c]) g { w with heap := w.heap.push ob } := by
  have := h.place.born (k := L.length) h.len c ob hcf
  rwa [set_last] at this
theorem scH_pushC {c : Chunk} (hL : scH L) (hc : c.lone = true) : scH (L ++ [c]) := by
  intro k ty' l hk
  rcases getElem?_append_one hk with ⟨_, h2⟩ | ⟨_, h2⟩
  · exact scL_mono (by simp) _ (hL k ty' l h2)
  · subst h2; cases hc

/-- A block that nobody writes any more, new. -/
def G.plus (g : G) (b : Nat) (ob : Obj) : G := fun b' => if b' = b then some ob else g b'
theorem G.plus_le {g : G} {b : Nat} (h : g b = none) (ob : Obj) : G.le g (g.plus b ob) := by
  intro b' o hb
  unfold G.plus
  split
  · rename_i e; subst e; rw [h] at hb; cases hb
  · exact hb
theorem G.plus_at {g : G} {b : Nat} {ob : Obj} : g.plus b ob b = some ob := by simp [G.plus]
theorem Mem.pushG (h : Mem g L σ w) (ob : Obj) : Mem (g.plus w.heap.size ob) L σ { w with heap := w.heap.push ob } := by
  refine ⟨fun b o hb => ?_, fun k c o hk ho => ?_, h.inj, fun k hk => ?_, h.fm.to (fun _ _ hk => hk) (fun b hb => ?_) h.fm.sep fun b _ hb => heap_push_lt hb⟩
  rotate_right
  · have := h.fm.lt hb
    unfold G.plus
    rw [if_neg (by omega)]
    exact h.fm.im b hb
  · unfold G.plus at hb
    split at hb
    · rename_i e; subst e; cases hb; simp
    · show (w.heap.push ob)[b]? = _
      rw [heap_push_lt (h.im_lt hb)]; exact h.im b o hb
  · show (w.heap.push ob)[σ k]? = _
    rw [heap_push_lt (h.lt (live_of hk (obj_here ho)))]; exact h.lo k c o hk ho
  · have := h.lt hk
    unfold G.plus
    rw [if_neg (by omega)]
    exact h.sep k hk
theorem im_none (h : Mem g L σ w) : g w.heap.size = none := by
  cases hg : g w.heap.size with
  | none => rfl
  | some o => have := h.im_lt hg; omega
theorem Goes.pushG {σ0 L0 g0 w0} (h : Goes σ0 L0 g0 w0 σ L g w) (hn : g w.heap.size = none) (ob : Obj) : Goes σ0 L0 g0 w0 σ L (g.plus w.heap.size ob) { w with heap := w.heap.push ob } where
  agree := h.agree
  len := h.len
  dead := h.dead
  fresh := h.fresh
  gle b o hb := G.plus_le hn ob b o (h.gle b o hb)
  gnew b h1 h2 := by
    unfold G.plus at h2
    split at h2
    · rename_i e; exact .inl (by rw [e]; exact h.size)
    · exact h.gnew b h1 h2
  os := h.os
  tape := h.tape
  output := h.output
  size := by simp only [Array.size_push]; have := h.size; omega
  keep b hb hn hf := (heap_push_lt (Nat.lt_of_lt_of_le hb h.size)).trans (h.keep b hb hn hf)
  ffresh := h.ffresh

/-- A block of the function's own is given up: nobody writes it any more. -/
theorem Mem.freeze (h : Mem g L σ w) {k : Nat} {c : Chunk} {ob : Obj} (hk : L[k]? = some c) (ho : c.obj σ = some ob) : Mem (g.plus (σ k) ob) (L.set k .gone) σ w := by
  have hl : ∀ j, live (L.set k .gone) j → j ≠ k ∧ live L j := fun j hj => by
    by_cases hjk : j = k
    · subst hjk
      obtain ⟨c', hc', hh⟩ := live_get hj
      rw [List.getElem?_set_self (List.getElem?_eq_some_iff.1 hk).1] at hc'
      cases hc'; cases hh
    · exact ⟨hjk, by rwa [live_congr (L' := L) (List.getElem?_set_ne (fun e => hjk e.symm))] at hj⟩
  have hkl := live_of hk (obj_here ho)
  refine ⟨fun b o hb => ?_, fun j c' o hj ho' => ?_, fun i j hi hj => h.inj i j (hl i hi).2 (hl j hj).2, fun j hj => ?_, h.fm.to (fam_set rfl) (fun b hb => ?_) (fun b j hb hj => h.fm.sep b j hb (hl j hj).2) fun _ _ _ => rfl⟩
  rotate_right
  · unfold G.plus
    rw [if_neg fun e => h.fm.sep b k hb hkl e.symm]
    exact h.fm.im b hb
  · unfold G.plus at hb
    split at hb
    · rename_i e; subst e; cases hb; exact h.lo k c _ hk ho
    · exact h.im b o hb
  · have hj2 := (hl j (live_of hj (obj_here ho'))).1
    rw [List.getElem?_set_ne (fun e => hj2 e.symm)] at hj
    exact h.lo j c' o hj ho'
  · obtain ⟨h1, h2⟩ := hl j hj
    unfold G.plus
    rw [if_neg (fun e => h1 (h.inj j k h2 hkl e))]
    exact h.sep j h2
theorem Goes.freeze {σ0 L0 g0 w0} (h : Goes σ0 L0 g0 w0 σ L g w) (hm : Mem g L σ w) {k : Nat} {c : Chunk} {ob : Obj} (hk : L[k]? = some c) (ho : c.obj σ = some ob) : Goes σ0 L0 g0 w0 σ (L.set k .gone) (g.plus (σ k) ob) w := by
  have hkl := live_of hk (obj_here ho)
  have hl : ∀ j, live (L.set k .gone) j → j ≠ k ∧ live L j := fun j hj => by
    by_cases hjk : j = k
    · subst hjk
      obtain ⟨c', hc', hh⟩ := live_get hj
      rw [List.getElem?_set_self (List.getElem?_eq_some_iff.1 hk).1] at hc'
      cases hc'; cases hh
    · exact ⟨hjk, by rwa [live_congr (L' := L) (List.getElem?_set_ne (fun e => hjk e.symm))] at hj⟩
  refine ⟨h.agree, by rw [List.length_set]; exact h.len, fun j hj hlv => h.dead j hj (hl j hlv).2, fun j hj hlv => ?_, fun b o hb => G.plus_le (hm.sep k hkl) ob b o (h.gle b o hb), fun b h1 h2 => ?_, h.os, h.tape, h.output, h.size, h.keep, fun b hb => (by
    rcases h.ffresh b (hb.of (fam_set rfl)) with h3 | ⟨m, m1, m2, m3, m4⟩ | h3
    · exact .inl h3
    · exact .inr (.inl ⟨m, m1, m2, fun hm => m3 (hl m hm).2, m4⟩)
    · exact .inr (.inr h3))⟩
  · rcases h.fresh j hj (hl j hlv).2 with h3 | ⟨m, m1, m2, m3, m4⟩
    · exact .inl h3
    · exact .inr ⟨m, m1, m2, fun hm => m3 (hl m hm).2, m4⟩
  · unfold G.plus at h2
    split at h2
    · rename_i e
      subst e
      by_cases hkn : k < L0.length
      · exact .inr ⟨k, hkn, h.dead k hkn hkl, fun hm => (hl k hm).1 rfl, (h.agree k hkn).symm⟩
      · rcases h.fresh k (by omega) hkl with h3 | ⟨m, m1, m2, m3, m4⟩
        · exact .inl h3
        · exact .inr ⟨m, m1, m2, fun hm => m3 (hl m hm).2, m4⟩
    · rcases h.gnew b h1 h2 with h3 | ⟨m, m1, m2, m3, m4⟩
      · exact .inl h3
      · exact .inr ⟨m, m1, m2, fun hm => m3 (hl m hm).2, m4⟩

theorem redo_nil {ids : List Nat} (hl : Less L' L) (h : ∀ k, k ∈ ids → L'[k]? = L[k]?) : redo ids 0 L' L = L' := by
  apply List.ext_getElem?
  intro k
  rw [redo_get ids L' L 0 k (Nat.le_of_eq hl.1), Nat.zero_add]
  split
  · rfl
  · rename_i hn
    by_cases hk : k < L'.length
    · exact (h k (Classical.byContradiction fun hh => hn ⟨hk, hh⟩)).symm
    · have := hl.1
      rw [List.getElem?_eq_none (by omega), List.getElem?_eq_none (by omega)]

theorem PrimX_of (rd ids : List Nat) (hc : chk rd ids = true) (h : PrimV P op args vs L g rd ids K) : PrimX P op args vs L g chk K := by
  rw [PrimX_eq]
  exact ⟨rd, ids, hc, h⟩

/-- What is at hand of memory. -/
structure Sees (ids : List Nat) (L : List Chunk) (g : G) (σ : Nat → Nat) (w : World) : Prop where
  im : ∀ b o, g b = some o → w.heap[b]? = some o
  lo : ∀ k c o, k ∈ ids → L[k]? = some c → c.obj σ = some o → w.heap[σ k]? = some o

theorem sees_of (hm : Mem g L' σ w) {ids : List Nat} (hids : ∀ k, k ∈ ids → L'[k]? = L[k]?) : Sees ids L g σ w :=
  ⟨hm.im, fun k c o hk hc ho => hm.lo k c o (by rw [hids k hk]; exact hc) ho⟩

/-- It only reads. -/
theorem prim_read (ids : List Nat) (r : SV) (hc : chk ids [] = true) (hs : scL L.length vs = true → r.sc L.length = true)
    (hrun : ∀ (o : Oper) (a : Act) (σ : Nat → Nat) (w : World), o.op = op → (∀ p ∈ args.zip vs, a.eval p.1 = p.2.re σ) → Sees ids L g σ w → (execOp a.eval o).run P w = .ok (.value (r.re σ)) w)
    (k : K (.ret r) L g) : PrimX P op args vs L g chk K := by
  refine PrimX_of ids [] hc fun o L' σ a w ho hl hm hsc hv hev hids hid0 => ?_
  unfold Oper.wp
  rw [hrun o a σ w ho hev (sees_of hm hids)]
  refine ⟨_, r, L, g, σ, rfl, fun _ => rfl, hs hv, ⟨Nat.le_refl _, fun _ _ _ => rfl⟩, ?_, hsc, ?_, k⟩
  · rw [redo_nil hl hid0]; exact hm
  · rw [redo_nil hl hid0]; exact Goes.refl _ _ _ _
theorem prim_val (r : SV) (hc : chk [] [] = true) (hs : scL L.length vs = true → r.sc L.length = true)
    (hrun : ∀ (o : Oper) (a : Act) (σ : Nat → Nat) (w : World), o.op = op → (∀ p ∈ args.zip vs, a.eval p.1 = p.2.re σ) → (execOp a.eval o).run P w = .ok (.value (r.re σ)) w)
    (k : K (.ret r) L g) : PrimX P op args vs L g chk K :=
  prim_read [] r hc hs (fun o a σ w h1 h2 _ => hrun o a σ w h1 h2) k

/-- It makes a block. -/
theorem prim_new (ids : List Nat) (hc : chk ids [] = true)
    (hrun : ∀ (o : Oper) (a : Act) (σ : Nat → Nat) (w : World), o.op = op → (∀ p ∈ args.zip vs, a.eval p.1 = p.2.re σ) → Sees ids L g σ w → ∃ c ob r v dn, c.lone = true ∧ (∀ σ, c.obj σ = some ob) ∧ r.sc (L.length + 1) = true ∧
      (execOp a.eval o).run P w = .ok (.value v) { ({ w with heap := w.heap.push ob } : World) with drawn := dn } ∧ (∀ σ' : Nat → Nat, σ' L.length = w.heap.size → v = r.re σ') ∧ K (.ret r) (L ++ [c]) g) : PrimX P op args vs L g chk K := by
  refine PrimX_of ids [] hc fun o L' σ a w ho hl hm hsc hv hev hids hid0 => ?_
  obtain ⟨c, ob, r, v, dn, hc, hob, hr, hrun, hv, k⟩ := hrun o a σ w ho hev (sees_of hm hids)
  unfold Oper.wp
  rw [hrun]
  have hrd : redo [] 0 L' (L ++ [c]) = L' ++ [c] := redo_app hl.1.symm rfl (fun k _ hk => (hid0 k hk).symm) (fun _ _ _ => rfl)
  refine ⟨v, r, L ++ [c], g, fun j => if j = L'.length then w.heap.size else σ j, rfl, fun _ => hv _ (by simp [hl.1]), by simpa using hr, ⟨by simp, fun k hk _ => List.getElem?_append_left hk⟩, ?_, scH_pushC hsc hc, ?_, k⟩
  · rw [hrd]; exact (hm.pushC (scH_less hl hsc) hc hob).drew _
  · rw [hrd]; exact ((Goes.refl σ L' g w).pushC c ob (lone_nfam hc)).drew _

/-- It makes a block that nobody writes any more. -/
theorem prim_newG (ids : List Nat) (hc : chk ids [] = true)
    (hrun : ∀ (o : Oper) (a : Act) (σ : Nat → Nat) (w : World), o.op = op → (∀ p ∈ args.zip vs, a.eval p.1 = p.2.re σ) → Sees ids L g σ w → ∃ ob r dn, r.sc L.length = true ∧
      (execOp a.eval o).run P w = .ok (.value (r.re σ)) { ({ w with heap := w.heap.push ob } : World) with drawn := dn } ∧ (∀ g', G.le g g' → g' w.heap.size = some ob → K (.ret r) L g')) : PrimX P op args vs L g chk K := by
  refine PrimX_of ids [] hc fun o L' σ a w ho hl hm hsc hv hev hids hid0 => ?_
  obtain ⟨ob, r, dn, hr, hrun, k⟩ := hrun o a σ w ho hev (sees_of hm hids)
  unfold Oper.wp
  rw [hrun]
  refine ⟨_, r, L, g.plus w.heap.size ob, σ, rfl, fun _ => rfl, hr, ⟨Nat.le_refl _, fun _ _ _ => rfl⟩, ?_, hsc, ?_, k _ (G.plus_le (im_none hm) ob) G.plus_at⟩
  · rw [redo_nil hl hid0]; exact (hm.pushG ob).drew _
  · rw [redo_nil hl hid0]; exact ((Goes.refl σ L' g w).pushG (im_none hm) ob).drew _

/-- It writes a block at hand. -/
theorem prim_set (b : Nat) (ids : List Nat) (hc : chk [] (b :: ids) = true) (d : Chunk) (hd : L[b]? = some d) (hlv : d.here = true)
    (hrun : ∀ (o : Oper) (a : Act) (σ : Nat → Nat) (w : World), o.op = op → (∀ p ∈ args.zip vs, a.eval p.1 = p.2.re σ) → Sees (b :: ids) L g σ w → ∃ c ob r dn, c.lone = true ∧ (∀ σ, c.obj σ = some ob) ∧ r.sc L.length = true ∧
      (execOp a.eval o).run P w = .ok (.value (r.re σ)) { ({ w with heap := w.heap.setIfInBounds (σ b) ob } : World) with drawn := dn } ∧ K (.ret r) (L.set b c) g) : PrimX P op args vs L g chk K := by
  refine PrimX_of [] (b :: ids) hc fun o L' σ a w ho hl hm hsc hv hev _ hids => ?_
  obtain ⟨c, ob, r, dn, hc, hob, hr, hrun, k⟩ := hrun o a σ w ho hev (sees_of hm hids)
  unfold Oper.wp
  rw [hrun]
  have hbL : L'[b]? = some d := by rw [hids b (by simp), hd]
  have hlive := live_of hbL hlv
  have hrd : redo (b :: ids) 0 L' (L.set b c) = L'.set b c := by
    have h := redo_app (ids := b :: ids) (L' := L') (M := L.set b c) (M' := L'.set b c) (N := []) (by rw [List.length_set, hl.1]) (by simp) (fun j hj hjm => (by
        by_cases hjk : b = j
        · subst hjk
          rw [List.getElem?_set_self (by rw [← hl.1]; omega), List.getElem?_set_self (by omega)]
        · rw [List.getElem?_set_ne hjk, List.getElem?_set_ne hjk]
          exact (hids j hjm).symm)) (fun j _ hjm => (List.getElem?_set_ne (fun e => hjm (by simp [e]))).symm)
    simpa using h
  refine ⟨_, r, L.set b c, g, σ, rfl, fun _ => rfl, by simpa using hr, ⟨by simp, fun k hk hn => List.getElem?_set_ne (fun e => hn (by simp [e]))⟩, ?_, scH_set hsc (lone_sc hc _), ?_, k⟩
  · rw [hrd]; exact (hm.write hlive c ob (hob _)).drew _
  · rw [hrd]; exact ((Goes.refl σ L' g w).write hlive c ob (lone_nfam hc)).drew _

/-- It panics. -/
theorem prim_pan (x : SV) (hj : x ≠ .junk) (hc : chk [] [] = true) (hs : scL L.length vs = true → x.sc L.length = true)
    (hrun : ∀ (o : Oper) (a : Act) (σ : Nat → Nat) (w : World), o.op = op → (∀ p ∈ args.zip vs, a.eval p.1 = p.2.re σ) → (execOp a.eval o).run P w = .halt (.panic (x.re σ)) w)
    (k : K (.pan x) L g) : PrimX P op args vs L g chk K := by
  refine PrimX_of [] [] hc fun o L' σ a w ho hl hm hsc hv hev _ hids => ?_
  unfold Oper.wp
  rw [hrun o a σ w ho hev]
  refine ⟨x, L, g, σ, rfl, hj, rfl, hs hv, ⟨Nat.le_refl _, fun _ _ _ => rfl⟩, ?_, hsc, ?_, k⟩
  · rw [redo_nil hl hids]; exact hm
  · rw [redo_nil hl hids]; exact Goes.refl _ _ _ _
theorem prim_panic {y : Operand} {t : TypeId} {x : SV} (hc : chk [] [] = true) (k : K (.pan (.iface t x)) L g) : PrimX P (.panic y) [y] [.iface t x] L g chk K :=
  prim_pan (.iface t x) nofun hc (fun h => by simpa [scL] using h) (fun o a σ w ho hev => by
    have := hev (y, .iface t x) (by simp)
    simp only [SV.re] at this
    simp [execOp, ho, this, Instr.panic, SV.re]) k
theorem prim_panicV {y : Operand} {t : TypeId} {x : Value} (hc : chk [] [] = true) (k : K (.pan (.v (.iface t x))) L g) : PrimX P (.panic y) [y] [.v (.iface t x)] L g chk K :=
  prim_pan (.v (.iface t x)) nofun hc (fun h => by simpa [scL] using h) (fun o a σ w ho hev => by
    have := hev (y, .v (.iface t x)) (by simp)
    simp only [SV.re] at this
    simp [execOp, ho, this, Instr.panic, SV.re]) k

theorem zip_self_map {f : Operand → Value} {σ : Nat → Nat} : ∀ {l : List Operand} {xs : List SV}, l.length = xs.length → (∀ p ∈ l.zip xs, f p.1 = p.2.re σ) → l.map f = reL σ xs
  | [], [], _, _ => rfl
  | x :: l, y :: xs, hl, h => by
    simp only [List.map_cons, reL]
    rw [h (x, y) (by simp), zip_self_map (by simpa using hl) fun p hp => h p (by simp [hp])]

/-- A call by a method of an interface value. -/
theorem prim_invoke {c : Call} {recv : Operand} {name : String} (hcal : c.callee = .invoke recv name) (f : FuncId) (rv x : SV) (t : TypeId) (y : Value) (as : List SV) (hlen : c.args.toList.length = as.length)
    (hx : ∀ σ, x.re σ = .iface t y) (hm : ∀ w, (Go.method (P.types.size + Made.depth) t y name).run P w = .ok (f, y) w) (hrv : ∀ σ, rv.re σ = y) (hs : x.sc L.length = true → rv.sc L.length = true)
    (h : CallX P f (rv :: as) L g chk K) : PrimX P (.call c) (recv :: c.args.toList) (x :: as) L g chk K := by
  rw [CallX_eq] at h
  obtain ⟨rd, ids, hck, h⟩ := h
  refine PrimX_of rd ids hck fun o L' σ a w ho hl hm' hsc hv hev hrd hids => ?_
  have e0 : a.eval recv = .iface t y := by rw [hev (recv, x) (by simp)]; exact hx σ
  have e1 : c.args.toList.map a.eval = reL σ as := zip_self_map hlen fun p hp => hev p (by simp [hp])
  have e2 : c.args.map a.eval = (reL σ as).toArray := by apply Array.ext'; simp [← e1]
  have hsv : scL L.length (rv :: as) = true := by
    simp only [scL, Bool.and_eq_true] at hv ⊢
    exact ⟨hs hv.1, hv.2⟩
  have hr : (execOp a.eval o).run P w = .ok (.enter f (reL σ (rv :: as)).toArray) w := by
    have hcr := callable_run h.1 ((reL σ (rv :: as)).toArray) w
    have hpr : (program.run P w : Result Program) = .ok P w := rfl
    simp only [execOp, ho, resolve, hcal, e0, e2, Sem.run_bind, Sem.run_pure, Result.andThen_ok, invoke]
    have g0 : (#[Value.iface t y] ++ (reL σ as).toArray)[0]? = some (.iface t y) := by simp
    have g1 : (#[Value.iface t y] ++ (reL σ as).toArray).extract 1 (#[Value.iface t y] ++ (reL σ as).toArray).size = (reL σ as).toArray := by
      apply Array.ext'; simp
    simp only [g0, g1, callMethod, Sem.run_bind, hpr, Result.andThen_ok, hm]
    have g2 : #[y] ++ (reL σ as).toArray = (reL σ (rv :: as)).toArray := by
      apply Array.ext'; simp [reL, hrv σ]
    rw [g2]
    exact hcr
  unfold Oper.wp
  rw [hr]
  show Calls P f _ w _
  refine (h.2 L' σ w hl hrd hids hm' hsc hsv).mono ?_
  rintro e w' ⟨out, L1, g', σ', he, hj, h1, h2, h3, h4, h5, h6⟩
  cases out with
  | ret r => cases he; exact ⟨_, r, L1, g', σ', rfl, fun _ => rfl, h4, h1, h2, h3, h5, h6⟩
  | pan z => cases he; exact ⟨z, L1, g', σ', rfl, hj, rfl, h4, h1, h2, h3, h5, h6⟩

/-! ### Slices made, bytes of a string -/

theorem made_one {zv : Value} {z : Array Value} (hz : z = #[zv]) (n : Nat) : (madeCells z n).toList = List.replicate n zv := by
  subst hz
  simp only [madeCells, Array.toList_map, Array.toList_range]
  apply List.ext_getElem
  · simp
  · intro i h1 h2
    simp [Nat.mod_one]

/-- make([]T, n, c) where an element is one cell. -/
theorem prim_make {t e : TypeId} {i : TypeInfo} {z zv : Value} {lo co : Operand} {kl kc : IntKind} {n c : Int} (N : Nat) (hN : L.length = N) (ht : P.underlying t = some (.slice e)) (hi : P.info? e = some i) (hz : i.zero = some z) (hz1 : z.cells = #[zv]) (hsz : i.size = 1) (hc : chk [] [] = true)
    (h0 : 0 ≤ n ∧ n ≤ c ∧ (i.bytes : Int) * c ≤ 281474976710656 ∧ c ≤ 9223372036854775807) (k : K (.ret (.slc N 0 n.toNat c.toNat)) (L ++ [.vals e (List.replicate c.toNat zv)]) g) :
    PrimX P (.makeSlice t lo co) [lo, co] [.v (.int kl n), .v (.int kc c)] L g chk K := by
  subst hN
  refine prim_new [] hc fun o a σ w ho hev _ => ?_
  have e1 : a.eval lo = .int kl n := hev (lo, .v (.int kl n)) (by simp)
  have e2 : a.eval co = .int kc c := hev (co, .v (.int kc c)) (by simp)
  have hr := run_make (P := P) w t e i z ht hi hz kl kc n c h0.1 h0.2.1 h0.2.2.1 h0.2.2.2
  refine ⟨.vals e (List.replicate c.toNat zv), .cells (madeCells z.cells (c.toNat * i.size)) e (0, 0), .slc L.length 0 n.toNat c.toNat, .slice (some ⟨w.heap.size, 0, none⟩) n.toNat c.toNat, w.drawn, rfl, fun σ => ?_, by simp [SV.sc], ?_, fun σ' hs => by simp [SV.re, hs], k⟩
  · rw [hsz, Nat.mul_one]
    have := made_one hz1 c.toNat
    simp only [Chunk.obj, ← this]
  · simp only [execOp, ho, e1, e2, Sem.run_bind, hr, Result.andThen_ok, Sem.run_pure]
    rfl

/-- []byte(s), to be read. -/
theorem prim_bytes {src dst e : TypeId} {x : Operand} {s : ByteArray} (hs : P.underlying src = some .string) (hd : P.underlying dst = some (.slice e)) (he : P.underlying e = some (.int .u8)) (hc : chk [] [] = true)
    (k : ∀ (g' : G) (ad : Addr) (cap : Nat), G.le g g' → g'.at ad (s.data.toList.map fun b => Value.int .u8 b.toNat) → K (.ret (.v (.slice (some ad) s.size cap))) L g') :
    PrimX P (.convert src dst x) [x] [.v (.string s)] L g chk K := by
  refine prim_newG [] hc fun o a σ w ho hev _ => ?_
  have e1 : a.eval x = .string s := hev (x, .v (.string s)) (by simp)
  have hr := run_bytes_of_string (P := P) w src dst e s hs hd he
  refine ⟨.cells (bytesRow s (grownCap w s.size 0 e)) e ((bytesRow s (grownCap w s.size 0 e)).size, (bytesRow s (grownCap w s.size 0 e)).size + 1), .v (.slice (some ⟨w.heap.size, 0, none⟩) s.size (grownCap w s.size 0 e)), w.drawn + 1, rfl, ?_, fun g' hg hg' => k g' _ _ hg ⟨rfl, _, _, _, hg', fun i hi => ?_⟩⟩
  · simp only [execOp, ho, e1, Sem.run_bind, hr, Result.andThen_ok, Sem.run_pure, SV.re]
    rfl
  · simp only [Nat.zero_add, bytesRow]
    have hi' : i < s.data.size := by simpa using hi
    rw [Array.getElem?_append_left (by simpa using hi')]
    simp

/-! ### Maps -/

theorem prim_makeMap {t : TypeId} (N : Nat) (hN : L.length = N) (hc : chk [] [] = true) (k : K (.ret (.mp N)) (L ++ [.raw (.map #[] 0)]) g) : PrimX P (.makeMap t none) [] [] L g chk K := by
  subst hN
  refine prim_new [] hc fun o a σ w ho _ _ => ⟨.raw (.map #[] 0), .map #[] 0, .mp L.length, .map (some w.heap.size), w.drawn, rfl, fun _ => rfl, by simp [SV.sc], ?_, fun σ' hs => by simp [SV.re, hs], k⟩
  simp only [execOp, ho, Option.map_none, Instr.makeMap, Sem.run_bind, Sem.run_pure, Result.andThen_ok, run_newObj]

def flatKey (P : Program) (t : TypeId) : Bool :=
  match P.underlying t with
  | some .bool => true
  | some (.int _) => true
  | some .string => true
  | _ => false
theorem run_checkKeyN {t : TypeId} (h : flatKey P t = true) (e : Bool) (v : Value) (w : World) (n : Nat) : (Instr.checkKey e (n + 1) t v).run P w = .ok () w := by
  unfold flatKey at h
  split at h
  · rename_i hu; simp [Instr.checkKey, run_underlying hu]
  · rename_i q hu; simp [Instr.checkKey, run_underlying hu]
  · rename_i hu; simp [Instr.checkKey, run_underlying hu]
  · cases h
theorem run_checkKey {t : TypeId} (h : flatKey P t = true) (e : Bool) (v : Value) (w : World) : (Instr.checkKey e 10000 t v).run P w = .ok () w := run_checkKeyN h e v w 9999

/-- m[k] = x where there was none. -/
theorem prim_insert {t kt et : TypeId} {d : TypeDesc} {m kx vx : Operand} {b : Nat} {key val : Value} {es : Array MapEntry} {clock : Nat} (ht : P.underlying t = some (.map kt et)) (hk : flatKey P kt = true) (hd : P.underlying kt = some d) (hb : L[b]? = some (.raw (.map es clock))) (hc : chk [] [b] = true)
    (hf : Instr.findNow d key es.toList 0 = some none) (k : K (.ret (.v undef)) (L.set b (.raw (.map (es.push { key, val, born := clock }) (clock + 1)))) g) :
    PrimX P (.insert t m kx vx) [m, kx, vx] [.mp b, .v key, .v val] L g chk K := by
  refine PrimX_of [] [b] hc fun o L' σ a w ho hl hm hsc hv hev _ hids => ?_
  have e1 : a.eval m = .map (some (σ b)) := hev (m, .mp b) (by simp)
  have e2 : a.eval kx = key := hev (kx, .v key) (by simp)
  have e3 : a.eval vx = val := hev (vx, .v val) (by simp)
  have hbL : L'[b]? = some (.raw (.map es clock)) := by rw [hids b (by simp), hb]
  have hw := hm.lo b _ _ hbL rfl
  have hlive := live_of hbL rfl
  have hr : (execOp a.eval o).run P w = .ok .skip { w with heap := w.heap.setIfInBounds (σ b) (.map (es.push { key, val, born := clock }) (clock + 1)) } := by
    simp only [execOp, ho, e1, e2, e3, Instr.mapUpdate, Sem.run_bind, run_underlying ht, Result.andThen_ok, MapKept.run_getObj_map hw, run_checkKey hk, Instr.findKey, run_underlying hd, hf, Sem.run_pure, MapKept.run_setObj_map _ hw]
  unfold Oper.wp
  rw [hr]
  have hrd : redo [b] 0 L' (L.set b (.raw (.map (es.push { key, val, born := clock }) (clock + 1)))) = L'.set b (.raw (.map (es.push { key, val, born := clock }) (clock + 1))) := redo_set hl.1 (hids b (by simp))
  refine ⟨_, .v undef, _, g, σ, rfl, fun _ => rfl, rfl, ⟨by simp, fun k hk hn => List.getElem?_set_ne (fun e => hn (by simp [e]))⟩, ?_, scH_set hsc rfl, ?_, k⟩
  · rw [hrd]; exact hm.write hlive _ _ rfl
  · rw [hrd]; exact (Goes.refl σ L' g w).write hlive _ _ rfl

def foundOr (q : Option (Nat × Value)) (z : Value) : Value :=
  match q with
  | some p => p.2
  | none => z
/-- m[k] -/
theorem prim_lookup {t kt et : TypeId} {d : TypeDesc} {i : TypeInfo} {z : Value} {m kx : Operand} {b : Nat} {key : Value} {es : Array MapEntry} {clock : Nat} (q : Option (Nat × Value)) (ht : P.underlying t = some (.map kt et)) (hk : flatKey P kt = true) (hd : P.underlying kt = some d) (hi : P.info? et = some i) (hz : i.zero = some z)
    (hb : L[b]? = some (.raw (.map es clock))) (hc : chk [b] [] = true) (hf : Instr.findNow d key es.toList 0 = some q) (k : K (.ret (.v (foundOr q z))) L g) :
    PrimX P (.lookup t m kx false) [m, kx] [.mp b, .v key] L g chk K := by
  refine prim_read [b] (.v (foundOr q z)) hc (fun _ => rfl) (fun o a σ w ho hev hse => ?_) k
  have e1 : a.eval m = .map (some (σ b)) := hev (m, .mp b) (by simp)
  have e2 : a.eval kx = key := hev (kx, .v key) (by simp)
  have hw := hse.lo b _ _ (by simp) hb rfl
  cases q with
  | some p =>
    obtain ⟨i, v⟩ := p
    simp [execOp, ho, e1, e2, Instr.lookup, Sem.run_bind, run_underlying ht, Result.andThen_ok, MapKept.run_getObj_map hw, run_checkKey hk, Instr.findKey, run_underlying hd, hf, SV.re, foundOr]
  | none =>
    simp [execOp, ho, e1, e2, Instr.lookup, Sem.run_bind, run_underlying ht, Result.andThen_ok, MapKept.run_getObj_map hw, run_checkKey hk, Instr.findKey, run_underlying hd, hf, SV.re, zeroValue, typeInfo, hi, hz, foundOr]

/-- range over a map: it is given up (nobody writes it any more). -/
theorem prim_range {t kt et : TypeId} {m : Operand} {b : Nat} {es : Array MapEntry} {clock : Nat} (N : Nat) (hN : L.length = N) (ht : P.underlying t = some (.map kt et)) (hb : L[b]? = some (.raw (.map es clock))) (hc : chk [] [b] = true)
    (k : ∀ (g' : G) (mb : Nat), G.le g g' → g' mb = some (.map es clock) → K (.ret (.ptr N 0)) (L.set b .gone ++ [.raw (.mapIter (some mb) clock #[] clock)]) g') :
    PrimX P (.range t m) [m] [.mp b] L g chk K := by
  subst hN
  refine PrimX_of [] [b] hc fun o L' σ a w ho hl hm hsc hv hev _ hids => ?_
  have e1 : a.eval m = .map (some (σ b)) := hev (m, .mp b) (by simp)
  have hbL : L'[b]? = some (.raw (.map es clock)) := by rw [hids b (by simp), hb]
  have hw := hm.lo b _ _ hbL rfl
  have hlive := live_of hbL rfl
  have hr : (execOp a.eval o).run P w = .ok (.value (.pointer (some ⟨w.heap.size, 0, none⟩))) { w with heap := w.heap.push (.mapIter (some (σ b)) clock #[] clock) } := by
    simp [execOp, ho, e1, Instr.range, Sem.run_bind, run_underlying ht, Result.andThen_ok, MapKept.run_getObj_map hw]
  unfold Oper.wp
  rw [hr]
  have hbl : b < L.length := (List.getElem?_eq_some_iff.1 hb).1
  have hlen : (L.set b Chunk.gone).length = L.length := by simp
  have hrd : ∀ N, redo [b] 0 L' (L.set b .gone ++ N) = L'.set b .gone ++ N := fun N => redo_app (by simp [hl.1]) (by simp) (fun j hj hjm => (by
      have : j = b := by simpa using hjm
      subst this
      rw [List.getElem?_set_self (by rw [← hl.1]; omega), List.getElem?_set_self (by omega)])) (fun j _ hjm => (List.getElem?_set_ne (fun e => hjm (by simp [e]))).symm)
  have hm2 := (hm.freeze hbL rfl).pushC (scH_less ⟨by simp [hl.1], fun k => ?_⟩ (scH_set hsc (c := .gone) (k := b) rfl)) (c := .raw (.mapIter (some (σ b)) clock #[] clock)) rfl (fun _ => rfl)
  · refine ⟨_, .ptr L.length 0, _, g.plus (σ b) (.map es clock), fun j => if j = (L'.set b Chunk.gone).length then w.heap.size else σ j, rfl, fun _ => by simp [SV.re, hl.1], by simp [SV.sc], ⟨by simp, fun k hk hn => ?_⟩, ?_, scH_pushC (scH_set hsc (c := .gone) (k := b) rfl) (c := .raw (.mapIter (some (σ b)) clock #[] clock)) rfl, ?_, k _ (σ b) (G.plus_le (hm.sep b hlive) _) G.plus_at⟩
    · rw [List.getElem?_append_left (by simpa using hk), List.getElem?_set_ne (fun e => hn (by simp [e]))]
    · rw [hrd]; exact hm2
    · rw [hrd]; exact ((Goes.refl σ L' g w).freeze hm hbL rfl).pushC _ _ rfl
  · rcases hl.2 k with h1 | h1
    · left
      by_cases hkb : b = k
      · subst hkb; rw [hbL] at h1; cases h1
      · rw [List.getElem?_set_ne hkb]; exact h1
    · right
      by_cases hkb : b = k
      · subst hkb
        rw [List.getElem?_set_self (live_lt hlive), List.getElem?_set_self hbl]
      · rw [List.getElem?_set_ne hkb, List.getElem?_set_ne hkb]; exact h1

end
end Go.Sx
end

/- A symbolic executor of my own, part 19: a range over a map. Conditions: none; it speaks of any program. -/
section
namespace Go.Sx

section
variable {P : Program} {L L' : List Chunk} {g : G} {σ : Nat → Nat} {w : World} {chk : List Nat → List Nat → Bool} {K : Out → List Chunk → G → Prop}

/-- The next entry, whichever is drawn; or the end. -/
theorem prim_next {it : Operand} {b mb clock : Nat} {seen : Array Nat} {es : Array MapEntry} (hb : L[b]? = some (.raw (.mapIter (some mb) clock seen clock))) (hg : g mb = some (.map es clock)) (hborn : ∀ x ∈ es.toList, x.born < clock) (hc : chk [] [b] = true)
    (k0 : (∀ x ∈ es.toList, x.born ∈ seen.toList) → K (.ret (.v (.tuple #[.bool false]))) L g)
    (k1 : ∀ x ∈ es.toList, x.born ∉ seen.toList → K (.ret (.v (.tuple #[.bool true, x.key, x.val]))) (L.set b (.raw (.mapIter (some mb) clock (seen.push x.born) clock))) g) :
    PrimX P (.next it false) [it] [.ptr b 0] L g chk K := by
  refine PrimX_of [] [b] hc fun o L' σ a w ho hl hm hsc hv hev _ hids => ?_
  have e1 : a.eval it = .pointer (some ⟨σ b, 0, none⟩) := hev (it, .ptr b 0) (by simp)
  have hbL : L'[b]? = some (.raw (.mapIter (some mb) clock seen clock)) := by rw [hids b (by simp), hb]
  have hw := hm.lo b _ _ hbL rfl
  have hlive := live_of hbL rfl
  have hmap := hm.im _ _ hg
  unfold Oper.wp
  rcases run_next_at (P := P) w o.type (σ b) mb clock clock seen es clock hw hmap hborn (Nat.le_refl _) with ⟨h0, hr⟩ | ⟨e, he, w1, hw1, hr⟩
  · have hr' : (execOp a.eval o).run P w = .ok (.value (.tuple #[.bool false])) w := by
      simp only [execOp, ho, e1, Sem.run_bind, hr, Result.andThen_ok, Sem.run_pure]
    rw [hr']
    refine ⟨_, .v (.tuple #[.bool false]), L, g, σ, rfl, fun _ => rfl, rfl, ⟨Nat.le_refl _, fun _ _ _ => rfl⟩, ?_, hsc, ?_, k0 fun x hx => ?_⟩
    · rw [redo_nil hl hids]; exact hm
    · rw [redo_nil hl hids]; exact Goes.refl _ _ _ _
    · refine Classical.byContradiction fun hn => ?_
      have : x ∈ (leftOf es seen).toList := by
        simp only [leftOf, Array.toList_filter, List.mem_filter]
        refine ⟨hx, ?_⟩
        simpa using hn
      have h1 := List.length_pos_of_mem this
      simp at h1
      omega
  · have hmem : e ∈ es.toList ∧ e.born ∉ seen.toList := by
      simp only [leftOf, Array.toList_filter, List.mem_filter] at he
      exact ⟨he.1, by simpa using he.2⟩
    have hr' : (execOp a.eval o).run P w = .ok (.value (.tuple #[.bool true, e.key, e.val])) (ChangeMaps.setBlock w1 (σ b) (.mapIter (some mb) clock (seen.push e.born) clock)) := by
      simp only [execOp, ho, e1, Sem.run_bind, hr, Result.andThen_ok, Sem.run_pure]
    rw [hr']
    have hrd : redo [b] 0 L' (L.set b (.raw (.mapIter (some mb) clock (seen.push e.born) clock))) = L'.set b (.raw (.mapIter (some mb) clock (seen.push e.born) clock)) := redo_set hl.1 (hids b (by simp))
    have hm2 := hm.write hlive (.raw (.mapIter (some mb) clock (seen.push e.born) clock)) _ rfl
    have hg2 := (Goes.refl σ L' g w).write hlive (.raw (.mapIter (some mb) clock (seen.push e.born) clock)) (.mapIter (some mb) clock (seen.push e.born) clock) rfl
    refine ⟨_, .v (.tuple #[.bool true, e.key, e.val]), _, g, σ, rfl, fun _ => rfl, rfl, ⟨by simp, fun k hk hn => List.getElem?_set_ne (fun e => hn (by simp [e]))⟩, ?_, scH_set hsc rfl, ?_, k1 e hmem.1 hmem.2⟩
    · rw [hrd]
      rcases hw1 with rfl | rfl
      · exact hm2
      · exact hm2.drew (w.drawn + 1)
    · rw [hrd]
      rcases hw1 with rfl | rfl
      · exact hg2
      · exact hg2.drew (w.drawn + 1)

/-- The entry at hand. -/
theorem prim_entry {it : Operand} {b mb clock : Nat} {seen : Array Nat} {es : Array MapEntry} (e : MapEntry) (hb : L[b]? = some (.raw (.mapIter (some mb) clock (seen.push e.born) clock))) (hg : g mb = some (.map es clock)) (he : e ∈ es.toList) (hn : (es.toList.map (·.born)).Nodup) (hc : chk [b] [] = true)
    (k : K (.ret (.v (.tuple #[e.key, e.val]))) L g) : PrimX P (.entry it) [it] [.ptr b 0] L g chk K := by
  refine prim_read [b] (.v (.tuple #[e.key, e.val])) hc (fun _ => rfl) (fun o a σ w ho hev hse => ?_) k
  have e1 : a.eval it = .pointer (some ⟨σ b, 0, none⟩) := hev (it, .ptr b 0) (by simp)
  have hr := run_entry_at (P := P) w (σ b) mb clock seen es clock e (hse.lo b _ _ (by simp) hb rfl) (hse.im _ _ hg) he hn
  simp only [execOp, ho, e1, Sem.run_bind, hr, Result.andThen_ok, Sem.run_pure, SV.re]

end
end Go.Sx
end

/- A symbolic executor of my own, part 20: calls of functions that have no body, by what the model makes of them. Conditions: none; it speaks of any program. -/
section
namespace Go.Sx

section
variable {P : Program} {L L' : List Chunk} {g : G} {op : Op} {args : List Operand} {vs : List SV} {chk : List Nat → List Nat → Bool} {K : Out → List Chunk → G → Prop}

/-- It makes a block, whose cells may lead to blocks at hand. -/
theorem prim_newS (ids : List Nat) (hc : chk ids [] = true) (c : Chunk) (r : SV) (hh : c.here = true) (hsc : scL L.length vs = true → scC L.length c = true) (hr : scL L.length vs = true → r.sc (L.length + 1) = true)
    (hrun : ∀ (o : Oper) (a : Act) (σ : Nat → Nat) (w : World), o.op = op → (∀ p ∈ args.zip vs, a.eval p.1 = p.2.re σ) → Sees ids L g σ w → ∃ ob v dn, c.obj σ = some ob ∧
      (execOp a.eval o).run P w = .ok (.value v) { ({ w with heap := w.heap.push ob } : World) with drawn := dn } ∧ (∀ σ' : Nat → Nat, (∀ k, k < L.length → σ' k = σ k) → σ' L.length = w.heap.size → v = r.re σ'))
    (k : K (.ret r) (L ++ [c]) g) : PrimX P op args vs L g chk K := by
  refine PrimX_of ids [] hc fun o L' σ a w ho hl hm hscL hv hev hids hid0 => ?_
  obtain ⟨ob, v, dn, hob, hrun, hvr⟩ := hrun o a σ w ho hev (sees_of hm hids)
  unfold Oper.wp
  rw [hrun]
  have hrd : redo [] 0 L' (L ++ [c]) = L' ++ [c] := redo_app hl.1.symm rfl (fun k _ hk => (hid0 k hk).symm) (fun _ _ _ => rfl)
  have hcs := hsc hv
  rw [← hl.1] at hcs
  have hm2 := hm.place.born (k := L'.length) (by simp) (offNew (scH_less hl hscL)) c (con_imp (on_true c) hcs fun k hk _ => by simp; omega) ob hob
  have hg2 := ((Goes.refl σ L' g w).place).born (k := L'.length) (Nat.le_refl _) c ob (obj_nfam hob)
  rw [set_last] at hm2 hg2
  refine ⟨v, r, L ++ [c], g, fun j => if j = L'.length then w.heap.size else σ j, rfl, fun _ => hvr _ (fun k hk => by simp [show k ≠ L'.length by rw [hl.1]; omega]) (by simp [hl.1]), by simpa using hr hv, ⟨by simp, fun k hk _ => List.getElem?_append_left hk⟩, ?_, ?_, ?_, k⟩
  · rw [hrd]; exact hm2.drew _
  · intro k ty l hkl
    rcases getElem?_append_one hkl with ⟨_, h2⟩ | ⟨_, h2⟩
    · exact scL_mono (by simp) _ (hscL k ty l h2)
    · subst h2
      exact scL_mono (by simp) _ (hsc hv)
  · rw [hrd]; exact hg2.drew _

/-- It writes a block at hand, always the same. -/
theorem prim_setC (b : Nat) (ids : List Nat) (c : Chunk) (ob : Obj) (r : SV) (d : Chunk) (hc : chk [] (b :: ids) = true) (hd : L[b]? = some d) (hlv : d.here = true) (hl : c.lone = true) (hob : ∀ σ, c.obj σ = some ob) (hr : r.sc L.length = true)
    (hrun : ∀ (o : Oper) (a : Act) (σ : Nat → Nat) (w : World), o.op = op → (∀ p ∈ args.zip vs, a.eval p.1 = p.2.re σ) → Sees (b :: ids) L g σ w → (execOp a.eval o).run P w = .ok (.value (r.re σ)) { w with heap := w.heap.setIfInBounds (σ b) ob })
    (k : K (.ret r) (L.set b c) g) : PrimX P op args vs L g chk K :=
  prim_set b ids hc d hd hlv fun o a σ w ho hev hse => ⟨c, ob, r, w.drawn, hl, hob, hr, hrun o a σ w ho hev hse, k⟩

/-- A call of a function by its number, whether it has a body or not. -/
theorem exec_ext {c : Call} {f : FuncId} (hcal : c.callee = .value (.func f)) (hlen : c.args.toList.length = vs.length) {o : Oper} {a : Act} {σ : Nat → Nat} {w : World} (ho : o.op = .call c) (hev : ∀ p ∈ c.args.toList.zip vs, a.eval p.1 = p.2.re σ) :
    (execOp a.eval o).run P w = (callFunc f (reL σ vs).toArray).run P w := by
  have e1 : c.args.toList.map a.eval = reL σ vs := zip_self_map hlen hev
  have e2 : c.args.map a.eval = (reL σ vs).toArray := by apply Array.ext'; simp [← e1]
  simp only [execOp, ho, resolve, hcal, Act.eval, Deferred.ofValue, Sem.run_bind, Sem.run_pure, Result.andThen_ok, invoke, e2, Array.append_empty, Array.empty_append]

/-- A call by a method, resolved. -/
theorem exec_inv {c : Call} {recv : Operand} {name : String} (hcal : c.callee = .invoke recv name) {x : SV} {as : List SV} (hlen : c.args.toList.length = as.length) {o : Oper} {a : Act} {σ : Nat → Nat} {w : World} (ho : o.op = .call c) (hev : ∀ p ∈ (recv :: c.args.toList).zip (x :: as), a.eval p.1 = p.2.re σ)
    {t : TypeId} {y y' : Value} {f : FuncId} (hx : x.re σ = .iface t y) (hm : (Go.method (P.types.size + Made.depth) t y name).run P w = .ok (f, y') w) :
    (execOp a.eval o).run P w = (callFunc f (y' :: reL σ as).toArray).run P w := by
  have e0 : a.eval recv = .iface t y := by rw [hev (recv, x) (by simp)]; exact hx
  have e1 : c.args.toList.map a.eval = reL σ as := zip_self_map hlen fun p hp => hev p (by simp [hp])
  have e2 : c.args.map a.eval = (reL σ as).toArray := by apply Array.ext'; simp [← e1]
  have hpr : (program.run P w : Result Program) = .ok P w := rfl
  simp only [execOp, ho, resolve, hcal, e0, e2, Sem.run_bind, Sem.run_pure, Result.andThen_ok, invoke]
  have g0 : (#[Value.iface t y] ++ (reL σ as).toArray)[0]? = some (.iface t y) := by simp
  have g1 : (#[Value.iface t y] ++ (reL σ as).toArray).extract 1 (#[Value.iface t y] ++ (reL σ as).toArray).size = (reL σ as).toArray := by
    apply Array.ext'; simp
  have g2 : #[y'] ++ (reL σ as).toArray = (y' :: reL σ as).toArray := by apply Array.ext'; simp
  simp only [g0, g1, callMethod, Sem.run_bind, hpr, Result.andThen_ok, hm, g2]

def isIfaceT (P : Program) (t : TypeId) : Bool :=
  match P.underlying t with
  | some (.interface _) => true
  | _ => false
/-- Whether a type has the methods that an interface asks for. -/
def hasB (P : Program) (t u : TypeId) : Option Bool :=
  match P.underlying t with
  | some (.interface want) => (P.info? u).map fun i => (lacking want i.methods).isEmpty
  | _ => none
def tassO (X : SV) (z : Value) : Bool → SV
  | true => .tup [X, .v (.bool true)]
  | false => .tup [.v z, .v (.bool false)]
def tassV (u : TypeId) (y z : Value) : Bool → Value
  | true => .tuple #[.iface u y, .bool true]
  | false => .tuple #[z, .bool false]
/-- x.(I), ok: whether the value's type has the methods. -/
theorem prim_tassI {x : Operand} {st t u : TypeId} {z y : Value} (X : SV) (b : Bool) (hX : ∀ σ, X.re σ = .iface u (y)) (ht : isIfaceT P t = true) (hz0 : (P.info? t).bind (·.zero) = some z)
    (hm : hasB P t u = some b) (hc : chk [] [] = true) (k : K (.ret (tassO X z b)) L g) : PrimX P (.typeAssert x st t true) [x] [X] L g chk K := by
  obtain ⟨want, ht⟩ : ∃ want, P.underlying t = some (.interface want) := by
    unfold isIfaceT at ht
    split at ht
    · rename_i want hu; exact ⟨want, hu⟩
    · cases ht
  obtain ⟨i, hi, hz⟩ := Option.bind_eq_some_iff.1 hz0
  have hz' : ∀ w, (zeroValue t).run P w = .ok z w := fun w => by simp [zeroValue, typeInfo, hi, hz]
  have key : ∀ (w : World), (Instr.typeAssert (.iface u y) st t true).run P w = .ok (tassV u y z b) w := by
    intro w
    have hb := hm
    simp only [hasB, ht, Option.map_eq_some_iff] at hb
    obtain ⟨iu, hiu, hb⟩ := hb
    have hiu' : (typeInfo u).run P w = .ok iu w := by simp [typeInfo, hiu]
    cases hle : lacking want iu.methods with
    | nil =>
      rw [hle] at hb
      simp only [List.isEmpty_nil] at hb
      subst hb
      simp only [Instr.typeAssert, Sem.run_bind, run_underlying ht, Result.andThen_ok, hiu', missingMethod_none hle, if_true, Sem.run_pure, tassV]
    | cons s l =>
      obtain ⟨m, hmm⟩ := missingMethod_some (want := want) (got := iu.methods) (by rw [hle]; simp)
      rw [hle] at hb
      simp only [List.isEmpty_cons] at hb
      subst hb
      simp only [Instr.typeAssert, Sem.run_bind, run_underlying ht, Result.andThen_ok, hiu', hmm, if_true, Sem.run_pure, hz', tassV]
  refine prim_val _ hc ?_ (fun o a σ w ho hev => ?_) k
  · intro hs
    cases b
    · rfl
    · simpa [tassO, SV.sc, scL] using hs
  · have e1 : a.eval x = .iface u y := by rw [hev (x, X) (by simp)]; exact hX σ
    have hk := key w
    simp only [execOp, ho, e1, Sem.run_bind, hk, Result.andThen_ok, Sem.run_pure]
    cases b <;> simp [tassO, tassV, SV.re, reL, hX σ]

end
end Go.Sx
end

/- A symbolic executor of my own, part 21: bits of numbers, in plain Lean. Conditions: none. -/
section
namespace Go.Sx

theorem bv_nat (k : IntKind) (n : Nat) (h : n < 2 ^ k.bits) : (BitVec.ofInt k.bits (n : Int)).toNat = n := by
  rw [BitVec.ofInt_natCast, BitVec.toNat_ofNat, Nat.mod_eq_of_lt h]
theorem wrap64_nat {n : Nat} (h : n < 2 ^ 63) : IntKind.i64.wrap (n : Int) = n := wrap_id (by omega) (by omega)

theorem or64 {a b : Nat} (ha : a < 2 ^ 63) (hb : b < 2 ^ 63) : IntKind.i64.wrap ((BitVec.ofInt IntKind.i64.bits (a : Int) ||| BitVec.ofInt IntKind.i64.bits (b : Int)).toNat : Int) = ((a ||| b : Nat) : Int) := by
  rw [BitVec.toNat_or, bv_nat .i64 a (by simp [IntKind.bits]; omega), bv_nat .i64 b (by simp [IntKind.bits]; omega), wrap64_nat (Nat.or_lt_two_pow ha hb)]
theorem and64 {a b : Nat} (ha : a < 2 ^ 63) (hb : b < 2 ^ 63) : IntKind.i64.wrap ((BitVec.ofInt IntKind.i64.bits (a : Int) &&& BitVec.ofInt IntKind.i64.bits (b : Int)).toNat : Int) = ((a &&& b : Nat) : Int) := by
  rw [BitVec.toNat_and, bv_nat .i64 a (by simp [IntKind.bits]; omega), bv_nat .i64 b (by simp [IntKind.bits]; omega), wrap64_nat (Nat.and_lt_two_pow a hb)]

/-- A multiple of 2^i, and what is below 2^i. -/
theorem or_add (i a b : Nat) (h : b < 2 ^ i) : 2 ^ i * a ||| b = 2 ^ i * a + b := (Nat.two_pow_add_eq_or_of_lt h a).symm
theorem and_mask (i a : Nat) : a &&& (2 ^ i - 1) = a % 2 ^ i := Nat.and_two_pow_sub_one_eq_mod a i

/-- The same of Ints: x is a multiple of m = 2^i. -/
theorem orI (i : Nat) {x y : Int} (q : Int) (hx : x = (2 ^ i : Nat) * q) (hq : 0 ≤ q) (h0 : 0 ≤ y) (h1 : y < (2 ^ i : Nat)) (hb : x < 9223372036854775808) (hi : i < 63) :
    IntKind.i64.wrap ((BitVec.ofInt IntKind.i64.bits x ||| BitVec.ofInt IntKind.i64.bits y).toNat : Int) = x + y := by
  obtain ⟨q, rfl⟩ := Int.eq_ofNat_of_zero_le hq
  obtain ⟨y, rfl⟩ := Int.eq_ofNat_of_zero_le h0
  subst hx
  have h1' : y < 2 ^ i := by exact_mod_cast h1
  have hb' : 2 ^ i * q < 2 ^ 63 := by
    have : ((2 ^ i * q : Nat) : Int) < 9223372036854775808 := by push_cast; push_cast at hb; exact hb
    omega
  have hy : y < 2 ^ 63 := Nat.lt_trans h1' (Nat.pow_lt_pow_right (by decide) hi)
  have := or64 hb' hy
  rw [or_add i q y h1'] at this
  push_cast at this ⊢
  exact this
theorem andI (i : Nat) {x m : Int} (hm : m = (2 ^ i : Nat) - 1) (h0 : 0 ≤ x) (hb : x < 9223372036854775808) (hi : i < 63) :
    IntKind.i64.wrap ((BitVec.ofInt IntKind.i64.bits x &&& BitVec.ofInt IntKind.i64.bits m).toNat : Int) = x % (2 ^ i : Nat) := by
  obtain ⟨x, rfl⟩ := Int.eq_ofNat_of_zero_le h0
  have hp : 0 < 2 ^ i := Nat.two_pow_pos i
  have hlt : 2 ^ i < 2 ^ 63 := Nat.pow_lt_pow_right (by decide) hi
  have hm' : m = ((2 ^ i - 1 : Nat) : Int) := by rw [hm]; omega
  rw [hm']
  rw [and64 (by omega) (by omega), and_mask]
  push_cast
  rfl

theorem shl64 {x : Int} {k : Nat} (hk : k ≤ 64) : IntKind.i64.wrap (x * 2 ^ (min k IntKind.i64.bits)) = IntKind.i64.wrap (x * 2 ^ k) := by
  rw [show min k IntKind.i64.bits = k from Nat.min_eq_left (by simpa [IntKind.bits] using hk)]
theorem shr64 {x : Int} {k : Nat} (hk : k ≤ 64) : x.fdiv (2 ^ (min k IntKind.i64.bits)) = x / (2 ^ k : Nat) := by
  rw [show min k IntKind.i64.bits = k from Nat.min_eq_left (by simpa [IntKind.bits] using hk)]
  rw [Int.fdiv_eq_ediv_of_nonneg _ (Int.pow_nonneg (by decide))]
  push_cast
  rfl
end Go.Sx
end

/- A symbolic executor of my own, part 22: numbers as bytes, strings as rows of bytes, in plain Lean. Conditions: none. -/
section
namespace Go.Sx

/-- The n low bytes of a number, the highest first. -/
def beI : Nat → Nat → List Int
  | 0, _ => []
  | n + 1, x => ((x / 256 ^ n % 256 : Nat) : Int) :: beI n x
def beS (n x : Nat) : ByteArray := bytesOfInts (beI n x)
theorem beI_length : ∀ n x, (beI n x).length = n
  | 0, _ => rfl
  | n + 1, x => by rw [beI, List.length_cons, beI_length n x]
theorem bytesOfInts_size (l : List Int) : (bytesOfInts l).size = l.length := by
  simp [bytesOfInts, ByteArray.size]
theorem beS_size (n x : Nat) : (beS n x).size = n := by rw [beS, bytesOfInts_size, beI_length]
theorem bytesOfInts_append (a b : List Int) : bytesOfInts (a ++ b) = bytesOfInts a ++ bytesOfInts b := by
  apply ByteArray.ext
  simp [bytesOfInts, ByteArray.data_append]
theorem bytesOfInts_list (l : List Int) : (bytesOfInts l).data.toList = l.map fun n => UInt8.ofNat n.toNat := rfl
theorem empty_eq : (ByteArray.mk #[]) = bytesOfInts [] := rfl
/-- Strings compared. -/
theorem str_beq {a b : ByteArray} : (a.toList == b.toList) = decide (a = b) := by
  rw [ByteArray.toList_eq, ByteArray.toList_eq]
  by_cases h : a = b
  · subst h; simp
  · rw [decide_eq_false h]
    refine beq_eq_false_iff_ne.2 fun e => h ?_
    exact ByteArray.ext (Array.toList_inj.1 e)
theorem str_beq_self (a : ByteArray) : (a.toList == a.toList) = true := by simp
theorem str_beq_of {a b : ByteArray} (h : a = b) : (a.toList == b.toList) = true := by rw [h]; simp
theorem vs {a b : ByteArray} (h : a = b) : SV.v (.string a) = .v (.string b) := by rw [h]
theorem rs {a b : ByteArray} (h : a = b) : Out.ret (.v (.string a)) = .ret (.v (.string b)) := by rw [h]

theorem u64_nat {n : Nat} (h : n < 2 ^ 64) : IntKind.u64.wrap (n : Int) = n := by rw [IntKind.wrap_u64]; omega
theorem u8_nat (n : Nat) : IntKind.u8.wrap (n : Int) = ((n % 256 : Nat) : Int) := by rw [IntKind.wrap_u8]; omega
theorem u32_nat {n : Nat} (h : n < 2 ^ 32) : IntKind.u32.wrap (n : Int) = n := by rw [IntKind.wrap_u32]; omega
theorem fdiv_nat (a b : Nat) : (a : Int).fdiv (b : Int) = ((a / b : Nat) : Int) := by
  rw [Int.fdiv_eq_ediv_of_nonneg _ (Int.natCast_nonneg b)]; rfl
theorem pow_cast (b k : Nat) : ((b : Int) ^ k) = ((b ^ k : Nat) : Int) := by push_cast; rfl
theorem two_pow_cast (k : Nat) : ((2 : Int) ^ k) = ((2 ^ k : Nat) : Int) := by push_cast; rfl
theorem pow256 (i : Nat) : 2 ^ (8 * i) = 256 ^ i := by rw [Nat.pow_mul]
/-- x >> 8 i, of 64 bits. -/
theorem shr8 (x i : Nat) (hi : i ≤ 8) (k : IntKind) (hk : k.bits = 64) : (x : Int).fdiv (2 ^ (min (8 * (i : Int)).toNat k.bits)) = ((x / 256 ^ i : Nat) : Int) := by
  have : min (8 * (i : Int)).toNat k.bits = 8 * i := by rw [hk]; omega
  rw [this, two_pow_cast, fdiv_nat, pow256]

/-- The byte string as told from its last end. -/
theorem beI_snoc : ∀ n x, beI (n + 1) x = beI n (x / 256) ++ [((x % 256 : Nat) : Int)]
  | 0, x => by simp [beI]
  | n + 1, x => by
    rw [beI, beI_snoc n x]
    have : x / 256 / 256 ^ n = x / 256 ^ (n + 1) := by
      rw [Nat.div_div_eq_div_mul]
      congr 1
      rw [Nat.pow_succ, Nat.mul_comm]
    rw [show beI (n + 1) (x / 256) = ((x / 256 / 256 ^ n % 256 : Nat) : Int) :: beI n (x / 256) from rfl, this]
    rfl
theorem u8s_vals : ∀ l : List Int, u8s (l.map fun n => SV.v (.int .u8 n)) = some l
  | [] => rfl
  | n :: l => by simp only [List.map_cons, u8s, u8s_vals l]

theorem beS_cons (n x : Nat) : beS (n + 1) x = bytesOfInts [((x / 256 ^ n % 256 : Nat) : Int)] ++ beS n x := by
  rw [beS, beI, beS, ← bytesOfInts_append]; rfl
theorem div_pow (x n : Nat) : x / 256 ^ n / 256 = x / 256 ^ (n + 1) := by rw [Nat.div_div_eq_div_mul, Nat.pow_succ]
theorem u64_rng (x : Int) : 0 ≤ IntKind.u64.wrap x ∧ IntKind.u64.wrap x < 18446744073709551616 := by rw [IntKind.wrap_u64]; omega
/-- A slice that is made, its cells told otherwise. -/
theorem prim_makeC {P : Program} {L : List Chunk} {g : G} {chk : List Nat → List Nat → Bool} {K : Out → List Chunk → G → Prop} {t e : TypeId} {i : TypeInfo} {z zv : Value} {lo co : Operand} {kl kc : IntKind} {n c : Int} (N : Nat) (hN : L.length = N) (ht : P.underlying t = some (.slice e)) (hi : P.info? e = some i) (hz : i.zero = some z) (hz1 : z.cells = #[zv]) (hsz : i.size = 1) (hc : chk [] [] = true)
    (h0 : 0 ≤ n ∧ n ≤ c ∧ (i.bytes : Int) * c ≤ 281474976710656 ∧ c ≤ 9223372036854775807) (cs : List Value) (hcs : List.replicate c.toNat zv = cs) (k : K (.ret (.slc N 0 n.toNat c.toNat)) (L ++ [.vals e cs]) g) :
    PrimX P (.makeSlice t lo co) [lo, co] [.v (.int kl n), .v (.int kc c)] L g chk K := by
  subst hcs
  exact prim_make N hN ht hi hz hz1 hsz hc h0 k
/-- A number stored in a block of plain cells. -/
theorem sv1 {T : TypeId} {c c' : List Value} {o o' : Nat} {k : IntKind} {a a' : Int} (ho : o = o') (ha : a = a') (h : c.take o' ++ ([Value.int k a'] ++ c.drop (o' + 1)) = c') : [Chunk.vals T (c.take o ++ ([Value.int k a] ++ c.drop (o + 1)))] = [Chunk.vals T c'] := by
  subst ho ha h; rfl
/-- What a slice that is made holds at first. -/
def cellsP (k x i : Nat) : List Value := (List.replicate (k - i) 0 ++ beI i x).map (Value.int .u8)
theorem cellsP_zero (k x : Nat) : List.replicate k (Value.int .u8 0) = cellsP k x 0 := by simp [cellsP, beI]
theorem cellsP_length (k x i : Nat) (h : i ≤ k) : (cellsP k x i).length = k := by simp [cellsP, beI_length]; omega
theorem cellsP_step (k x i : Nat) (h : i < k) : (cellsP k x i).take (k - 1 - i) ++ ([Value.int .u8 ((x / 256 ^ i % 256 : Nat) : Int)] ++ (cellsP k x i).drop (k - 1 - i + 1)) = cellsP k x (i + 1) := by
  have e : k - i = (k - 1 - i) + 1 := by omega
  have e2 : k - (i + 1) = k - 1 - i := by omega
  simp only [cellsP, e, e2, beI, List.map_append, List.map_replicate, List.map_cons]
  rw [List.take_append_of_le_length (by simp), List.drop_append_of_le_length (by simp)]
  simp [List.take_replicate, List.drop_replicate]
theorem cellsP_end (k x : Nat) : ((cellsP k x k).drop 0).take k = (beI k x).map (Value.int .u8) := by
  simp only [cellsP, Nat.sub_self, List.replicate_zero, List.nil_append, List.drop_zero]
  exact List.take_of_length_le (by simp [beI_length])

end Go.Sx
end

/- A symbolic executor of my own, part 23: one cell at an open place of a value or a block of cells; rows of numbers as bytes. Conditions: none. -/
section
namespace Go.Sx

/-- One cell of a row of symbolic values, at an open place. -/
theorem idxV {l : List SV} {off : Nat} {x : Value} {K : SV → Prop} (h : l[off]? = some (.v x)) (k : K (.v x)) : ifle (off + 1) l.length (val1 false (slice1 l off 1) K) := by
  have h1 := (List.getElem?_eq_some_iff.1 h).1
  have : slice1 l off 1 = [.v x] := by
    unfold slice1
    rw [List.drop_eq_getElem_cons h1, List.take_succ_cons, List.take_zero]
    rw [List.getElem?_eq_getElem h1] at h
    simpa using h
  unfold ifle ifOk
  rw [show Nat.ble (off + 1) l.length = true from Nat.ble_eq_true_of_le h1, this]
  exact k
/-- The same of numbers. -/
theorem idxI {k : IntKind} {xs : List Int} {l : List SV} {off : Nat} {x : Int} {K : SV → Prop} (hl : l = xs.map fun n => .v (.int k n)) (h : xs[off]? = some x) (kk : K (.v (.int k x))) : ifle (off + 1) l.length (val1 false (slice1 l off 1) K) := by
  refine idxV ?_ kk
  rw [hl, List.getElem?_map, h]; rfl

/-- Numbers of two bytes each, in a row. -/
def packI (n : Nat) (xs : List Int) : List Int := xs.flatMap fun x => beI n x.toNat
theorem packI_length (n : Nat) (xs : List Int) : (packI n xs).length = xs.length * n := by
  rw [packI]
  induction xs with
  | nil => simp
  | cons x xs ih => rw [List.flatMap_cons, List.length_append, ih, beI_length, List.length_cons, Nat.succ_mul, Nat.add_comm]
theorem packI_take {n : Nat} {xs : List Int} {k : Nat} {x : Int} (h : xs[k]? = some x) : packI n (xs.take (k + 1)) = packI n (xs.take k) ++ beI n x.toNat := by
  rw [packI, packI, List.take_add_one, h, List.flatMap_append]
  simp
def packS (n : Nat) (xs : List Int) : ByteArray := bytesOfInts (packI n xs)
theorem packS_size (n : Nat) (xs : List Int) : (packS n xs).size = xs.length * n := by rw [packS, bytesOfInts_size, packI_length]
theorem packS_take {n : Nat} {xs : List Int} {k : Nat} {x : Int} (h : xs[k]? = some x) : packS n (xs.take k) ++ beS n x.toNat = packS n (xs.take (k + 1)) := by
  rw [packS, packS, packI_take h, bytesOfInts_append]; rfl
theorem packS_one (n : Nat) (x : Int) : beS n x.toNat = packS n [x] := by rw [packS, packI]; simp [beS]
theorem packS_app (n : Nat) (xs ys : List Int) : packS n xs ++ packS n ys = packS n (xs ++ ys) := by
  rw [packS, packS, packS, ← bytesOfInts_append, packI, packI, packI, List.flatMap_append]

end Go.Sx
end

/- A symbolic executor of my own, part 24: a string appended to a slice of bytes; unsafe.SliceData, unsafe.String (strings.Builder). Conditions: none; it speaks of any program. -/
section
namespace Go.Sx
open Go.Lib

section
variable {P : Program} {L : List Chunk} {g : G} {chk : List Nat → List Nat → Bool} {K : Out → List Chunk → G → Prop}

theorem exec_app {c : Call} {s x : Operand} {t u : TypeId} (hcal : c.callee = .builtin .append) (hargs : c.args.toList = [s, x]) (htys : c.argTypes = #[t, u]) {o : Oper} {a : Act} {w w' : World} {v : Value} (ho : o.op = .call c)
    (hr : (Builtin.append_ #[t, u] o.type #[a.eval s, a.eval x]).run P w = .ok v w') : (execOp a.eval o).run P w = .ok (.value v) w' := by
  have e1 : c.args.map a.eval = #[a.eval s, a.eval x] := by apply Array.ext'; simp [hargs]
  simp only [execOp, ho, resolve, hcal, Sem.run_bind, Sem.run_pure, Result.andThen_ok, invoke, builtin, htys, e1, hr]

/-- append(nil, s...) -/
theorem prim_appS0 {c : Call} {s x : Operand} {t u e : TypeId} {i : TypeInfo} (hcal : c.callee = .builtin .append) (hargs : c.args.toList = [s, x]) (htys : c.argTypes = #[t, u]) (ht : P.underlying t = some (.slice e)) (hu : P.underlying u = some .string) (hi : P.info? e = some i) (hz : i.zero = some (.int .u8 0)) (hby : i.bytes = 1)
    {bs : ByteArray} (N : Nat) (hN : L.length = N) (hne : 0 < bs.size) (hb : bs.size ≤ 140737488355328) (hc : chk [] [] = true)
    (k : ∀ (cap : Nat) (spare : List Value), bs.size ≤ cap → cap ≤ 9223372036854775807 → spare.length = cap - bs.size → K (.ret (.slc N 0 bs.size cap)) (L ++ [.vals e (strCells bs ++ spare)]) g) :
    PrimX P (.call c) [s, x] [.v (.slice none 0 0), .v (.string bs)] L g chk K := by
  subst hN
  refine prim_new [] hc fun o a σ w ho hev _ => ?_
  have e1 : a.eval s = .slice none 0 0 := hev (s, .v (.slice none 0 0)) (by simp)
  have e2 : a.eval x = .string bs := hev (x, .v (.string bs)) (by simp)
  have hr := run_append_nil_string (P := P) w t u o.type e i (.int .u8 0) ht hu hi hz bs hne (by omega) (by rw [hby]; omega)
  have hge := grownCap_ge w bs.size 0 e
  have hle := grownCap_le_maxLen w bs.size 0 e (by simp only [maxLen]; omega)
  generalize grownCap w bs.size 0 e = gc at hr hge hle
  have hzl : (Builtin.zeroCells (Value.int .u8 0).cells (gc - bs.size)).toList.length = gc - bs.size := by
    rw [Array.length_toList, size_zeroCells]; simp [Value.cells]
  refine ⟨.vals e (strCells bs ++ (Builtin.zeroCells (Value.int .u8 0).cells (gc - bs.size)).toList), _, .slc L.length 0 bs.size gc, .slice (some ⟨w.heap.size, 0, none⟩) bs.size gc, w.drew.drawn, rfl, fun σ => rfl, by simp [SV.sc], ?_, fun σ' hs => by simp [SV.re, hs], k gc _ hge (by simpa [maxLen] using hle) hzl⟩
  rw [exec_app hcal hargs htys ho (by rw [e1, e2]; exact hr)]
  have e3 : (bs.data.map (fun b => Value.int .u8 b.toNat) ++ Builtin.zeroCells (Value.int .u8 0).cells (gc - bs.size)) = (strCells bs ++ (Builtin.zeroCells (Value.int .u8 0).cells (gc - bs.size)).toList).toArray := by
    apply Array.ext'; simp [strCells]
  rw [e3]
  rfl

/-- append(b, s...), b a slice of bytes at hand. -/
theorem prim_appS1 {c : Call} {s x : Operand} {t u e : TypeId} {i : TypeInfo} (hcal : c.callee = .builtin .append) (hargs : c.args.toList = [s, x]) (htys : c.argTypes = #[t, u]) (ht : P.underlying t = some (.slice e)) (hu : P.underlying u = some .string) (hi : P.info? e = some i) (hz : i.zero = some (.int .u8 0)) (hsz : i.size = 1) (hby : i.bytes = 1)
    {bs : ByteArray} (N : Nat) (hN : L.length = N) {b n cap : Nat} (xs sp : List Value) (hL : L[b]? = some (.vals e (xs ++ sp))) (hx : xs.length = n) (hsp : xs.length + sp.length = cap) (hcap : cap ≤ 9223372036854775807) (hb : n + bs.size ≤ 140737488355328) (hc : chk [] [b] = true)
    (k : ∀ (cap : Nat) (spare : List Value), n + bs.size ≤ cap → cap ≤ 9223372036854775807 → (n + bs.size) + spare.length = cap → K (.ret (.slc N 0 (n + bs.size) cap)) (L.set b .gone ++ [.vals e (xs ++ (strCells bs ++ spare))]) g) :
    PrimX P (.call c) [s, x] [.slc b 0 n cap, .v (.string bs)] L g chk K := by
  subst hN hx
  refine PrimX_of [] [b] hc fun o L' σ a w ho hl hm hsc hv hev _ hids => ?_
  have e1 : a.eval s = .slice (some ⟨σ b, 0, none⟩) xs.length cap := hev (s, .slc b 0 xs.length cap) (by simp)
  have e2 : a.eval x = .string bs := hev (x, .v (.string bs)) (by simp)
  have hlen : L'.length = L.length := hl.1
  have hscL' := scH_less hl hsc
  have hkL : L'[b]? = some (.vals e (xs ++ sp)) := by rw [hids b (by simp), hL]
  have hlive : live L' b := live_of hkL rfl
  have hheap := hm.lo b _ _ hkL rfl
  have hkl : b < L'.length := live_lt hlive
  have hrd : ∀ N, redo [b] 0 L' (L.set b .gone ++ N) = L'.set b .gone ++ N := fun N => redo_app (by simp [hlen]) (by simp) (fun j hj hjm => (by
    by_cases hjk : b = j
    · subst hjk
      rw [List.getElem?_set_self (by omega), List.getElem?_set_self (by omega)]
    · rw [List.getElem?_set_ne hjk, List.getElem?_set_ne hjk]
      exact (hids j hjm).symm)) (fun j _ hjm => (List.getElem?_set_ne (fun e => hjm (by simp [e]))).symm)
  have hupd : ∀ c', Upd [b] L (L.set b .gone ++ [c']) := fun c' => ⟨by simp, fun j hj hjm => by
    rw [List.getElem?_append_left (by simpa using hj), List.getElem?_set_ne (fun e => hjm (by simp [e]))]⟩
  have hscg : scH (L.set b .gone) := scH_set hsc rfl
  have hlen2 : (L.set b Chunk.gone).length = L'.length := by simp [hlen]
  by_cases hroom : xs.length + bs.size ≤ cap
  · have hr := run_append_room_string (P := P) w t u o.type e i ht hu hi hsz (σ b) xs.length cap _ hheap bs hroom (by simp only [List.size_toArray, List.length_append]; omega)
    rw [setRow_eq hheap] at hr
    have e3 : ((xs ++ sp).toArray.toList.take xs.length ++ strCells bs ++ (xs ++ sp).toArray.toList.drop (xs.length + bs.size)) = xs ++ (strCells bs ++ sp.drop bs.size) := by
      simp only
      rw [List.take_left, List.append_assoc, ← List.drop_drop, List.drop_left]
    rw [e3] at hr
    unfold Oper.wp
    rw [exec_app hcal hargs htys ho (by rw [e1, e2]; exact hr)]
    refine ⟨_, .slc L.length 0 (xs.length + bs.size) cap, _, g, fun j => if j = L'.length then σ b else σ j, rfl, fun _ => by simp [SV.re, hlen], by simp [SV.sc], hupd _, ?_, scH_push hscg, ?_, k cap (sp.drop bs.size) hroom hcap (by rw [List.length_drop]; omega)⟩
    · rw [hrd]; exact hm.take hscL' hlive
    · rw [hrd]; exact Goes.take hlive
  · have holds : ∀ j v, xs[j]? = some v → w.cell? ((⟨σ b, 0, none⟩ : Addr).add j) = some v := by
      intro j v hj
      rw [add_cell]
      simp only [World.cell?, hheap, Option.isSome_none, Bool.false_eq_true, if_false, Nat.zero_add]
      have : j < xs.length := (List.getElem?_eq_some_iff.1 hj).1
      simpa [List.getElem?_append_left this] using hj
    have hr := run_append_grow_string (P := P) w t u o.type e i (.int .u8 0) ht hu hi hz ⟨σ b, 0, none⟩ xs.length cap xs (by rw [hsz]; simp) holds bs (by omega) (by omega) (by rw [hby]; exact growslice_fits (by omega) (by omega))
    have hge := grownCap_ge w (xs.length + bs.size) cap e
    have hle := grownCap_le_maxLen w (xs.length + bs.size) cap e (by simp only [maxLen]; omega)
    generalize grownCap w (xs.length + bs.size) cap e = gc at hr hge hle
    have hzl : (Builtin.zeroCells (Value.int .u8 0).cells (gc - (xs.length + bs.size))).toList.length = gc - (xs.length + bs.size) := by
      rw [Array.length_toList, size_zeroCells]; simp [Value.cells]
    have hk := k gc (Builtin.zeroCells (Value.int .u8 0).cells (gc - (xs.length + bs.size))).toList hge (by simpa [maxLen] using hle) (by rw [hzl]; omega)
    have hw : w.drew.alloc (.cells (xs.toArray ++ (strCells bs).toArray ++ Builtin.zeroCells (Value.int .u8 0).cells (gc - (xs.length + bs.size))) e) = { ({ w with heap := w.heap.push (.cells (xs ++ (strCells bs ++ (Builtin.zeroCells (Value.int .u8 0).cells (gc - (xs.length + bs.size))).toList)).toArray e (0, 0)) } : World) with drawn := w.drew.drawn } := by
      have e3 : xs.toArray ++ (strCells bs).toArray ++ Builtin.zeroCells (Value.int .u8 0).cells (gc - (xs.length + bs.size)) = (xs ++ (strCells bs ++ (Builtin.zeroCells (Value.int .u8 0).cells (gc - (xs.length + bs.size))).toList)).toArray := by apply Array.ext'; simp
      rw [e3]
      rfl
    unfold Oper.wp
    rw [exec_app hcal hargs htys ho (by rw [e1, e2]; exact hr)]
    have hgm : Mem g (L'.set b .gone) σ w := hm.less (less_gone L' b)
    have hgg : Goes σ L' g w σ (L'.set b .gone) g w := (Goes.refl σ L' g w).less (less_gone L' b)
    refine ⟨_, .slc L.length 0 (xs.length + bs.size) gc, _, g, fun j => if j = (L'.set b Chunk.gone).length then w.heap.size else σ j, rfl, fun _ => by simp [SV.re, hlen], by simp [SV.sc], hupd _, ?_, scH_push hscg, ?_, hk⟩
    · rw [hrd, hw]; exact (hgm.push (scH_set hscL' rfl)).drew _
    · rw [hrd, hw]; exact (hgg.push).drew _

/-- unsafe.SliceData of a slice of some capacity. -/
theorem prim_sdata {c : Call} {x : Operand} {b n cap : Nat} (hcal : c.callee = .builtin .unsafeSliceData) (hargs : c.args.toList = [x]) (h0 : cap ≠ 0) (hc : chk [] [] = true) (k : K (.ret (.ptr b 0)) L g) : PrimX P (.call c) [x] [.slc b 0 n cap] L g chk K := by
  refine prim_val (.ptr b 0) hc (fun h => by simpa [scL, SV.sc] using h) (fun o a σ w ho hev => ?_) k
  have e1 : a.eval x = .slice (some ⟨σ b, 0, none⟩) n cap := hev (x, .slc b 0 n cap) (by simp)
  have e2 : c.args.map a.eval = #[.slice (some ⟨σ b, 0, none⟩) n cap] := by apply Array.ext'; simp [hargs, e1]
  have hr := run_unsafeSliceData_row (P := P) w c.argTypes o.type ⟨σ b, 0, none⟩ n cap h0
  simp only [execOp, ho, resolve, hcal, Sem.run_bind, Sem.run_pure, Result.andThen_ok, invoke, builtin, e2, hr, SV.re]
theorem prim_sdata0 {c : Call} {x : Operand} (hcal : c.callee = .builtin .unsafeSliceData) (hargs : c.args.toList = [x]) (hc : chk [] [] = true) (k : K (.ret (.v (.pointer none))) L g) : PrimX P (.call c) [x] [.v (.slice none 0 0)] L g chk K := by
  refine prim_val (.v (.pointer none)) hc (fun _ => rfl) (fun o a σ w ho hev => ?_) k
  have e1 : a.eval x = .slice none 0 0 := hev (x, .v (.slice none 0 0)) (by simp)
  have e2 : c.args.map a.eval = #[.slice none 0 0] := by apply Array.ext'; simp [hargs, e1]
  have hr := run_unsafeSliceData_nil (P := P) w c.argTypes o.type 0 0
  simp only [execOp, ho, resolve, hcal, Sem.run_bind, Sem.run_pure, Result.andThen_ok, invoke, builtin, e2, hr, SV.re]

/-- unsafe.String of a row at hand: its head, frozen from now on; nobody reads the row any more. -/
theorem prim_ustr {c : Call} {x y : Operand} {pt it e : TypeId} {b : Nat} {bs : ByteArray} {sp : List Value} (hcal : c.callee = .builtin .unsafeString) (hargs : c.args.toList = [x, y]) (htys : c.argTypes = #[pt, it]) (hp : P.underlying pt = some (.pointer e)) (he : P.cellsOf e = 1)
    (hL : L[b]? = some (.vals e (strCells bs ++ sp))) (h0 : 0 < bs.size) (hm : bs.size ≤ 9223372036854775807) (hc : chk [] [b] = true) (k : ∀ ob, K (.ret (.v (.string bs))) (L.set b (.raw ob)) g) :
    PrimX P (.call c) [x, y] [.ptr b 0, .v (.int .i64 bs.size)] L g chk K := by
  refine prim_set b [] hc _ hL rfl fun o a σ w ho hev hse => ?_
  have e1 : a.eval x = .pointer (some ⟨σ b, 0, none⟩) := hev (x, .ptr b 0) (by simp)
  have e2 : a.eval y = .int .i64 bs.size := hev (y, .v (.int .i64 bs.size)) (by simp)
  have e3 : c.args.map a.eval = #[.pointer (some ⟨σ b, 0, none⟩), .int .i64 bs.size] := by apply Array.ext'; simp [hargs, e1, e2]
  have hheap := hse.lo b _ _ (by simp) hL rfl
  have hl0 : bs.data.toList ≠ [] := by
    intro h
    have := congrArg List.length h
    simp only [Array.length_toList, List.length_nil] at this
    rw [ByteArray.size] at h0
    omega
  have hlen : bs.data.toList.length = bs.size := by rw [Array.length_toList]; rfl
  have hr := run_unsafeString_row (P := P) w pt it o.type e hp he (σ b) (strCells bs ++ sp).toArray.size (by simp [World.shape?, hheap]) bs.data.toList hl0 (by rw [hlen]; simp [strCells_length]) (by rw [hlen]; exact hm) (fun j z hj => by
    rw [add_cell]
    have hjl := (List.getElem?_eq_some_iff.1 hj).1
    simp only [World.cell?, hheap, Option.isSome_none, Bool.false_eq_true, if_false, Nat.zero_add]
    simp only [List.getElem?_toArray]
    rw [List.getElem?_append_left (by rw [strCells_length, ← hlen]; exact hjl), strCells, List.getElem?_map, hj]
    rfl)
  rw [hlen] at hr
  have es : (⟨bs.data.toList.toArray⟩ : ByteArray) = bs := by apply ByteArray.ext; simp
  rw [es] at hr
  have hrun : (execOp a.eval o).run P w = .ok (.value (.string bs)) (w.freeze ⟨σ b, 0, none⟩ bs.size) := by
    simp only [execOp, ho, resolve, hcal, Sem.run_bind, Sem.run_pure, Result.andThen_ok, invoke, builtin, htys, e3, hr]
  refine ⟨.raw (.cells (strCells bs ++ sp).toArray e (0, 0 + bs.size)), _, .v (.string bs), w.drawn, rfl, fun _ => rfl, rfl, ?_, k _⟩
  rw [hrun]
  have hw : w.freeze ⟨σ b, 0, none⟩ bs.size = { w with heap := w.heap.setIfInBounds (σ b) (.cells (strCells bs ++ sp).toArray e (0, 0 + bs.size)) } := by
    unfold World.freeze
    rw [if_neg (by omega)]
    congr 1
    apply Array.ext_getElem?
    intro j
    have hlt : σ b < w.heap.size := (Array.getElem?_eq_some_iff.1 hheap).1
    by_cases hj : σ b = j
    · subst hj
      rw [Array.getElem?_modify, if_pos rfl, hheap, Array.getElem?_setIfInBounds_self, if_pos hlt]
      rfl
    · rw [Array.getElem?_setIfInBounds_ne hj, Array.getElem?_modify, if_neg hj]
  rw [hw]
  rfl
theorem prim_ustr0 {c : Call} {x y : Operand} {pt it : TypeId} (hcal : c.callee = .builtin .unsafeString) (hargs : c.args.toList = [x, y]) (htys : c.argTypes = #[pt, it]) (hc : chk [] [] = true) (k : K (.ret (.v (.string ByteArray.empty))) L g) :
    PrimX P (.call c) [x, y] [.v (.pointer none), .v (.int .i64 0)] L g chk K := by
  refine prim_val (.v (.string ByteArray.empty)) hc (fun _ => rfl) (fun o a σ w ho hev => ?_) k
  have e1 : a.eval x = .pointer none := hev (x, .v (.pointer none)) (by simp)
  have e2 : a.eval y = .int .i64 0 := hev (y, .v (.int .i64 0)) (by simp)
  have e3 : c.args.map a.eval = #[.pointer none, .int .i64 0] := by apply Array.ext'; simp [hargs, e1, e2]
  have hr := run_unsafeString_none (P := P) w pt it o.type none
  simp only [execOp, ho, resolve, hcal, Sem.run_bind, Sem.run_pure, Result.andThen_ok, invoke, builtin, htys, e3, hr, SV.re]

/-- A pointer to a block at hand, as an unsafe.Pointer; and back. -/
theorem prim_toU {src dst t e : TypeId} {j : TypeInfo} {x : Operand} {b : Nat} {l : List SV} (hs : P.underlying src = some (.pointer t)) (hd : P.underlying dst = some .unsafePointer) (ht : P.info? t = some j) (hj : j.size ≠ 0) (hL : L[b]? = some (.cells e l)) (hl : 0 < l.length) (hc : chk [b] [] = true)
    (k : K (.ret (.ptr b 0)) L g) : PrimX P (.convert src dst x) [x] [.ptr b 0] L g chk K := by
  refine prim_read [b] (.ptr b 0) hc (fun h => by simpa [scL, SV.sc] using h) (fun o a σ w ho hev hse => ?_) k
  have e1 : a.eval x = .pointer (some ⟨σ b, 0, none⟩) := hev (x, .ptr b 0) (by simp)
  have hheap := hse.lo b _ _ (by simp) hL rfl
  have hr := run_to_unsafe (P := P) w (src := src) (dst := dst) (e := e) (cells := l.length) ⟨σ b, 0, none⟩ hs hd ht hj (by simp [World.shape?, hheap, reL_length]) hl
  simp only [execOp, ho, e1, Sem.run_bind, hr, Result.andThen_ok, Sem.run_pure, SV.re]
theorem prim_fromU {src dst u e : TypeId} {j : TypeInfo} {x : Operand} {b : Nat} {l : List SV} (hs : P.underlying src = some .unsafePointer) (hd : P.underlying dst = some (.pointer u)) (hu : P.info? u = some j) (hL : L[b]? = some (.cells e l)) (hlies : liesAt P P.depth e (l.length / P.cellsOf e) 0 u 1 = true) (hc : chk [b] [] = true)
    (k : K (.ret (.ptr b 0)) L g) : PrimX P (.convert src dst x) [x] [.ptr b 0] L g chk K := by
  refine prim_read [b] (.ptr b 0) hc (fun h => by simpa [scL, SV.sc] using h) (fun o a σ w ho hev hse => ?_) k
  have e1 : a.eval x = .pointer (some ⟨σ b, 0, none⟩) := hev (x, .ptr b 0) (by simp)
  have hheap := hse.lo b _ _ (by simp) hL rfl
  have hr := run_from_unsafe (P := P) w (src := src) (dst := dst) (e := e) (cells := l.length) ⟨σ b, 0, none⟩ hs hd hu (by simp [World.shape?, hheap, reL_length]) hlies
  simp only [execOp, ho, e1, Sem.run_bind, hr, Result.andThen_ok, Sem.run_pure, SV.re]
/-- A pointer held against itself. -/
theorem prim_neqP {tp te : TypeId} {j : TypeInfo} {x y : Operand} {rt : TypeId} {b : Nat} (hp : P.underlying tp = some (.pointer te)) (hte : P.info? te = some j) (hc : chk [] [] = true) (k : K (.ret (.v (.bool false))) L g) : PrimX P (.binOp .neq tp x y rt) [x, y] [.ptr b 0, .ptr b 0] L g chk K := by
  refine prim_val (.v (.bool false)) hc (fun _ => rfl) (fun o a σ w ho hev => ?_) k
  have e1 : a.eval x = .pointer (some ⟨σ b, 0, none⟩) := hev (x, .ptr b 0) (by simp)
  have e2 : a.eval y = .pointer (some ⟨σ b, 0, none⟩) := hev (y, .ptr b 0) (by simp)
  have hr := run_neq_ptr_same (P := P) w (tp := tp) ⟨σ b, 0, none⟩ hp hte
  have hg : eqGuard .neq tp x y (.pointer (some ⟨σ b, 0, none⟩)) (.pointer (some ⟨σ b, 0, none⟩)) = pure () := rfl
  simp only [execOp, ho, e1, e2, hg, Sem.run_bind, hr, Result.andThen_ok, Sem.run_pure, SV.re]
end
end Go.Sx
end

/- A symbolic executor of my own, part 25: functions that defer calls, and what they defer (recover among it). Conditions: none; it speaks of any program. -/
section
namespace Go.Sx

section
variable {P : Program} {ops : Array Oper} {σ0 : Nat → Nat} {L0 : List Chunk} {g0 : G} {w0 : World} {df : List Deferred} {K : KT}

theorem vOps_sound_app {tail : List Oper} {Q : Exit → Act → World → Prop} (hN : ∀ fr L g σ a w, Inv df fr L g σ a w → Goes σ0 L0 g0 w0 σ L g w → K .normal fr L g → wpList P ops Q tail a w)
    (hQ : ∀ x fr L g σ a w, Inv df fr L g σ a w → x ≠ .junk → x.sc L.length = true → Goes σ0 L0 g0 w0 σ L g w → K (.pan x) fr L g → Q (.panic [{ v := x.re σ, recovered := false }]) a w) :
    ∀ (l : List Oper) (xs : List XOper), l.mapM (xoper P ops) = some xs → ∀ {fr L g σ a w}, Inv df fr L g σ a w → Goes σ0 L0 g0 w0 σ L g w → vOps false P xs fr L g K → wpList P ops Q (l ++ tail) a w := by
  intro l
  induction l with
  | nil =>
    intro xs hx fr L g σ a w I hg h
    simp at hx
    subst hx
    exact hN _ _ _ _ _ _ I hg h
  | cons o l ih =>
    intro xs hx fr L g σ a w I hg h
    rw [List.mapM_cons] at hx
    simp only [bind, Option.bind_eq_some_iff, pure, Option.some.injEq] at hx
    obtain ⟨x, hx1, xs', hx2, rfl⟩ := hx
    have := seq_step (P := P) hx1 (next := fun fr L g => vOps false P xs' fr L g K) I hg h hQ
    have next : ∀ a' w', (∃ fr' L' g' σ', Inv df fr' L' g' σ' a' w' ∧ Goes σ0 L0 g0 w0 σ' L' g' w' ∧ vOps false P xs' fr' L' g' K) → wpList P ops Q (l ++ tail) a' w' := by
      rintro a' w' ⟨fr', L', g', σ', I', hg', hk⟩
      exact ih xs' hx2 I' hg' hk
    rw [List.cons_append]
    unfold wpList
    split
    · rename_i hw
      rw [if_pos hw] at this
      exact .inl (Oper.wp_mono next this)
    · rename_i hw
      rw [if_neg hw] at this
      exact next _ _ this
end

/-! ### Calls that wait -/

abbrev DS := List (FuncId × List SV)
def DefIs (P : Program) (σ : Nat → Nat) (x : FuncId × List SV) (d : Deferred) : Prop :=
  ∃ fv cap, d.target = .fn fv cap ∧ ∀ w, (invoke d.target d.args).run P w = .ok (.enter x.1 (reL σ x.2).toArray) w
def DefsAre (P : Program) (σ : Nat → Nat) : DS → List Deferred → Prop
  | [], [] => True
  | x :: D, d :: df => DefIs P σ x d ∧ DefsAre P σ D df
  | _, _ => False
def scD (n : Nat) : DS → Bool
  | [] => true
  | x :: D => scL n x.2 && scD n D
theorem scD_mono {n m : Nat} (h : n ≤ m) : ∀ D : DS, scD n D = true → scD m D = true
  | [], _ => rfl
  | x :: D, hs => by
    simp only [scD, Bool.and_eq_true] at *
    exact ⟨scL_mono h _ hs.1, scD_mono h D hs.2⟩
theorem DefsAre.congr {P : Program} {σ σ' : Nat → Nat} {n : Nat} (h : ∀ k, k < n → σ' k = σ k) : ∀ {D : DS} {df : List Deferred}, scD n D = true → DefsAre P σ D df → DefsAre P σ' D df
  | [], [], _, _ => trivial
  | [], _ :: _, _, hd => hd.elim
  | _ :: _, [], _, hd => hd.elim
  | x :: D, d :: df, hs, hd => by
    simp only [scD, Bool.and_eq_true] at hs
    obtain ⟨⟨fv, cap, h1, h2⟩, h3⟩ := hd
    refine ⟨⟨fv, cap, h1, fun w => ?_⟩, DefsAre.congr h hs.2 h3⟩
    rw [reL_congr h x.2 hs.1]
    exact h2 w

inductive YD where
  | code (c : YC)
  | dfr (l : List XOper) (fn : Operand) (args : List Operand)

def ydef (P : Program) : Code → Option YD
  | .region _ ops false => match ops.toList.reverse with
    | o :: l => match o.op with
      | .defer c => match o.guard with
        | none => match c.callee with
          | .value v => match o.dst with
            | none => match l.reverse.mapM (xoper P ops) with
              | some xs => some (.dfr xs v c.args.toList)
              | none => none
            | some _ => none
          | _ => none
        | some _ => none
      | _ => none
    | [] => none
  | _ => none
def ysplit (P : Program) : Nat → Code → Option (List YD × YC)
  | 0, c => match ycode P c with
    | some x => some ([], x)
    | none => none
  | n + 1, .seq a b => match ysplit P n b with
    | some (l, x) => match ydef P a with
      | some d => some (d :: l, x)
      | none => match ycode P a with
        | some c => some (.code c :: l, x)
        | none => none
    | none => none
  | _, _ => none
structure YFD where
  ntmps : Nat
  results : List XRes
  pre : List YD
  rest : YC
def yfuncD (P : Program) (fn : Func) (n : Nat) : Option YFD :=
  match fn.body with
  | some c => match ysplit P n c with
    | some (l, x) => match fn.results.toList.mapM (xres P) with
      | some rs => some ⟨fn.ntmps, rs, l, x⟩
      | none => none
    | none => none
  | none => none

/-- The calls that wait, gathered. -/
def codeK (F : List SV → List Chunk → G → Prop) : KT := fun e fr L g => match e with
  | .normal => F fr L g
  | _ => False
def dfrK (P : Program) (f : Operand) (args : List Operand) (F : List SV → List Chunk → G → DS → Prop) (D : DS) : KT := fun e fr L g => match e with
  | .normal => match ev fr f with
    | .fn h first cap => callable P h = true ∧ njL (args.map (ev fr)) fun as => F fr L g ((h, first ++ (as ++ cap)) :: D)
    | _ => False
  | _ => False
def vD (P : Program) (l : List YD) : List SV → List Chunk → G → DS → (List SV → List Chunk → G → DS → Prop) → Prop :=
  List.rec (motive := fun _ => List SV → List Chunk → G → DS → (List SV → List Chunk → G → DS → Prop) → Prop) (fun fr L g D K => K fr L g D)
    (fun y _ ih fr L g D K => match y with
      | .code c => vC false P L.length g c fr L g (codeK fun fr L g => ih fr L g D K)
      | .dfr l f args => vOps false P l fr L g (dfrK P f args (fun fr L g D => ih fr L g D K) D)) l
theorem vD_code {P : Program} {c : YC} {ys : List YD} {fr : List SV} {L : List Chunk} {g : G} {D : DS} {K : List SV → List Chunk → G → DS → Prop} : vD P (.code c :: ys) fr L g D K = vC false P L.length g c fr L g (codeK fun fr L g => vD P ys fr L g D K) := rfl
theorem vD_dfr {P : Program} {l : List XOper} {f : Operand} {args : List Operand} {ys : List YD} {fr : List SV} {L : List Chunk} {g : G} {D : DS} {K : List SV → List Chunk → G → DS → Prop} : vD P (.dfr l f args :: ys) fr L g D K = vOps false P l fr L g (dfrK P f args (fun fr L g D => vD P ys fr L g D K) D) := rfl

/-! ### What a deferred call does -/

/-- A function that begins by asking for the panic. -/
structure YR where
  ntmps : Nat
  d1 : Nat
  d2 : Nat
  rest : YC
def yrec (P : Program) (fn : Func) : Option YR :=
  match fn.body with
  | some (.seq (.region _ ops false) b) => match ops.toList with
    | [o1, o2] => match o1.op, o1.guard, o1.dst with
      | .call c, none, some d1 => match c.callee with
        | .builtin .recover => match o2.op, o2.guard, o2.dst with
          | .assign (.tmp t), none, some d2 => match Nat.beq t d1 && Nat.blt d1 fn.ntmps, ycode P b with
            | true, some x => some ⟨fn.ntmps, d1, d2, x⟩
            | _, _ => none
          | _, _, _ => none
        | _ => none
      | _, _, _ => none
    | _ => none
  | _ => none

def endOf (m : Option SV) (K : Option SV → List Chunk → G → Prop) : KT := fun e _ L g => match e with
  | .normal => K m L g
  | .ret => K m L g
  | _ => False
def vDef (P : Program) (X : YF) (args : List SV) (L : List Chunk) (g : G) (m : Option SV) (K : Option SV → List Chunk → G → Prop) : Prop :=
  force (args ++ List.replicate (X.ntmps - args.length) (.v undef)) fun fr => vC false P L.length g X.code fr L g (endOf m K)
def valOf : Option SV → SV
  | none => .v .nilIface
  | some x => x
def vRec (P : Program) (X : YR) (args : List SV) (L : List Chunk) (g : G) (m : Option SV) (K : Option SV → List Chunk → G → Prop) : Prop :=
  force (put (put (args ++ List.replicate (X.ntmps - args.length) (.v undef)) X.d1 (valOf m)) X.d2 (valOf m)) fun fr => vC false P L.length g X.rest fr L g (endOf none K)
@[irreducible] def DefX (P : Program) (f : FuncId) (as : List SV) (L : List Chunk) (g : G) (m : Option SV) (K : Option SV → List Chunk → G → Prop) : Prop :=
  ∃ fn, P.funcs[f]? = some fn ∧ fn.results.size = 0 ∧ ((∃ X, yfunc P fn = some X ∧ vDef P X as L g m K) ∨ (∃ X, yrec P fn = some X ∧ vRec P X as L g m K))
theorem defx_of {P : Program} {f : FuncId} {as : List SV} {L : List Chunk} {g : G} {m : Option SV} {K : Option SV → List Chunk → G → Prop} {fn : Func} {X : YF} (hf : P.funcs[f]? = some fn) (hr : fn.results.size = 0) (hX : yfunc P fn = some X) (h : vDef P X as L g m K) : DefX P f as L g m K := by
  unfold DefX
  exact ⟨fn, hf, hr, .inl ⟨X, hX, h⟩⟩
theorem recx_of {P : Program} {f : FuncId} {as : List SV} {L : List Chunk} {g : G} {m : Option SV} {K : Option SV → List Chunk → G → Prop} {fn : Func} {X : YR} (hf : P.funcs[f]? = some fn) (hr : fn.results.size = 0) (hX : yrec P fn = some X) (h : vRec P X as L g m K) : DefX P f as L g m K := by
  unfold DefX
  exact ⟨fn, hf, hr, .inr ⟨X, hX, h⟩⟩

def LeaveD (P : Program) (D : DS) : Option SV → List Chunk → G → (Option SV → List Chunk → G → Prop) → Prop :=
  List.rec (motive := fun _ => Option SV → List Chunk → G → (Option SV → List Chunk → G → Prop) → Prop) (fun m L g K => K m L g) (fun d _ ih m L g K => DefX P d.1 d.2 L g m fun m' L' g' => ih m' L' g' K) D
def endD (n0 : Nat) (kp : Option (List Nat)) (rs : List XRes) (fr : List SV) (post : Out → List Chunk → G → Prop) : Option SV → List Chunk → G → Prop
  | none, L, g => resAll rs fr L g fun vs => fR (pack vs) fun r => retQ n0 kp .ret r L g post
  | some x, L, g => retQ n0 kp .pan x L g post
def vFD (P : Program) (X : YFD) (args : List SV) (L : List Chunk) (g : G) (kp : Option (List Nat)) (post : Out → List Chunk → G → Prop) : Prop :=
  force (args ++ List.replicate (X.ntmps - args.length) (.v undef)) fun fr => vD P X.pre fr L g [] fun fr L1 g1 D => vC false P L1.length g1 X.rest fr L1 g1 fun e fr2 L2 g2 => match e with
    | .normal => LeaveD P D none L2 g2 (endD L.length kp X.results fr2 post)
    | .ret => LeaveD P D none L2 g2 (endD L.length kp X.results fr2 post)
    | .pan x => LeaveD P D (some x) L2 g2 (endD L.length kp X.results fr2 post)
    | .exit _ => False

/-! ### What it is worth -/

theorem inv_start {fn : Func} {args : List SV} {L : List Chunk} {g : G} {σ : Nat → Nat} {w : World} (hH : Mem g L σ w) (hL : scH L) (hsc : scL L.length args = true) :
    Inv [] (args ++ List.replicate (fn.ntmps - args.length) (.v undef)) L g σ { tmps := (reL σ args).toArray ++ Array.replicate (fn.ntmps - (reL σ args).toArray.size) undef, defers := [] } w := by
  have hlen : (reL σ args).toArray.size = args.length := by simp [reL_length]
  refine ⟨⟨by simp [reL_length], fun i y hy hj => ?_⟩, hH, ?_, hL, rfl⟩
  · have key : ∀ (l : List SV) (i : Nat) (y : SV), get l i = y → y ≠ .junk → (reL σ l)[i]? = some (y.re σ) := by
      intro l i y hy hj
      subst hy
      rw [reL_map, List.getElem?_map, get_some hj]
      rfl
    have := key _ i y hy hj
    rw [reL_append] at this
    have e : reL σ (List.replicate (fn.ntmps - args.length) (.v undef)) = List.replicate (fn.ntmps - args.length) undef := by
      simp [reL_map, SV.re]
    rw [e] at this
    rw [hlen, Array.getD_eq_getD_getElem?]
    have e2 : ((reL σ args).toArray ++ Array.replicate (fn.ntmps - args.length) undef)[i]? = (reL σ args ++ List.replicate (fn.ntmps - args.length) undef)[i]? := by
      rw [← List.getElem?_toArray]
      congr 1
      apply Array.ext'
      simp
    rw [e2, this]
    rfl
  · rw [scL_append]
    exact ⟨hsc, scL_mem.2 fun x hx => by rw [List.eq_of_mem_replicate hx]; rfl⟩

def dmode (σ : Nat → Nat) : Option SV → FrameMode
  | none => .returning
  | some x => .panicking [{ v := x.re σ, recovered := false }]
def scM (n : Nat) : Option SV → Prop
  | none => True
  | some x => x ≠ .junk ∧ x.sc n = true
theorem settle_dmode (σ : Nat → Nat) (m : Option SV) : settle (dmode σ m) = dmode σ m := by
  cases m <;> rfl
theorem dmode_congr {σ σ' : Nat → Nat} {n : Nat} (h : ∀ k, k < n → σ' k = σ k) {m : Option SV} (hs : scM n m) : dmode σ' m = dmode σ m := by
  cases m with
  | none => rfl
  | some x => simp only [dmode, re_congr h x hs.2]
theorem scM_mono {n k : Nat} (h : n ≤ k) {m : Option SV} (hs : scM n m) : scM k m := by
  cases m with
  | none => trivial
  | some x => exact ⟨hs.1, sc_mono h x hs.2⟩
theorem run_results0 {P : Program} {fn : Func} (h : fn.results.size = 0) (tmps : Array Value) (w : World) : (results fn tmps).run P w = .ok (.tuple #[]) w := by
  have e : fn.results = #[] := Array.eq_empty_of_size_eq_zero h
  simp [results, e]

/-- What a deferred call has left. -/
def DLeft (σ : Nat → Nat) (L : List Chunk) (g : G) (w : World) (K : Option SV → List Chunk → G → Prop) (e : Ending) (u' : FrameMode) (w' : World) : Prop :=
  ∃ v m' L' g' σ', e = .returned v ∧ settle u' = dmode σ' m' ∧ Mem g' L' σ' w' ∧ scH L' ∧ scM L'.length m' ∧ Goes σ L g w σ' L' g' w' ∧ K m' L' g'

theorem defx_sound {P : Program} (hm : P.follows .mixedOrders = true) {f : FuncId} {as : List SV} {L : List Chunk} {g : G} {m : Option SV} {K : Option SV → List Chunk → G → Prop} (h : DefX P f as L g m K) {σ : Nat → Nat} {w : World} (hM : Mem g L σ w) (hL : scH L) (hsc : scL L.length as = true) (hs : scM L.length m) :
    CallsD P f (reL σ as).toArray (dmode σ m) w (DLeft σ L g w K) := by
  unfold DefX at h
  obtain ⟨fn, hf, hres, h⟩ := h
  rcases h with ⟨X, hX, h⟩ | ⟨X, hX, h⟩
  · simp only [yfunc] at hX
    cases hb : fn.body with
    | none => simp [hb] at hX
    | some c =>
      rw [hb] at hX
      simp only at hX
      cases hx : ycode P c with
      | none => simp [hx] at hX
      | some x =>
        rw [hx] at hX
        simp only at hX
        cases hr : fn.results.toList.mapM (xres P) with
        | none => simp [hr] at hX
        | some rs =>
          rw [hr] at hX
          simp only [Option.some.injEq] at hX
          subst hX
          simp only [vDef, force_eq] at h
          have I := inv_start (fn := fn) hM hL hsc
          refine (callsD_of_wp (R := fun e w' => DLeft σ L g w K e (dmode σ m) w') hf hb ?_).mono ?_
          · refine Code.wp_mono ?_ (vC_sound hm c x hx h I (Goes.refl σ L g w))
            have fin : ∀ fr L1 g1 σ' a' w', Inv [] fr L1 g1 σ' a' w' → Goes σ L g w σ' L1 g1 w' → K m L1 g1 → a'.defers = [] ∧ ∃ v, (results fn a'.tmps).run P w' = .ok v w' ∧ DLeft σ L g w K (.returned v) (dmode σ m) w' := fun fr L1 g1 σ' a' w' I' hg' hk =>
              ⟨I'.defers, _, run_results0 hres _ _, _, m, L1, g1, σ', rfl, by rw [settle_dmode, dmode_congr hg'.agree hs], I'.mem, I'.hscL, scM_mono hg'.len hs, hg', hk⟩
            intro e a' w' hl
            cases e with
            | normal => obtain ⟨fr, L1, g1, σ', I', hg', hk⟩ := hl; exact fin fr L1 g1 σ' a' w' I' hg' hk
            | ret => obtain ⟨fr, L1, g1, σ', I', hg', hk⟩ := hl; exact fin fr L1 g1 σ' a' w' I' hg' hk
            | exit j => obtain ⟨fr, L1, g1, σ', I', hg', hk⟩ := hl; exact hk.elim
            | panic ch => obtain ⟨x, fr, L1, g1, σ', rfl, hj, hs, I', hg', hk⟩ := hl; exact hk.elim
            | _ => exact hl.elim
          · rintro e u' w' ⟨rfl, hd⟩
            exact hd
  · unfold yrec at hX
    split at hX
    case h_2 => cases hX
    rename_i id ops b hb
    split at hX
    case h_2 => cases hX
    rename_i o1 o2 hops
    split at hX
    case h_2 => cases hX
    rename_i c d1 ho1 hg1 hd1
    split at hX
    case h_2 => cases hX
    rename_i hcal
    split at hX
    case h_2 => cases hX
    rename_i t d2 ho2 hg2 hd2
    split at hX
    case h_2 => cases hX
    rename_i x htd hx
    cases hX
    simp only [Bool.and_eq_true, Nat.blt_eq] at htd
    have htd1 := Nat.eq_of_beq_eq_true htd.1
    subst htd1
    simp only [vRec, force_eq] at h
    have hsize : ops.size = 2 := by rw [← Array.length_toList, hops]; rfl
    have hop0 : ops[0]? = some o1 := by rw [← Array.getElem?_toList, hops]; rfl
    have hop1 : ops[1]? = some o2 := by rw [← Array.getElem?_toList, hops]; rfl
    refine callsD_of_wpS hf hb fun c₀ cs hc₀ => ?_
    -- the state behind the first region
    have I := inv_start (fn := fn) hM hL hsc
    have hvs : (valOf m).sc L.length = true := by
      cases m with
      | none => rfl
      | some y => exact hs.2
    have I1 := I.put (dst := some t) (v := (valOf m).re σ) (r := valOf m) (Nat.le_refl _) (fun _ _ => rfl) (fun _ => rfl) hvs I.mem I.hscL
    have I2 := I1.put (dst := some d2) (v := (valOf m).re σ) (r := valOf m) (Nat.le_refl _) (fun _ _ => rfl) (fun _ => rfl) hvs I.mem I.hscL
    -- the frame below
    obtain ⟨u1, hu1, hrec⟩ : ∃ u1, settle u1 = .returning ∧ ((recoverD (c₀ :: cs) = some ((valOf m).re σ, { c₀ with mode := u1 } :: cs)) ∨ (recoverD (c₀ :: cs) = none ∧ (valOf m).re σ = .nilIface ∧ ({ c₀ with mode := u1 } : Frame) = c₀)) := by
      cases m with
      | none =>
        refine ⟨.returning, rfl, .inr ⟨?_, rfl, ?_⟩⟩
        · simp [recoverD, hc₀, dmode]
        · cases c₀; simp only [dmode] at hc₀; subst hc₀; rfl
      | some y =>
        refine ⟨.panicking [{ v := y.re σ, recovered := true }], rfl, .inl ?_⟩
        simp [recoverD, hc₀, dmode, valOf]
    have body := vC_sound (P := P) hm b x hx h I2 (Goes.refl σ L g w)
    have fin2 : b.wpS P (bodyPostS P fn c₀ cs (DLeft σ L g w K)) ((Act.put { tmps := (reL σ as).toArray ++ Array.replicate (fn.ntmps - (reL σ as).toArray.size) undef, defers := [] } (some t) ((valOf m).re σ)).put (some d2) ((valOf m).re σ)) ({ c₀ with mode := u1 } :: cs) w := by
      refine wpS_of_wp (Code.wp_mono ?_ body)
      have fin : ∀ fr L1 g1 σ' a' w', Inv [] fr L1 g1 σ' a' w' → Goes σ L g w σ' L1 g1 w' → K none L1 g1 → a'.defers = [] ∧ ∃ u', ({ c₀ with mode := u1 } : Frame) :: cs = { c₀ with mode := u' } :: cs ∧ ∃ v, (results fn a'.tmps).run P w' = .ok v w' ∧ DLeft σ L g w K (.returned v) u' w' := fun fr L1 g1 σ' a' w' I' hg' hk =>
        ⟨I'.defers, u1, rfl, _, run_results0 hres _ _, _, none, L1, g1, σ', rfl, hu1, I'.mem, I'.hscL, trivial, hg', hk⟩
      intro e a' w' hl
      cases e with
      | normal => obtain ⟨fr, L1, g1, σ', I', hg', hk⟩ := hl; exact fin fr L1 g1 σ' a' w' I' hg' hk
      | ret => obtain ⟨fr, L1, g1, σ', I', hg', hk⟩ := hl; exact fin fr L1 g1 σ' a' w' I' hg' hk
      | exit j => obtain ⟨fr, L1, g1, σ', I', hg', hk⟩ := hl; exact hk.elim
      | panic ch => obtain ⟨x, fr, L1, g1, σ', rfl, hj, hs, I', hg', hk⟩ := hl; exact hk.elim
      | _ => exact hl.elim
    refine wpS_seq (wpS_region ?_)
    rw [hsize, show List.range 2 = [0, 1] from rfl]
    have hw1 : ∀ y, Region.wanted o1 y = true := fun y => by simp [Region.wanted, hg1]
    have hw2 : ∀ y, Region.wanted o2 y = true := fun y => by simp [Region.wanted, hg2]
    have hr1 : ∀ a : Act, (execOp a.eval o1).run P w = .ok .recover w := fun a => by
      simp [execOp, ho1, resolve, hcal, invoke, builtin]
    have htl : t < ((reL σ as).toArray ++ Array.replicate (fn.ntmps - (reL σ as).toArray.size) undef).size := by
      have key : ∀ x y : Nat, x ≤ y + (x - y) := by intros; omega
      rw [Array.size_append, Array.size_replicate]
      exact Nat.lt_of_lt_of_le htd.2 (key _ _)
    have second : ∀ cs', cs' = { c₀ with mode := u1 } :: cs → wpOpsS P ops (Exit.thenS (b.wpS P (bodyPostS P fn c₀ cs (DLeft σ L g w K))) (bodyPostS P fn c₀ cs (DLeft σ L g w K))) [1] (Act.put { tmps := (reL σ as).toArray ++ Array.replicate (fn.ntmps - (reL σ as).toArray.size) undef, defers := [] } (some t) ((valOf m).re σ)) cs' w := by
      rintro cs' rfl
      have hev : (Act.put { tmps := (reL σ as).toArray ++ Array.replicate (fn.ntmps - (reL σ as).toArray.size) undef, defers := [] } (some t) ((valOf m).re σ)).eval (.tmp t) = (valOf m).re σ := by
        simp only [Act.eval, Act.put, Array.getD_eq_getD_getElem?]
        rw [Array.getElem?_setIfInBounds_self, if_pos htl]
        rfl
      have hr2 : (execOp (Act.put { tmps := (reL σ as).toArray ++ Array.replicate (fn.ntmps - (reL σ as).toArray.size) undef, defers := [] } (some t) ((valOf m).re σ)).eval o2).run P w = .ok (.value ((valOf m).re σ)) w := by
        simp only [execOp, ho2, hev, Sem.run_pure]
      rw [wpOpsS]
      simp only [hop1, hw2, if_true, hr2, Oper.upon, hd2]
      exact fin2
    rw [wpOpsS]
    simp only [hop0, hw1, if_true, hr1, hd1]
    rcases hrec with hrec | ⟨hrec, hnil, hsame⟩
    · rw [hrec]
      exact second _ rfl
    · rw [hrec]
      rw [hnil] at second
      have := second (c₀ :: cs) (by rw [hsame])
      exact this

end Go.Sx
end

/- A symbolic executor of my own, part 26: functions that defer calls: from the condition to the contract. Conditions: none; it speaks of any program. -/
section
namespace Go.Sx

/-- What a contract asks of the end. -/
def EndR (σ0 : Nat → Nat) (L0 : List Chunk) (g0 : G) (w0 : World) (post : Out → List Chunk → G → Prop) (e : Ending) (w' : World) : Prop :=
  ∃ out L' g' σ', Ends σ' e out ∧ out.sv ≠ .junk ∧ Mem g' L' σ' w' ∧ scH L' ∧ out.sv.sc L'.length = true ∧ Goes σ0 L0 g0 w0 σ' L' g' w' ∧ post out L' g'

section
variable {P : Program} {σ0 : Nat → Nat} {L0 : List Chunk} {g0 : G} {w0 : World} {post : Out → List Chunk → G → Prop} {kp : Option (List Nat)} {fn : Func} {rs : List XRes}

theorem leaves_sound (hm : P.follows .mixedOrders = true) (hr : fn.results.toList.mapM (xres P) = some rs) {fr2 : List SV} {a : Act} : ∀ (D : DS) (df : List Deferred) (m : Option SV) (L : List Chunk) (g : G) (σ : Nat → Nat) (w : World),
    DefsAre P σ D df → scD L.length D = true → FR σ fr2 a.tmps → scL L.length fr2 = true → Mem g L σ w → scH L → scM L.length m → Goes σ0 L0 g0 w0 σ L g w → LeaveD P D m L g (endD L0.length kp rs fr2 post) → Leaves P fn a.tmps (EndR σ0 L0 g0 w0 post) df (dmode σ m) w
  | [], [], none, L, g, σ, w, _, _, hF, hsF, hM, hL, _, hG, h => by
    have I' : Inv a.defers fr2 L g σ a w := ⟨hF, hM, hsF, hL, rfl⟩
    obtain ⟨vs, hj, hs, hok, hl, hrun⟩ := resAll_sound I' _ rs hr h
    rw [fR_eq] at hok
    have hok' : ∃ ks, retP (List.range L0.length ++ ks) .ret (pack vs) L g post := by
      cases kp with
      | some ks => exact ⟨ks, hok⟩
      | none => exact hok
    obtain ⟨ks, hok'⟩ := hok'
    have hpj : pack vs ≠ .junk := by
      match vs, hj with
      | [], _ => simp [pack]
      | [v], hj => exact hj v (by simp)
      | u :: v :: vs, _ => simp [pack]
    obtain ⟨r', L', σ2, e1, e2, e3, e4, e5, e6, e7⟩ := retP_sound rfl rfl I' hG hpj hok'
    refine ⟨(pack vs).re σ, ?_, .ret r', L', g, σ2, ?_, e2, e3, e4, e5, e6, e7⟩
    · have e : (results fn a.tmps).run P w = .ok (if h : (reL σ vs).toArray.size = 1 then (reL σ vs).toArray[0] else .tuple (reL σ vs).toArray) w := by
        rw [results_eq, Sem.run_bind, Array.mapM_eq_mapM_toList, Sem.run_map, hrun]
        simp
      rw [e]
      congr 1
      match vs with
      | [] => simp [pack, SV.re, reL]
      | [v] => simp [pack, reL]
      | u :: v :: vs => simp [pack, SV.re, reL]
    · show Ending.returned _ = Ending.returned _
      rw [e1]
  | [], [], some x, L, g, σ, w, _, _, hF, hsF, hM, hL, hs, hG, h => by
    have I' : Inv a.defers fr2 L g σ a w := ⟨hF, hM, hsF, hL, rfl⟩
    have hk' : ∃ ks, retP (List.range L0.length ++ ks) .pan x L g post := by
      cases kp with
      | some ks => exact ⟨ks, h⟩
      | none => exact h
    obtain ⟨ks, hk'⟩ := hk'
    obtain ⟨r', L', σ2, e1, e2, e3, e4, e5, e6, e7⟩ := retP_sound rfl rfl I' hG hs.1 hk'
    refine ⟨.pan r', L', g, σ2, ?_, e2, e3, e4, e5, e6, e7⟩
    show Ending.panicked _ = Ending.panicked _
    rw [e1]
  | [], _ :: _, _, _, _, _, _, hd, _, _, _, _, _, _, _, _ => hd.elim
  | _ :: _, [], _, _, _, _, _, hd, _, _, _, _, _, _, _, _ => hd.elim
  | (f, as) :: D, d :: df, m, L, g, σ, w, hd, hsD, hF, hsF, hM, hL, hs, hG, h => by
    obtain ⟨⟨fv, cap, h1, h2⟩, h3⟩ := hd
    simp only [scD, Bool.and_eq_true] at hsD
    refine ⟨by cases m <;> simp [dmode], fv, cap, f, _, h1, h2 w, ?_⟩
    refine (defx_sound hm h hM hL hsD.1 hs).mono ?_
    rintro e u' w' ⟨v, m', L', g', σ', rfl, hset, hM', hL', hs', hG', hk⟩
    show Leaves P fn a.tmps (EndR σ0 L0 g0 w0 post) df (settle u') w'
    rw [hset]
    have hag := hG'.agree
    exact leaves_sound hm hr D df m' L' g' σ' w' (h3.congr hag hsD.2) (scD_mono hG'.len D hsD.2) (hF.on (p := fun k => decide (k < L.length)) (fun k hk => (hag k (by simpa using hk)).symm) fun t => by rw [← on_sc]; exact sc_get hsF t)
      (scL_mono hG'.len _ hsF) hM' hL' hs' (hG.trans hG') hk

theorem defer_run {c : Call} {v : Operand} (hcal : c.callee = .value v) {o : Oper} {a : Act} {w : World} (ho : o.op = .defer c) {σ : Nat → Nat} {h : FuncId} {first cap as : List SV} (hv : a.eval v = (SV.fn h first cap).re σ) (has : c.args.toList.map a.eval = reL σ as) (hc : callable P h = true) :
    ∃ d, (execOp a.eval o).run P w = .ok (.defer d) w ∧ DefIs P σ (h, first ++ (as ++ cap)) d := by
  refine ⟨{ target := .fn (.func h) (reL σ cap).toArray, args := (reL σ first).toArray ++ c.args.map a.eval }, ?_, .func h, _, rfl, fun w => ?_⟩
  · simp only [execOp, ho, resolve, hcal, hv, SV.re, Deferred.ofValue, Sem.run_bind, Sem.run_pure, Result.andThen_ok]
  · have e : c.args.map a.eval = (reL σ as).toArray := by apply Array.ext'; simp [← has]
    have e2 : (reL σ first).toArray ++ (reL σ as).toArray ++ (reL σ cap).toArray = (reL σ (first ++ (as ++ cap))).toArray := by
      apply Array.ext'; simp [reL_append]
    simp only [invoke, e, e2]
    exact callable_run hc _ w

theorem vD_sound (hm : P.follows .mixedOrders = true) {Q : Exit → Act → World → Prop} {K : List SV → List Chunk → G → DS → Prop} {x : YC}
    (hrest : ∀ df D fr L g σ a w, Inv df fr L g σ a w → Goes σ0 L0 g0 w0 σ L g w → DefsAre P σ D df → scD L.length D = true → K fr L g D → ∀ c, ycode P c = some x → c.wp P Q a w) :
    ∀ (n : Nat) (c : Code) (pre : List YD), ysplit P n c = some (pre, x) → ∀ {df D fr L g σ a w}, Inv df fr L g σ a w → Goes σ0 L0 g0 w0 σ L g w → DefsAre P σ D df → scD L.length D = true → vD P pre fr L g D K → c.wp P Q a w := by
  intro n
  induction n with
  | zero =>
    intro c pre hs df D fr L g σ a w I hG hD hsD h
    simp only [ysplit] at hs
    split at hs
    · rename_i x' hx
      cases hs
      exact hrest df D fr L g σ a w I hG hD hsD h c hx
    · cases hs
  | succ n ih =>
    intro c pre hs df D fr L g σ a w I hG hD hsD h
    cases c with
    | seq c1 c2 =>
      simp only [ysplit] at hs
      split at hs
      case h_2 => cases hs
      rename_i l x' hs2
      split at hs
      · -- a deferred call
        rename_i d hd
        simp only [Option.some.injEq, Prod.mk.injEq] at hs
        obtain ⟨rfl, rfl⟩ := hs
        unfold ydef at hd
        split at hd
        case h_2 => cases hd
        rename_i id ops
        split at hd
        case h_2 => cases hd
        rename_i o lr hrev
        split at hd
        case h_2 => cases hd
        rename_i cl ho
        split at hd
        case h_2 => cases hd
        rename_i hg
        split at hd
        case h_2 => cases hd
        rename_i v hcal
        split at hd
        case h_2 => cases hd
        rename_i hdst
        split at hd
        case h_2 => cases hd
        rename_i xs hxs
        cases hd
        have hops : ops.toList = lr.reverse ++ [o] := by
          have := congrArg List.reverse hrev
          simpa using this
        rw [vD_dfr] at h
        refine wp_seq (wp_region_list ?_)
        rw [hops]
        refine vOps_sound_app (K := dfrK P v cl.args.toList (fun fr L g D => vD P l fr L g D K) D) ?_ ?_ _ xs hxs I (Goes.refl σ L g w) h
        · intro fr' L' g' σ' a' w' I' hG' hk
          simp only [dfrK] at hk
          split at hk
          case h_2 => exact hk.elim
          rename_i hh first cap hv
          obtain ⟨hc, hk⟩ := hk
          obtain ⟨hj, hk⟩ := njL_elim hk
          have hva : a'.eval v = (SV.fn hh first cap).re σ' := by rw [I'.hfr.ev v (by simp [hv]), hv]
          have has : cl.args.toList.map a'.eval = reL σ' (cl.args.toList.map (ev fr')) := by
            rw [reL_map, List.map_map]
            refine List.map_congr_left fun y hy => ?_
            exact I'.hfr.ev y (hj _ (List.mem_map_of_mem hy))
          obtain ⟨d, hrun, hdi⟩ := defer_run (P := P) (w := w') hcal ho hva has hc
          have hw : Region.wanted o (yielded ops a'.tmps) = true := by simp [Region.wanted, hg]
          unfold wpList
          rw [if_pos hw]
          left
          unfold Oper.wp
          rw [hrun]
          simp only [Oper.upon, hdst, Act.put, wpList]
          have hscA : scL L'.length (first ++ ((cl.args.toList.map (ev fr')) ++ cap)) = true := by
            have h1 : (SV.fn hh first cap).sc L'.length = true := by rw [← hv]; exact sc_ev I'.scF v
            simp only [SV.sc, Bool.and_eq_true] at h1
            rw [scL_append, scL_append]
            exact ⟨h1.1, scL_mem.2 fun y hy => by obtain ⟨z, _, rfl⟩ := List.mem_map.1 hy; exact sc_ev I'.scF z, h1.2⟩
          refine ih c2 l hs2 (df := d :: df) (D := (hh, first ++ ((cl.args.toList.map (ev fr')) ++ cap)) :: D) ⟨I'.hfr, I'.mem, I'.scF, I'.hscL, by simp [I'.defers]⟩ (hG.trans hG') ⟨hdi, hD.congr hG'.agree hsD⟩ ?_ hk
          simp only [scD, Bool.and_eq_true]
          exact ⟨hscA, scD_mono hG'.len D hsD⟩
        · intro y fr' L' g' σ' a' w' I' hj hs' hG' hk
          exact hk.elim
      · split at hs
        case h_2 => cases hs
        rename_i X1 hX1
        simp only [Option.some.injEq, Prod.mk.injEq] at hs
        obtain ⟨rfl, rfl⟩ := hs
        rw [vD_code] at h
        refine wp_seq (Code.wp_mono ?_ (vC_sound hm c1 X1 hX1 h I (Goes.refl σ L g w)))
        intro e a' w' hl
        cases e with
        | normal =>
          obtain ⟨fr', L', g', σ', I', hG', hk⟩ := hl
          exact ih c2 l hs2 I' (hG.trans hG') (hD.congr hG'.agree hsD) (scD_mono hG'.len D hsD) hk
        | exit j => obtain ⟨fr', L', g', σ', I', hG', hk⟩ := hl; exact hk.elim
        | ret => obtain ⟨fr', L', g', σ', I', hG', hk⟩ := hl; exact hk.elim
        | panic ch => obtain ⟨y, fr', L', g', σ', rfl, hj, hs', I', hG', hk⟩ := hl; exact hk.elim
        | _ => exact hl.elim
    | _ => simp [ysplit] at hs

/-- **From the condition of a function that defers calls to its contract.** -/
def unjFD (X : YFD) : YFD := ⟨X.ntmps, X.results, X.pre, unj X.rest⟩
theorem ysplit_unj : ∀ (n : Nat) (c : Code) (l : List YD) (x : YC), ysplit P n c = some (l, x) → unj x = x := by
  intro n
  induction n with
  | zero =>
    intro c l x h
    simp only [ysplit] at h
    split at h
    · rename_i y hy; cases h; exact ycode_unj c _ hy
    · cases h
  | succ n ih =>
    intro c l x h
    cases c with
    | seq a b =>
      simp only [ysplit] at h
      split at h
      · rename_i l' x' hs
        split at h
        · cases h; exact ih b _ _ hs
        · split at h
          · cases h; exact ih b _ _ hs
          · cases h
      · cases h
    | _ => simp [ysplit] at h
theorem meets_ofDJ {f : FuncId} {X : YFD} {args : List SV} {L : List Chunk} {g : G} {post : Out → List Chunk → G → Prop} {n : Nat} (hm : P.follows .mixedOrders = true) (hf : P.funcs[f]? = some fn) (hcl : callable P f = true)
    (hX : yfuncD P fn n = some (unjFD X)) (kp : Option (List Nat)) (h : vFD P X args L g kp post) : Meets P f args L g post := by
  refine ⟨hcl, fun σ w hH hL hsc => ?_⟩
  simp only [yfuncD] at hX
  cases hb : fn.body with
  | none => simp [hb] at hX
  | some c =>
    rw [hb] at hX
    simp only at hX
    cases hs : ysplit P n c with
    | none => simp [hs] at hX
    | some lx =>
      obtain ⟨l, x⟩ := lx
      rw [hs] at hX
      simp only at hX
      cases hr : fn.results.toList.mapM (xres P) with
      | none => simp [hr] at hX
      | some rs =>
        rw [hr] at hX
        simp only [Option.some.injEq] at hX
        obtain ⟨nt, rs', xp, xr⟩ := X
        simp only [unjFD, YFD.mk.injEq] at hX
        obtain ⟨rfl, rfl, rfl, rfl⟩ := hX
        simp only [vFD, force_eq] at h
        refine calls_of_wp_defers (R := EndR σ L g w post) hf hb ?_
        refine vD_sound (σ0 := σ) (L0 := L) (g0 := g) (w0 := w) hm ?_ n c l hs (inv_start hH hL hsc) (Goes.refl σ L g w) (D := []) (df := []) trivial rfl h
        intro df D fr L1 g1 σ1 a w1 I hG hD hsD hk c' hc'
        refine Code.wp_mono ?_ (vC_soundJ hm c' xr hc' hk I (Goes.refl σ1 L1 g1 w1))
        have fin : ∀ (m : Option SV) fr2 L2 g2 σ2 a2 w2, Inv df fr2 L2 g2 σ2 a2 w2 → Goes σ1 L1 g1 w1 σ2 L2 g2 w2 → scM L2.length m → LeaveD P D m L2 g2 (endD L.length kp rs fr2 post) → Leaves P fn a2.tmps (EndR σ L g w post) a2.defers (dmode σ2 m) w2 := fun m fr2 L2 g2 σ2 a2 w2 I2 hG2 hs2 hk2 => by
          rw [I2.defers]
          exact leaves_sound hm hr D df m L2 g2 σ2 w2 (hD.congr hG2.agree hsD) (scD_mono hG2.len D hsD) I2.hfr I2.scF I2.mem I2.hscL hs2 (hG.trans hG2) hk2
        intro e a2 w2 hl
        cases e with
        | normal => obtain ⟨fr2, L2, g2, σ2, I2, hG2, hk2⟩ := hl; exact fin none fr2 L2 g2 σ2 a2 w2 I2 hG2 trivial hk2
        | ret => obtain ⟨fr2, L2, g2, σ2, I2, hG2, hk2⟩ := hl; exact fin none fr2 L2 g2 σ2 a2 w2 I2 hG2 trivial hk2
        | exit j => obtain ⟨fr2, L2, g2, σ2, I2, hG2, hk2⟩ := hl; exact hk2.elim
        | panic ch => obtain ⟨y, fr2, L2, g2, σ2, rfl, hj, hs', I2, hG2, hk2⟩ := hl; exact fin (some y) fr2 L2 g2 σ2 a2 w2 I2 hG2 ⟨hj, hs'⟩ hk2
        | _ => exact hl.elim
theorem yfuncD_unj {X : YFD} {n : Nat} (h : yfuncD P fn n = some X) : unjFD X = X := by
  unfold yfuncD at h
  split at h
  · rename_i c hc
    split at h
    · rename_i l x hx
      split at h
      · cases h
        simp only [unjFD, ysplit_unj n c l x hx]
      · cases h
    · cases h
  · cases h
theorem meets_ofD {f : FuncId} {X : YFD} {args : List SV} {L : List Chunk} {g : G} {post : Out → List Chunk → G → Prop} {n : Nat} (hm : P.follows .mixedOrders = true) (hf : P.funcs[f]? = some fn) (hcl : callable P f = true)
    (hX : yfuncD P fn n = some X) (kp : Option (List Nat)) (h : vFD P X args L g kp post) : Meets P f args L g post :=
  meets_ofDJ hm hf hcl (by rw [yfuncD_unj hX]; exact hX) kp h
end
end Go.Sx
end

/- A symbolic executor of my own, part 27: a block made last is given up: nobody writes it any more. Conditions: none; it speaks of any program. -/
section
namespace Go.Sx

def ifaceS (t : TypeId) : SV → SV
  | .v y => .v (.iface t y)
  | x => .iface t x
theorem re_ifaceS (σ : Nat → Nat) (t : TypeId) (x : SV) : (ifaceS t x).re σ = .iface t (x.re σ) := by cases x <;> rfl
mutual
/-- A block's number told as an address. -/
def SV.frz (k b : Nat) : SV → SV
  | .junk => .junk
  | .v x => .v x
  | .ptr i o => match Nat.beq i k with
    | true => .v (.pointer (some ⟨b, o, none⟩))
    | false => .ptr i o
  | .slc i o n c => match Nat.beq i k with
    | true => .v (.slice (some ⟨b, o, none⟩) n c)
    | false => .slc i o n c
  | .mp i => match Nat.beq i k with
    | true => .v (.map (some b))
    | false => .mp i
  | .fn h a c => .fn h (frzL k b a) (frzL k b c)
  | .iface t x => ifaceS t (x.frz k b)
  | .agg l => .agg (frzL k b l)
  | .tup l => .tup (frzL k b l)
def frzL (k b : Nat) : List SV → List SV
  | [] => []
  | x :: l => x.frz k b :: frzL k b l
end
mutual
theorem re_frz {σ : Nat → Nat} {k b : Nat} (h : σ k = b) : ∀ x : SV, (x.frz k b).re σ = x.re σ
  | .junk => rfl
  | .v _ => rfl
  | .ptr i o => by
    simp only [SV.frz]
    split
    · rename_i hb; have := Nat.eq_of_beq_eq_true hb; subst this; subst h; rfl
    · rfl
  | .slc i o n c => by
    simp only [SV.frz]
    split
    · rename_i hb; have := Nat.eq_of_beq_eq_true hb; subst this; subst h; rfl
    · rfl
  | .mp i => by
    simp only [SV.frz]
    split
    · rename_i hb; have := Nat.eq_of_beq_eq_true hb; subst this; subst h; rfl
    · rfl
  | .fn g a c => by simp only [SV.frz, SV.re, reL_frz h a, reL_frz h c]
  | .iface t x => by simp only [SV.frz, re_ifaceS, SV.re, re_frz h x]
  | .agg l => by simp only [SV.frz, SV.re, reL_frz h l]
  | .tup l => by simp only [SV.frz, SV.re, reL_frz h l]
theorem reL_frz {σ : Nat → Nat} {k b : Nat} (h : σ k = b) : ∀ l : List SV, reL σ (frzL k b l) = reL σ l
  | [] => rfl
  | x :: l => by simp only [frzL, reL, re_frz h x, reL_frz h l]
end
theorem sc_ifaceS {n : Nat} {t : TypeId} {x : SV} (h : x.sc n = true) : (ifaceS t x).sc n = true := by
  cases x <;> first | rfl | exact h
mutual
theorem sc_frz {k b : Nat} : ∀ x : SV, x.sc (k + 1) = true → (x.frz k b).sc k = true
  | .junk, _ => rfl
  | .v _, _ => rfl
  | .ptr i o, h => by
    simp only [SV.frz]
    split
    · rfl
    · rename_i hb
      have hne : i ≠ k := fun e => by subst e; simp at hb
      simp only [SV.sc, decide_eq_true_eq] at h ⊢
      omega
  | .slc i o n c, h => by
    simp only [SV.frz]
    split
    · rfl
    · rename_i hb
      have hne : i ≠ k := fun e => by subst e; simp at hb
      simp only [SV.sc, decide_eq_true_eq] at h ⊢
      omega
  | .mp i, h => by
    simp only [SV.frz]
    split
    · rfl
    · rename_i hb
      have hne : i ≠ k := fun e => by subst e; simp at hb
      simp only [SV.sc, decide_eq_true_eq] at h ⊢
      omega
  | .fn g a c, h => by
    simp only [SV.sc, Bool.and_eq_true] at h
    simp only [SV.frz, SV.sc, Bool.and_eq_true]
    exact ⟨scL_frz a h.1, scL_frz c h.2⟩
  | .iface t x, h => sc_ifaceS (sc_frz x h)
  | .agg l, h => scL_frz l h
  | .tup l, h => scL_frz l h
theorem scL_frz {k b : Nat} : ∀ l : List SV, scL (k + 1) l = true → scL k (frzL k b l) = true
  | [], _ => rfl
  | x :: l, h => by
    simp only [scL, Bool.and_eq_true] at h
    simp only [frzL, scL, Bool.and_eq_true]
    exact ⟨sc_frz x h.1, scL_frz l h.2⟩
end
theorem frz_junk {k b : Nat} {x : SV} (h : x ≠ .junk) : x.frz k b ≠ .junk := by
  cases x <;> simp only [SV.frz] <;> first | exact absurd rfl h | (split <;> simp) | (rename_i t y; cases (y.frz k b) <;> simp [ifaceS]) | simp
def Chunk.frz (k b : Nat) : Chunk → Chunk
  | .cells ty c => .cells ty (frzL k b c)
  | c => c
theorem obj_frz {σ : Nat → Nat} {k b : Nat} (h : σ k = b) (c : Chunk) : (c.frz k b).obj σ = c.obj σ := by
  cases c with
  | cells ty l => simp only [Chunk.frz, Chunk.obj, reL_frz h l]
  | _ => rfl
theorem here_frz (k b : Nat) (c : Chunk) : (c.frz k b).here = c.here := by cases c <;> rfl
def Out.frz (k b : Nat) : Out → Out
  | .ret x => .ret (x.frz k b)
  | .pan x => .pan (x.frz k b)
def frzC (k b : Nat) : List Chunk → List Chunk
  | [] => []
  | c :: l => c.frz k b :: frzC k b l
theorem frzC_get (k b : Nat) : ∀ (l : List Chunk) (j : Nat), (frzC k b l)[j]? = (l[j]?).map (Chunk.frz k b)
  | [], _ => rfl
  | c :: l, 0 => rfl
  | c :: l, j + 1 => by simp only [frzC, List.getElem?_cons_succ, frzC_get k b l j]
theorem frzC_length (k b : Nat) : ∀ l : List Chunk, (frzC k b l).length = l.length
  | [] => rfl
  | c :: l => by simp only [frzC, List.length_cons, frzC_length k b l]

theorem frz_fam {k b : Nat} {L : List Chunk} (j : Nat) (H : G) (h : (frzC k b L)[j]? = some (Chunk.fam H)) : L[j]? = some (Chunk.fam H) := by
  rw [frzC_get, Option.map_eq_some_iff] at h
  obtain ⟨c, hc, e⟩ := h
  cases c <;> first | (cases e; exact hc) | cases e

/-- **The block made last is given up.** -/
theorem Meets.freeze {P : Program} {f : FuncId} {args : List SV} {L : List Chunk} {g : G} {post post' : Out → List Chunk → G → Prop} (h : Meets P f args L g post)
    (hp : ∀ out L' g', post out L' g' → post' out L' g' ∨ ∃ (L1 : List Chunk) (ty : TypeId) (xs : List Value), L' = L1 ++ [.cells ty (xs.map .v)] ∧ L.length ≤ L1.length ∧ ∀ b g'', G.le g' g'' → g'' b = some (.cells xs.toArray ty (0, 0)) → post' (out.frz L1.length b) (frzC L1.length b L1) g'') : Meets P f args L g post' := by
  refine ⟨h.1, fun σ w h1 h2 h3 => (h.2 σ w h1 h2 h3).mono ?_⟩
  rintro e w' ⟨out, L', g', σ', he, hj, hM, hL, hs, hG, hk⟩
  rcases hp out L' g' hk with hk | ⟨L1, ty, xs, rfl, hlen, hk⟩
  · exact ⟨out, L', g', σ', he, hj, hM, hL, hs, hG, hk⟩
  have hlast : (L1 ++ [Chunk.cells ty (xs.map .v)])[L1.length]? = some (.cells ty (xs.map .v)) := by simp
  have hob : (Chunk.cells ty (xs.map .v)).obj σ' = some (.cells xs.toArray ty (0, 0)) := by
    simp [Chunk.obj, reL_v]
  have hlv : live (L1 ++ [Chunk.cells ty (xs.map .v)]) L1.length := live_of hlast rfl
  have hM2 := hM.freeze hlast hob
  have hG2 := hG.freeze hM hlast hob
  have hset : (L1 ++ [Chunk.cells ty (xs.map .v)]).set L1.length .gone = L1 ++ [Chunk.gone] := by simp
  rw [hset] at hM2 hG2
  have hget : ∀ j, live L1 j → (L1 ++ [Chunk.gone])[j]? = L1[j]? := fun j hj => List.getElem?_append_left (live_lt hj)
  have hlv1 : ∀ j, live (frzC L1.length (σ' L1.length) L1) j → live L1 j := fun j hj => by
    obtain ⟨c, hc, hh⟩ := live_get hj
    rw [frzC_get, Option.map_eq_some_iff] at hc
    obtain ⟨d, hd, rfl⟩ := hc
    exact live_of hd (by rwa [here_frz] at hh)
  have hlv2 : ∀ j, live L1 j → live (L1 ++ [Chunk.gone]) j := fun j hj => (live_congr (hget j hj)).2 hj
  have hlv3 : ∀ j, live L1 j → live (frzC L1.length (σ' L1.length) L1) j := fun j hj => by
    obtain ⟨c, hc, hh⟩ := live_get hj
    exact live_of (c := c.frz _ _) (by rw [frzC_get, hc]; rfl) (by rw [here_frz]; exact hh)
  have hlv4 : ∀ j, live (L1 ++ [Chunk.gone]) j → live L1 j := fun j hj => by
    obtain ⟨c, hc, hh⟩ := live_get hj
    rcases getElem?_append_one hc with ⟨_, h2⟩ | ⟨_, rfl⟩
    · exact live_of h2 hh
    · cases hh
  have hscx : out.sv.sc (L1.length + 1) = true := by simpa using hs
  have hff : ∀ (j : Nat) (H : G), (frzC L1.length (σ' L1.length) L1)[j]? = some (Chunk.fam H) → (L1 ++ [Chunk.gone])[j]? = some (Chunk.fam H) := fun j H hj => by
    have := frz_fam j H hj
    rw [List.getElem?_append_left (List.getElem?_eq_some_iff.1 this).1]
    exact this
  refine ⟨out.frz L1.length (σ' L1.length), frzC L1.length (σ' L1.length) L1, _, σ', ?_, ?_, ⟨hM2.im, ?_, ?_, ?_, hM2.fm.to hff hM2.fm.im (fun b j hb hj => hM2.fm.sep b j hb (hlv2 j (hlv1 j hj))) fun _ _ _ => rfl⟩, ?_, ?_, ⟨hG2.agree, ?_, ?_, ?_, hG2.gle, ?_, hG2.os, hG2.tape, hG2.output, hG2.size, hG2.keep, fun b hb => (by
    rcases hG2.ffresh b (hb.of hff) with h3 | ⟨m, m1, m2, m3, m4⟩ | h3
    · exact .inl h3
    · exact .inr (.inl ⟨m, m1, m2, fun hm => m3 (hlv2 m (hlv1 m hm)), m4⟩)
    · exact .inr (.inr h3))⟩, hk _ _ (G.plus_le (hM.sep _ hlv) _) G.plus_at⟩
  · cases out with
    | ret x => cases he; show Ending.returned _ = _; rw [re_frz rfl]
    | pan x => cases he; show Ending.panicked _ = _; rw [re_frz rfl]
  · cases out with
    | ret x => exact frz_junk hj
    | pan x => exact frz_junk hj
  · intro k c o hc ho
    rw [frzC_get, Option.map_eq_some_iff] at hc
    obtain ⟨d, hd, rfl⟩ := hc
    rw [obj_frz rfl] at ho
    exact hM2.lo k d o (by rw [hget k (live_of hd (obj_here ho))]; exact hd) ho
  · exact fun i j hi hj e => hM2.inj i j (hlv2 i (hlv1 i hi)) (hlv2 j (hlv1 j hj)) e
  · exact fun k hk => hM2.sep k (hlv2 k (hlv1 k hk))
  · intro k ty' c hc
    rw [frzC_get, Option.map_eq_some_iff] at hc
    obtain ⟨d, hd, hdc⟩ := hc
    cases d with
    | cells ty2 l =>
      simp only [Chunk.frz, Chunk.cells.injEq] at hdc
      rw [← hdc.2, frzC_length]
      refine scL_frz l ?_
      have := hL k ty2 l (by rw [List.getElem?_append_left (List.getElem?_eq_some_iff.1 hd).1]; exact hd)
      simpa using this
    | vals => cases hdc
    | gone => cases hdc
    | raw => cases hdc
    | row => cases hdc
    | fam => cases hdc
  · rw [frzC_length]
    cases out with
    | ret x => exact sc_frz x hscx
    | pan x => exact sc_frz x hscx
  · rw [frzC_length]; exact hlen
  · exact fun k hk hl => hG2.dead k hk (hlv2 k (hlv1 k hl))
  · intro k hk hl
    rcases hG2.fresh k hk (hlv2 k (hlv1 k hl)) with h4 | ⟨m, m1, m2, m3, m4⟩
    · exact .inl h4
    · exact .inr ⟨m, m1, m2, fun hm => m3 (hlv2 m (hlv1 m hm)), m4⟩
  · intro b h4 h5
    rcases hG2.gnew b h4 h5 with h6 | ⟨m, m1, m2, m3, m4⟩
    · exact .inl h6
    · exact .inr ⟨m, m1, m2, fun hm => m3 (hlv2 m (hlv1 m hm)), m4⟩

/-- What the given up block tells. -/
theorem at_frz {g : G} {b : Nat} {ty : TypeId} {xs : List Value} (h : g b = some (.cells xs.toArray ty (0, 0))) : g.at ⟨b, 0, none⟩ xs :=
  ⟨rfl, _, _, _, h, fun i _ => by simp⟩

section
variable {P : Program} {L : List Chunk} {g : G} {op : Op} {args : List Operand} {vs : List SV} {chk : List Nat → List Nat → Bool} {K : Out → List Chunk → G → Prop}

/-- It writes a block at hand, whose cells may lead to blocks at hand. -/
theorem prim_setS (b : Nat) (ids : List Nat) (hc : chk [] (b :: ids) = true) (d : Chunk) (hd : L[b]? = some d) (hlv : d.here = true) (c : Chunk) (hcs : scC L.length c = true) (r : SV) (hr : r.sc L.length = true)
    (hrun : ∀ (o : Oper) (a : Act) (σ : Nat → Nat) (w : World), o.op = op → (∀ p ∈ args.zip vs, a.eval p.1 = p.2.re σ) → Sees (b :: ids) L g σ w → ∃ ob dn, c.obj σ = some ob ∧
      (execOp a.eval o).run P w = .ok (.value (r.re σ)) { ({ w with heap := w.heap.setIfInBounds (σ b) ob } : World) with drawn := dn }) (k : K (.ret r) (L.set b c) g) : PrimX P op args vs L g chk K := by
  refine PrimX_of [] (b :: ids) hc fun o L' σ a w ho hl hm hsc hv hev _ hids => ?_
  obtain ⟨ob, dn, hob, hrun⟩ := hrun o a σ w ho hev (sees_of hm hids)
  unfold Oper.wp
  rw [hrun]
  have hbL : L'[b]? = some d := by rw [hids b (by simp), hd]
  have hlive := live_of hbL hlv
  have hrd : redo (b :: ids) 0 L' (L.set b c) = L'.set b c := by
    have h := redo_app (ids := b :: ids) (L' := L') (M := L.set b c) (M' := L'.set b c) (N := []) (by rw [List.length_set, hl.1]) (by simp) (fun j hj hjm => (by
        by_cases hjk : b = j
        · subst hjk
          rw [List.getElem?_set_self (by rw [← hl.1]; omega), List.getElem?_set_self (by omega)]
        · rw [List.getElem?_set_ne hjk, List.getElem?_set_ne hjk]
          exact (hids j hjm).symm)) (fun j _ hjm => (List.getElem?_set_ne (fun e => hjm (by simp [e]))).symm)
    simpa using h
  refine ⟨_, r, L.set b c, g, σ, rfl, fun _ => rfl, by simpa using hr, ⟨by simp, fun k hk hn => List.getElem?_set_ne (fun e => hn (by simp [e]))⟩, ?_, scH_set hsc hcs, ?_, k⟩
  · rw [hrd]; exact (hm.write hlive c ob hob).drew _
  · rw [hrd]; exact ((Goes.refl σ L' g w).write hlive c ob (obj_nfam hob)).drew _

/-- copy(dst, s): s a string no longer than dst, dst a stretch of a block at hand. -/
theorem prim_copyS {c : Call} {x y : Operand} {dT sT elem : TypeId} {b off n cap : Nat} {s : ByteArray} (ty : TypeId) (cur : List SV) (hcal : c.callee = .builtin .copy) (hargs : c.args.toList = [x, y]) (htys : c.argTypes = #[dT, sT]) (hu : P.underlying dT = some (.slice elem)) (hs : (P.info? elem).map (·.size) = some 1)
    (hL : L[b]? = some (.cells ty cur)) (hle : s.size ≤ n) (hfit : off + s.size ≤ cur.length) (hcs : scL L.length cur = true) (hc : chk [] [b] = true)
    (k : K (.ret (.v (.int .i64 s.size))) (L.set b (.cells ty (cur.take off ++ ((Go.Lib.strCells s).map SV.v ++ cur.drop (off + s.size))))) g) :
    PrimX P (.call c) [x, y] [.slc b off n cap, .v (.string s)] L g chk K := by
  have hcs2 : scL L.length (cur.take off ++ ((Go.Lib.strCells s).map SV.v ++ cur.drop (off + s.size))) = true := by
    rw [scL_append, scL_append]
    exact ⟨scL_take _ hcs, scL_v _, scL_drop _ hcs⟩
  refine prim_setS b [] hc _ hL rfl (.cells ty (cur.take off ++ ((Go.Lib.strCells s).map SV.v ++ cur.drop (off + s.size)))) hcs2 (.v (.int .i64 s.size)) rfl (fun o a σ w ho hev hse => ?_) k
  have e1 : a.eval x = .slice (some ⟨σ b, off, none⟩) n cap := hev (x, .slc b off n cap) (by simp)
  have e2 : a.eval y = .string s := hev (y, .v (.string s)) (by simp)
  have e3 : c.args.map a.eval = #[.slice (some ⟨σ b, off, none⟩) n cap, .string s] := by apply Array.ext'; simp [hargs, e1, e2]
  have hheap := hse.lo b _ _ (by simp) hL rfl
  have hr := Go.Lib.run_copy_row_string (P := P) w dT sT o.type elem (σ b) off n cap s _ ty hu hs hheap hle (by simpa [reL_length] using hfit)
  rw [setRow_eq hheap] at hr
  refine ⟨_, w.drawn, rfl, ?_⟩
  simp only [execOp, ho, resolve, hcal, Sem.run_bind, Sem.run_pure, Result.andThen_ok, invoke, builtin, htys, e3, hr]
  have e4 : (reL σ (cur.take off ++ ((Go.Lib.strCells s).map SV.v ++ cur.drop (off + s.size)))).toArray = ((reL σ cur).toArray.toList.take off ++ Go.Lib.byteCells s.data.toList ++ (reL σ cur).toArray.toList.drop (off + s.size)).toArray := by
    rw [reL_append, reL_append, reL_v, reL_take, reL_drop, List.append_assoc]
    rfl
  rw [e4]
  rfl
end

end Go.Sx
end

/- A symbolic executor of my own, part 28: readers of bytes, in plain Lean. Conditions: none. -/
section
namespace Go.Sx

/-- A reader that keeps its first error: what it reads, where it stands, where the text begins, the error and its place. -/
structure RdV where
  s : ByteArray
  at_ : Nat
  off : Int
  err : Option (Int × Int)
def RdV.ok (r : RdV) : Prop := r.at_ ≤ r.s.size ∧ r.s.size ≤ 1000000000000 ∧ 0 ≤ r.off ∧ r.off ≤ 1000000000000000
def RdV.place (r : RdV) : Int := r.off + r.at_
def RdV.fail (r : RdV) (n pl : Int) : RdV := match r.err with
  | none => { r with err := some (n, pl) }
  | some _ => r
def RdV.bytes (r : RdV) (n : Int) : ByteArray × RdV := match r.err with
  | some _ => (⟨#[]⟩, r)
  | none => if n < 0 then (⟨#[]⟩, r.fail 2 r.place) else if (r.s.size : Int) - r.at_ < n then (⟨#[]⟩, r.fail 7 r.place) else (r.s.extract r.at_ (r.at_ + n.toNat), { r with at_ := r.at_ + n.toNat })
/-- A row of bytes as a number, the highest first. -/
def numL (l : List UInt8) : Nat := l.foldl (fun x b => x * 256 + b.toNat) 0
theorem numL_snoc (l : List UInt8) (b : UInt8) : numL (l ++ [b]) = numL l * 256 + b.toNat := by simp [numL, List.foldl_append]
theorem numL_take (l : List UInt8) (k : Nat) (b : UInt8) (h : l[k]? = some b) : numL (l.take (k + 1)) = numL (l.take k) * 256 + b.toNat := by
  rw [List.take_add_one, h]; exact numL_snoc _ _
theorem numL_lt : ∀ (n : Nat) (l : List UInt8), l.length ≤ n → numL l < 256 ^ n := by
  intro n
  induction n with
  | zero => intro l h; have : l = [] := List.eq_nil_of_length_eq_zero (by omega); subst this; simp [numL]
  | succ n ih =>
    intro l h
    rcases List.eq_nil_or_concat l with rfl | ⟨l', b, rfl⟩
    · simp [numL]; exact Nat.pow_pos (by decide)
    · rw [List.concat_eq_append, numL_snoc]
      have := ih l' (by simp at h; omega)
      have hb := b.toNat_lt
      rw [Nat.pow_succ]
      omega
def RdV.num (r : RdV) (n : Nat) : Nat × RdV := (numL (r.bytes n).1.data.toList, (r.bytes n).2)
/-- How many zeros ahead. -/
def zat (l : List UInt8) : Nat := (l.takeWhile (· == 0)).length
theorem zat_eq : ∀ (l : List UInt8) (k : Nat), (∀ j, j < k → l[j]? = some 0) → (l.length = k ∨ ∃ b, l[k]? = some b ∧ b ≠ 0) → zat l = k
  | [], 0, _, _ => rfl
  | [], k + 1, h, _ => by have := h 0 (by omega); simp at this
  | b :: l, 0, _, h => by
    rcases h with h | ⟨c, hc, hne⟩
    · simp at h
    · simp at hc; subst hc; simp [zat, hne]
  | b :: l, k + 1, h, h2 => by
    have h0 := h 0 (by omega)
    simp at h0
    subst h0
    have := zat_eq l k (fun j hj => by have := h (j + 1) (by omega); simpa using this) (by
      rcases h2 with h2 | ⟨c, hc, hne⟩
      · left; simpa using h2
      · right; exact ⟨c, by simpa using hc, hne⟩)
    simp only [zat] at this ⊢
    simp [this]
theorem zat_le (l : List UInt8) : zat l ≤ l.length := (List.takeWhile_sublist (l := l) _).length_le
def RdV.rest (r : RdV) : List UInt8 := r.s.data.toList.drop r.at_
def RdV.zeros (r : RdV) : RdV := match r.err with
  | some _ => r
  | none => if r.at_ + zat r.rest = r.s.size then { r with at_ := r.s.size } else { r with at_ := r.at_ + zat r.rest, err := some (15, r.off + (r.at_ + zat r.rest : Nat)) }

theorem RdV.fail_ok {r : RdV} (h : r.ok) (n pl : Int) : (r.fail n pl).ok := by
  unfold RdV.fail; split <;> exact h
theorem RdV.bytes_ok {r : RdV} (h : r.ok) (n : Int) : (r.bytes n).2.ok := by
  unfold RdV.bytes
  split
  · exact h
  · split
    · exact RdV.fail_ok h _ _
    · split
      · exact RdV.fail_ok h _ _
      · obtain ⟨h1, h2, h3, h4⟩ := h
        exact ⟨by simp only; omega, h2, h3, h4⟩
theorem RdV.zeros_ok {r : RdV} (h : r.ok) : r.zeros.ok := by
  unfold RdV.zeros
  obtain ⟨h1, h2, h3, h4⟩ := h
  split
  · exact ⟨h1, h2, h3, h4⟩
  · split
    · exact ⟨Nat.le_refl _, h2, h3, h4⟩
    · refine ⟨?_, h2, h3, h4⟩
      have := zat_le r.rest
      simp only [RdV.rest, List.length_drop, Array.length_toList] at this ⊢
      have e : r.s.data.size = r.s.size := rfl
      omega
theorem RdV.bytes_size (r : RdV) (n : Nat) : (r.bytes n).1.size ≤ n := by
  unfold RdV.bytes
  split
  · exact Nat.zero_le _
  · rw [if_neg (by omega)]
    split
    · exact Nat.zero_le _
    · simp only [ByteArray.size_extract, Int.toNat_natCast]; omega
/-- The three ways. -/
theorem RdV.bytes_dead {r : RdV} {e : Int × Int} (h : r.err = some e) (n : Int) : r.bytes n = (⟨#[]⟩, r) := by simp [RdV.bytes, h]
theorem RdV.bytes_short {r : RdV} (h : r.err = none) {n : Int} (h0 : 0 ≤ n) (hn : (r.s.size : Int) - r.at_ < n) : r.bytes n = (⟨#[]⟩, { r with err := some (7, r.place) }) := by
  simp [RdV.bytes, h, RdV.fail, hn, show ¬ n < 0 by omega]
theorem RdV.bytes_good {r : RdV} (h : r.err = none) {n : Int} (h0 : 0 ≤ n) (hn : ¬ (r.s.size : Int) - r.at_ < n) : r.bytes n = (r.s.extract r.at_ (r.at_ + n.toNat), { r with at_ := r.at_ + n.toNat }) := by
  simp [RdV.bytes, h, hn, show ¬ n < 0 by omega]
theorem RdV.bytes_err {r : RdV} {e : Int × Int} (h : r.err = some e) (n : Int) : (r.bytes n).2.err = some e := by rw [RdV.bytes_dead h]; exact h
theorem RdV.zeros_err {r : RdV} {e : Int × Int} (h : r.err = some e) : r.zeros = r := by simp [RdV.zeros, h]
theorem RdV.fail_err {r : RdV} {e : Int × Int} (h : r.err = some e) (n pl : Int) : r.fail n pl = r := by simp [RdV.fail, h]

/-- A cursor that throws. -/
structure CurV where
  s : ByteArray
  at_ : Nat
  off : Int
def CurV.ok (c : CurV) : Prop := c.at_ ≤ c.s.size ∧ c.s.size ≤ 1000000000000 ∧ 0 ≤ c.off ∧ c.off ≤ 1000000000000000
def CurV.cut (c : CurV) (n : Nat) : ByteArray := c.s.extract c.at_ (c.at_ + n)
def CurV.fwd (c : CurV) (n : Nat) : CurV := { c with at_ := c.at_ + n }
theorem CurV.fwd_ok {c : CurV} (h : c.ok) {n : Nat} (hn : c.at_ + n ≤ c.s.size) : (c.fwd n).ok := ⟨hn, h.2⟩
theorem cut_size {c : CurV} {n : Nat} (hn : c.at_ + n ≤ c.s.size) : (c.cut n).size = n := by
  simp only [CurV.cut, ByteArray.size_extract]; omega

end Go.Sx
end

/- A symbolic executor of my own, part 29: bytes copied over an array, told cell by cell; bits cleared. Conditions: none. -/
section
namespace Go.Sx

theorem prim_copyC {P : Program} {L : List Chunk} {g : G} {chk : List Nat → List Nat → Bool} {K : Out → List Chunk → G → Prop} {c : Call} {x y : Operand} {dT sT elem : TypeId} {b off n cap : Nat} {s : ByteArray} (ty : TypeId) (cur cells : List SV) (hcal : c.callee = .builtin .copy) (hargs : c.args.toList = [x, y]) (htys : c.argTypes = #[dT, sT]) (hu : P.underlying dT = some (.slice elem)) (hs : (P.info? elem).map (·.size) = some 1)
    (hL : L[b]? = some (.cells ty cur)) (hle : s.size ≤ n) (hfit : off + s.size ≤ cur.length) (hcs : scL L.length cur = true) (hc : chk [] [b] = true) (hcells : cur.take off ++ ((Go.Lib.strCells s).map SV.v ++ cur.drop (off + s.size)) = cells)
    (k : K (.ret (.v (.int .i64 s.size))) (L.set b (.cells ty cells)) g) :
    PrimX P (.call c) [x, y] [.slc b off n cap, .v (.string s)] L g chk K := by
  subst hcells
  exact prim_copyS ty cur hcal hargs htys hu hs hL hle hfit hcs hc k

theorem list6 {l : List UInt8} (h : l.length = 6) : l = [l.getD 0 0, l.getD 1 0, l.getD 2 0, l.getD 3 0, l.getD 4 0, l.getD 5 0] := by
  match l, h with
  | [a, b, c, d, e, f], _ => rfl
theorem list4 {l : List UInt8} (h : l.length = 4) : l = [l.getD 0 0, l.getD 1 0, l.getD 2 0, l.getD 3 0] := by
  match l, h with
  | [a, b, c, d], _ => rfl
/-- The i-th byte of a string. -/
def byteI (s : ByteArray) (i : Nat) : Int := ((s.data.toList.getD i 0).toNat : Int)
theorem byteI_rng (s : ByteArray) (i : Nat) : 0 ≤ byteI s i ∧ byteI s i ≤ 255 := by
  have := (s.data.toList.getD i 0).toNat_lt
  unfold byteI
  omega
theorem cells6 {s : ByteArray} (h : s.size = 6) : Go.Lib.strCells s = [.int .u8 (byteI s 0), .int .u8 (byteI s 1), .int .u8 (byteI s 2), .int .u8 (byteI s 3), .int .u8 (byteI s 4), .int .u8 (byteI s 5)] := by
  have hl : s.data.toList.length = 6 := by rw [Array.length_toList]; exact h
  rw [Go.Lib.strCells, list6 hl]
  rfl
theorem cells4 {s : ByteArray} (h : s.size = 4) : Go.Lib.strCells s = [.int .u8 (byteI s 0), .int .u8 (byteI s 1), .int .u8 (byteI s 2), .int .u8 (byteI s 3)] := by
  have hl : s.data.toList.length = 4 := by rw [Array.length_toList]; exact h
  rw [Go.Lib.strCells, list4 hl]
  rfl
theorem cells0 : Go.Lib.strCells ⟨#[]⟩ = [] := rfl

def CurV.numOf (c : CurV) (n : Nat) : Nat := numL (c.cut n).data.toList
def CurV.rest (c : CurV) : List UInt8 := c.s.data.toList.drop c.at_
/-- What comes behind, by a name: it makes the steps ahead of it cheap. -/
theorem absK {F : List SV → List Chunk → G → KT → Prop} {fr : List SV} {L : List Chunk} {g : G} {K : KT} (h : ∀ K', K' = K → F fr L g K') : F fr L g K := h K rfl

/-- The low bits cleared. -/
theorem andNot_nat (i n : Nat) (hn : n < 2 ^ 63) (hi : i ≤ 62) : n &&& (2 ^ 64 - 1 - (2 ^ i - 1)) = n / 2 ^ i * 2 ^ i := by
  have e1 : 2 ^ 64 - 1 - (2 ^ i - 1) = (2 ^ (64 - i) - 1) * 2 ^ i := by
    rw [Nat.sub_mul, ← Nat.pow_add, show 64 - i + i = 64 by omega, Nat.one_mul]
    have := Nat.two_pow_pos i
    omega
  rw [e1, ← Nat.shiftLeft_eq, ← Nat.shiftLeft_eq, ← Nat.shiftRight_eq_div_pow]
  apply Nat.eq_of_testBit_eq
  intro j
  rw [Nat.testBit_and, Nat.testBit_shiftLeft, Nat.testBit_shiftLeft, Nat.testBit_shiftRight, Nat.testBit_two_pow_sub_one]
  by_cases hj : i ≤ j
  · rw [show i + (j - i) = j by omega]
    by_cases h64 : j < 64
    · simp [hj, show j - i < 64 - i by omega]
    · have : n.testBit j = false := Nat.testBit_lt_two_pow (Nat.lt_of_lt_of_le hn (Nat.pow_le_pow_right (by decide) (by omega)))
      simp [this]
  · simp [hj]
theorem andNotI (i : Nat) {x m : Int} (hm : m = (2 ^ i : Nat) - 1) (h0 : 0 ≤ x) (hb : x < 9223372036854775808) (hi : i ≤ 62) :
    IntKind.i64.wrap ((BitVec.ofInt IntKind.i64.bits x &&& ~~~ BitVec.ofInt IntKind.i64.bits m).toNat : Int) = x / (2 ^ i : Nat) * (2 ^ i : Nat) := by
  obtain ⟨n, rfl⟩ := Int.eq_ofNat_of_zero_le h0
  have hp := Nat.two_pow_pos i
  have hlt : 2 ^ i < 2 ^ 63 := Nat.pow_lt_pow_right (by decide) (by omega)
  have hm' : m = ((2 ^ i - 1 : Nat) : Int) := by rw [hm]; omega
  have hn : n < 2 ^ 63 := by omega
  rw [hm', BitVec.toNat_and, BitVec.toNat_not, bv_nat .i64 n (by simp [IntKind.bits]; omega), bv_nat .i64 (2 ^ i - 1) (by simp [IntKind.bits]; omega)]
  rw [show IntKind.i64.bits = 64 from rfl, andNot_nat i n hn hi]
  have : n / 2 ^ i * 2 ^ i ≤ n := Nat.div_mul_le_self _ _
  rw [wrap64_nat (by omega)]
  push_cast
  rfl

end Go.Sx
end

/- A symbolic executor of my own, part 30: reading in two ways, by a cursor that throws and by a reader that keeps its first error, in plain Lean. Conditions: none. -/
section
namespace Go.Sx
variable {fm : Bool}

/-- An operation told by the model, in a region whose order is drawn: in steps that the kernel takes fast. -/
theorem dR_prim {P : Program} {ds : List Nat} {d : DOp} {acc : List Acc} {fr : List SV} {L : List Chunk} {g : G} {next : List Acc → List SV → List Chunk → G → Prop} {K : KT} {op : Op} {args : List Operand} (hg : d.x.guard = none) (hx : d.x.x = .prim op args)
    (h : njL (args.map (ev fr)) fun vs => PrimX P op args vs L g (chkH (foes acc d.anc)) fun out L1 g1 => match out with
      | .ret r => fR r fun r => fL L1 fun L1 => ifOk (offS (madeOf (foes acc d.anc)) r && offL (madeOf (foes acc d.anc)) L1) (forceO fr d.x.dst r fun fr' => next acc fr' L1 g1)
      | .pan x => K (.pan x) (selF (fun t => !ds.contains t) 0 fr) (selL (fun k => !(madeOf (foes acc d.anc)).contains k) 0 L1) g1) : dStep fm P ds d acc fr L g next K := by
  unfold dStep
  rw [hg]
  unfold dRun
  rw [hx]
  exact h

/-- What comes of a cursor's work: a result, or what is thrown. -/
inductive CR (α : Type) where
  | ok (a : α) (c : CurV)
  | thr (e pl : Int) (c : CurV)
def CM (α : Type) := CurV → CR α
def RM (α : Type) := RdV → α × RdV
def CM.pure {α : Type} (a : α) : CM α := fun c => .ok a c
def CM.bind {α β : Type} (m : CM α) (f : α → CM β) : CM β := fun c => match m c with
  | .ok a c => f a c
  | .thr e pl c => .thr e pl c
def RM.pure {α : Type} (a : α) : RM α := fun r => (a, r)
def RM.bind {α β : Type} (p : RM α) (q : α → RM β) : RM β := fun r => q (p r).1 (p r).2

theorem CM.bind_ok {α β : Type} {m : CM α} {f : α → CM β} {c c' : CurV} {a : α} (h : m c = .ok a c') : CM.bind m f c = f a c' := by simp only [CM.bind, h]
theorem CM.bind_thr {α β : Type} {m : CM α} {f : α → CM β} {c c' : CurV} {e pl : Int} (h : m c = .thr e pl c') : CM.bind m f c = .thr e pl c' := by simp only [CM.bind, h]

theorem RM.bind_eq {α β : Type} {p : RM α} {q : α → RM β} {r r' : RdV} {a : α} (h : p r = (a, r')) : RM.bind p q r = q a r' := by simp only [RM.bind, h]

theorem CM.bind_assoc {α β γ : Type} (m : CM α) (f : α → CM β) (h : β → CM γ) : (m.bind f).bind h = m.bind fun a => (f a).bind h := by
  funext c
  simp only [CM.bind]
  cases m c <;> rfl
theorem RM.bind_assoc {α β γ : Type} (m : RM α) (f : α → RM β) (h : β → RM γ) : (m.bind f).bind h = m.bind fun a => (f a).bind h := rfl
theorem CM.pure_bind {α β : Type} (a : α) (f : α → CM β) : (CM.pure a).bind f = f a := rfl
theorem RM.pure_bind {α β : Type} (a : α) (f : α → RM β) : (RM.pure a).bind f = f a := rfl

/-! ### The cursor's ways -/
def cuEat (n : Nat) : CM ByteArray := fun c => if c.at_ + n ≤ c.s.size then .ok (c.cut n) (c.fwd n) else .thr 7 (c.off + c.at_) c
def cuNum (n : Nat) : CM Nat := fun c => if c.at_ + n ≤ c.s.size then .ok (c.numOf n) (c.fwd n) else .thr 7 (c.off + c.at_) c
def cuAddr : CM ByteArray := cuEat 6
def cuWant (s : ByteArray) : CM Unit := fun c => if c.at_ + s.size ≤ c.s.size then (if c.cut s.size = s then .ok () (c.fwd s.size) else .thr 3 (c.off + c.at_) (c.fwd s.size)) else .thr 7 (c.off + c.at_) c
def cuNoughts : CM Unit := fun c => if c.at_ + zat c.rest = c.s.size then .ok () (c.fwd (zat c.rest)) else .thr 15 (c.off + (c.at_ + zat c.rest : Nat)) (c.fwd (zat c.rest))
def cuAt : CM Int := fun c => .ok (c.off + c.at_) c
def cuRest : CM ByteArray := fun c => cuEat (c.s.size - c.at_) c
def cuThrow (b : Bool) (e pl : Int) : CM Unit := fun c => match b with
  | true => .thr e pl c
  | false => .ok () c

/-! ### The reader's ways -/
def rdBytes (n : Nat) : RM ByteArray := fun r => r.bytes n
def rdNum (n : Nat) : RM Nat := fun r => r.num n
def rdAt : RM Int := fun r => (r.place, r)
def rdFail (b : Bool) (e pl : Int) : RM Unit := fun r => ((), match b with
  | true => r.fail e pl
  | false => r)
def rdZeros : RM Unit := fun r => ((), r.zeros)
def rdRest : RM ByteArray := fun r => r.bytes ((r.s.size - r.at_ : Nat) : Int)

/-! ### Both are one -/
def CurV.rd (c : CurV) : RdV := ⟨c.s, c.at_, c.off, none⟩
def Sim {α : Type} (m : CM α) (p : RM α) : Prop := ∀ c : CurV, match m c with
  | .ok a c' => p c.rd = (a, c'.rd)
  | .thr e pl _ => (p c.rd).2.err = some (e, pl)
/-- The first error is kept. -/
def Keeps {α : Type} (p : RM α) : Prop := ∀ (r : RdV) e, r.err = some e → (p r).2.err = some e

theorem Sim.pure {α : Type} (a : α) : Sim (CM.pure a) (RM.pure a) := fun _ => rfl
theorem Keeps.pure {α : Type} (a : α) : Keeps (RM.pure a) := fun _ _ h => h
theorem Sim.bind {α β : Type} {m : CM α} {p : RM α} {f : α → CM β} {q : α → RM β} (h : Sim m p) (hq : ∀ a, Sim (f a) (q a)) (hk : ∀ a, Keeps (q a)) : Sim (m.bind f) (p.bind q) := by
  intro c
  have h1 := h c
  cases hm : m c with
  | ok a c' =>
    rw [hm] at h1
    simp only at h1
    rw [CM.bind_ok hm]
    have h2 := hq a c'
    simp only [RM.bind, h1]
    exact h2
  | thr e pl c' =>
    rw [hm] at h1
    simp only at h1
    rw [CM.bind_thr hm]
    exact hk _ _ _ h1
theorem Keeps.bind {α β : Type} {p : RM α} {q : α → RM β} (h : Keeps p) (hk : ∀ a, Keeps (q a)) : Keeps (p.bind q) := fun r e he => hk _ _ _ (h r e he)
theorem Sim.ite {α : Type} {b : Prop} [Decidable b] {m m' : CM α} {p p' : RM α} (h : b → Sim m p) (h' : ¬ b → Sim m' p') : Sim (if b then m else m') (if b then p else p') := by
  by_cases hb : b
  · rw [if_pos hb, if_pos hb]; exact h hb
  · rw [if_neg hb, if_neg hb]; exact h' hb
theorem Keeps.ite {α : Type} {b : Prop} [Decidable b] {p p' : RM α} (h : Keeps p) (h' : Keeps p') : Keeps (if b then p else p') := by
  by_cases hb : b
  · rw [if_pos hb]; exact h
  · rw [if_neg hb]; exact h'

theorem Sim.eat (n : Nat) : Sim (cuEat n) (rdBytes n) := by
  intro c
  unfold cuEat
  by_cases h : c.at_ + n ≤ c.s.size
  · rw [if_pos h]
    exact (RdV.bytes_good rfl (by omega) (by show ¬ (c.s.size : Int) - (c.at_ : Int) < n; omega)).trans (by simp [CurV.cut, CurV.rd, CurV.fwd])
  · rw [if_neg h]
    show (RdV.bytes _ _).2.err = _
    rw [RdV.bytes_short rfl (by omega) (by show (c.s.size : Int) - (c.at_ : Int) < n; omega)]
    rfl
theorem Keeps.bytes (n : Nat) : Keeps (rdBytes n) := fun _ _ h => RdV.bytes_err h n
theorem Sim.num (n : Nat) : Sim (cuNum n) (rdNum n) := by
  intro c
  have h1 := Sim.eat n c
  unfold cuEat at h1
  unfold cuNum
  by_cases h : c.at_ + n ≤ c.s.size
  · rw [if_pos h] at h1 ⊢
    have h1 : RdV.bytes _ _ = _ := h1
    show RdV.num _ _ = _
    rw [RdV.num, h1]
    rfl
  · rw [if_neg h] at h1 ⊢
    exact h1
theorem Keeps.num (n : Nat) : Keeps (rdNum n) := fun _ _ h => RdV.bytes_err h n
theorem Sim.at_ : Sim cuAt rdAt := fun _ => rfl
theorem Keeps.at_ : Keeps rdAt := fun _ _ h => h
theorem Sim.fail (b : Bool) (e pl : Int) : Sim (cuThrow b e pl) (rdFail b e pl) := by
  intro c
  cases b <;> rfl
theorem Keeps.fail (b : Bool) (e pl : Int) : Keeps (rdFail b e pl) := by
  intro r x h
  cases b
  · exact h
  · show (r.fail e pl).err = _
    rw [RdV.fail_err h]; exact h
theorem Sim.noughts : Sim cuNoughts rdZeros := by
  intro c
  unfold cuNoughts
  by_cases h : c.at_ + zat c.rest = c.s.size
  · rw [if_pos h]
    show ((), RdV.zeros _) = _
    have h' : c.rd.at_ + zat c.rd.rest = c.rd.s.size := h
    have e : c.rd.zeros = (c.fwd (zat c.rest)).rd := by
      unfold RdV.zeros
      rw [show c.rd.err = none from rfl]
      simp only [if_pos h']
      show RdV.mk c.s c.s.size c.off none = RdV.mk c.s (c.at_ + zat c.rest) c.off none
      rw [h]
    rw [e]
  · rw [if_neg h]
    have h' : ¬ c.rd.at_ + zat c.rd.rest = c.rd.s.size := h
    show (RdV.zeros _).err = _
    unfold RdV.zeros
    rw [show c.rd.err = none from rfl]
    simp only [if_neg h']
    rfl
theorem Keeps.zeros : Keeps rdZeros := fun r e h => by
  show (RdV.zeros _).err = _
  rw [RdV.zeros_err h]; exact h
/-- Just these bytes: what a reader does instead. -/
def rdWant (s : ByteArray) : RM Unit := rdAt.bind fun a => (rdBytes s.size).bind fun t => rdFail (decide (t ≠ s)) 3 a
theorem rdWant_eq {s : ByteArray} {r r1 r2 : RdV} {t : ByteArray} {pl : Int} (h : rdBytes s.size r = (t, r1)) (hp : r.place = pl) (h2 : (rdFail (decide (t ≠ s)) 3 pl r1).2 = r2) : rdWant s r = ((), r2) := by
  subst h2 hp
  simp only [rdWant, RM.bind, rdAt, h, rdFail]
theorem rdFail_eq {b : Bool} {e pl : Int} {r r2 : RdV} (h : (rdFail b e pl r).2 = r2) : rdFail b e pl r = ((), r2) := by
  subst h; rfl
theorem rdFail_err {b : Bool} {e pl : Int} {r : RdV} {p : Int × Int} (h : r.err = some p) : (rdFail b e pl r).2 = r := by
  cases b
  · rfl
  · exact RdV.fail_err h e pl
theorem Sim.want (s : ByteArray) : Sim (cuWant s) (rdWant s) := by
  intro c
  have h1 := Sim.eat s.size c
  unfold cuEat at h1
  unfold cuWant
  by_cases h : c.at_ + s.size ≤ c.s.size
  · rw [if_pos h] at h1 ⊢
    have h1 : rdBytes s.size c.rd = _ := h1
    by_cases e : c.cut s.size = s
    · rw [if_pos e]
      simp only [rdWant, RM.bind, rdAt, h1, e]
      simp [rdFail]
    · rw [if_neg e]
      simp only [rdWant, RM.bind, rdAt, h1]
      simp [rdFail, e]
      rfl
  · rw [if_neg h] at h1 ⊢
    have h1 : (rdBytes s.size c.rd).2.err = _ := h1
    exact Keeps.fail _ _ _ _ _ h1
theorem Keeps.want (s : ByteArray) : Keeps (rdWant s) := Keeps.bind Keeps.at_ fun _ => Keeps.bind (Keeps.bytes _) fun _ => Keeps.fail _ _ _
theorem Sim.rest : Sim cuRest rdRest := fun c => Sim.eat (c.s.size - c.at_) c
theorem Keeps.rest : Keeps rdRest := fun _ _ h => RdV.bytes_err h _

/-- Only where nothing was wrong. -/
def rdIfOk {α : Type} (q : RM α) (d : α) : RM α := fun r => match r.err with
  | none => q r
  | some _ => (d, r)
theorem Sim.ifOk {α : Type} {m : CM α} {q : RM α} {d : α} (h : Sim m q) : Sim m (rdIfOk q d) := h
theorem Keeps.ifOk {α : Type} {q : RM α} {d : α} : Keeps (rdIfOk q d) := by
  intro r e h
  show (rdIfOk q d r).2.err = _
  unfold rdIfOk
  rw [h]
  exact h
theorem rdIfOk_none {α : Type} {q : RM α} {d : α} {r : RdV} (h : r.err = none) : rdIfOk q d r = q r := by unfold rdIfOk; rw [h]
theorem rdIfOk_some {α : Type} {q : RM α} {d : α} {r : RdV} {e : Int × Int} (h : r.err = some e) : rdIfOk q d r = (d, r) := by unfold rdIfOk; rw [h]
/-- So many numbers. -/
def cuNums (n : Nat) : Nat → List Nat → CM (List Nat)
  | 0, l => CM.pure l
  | k + 1, l => (cuNum n).bind fun x => cuNums n k (l ++ [x])
def rdNums (n : Nat) : Nat → List Nat → RM (List Nat)
  | 0, l => RM.pure l
  | k + 1, l => (rdNum n).bind fun x => rdNums n k (l ++ [x])
theorem Keeps.nums (n : Nat) : ∀ k l, Keeps (rdNums n k l)
  | 0, _ => Keeps.pure _
  | k + 1, l => Keeps.bind (Keeps.num n) fun _ => Keeps.nums n k _
theorem Sim.nums (n : Nat) : ∀ k l, Sim (cuNums n k l) (rdNums n k l)
  | 0, _ => Sim.pure _
  | k + 1, l => Sim.bind (Sim.num n) (fun _ => Sim.nums n k _) fun _ => Keeps.nums n k _

/-- A text from its head on: what both come to. -/
theorem Sim.run {α : Type} {m : CM α} {p : RM α} (h : Sim m p) (s : ByteArray) :
    (∀ a c, m ⟨s, 0, 0⟩ = .ok a c → (p ⟨s, 0, 0, none⟩).1 = a ∧ (p ⟨s, 0, 0, none⟩).2.err = none) ∧ ∀ e pl c, m ⟨s, 0, 0⟩ = .thr e pl c → (p ⟨s, 0, 0, none⟩).2.err = some (e, pl) := by
  have h1 := h ⟨s, 0, 0⟩
  refine ⟨fun a c hm => ?_, fun e pl c hm => ?_⟩
  · rw [hm] at h1
    have h1 : p ⟨s, 0, 0, none⟩ = (a, c.rd) := h1
    rw [h1]
    exact ⟨rfl, rfl⟩
  · rw [hm] at h1
    exact h1
end Go.Sx
end

/- A symbolic executor of my own, part 31: slices that grow from nil on; blocks that are given up when a function ends. Conditions: none; it speaks of any program. -/
section
namespace Go.Sx

/-- **The block made last is given up**, one of plain cells. -/
theorem Meets.freezeV {P : Program} {f : FuncId} {args : List SV} {L : List Chunk} {g : G} {post post' : Out → List Chunk → G → Prop} (h : Meets P f args L g post)
    (hp : ∀ out L' g', post out L' g' → post' out L' g' ∨ ∃ (L1 : List Chunk) (ty : TypeId) (xs : List Value), L' = L1 ++ [.vals ty xs] ∧ L.length ≤ L1.length ∧ ∀ b g'', G.le g' g'' → g'' b = some (.cells xs.toArray ty (0, 0)) → post' (out.frz L1.length b) (frzC L1.length b L1) g'') : Meets P f args L g post' := by
  refine ⟨h.1, fun σ w h1 h2 h3 => (h.2 σ w h1 h2 h3).mono ?_⟩
  rintro e w' ⟨out, L', g', σ', he, hj, hM, hL, hs, hG, hk⟩
  rcases hp out L' g' hk with hk | ⟨L1, ty, xs, rfl, hlen, hk⟩
  · exact ⟨out, L', g', σ', he, hj, hM, hL, hs, hG, hk⟩
  have hlast : (L1 ++ [Chunk.vals ty xs])[L1.length]? = some (.vals ty xs) := by simp
  have hob : (Chunk.vals ty xs).obj σ' = some (.cells xs.toArray ty (0, 0)) := rfl
  have hlv : live (L1 ++ [Chunk.vals ty xs]) L1.length := live_of hlast rfl
  have hM2 := hM.freeze hlast hob
  have hG2 := hG.freeze hM hlast hob
  have hset : (L1 ++ [Chunk.vals ty xs]).set L1.length .gone = L1 ++ [Chunk.gone] := by simp
  rw [hset] at hM2 hG2
  have hget : ∀ j, live L1 j → (L1 ++ [Chunk.gone])[j]? = L1[j]? := fun j hj => List.getElem?_append_left (live_lt hj)
  have hlv1 : ∀ j, live (frzC L1.length (σ' L1.length) L1) j → live L1 j := fun j hj => by
    obtain ⟨c, hc, hh⟩ := live_get hj
    rw [frzC_get, Option.map_eq_some_iff] at hc
    obtain ⟨d, hd, rfl⟩ := hc
    exact live_of hd (by rwa [here_frz] at hh)
  have hlv2 : ∀ j, live L1 j → live (L1 ++ [Chunk.gone]) j := fun j hj => (live_congr (hget j hj)).2 hj
  have hlv3 : ∀ j, live L1 j → live (frzC L1.length (σ' L1.length) L1) j := fun j hj => by
    obtain ⟨c, hc, hh⟩ := live_get hj
    exact live_of (c := c.frz _ _) (by rw [frzC_get, hc]; rfl) (by rw [here_frz]; exact hh)
  have hlv4 : ∀ j, live (L1 ++ [Chunk.gone]) j → live L1 j := fun j hj => by
    obtain ⟨c, hc, hh⟩ := live_get hj
    rcases getElem?_append_one hc with ⟨_, h2⟩ | ⟨_, rfl⟩
    · exact live_of h2 hh
    · cases hh
  have hscx : out.sv.sc (L1.length + 1) = true := by simpa using hs
  have hff : ∀ (j : Nat) (H : G), (frzC L1.length (σ' L1.length) L1)[j]? = some (Chunk.fam H) → (L1 ++ [Chunk.gone])[j]? = some (Chunk.fam H) := fun j H hj => by
    have := frz_fam j H hj
    rw [List.getElem?_append_left (List.getElem?_eq_some_iff.1 this).1]
    exact this
  refine ⟨out.frz L1.length (σ' L1.length), frzC L1.length (σ' L1.length) L1, _, σ', ?_, ?_, ⟨hM2.im, ?_, ?_, ?_, hM2.fm.to hff hM2.fm.im (fun b j hb hj => hM2.fm.sep b j hb (hlv2 j (hlv1 j hj))) fun _ _ _ => rfl⟩, ?_, ?_, ⟨hG2.agree, ?_, ?_, ?_, hG2.gle, ?_, hG2.os, hG2.tape, hG2.output, hG2.size, hG2.keep, fun b hb => (by
    rcases hG2.ffresh b (hb.of hff) with h3 | ⟨m, m1, m2, m3, m4⟩ | h3
    · exact .inl h3
    · exact .inr (.inl ⟨m, m1, m2, fun hm => m3 (hlv2 m (hlv1 m hm)), m4⟩)
    · exact .inr (.inr h3))⟩, hk _ _ (G.plus_le (hM.sep _ hlv) _) G.plus_at⟩
  · cases out with
    | ret x => cases he; show Ending.returned _ = _; rw [re_frz rfl]
    | pan x => cases he; show Ending.panicked _ = _; rw [re_frz rfl]
  · cases out with
    | ret x => exact frz_junk hj
    | pan x => exact frz_junk hj
  · intro k c o hc ho
    rw [frzC_get, Option.map_eq_some_iff] at hc
    obtain ⟨d, hd, rfl⟩ := hc
    rw [obj_frz rfl] at ho
    exact hM2.lo k d o (by rw [hget k (live_of hd (obj_here ho))]; exact hd) ho
  · exact fun i j hi hj e => hM2.inj i j (hlv2 i (hlv1 i hi)) (hlv2 j (hlv1 j hj)) e
  · exact fun k hk => hM2.sep k (hlv2 k (hlv1 k hk))
  · intro k ty' c hc
    rw [frzC_get, Option.map_eq_some_iff] at hc
    obtain ⟨d, hd, hdc⟩ := hc
    cases d with
    | cells ty2 l =>
      simp only [Chunk.frz, Chunk.cells.injEq] at hdc
      rw [← hdc.2, frzC_length]
      refine scL_frz l ?_
      have := hL k ty2 l (by rw [List.getElem?_append_left (List.getElem?_eq_some_iff.1 hd).1]; exact hd)
      simpa using this
    | vals => cases hdc
    | gone => cases hdc
    | raw => cases hdc
    | row => cases hdc
    | fam => cases hdc
  · rw [frzC_length]
    cases out with
    | ret x => exact sc_frz x hscx
    | pan x => exact sc_frz x hscx
  · rw [frzC_length]; exact hlen
  · exact fun k hk hl => hG2.dead k hk (hlv2 k (hlv1 k hl))
  · intro k hk hl
    rcases hG2.fresh k hk (hlv2 k (hlv1 k hl)) with h4 | ⟨m, m1, m2, m3, m4⟩
    · exact .inl h4
    · exact .inr ⟨m, m1, m2, fun hm => m3 (hlv2 m (hlv1 m hm)), m4⟩
  · intro b h4 h5
    rcases hG2.gnew b h4 h5 with h6 | ⟨m, m1, m2, m3, m4⟩
    · exact .inl h6
    · exact .inr ⟨m, m1, m2, fun hm => m3 (hlv2 m (hlv1 m hm)), m4⟩


/-- A place for a block that is to come. -/
theorem loop_gone {P : Program} {n0 : Nat} {gi : G} {m : List Bool} {c : YC} {body : List SV → List Chunk → G → KT → Prop} {fr : List SV} {L : List Chunk} {g : G} {K : KT} (h : LoopW P n0 gi m c body fr (L ++ [.gone]) g K) : LoopW P n0 gi m c body fr L g K := by
  rw [LoopW_eq] at h ⊢
  intro hs hL hn
  obtain ⟨I, n, ρ, fr1, L1, g1, hw, hI, hr⟩ := h (scL_mono (by simp) _ hs) (fun k ty c hk => by
    rcases getElem?_append_one hk with ⟨_, h2⟩ | ⟨_, h2⟩
    · exact scL_mono (by simp) _ (hL k ty c h2)
    · cases h2) (by simp; omega)
  refine ⟨I, n, ρ, fr1, L1, g1, ⟨hw.fix, hw.inj, hw.len, fun k c hk hh => ?_, hw.slots, hw.gs, hw.scF, hw.hscL⟩, hI, hr⟩
  have h1 := hw.blocks k c hk hh
  rcases getElem?_append_one h1 with ⟨_, h2⟩ | ⟨_, h2⟩
  · exact h2
  · rw [← real_ren (ρ), h2] at hh; cases hh

/-- A slice that grows from nil on: n elements, the block that holds them (none ahead of the first). -/
def grS (k n cap : Nat) : SV := match n with
  | 0 => .v (.slice none 0 0)
  | n + 1 => .slc k 0 (n + 1) cap
def grC (ty : TypeId) (n : Nat) (xs sp : List Value) : Chunk := match n with
  | 0 => .gone
  | _ + 1 => .vals ty (xs ++ sp)
def grOk (sz n cap : Nat) (xs sp : List Value) : Prop := xs.length = n * sz ∧ n ≤ cap ∧ cap ≤ 9223372036854775807 ∧ (0 < n → xs.length + sp.length = cap * sz)
theorem grOk.zero (sz : Nat) : grOk sz 0 0 [] [] := ⟨by simp, Nat.le_refl _, by decide, fun h => absurd h (by decide)⟩
/-- One more, behind none. -/
theorem gr_first {sz cap : Nat} {news sp : List Value} (hl : news.length = sz) (h1 : 1 ≤ cap) (h2 : cap ≤ 9223372036854775807) (h3 : sp.length = (cap - 1) * sz) : grOk sz 1 cap news sp := by
  refine ⟨by omega, h1, h2, fun _ => ?_⟩
  obtain ⟨c, rfl⟩ : ∃ c, cap = c + 1 := ⟨cap - 1, by omega⟩
  rw [h3, hl, Nat.add_sub_cancel, Nat.succ_mul]
  omega
/-- One more, behind others. -/
theorem gr_next {sz n cap cap2 : Nat} {xs sp news sp2 : List Value} (h : grOk sz (n + 1) cap xs sp) (hl : news.length = sz) (h1 : n + 1 + 1 ≤ cap2) (h2 : cap2 ≤ 9223372036854775807) (h3 : sp2.length = (cap2 - (n + 1 + 1)) * sz) : grOk sz (n + 1 + 1) cap2 (xs ++ news) sp2 := by
  obtain ⟨k1, k2, k3, k4⟩ := h
  have e : (xs ++ news).length = (n + 1 + 1) * sz := by rw [List.length_append, k1, hl, ← Nat.succ_mul]
  refine ⟨e, h1, h2, fun _ => ?_⟩
  rw [e, h3, ← Nat.add_mul]
  congr 1
  omega
/-- What is asked of what was there, when one comes behind others. -/
theorem gr_bounds {sz n cap : Nat} {xs sp : List Value} (h : grOk sz (n + 1) cap xs sp) : xs.length = (n + 1) * sz ∧ (xs ++ sp).length = cap * sz ∧ n + 1 ≤ cap ∧ cap ≤ 9223372036854775807 :=
  ⟨h.1, by rw [List.length_append]; exact h.2.2.2 (by omega), h.2.1, h.2.2.1⟩

end Go.Sx
end

/- A symbolic executor of my own, part 32: a slice that grew, given up with the function's end, is a slice that no one writes; its last element read and written. Conditions: none; it speaks of any program. -/
section
namespace Go.Sx

def grL (ty : TypeId) (n : Nat) (xs sp : List Value) : List Chunk := match n with
  | 0 => []
  | _ + 1 => [.vals ty (xs ++ sp)]

theorem sliceV_nil {α : Type} (sz : Nat) (f : α → List Value) (Q : α → Prop) (g : G) : SliceV.ok sz f Q g (⟨none, [], 0⟩ : SliceV α) :=
  ⟨⟨by simp, fun h => absurd h (Nat.lt_irrefl 0)⟩, Nat.zero_le _, Nat.le_refl _, Nat.zero_le _, fun x hx => absurd hx (by simp)⟩
theorem sliceV_frz {α : Type} {sz : Nat} {f : α → List Value} {Q : α → Prop} {g : G} {l : List α} {cap b : Nat} {sp : List Value} {ty : TypeId} (h : grOk sz l.length cap (l.flatMap f) sp) (hb : g b = some (.cells (l.flatMap f ++ sp).toArray ty (0, 0))) (hQ : ∀ x ∈ l, Q x) : SliceV.ok sz f Q g ⟨some ⟨b, 0, none⟩, l, cap⟩ := by
  obtain ⟨h1, h2, h3, -⟩ := h
  refine ⟨⟨h1, fun _ => ⟨_, rfl, ?_⟩⟩, ?_, h2, ?_, hQ⟩
  · obtain ⟨a1, c, ty', fz, a2, a3⟩ := at_frz hb
    refine ⟨a1, c, ty', fz, a2, fun i hi => ?_⟩
    have hi : i < (l.flatMap f).length := hi
    rw [a3 i (by rw [List.length_append]; omega), List.getElem?_append_left hi]
  · show _ ≤ maxLen; simp only [maxLen]; omega
  · show _ ≤ maxLen; simp only [maxLen]; omega

theorem SliceV.ok.mono {α : Type} {sz : Nat} {f : α → List Value} {Q Q' : α → Prop} {g g' : G} {s : SliceV α} (h : s.ok sz f Q g) (hl : G.le g g') (hQ : ∀ x, Q x → Q' x) : s.ok sz f Q' g' :=
  ⟨h.1.mono hl, h.2.1, h.2.2.1, h.2.2.2.1, fun x hx => hQ x (h.2.2.2.2 x hx)⟩
/-- **A slice that grew is given up with the function's end.** -/
theorem Meets.freezeSl {P : Program} {f : FuncId} {args : List SV} {g : G} {α : Type} (sz : Nat) (fc : α → List Value) (ty : TypeId) (mk : SV → SV) (Q : α → Prop) (R : List α → Prop) (E : Out → List Chunk → G → Prop)
    (hmk : ∀ b n cap, (mk (.slc 0 0 n cap)).frz 0 b = mk (.v (.slice (some ⟨b, 0, none⟩) n cap)))
    (hQ : ∀ l, R l → ∀ x ∈ l, Q x)
    (h : Meets P f args [] g (fun o L' g' => (∃ (l : List α) (cap : Nat) (sp : List Value), o = .ret (mk (grS 0 l.length cap)) ∧ L' = grL ty l.length (l.flatMap fc) sp ∧ grOk sz l.length cap (l.flatMap fc) sp ∧ R l ∧ G.le g g') ∨ E o L' g')) :
    Meets P f args [] g (fun o L' g' => (∃ s : SliceV α, R s.l ∧ o = .ret (mk (.v (.slice s.a s.l.length s.c))) ∧ L' = [] ∧ s.ok sz fc Q g' ∧ G.le g g') ∨ E o L' g') := by
  refine Meets.freezeV h fun o L' g' hk => ?_
  rcases hk with ⟨l, cap, sp, rfl, rfl, hok, hR, hle⟩ | hE
  · rcases l with _ | ⟨x, l⟩
    · exact .inl (.inl ⟨⟨none, [], 0⟩, hR, rfl, rfl, sliceV_nil _ _ _ _, hle⟩)
    · refine .inr ⟨[], ty, (x :: l).flatMap fc ++ sp, rfl, Nat.le_refl _, fun b g'' hl hb => .inl ⟨⟨some ⟨b, 0, none⟩, x :: l, cap⟩, hR, ?_, rfl, sliceV_frz hok hb (hQ _ hR), fun a o ha => hl a o (hle a o ha)⟩⟩
      show Out.ret ((mk (.slc 0 0 (l.length + 1) cap)).frz 0 b) = _
      rw [hmk]; rfl
  · exact .inl (.inr hE)

/-- The last of many alike. -/
theorem flat_len {α : Type} {sz : Nat} {f : α → List Value} (hf : ∀ x, (f x).length = sz) : ∀ l : List α, (l.flatMap f).length = l.length * sz
  | [] => by simp
  | x :: l => by rw [List.flatMap_cons, List.length_append, hf, flat_len hf l, List.length_cons, Nat.succ_mul]; omega
theorem flat_last {α : Type} {sz : Nat} {f : α → List Value} (hf : ∀ x, (f x).length = sz) (pre : List α) (y : α) (sp : List Value) {i o : Nat} (hi : i < sz) (ho : o = pre.length * sz + i) : ((pre ++ [y]).flatMap f ++ sp)[o]? = (f y)[i]? := by
  subst ho
  have h1 := flat_len hf pre
  rw [List.flatMap_append, List.append_assoc, List.getElem?_append_right (by omega), h1, Nat.add_sub_cancel_left, List.getElem?_append_left (by simp [hf]; omega)]
  simp
theorem flat_set {α : Type} {sz : Nat} {f : α → List Value} (hf : ∀ x, (f x).length = sz) (pre : List α) (y y' : α) (sp : List Value) {i o : Nat} {v : Value} (hi : i < sz) (ho : o = pre.length * sz + i) (hy : f y' = (f y).take i ++ ([v] ++ (f y).drop (i + 1))) :
    ((pre ++ [y]).flatMap f ++ sp).take o ++ ([v] ++ ((pre ++ [y]).flatMap f ++ sp).drop (o + 1)) = (pre ++ [y']).flatMap f ++ sp := by
  subst ho
  have h1 := flat_len hf pre
  have e : (pre ++ [y]).flatMap f ++ sp = pre.flatMap f ++ (f y ++ sp) := by simp
  have e2 : (pre ++ [y']).flatMap f ++ sp = pre.flatMap f ++ (f y' ++ sp) := by simp
  rw [e, e2, hy, List.take_append, List.take_of_length_le (by omega), h1, Nat.add_sub_cancel_left, List.drop_append, List.drop_of_length_le (by omega), h1, show pre.length * sz + i + 1 - pre.length * sz = i + 1 by omega,
    List.take_append, List.drop_append, hf, show i - sz = 0 by omega, show i + 1 - sz = 0 by omega]
  simp
theorem flat_same {α : Type} {sz : Nat} {f : α → List Value} (hf : ∀ x, (f x).length = sz) {n cap : Nat} {pre : List α} {y y' : α} {sp : List Value} (h : grOk sz n cap ((pre ++ [y]).flatMap f) sp) : grOk sz n cap ((pre ++ [y']).flatMap f) sp := by
  have e : ((pre ++ [y']).flatMap f).length = ((pre ++ [y]).flatMap f).length := by rw [flat_len hf, flat_len hf]; simp
  exact ⟨by rw [e]; exact h.1, h.2.1, h.2.2.1, fun k => by rw [e]; exact h.2.2.2 k⟩
theorem flat_app {α : Type} (f : α → List Value) (l : List α) (x : α) : (l ++ [x]).flatMap f = l.flatMap f ++ f x := by simp
theorem flat_app2 {α : Type} (f : α → List Value) (l : List α) (x : α) (sp : List Value) : (l ++ [x]).flatMap f ++ sp = l.flatMap f ++ (f x ++ sp) := by simp
end Go.Sx
end
