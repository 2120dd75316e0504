/- mvrp.Read: what it returns. Conditions: the text is not longer than 10^9 bytes. -/
import Derived.Test.YtfianfpmnglfnaaDoorMvB
import Derived.Test.YtfianfpmnglfnaaDoorBaseC
namespace Go.Proofs.YtfianfpmnglfnaaDoor
open Go.Sx
set_option maxRecDepth 100000
set_option maxHeartbeats 8000000
attribute [local irreducible] Meets

/-- What a reader that is still good has gone: on, in the same text. -/
def Fwd {α : Type} (q : RM α) : Prop := ∀ r, (q r).2.err = none → r.err = none ∧ (q r).2.s = r.s ∧ (q r).2.off = r.off ∧ r.at_ ≤ (q r).2.at_
theorem Fwd.pure {α : Type} (a : α) : Fwd (RM.pure a) := fun _ h => ⟨h, rfl, rfl, Nat.le_refl _⟩
theorem Fwd.bind {α β : Type} {p : RM α} {q : α → RM β} (h : Fwd p) (k : ∀ a, Fwd (q a)) : Fwd (p.bind q) := fun r he => by
  have h1 := k (p r).1 (p r).2 he
  have h2 := h r h1.1
  exact ⟨h2.1, h1.2.1.trans h2.2.1, h1.2.2.1.trans h2.2.2.1, Nat.le_trans h2.2.2.2 h1.2.2.2⟩
theorem Fwd.at_ : Fwd rdAt := fun _ h => ⟨h, rfl, rfl, Nat.le_refl _⟩
theorem Fwd.num (n : Nat) : Fwd (rdNum n) := fun r h => by
  rcases he : r.err with _ | p
  · obtain ⟨h1, h2, h3⟩ := num_fwd (r := r) (r' := (rdNum n r).2) (x := (rdNum n r).1) rfl he h
    exact ⟨rfl, h2, h3, by omega⟩
  · have := Keeps.num n r p he
    rw [this] at h; cases h
theorem Fwd.fail (b : Bool) (e pl : Int) : Fwd (rdFail b e pl) := fun r h => by
  cases b
  · exact ⟨h, rfl, rfl, Nat.le_refl _⟩
  · rcases he : r.err with _ | p
    · have h : (r.fail e pl).err = none := h
      rw [RdV.fail, he] at h; cases h
    · have := Keeps.fail true e pl r p he
      rw [this] at h; cases h
theorem Fwd.ifOk {α : Type} {q : RM α} {d : α} (h : Fwd q) : Fwd (rdIfOk q d) := fun r k => by
  rcases he : r.err with _ | p
  · rw [rdIfOk_none he] at k ⊢
    have := h r k
    rw [he] at this; exact this
  · rw [rdIfOk_some he, he] at k; cases k
theorem Fwd.ite {α : Type} {b : Prop} [Decidable b] {p p' : RM α} (h : Fwd p) (h' : Fwd p') : Fwd (if b then p else p') := by
  by_cases hb : b
  · rw [if_pos hb]; exact h
  · rw [if_neg hb]; exact h'
theorem three_fwd (n : Nat) (pl : Int) : ∀ l acc, Fwd (rdThree n pl l acc)
  | [], _ => Fwd.pure _
  | _ :: t, _ => Fwd.ite (three_fwd n pl t _) (Fwd.bind (Fwd.fail _ _ _) fun _ => three_fwd n pl t _)
theorem evs_fwd (n : Nat) : ∀ f acc, Fwd (rdEvs n f acc)
  | 0, _ => Fwd.pure _
  | f + 1, _ => Fwd.ite (Fwd.ifOk (Fwd.bind Fwd.at_ fun _ => Fwd.bind (Fwd.num 1) fun _ => Fwd.bind (Fwd.fail _ _ _) fun _ => Fwd.bind (three_fwd n _ _ _) fun _ => evs_fwd n f _)) (Fwd.pure _)
theorem attr_fwd : Fwd rdAttr := Fwd.bind Fwd.at_ fun _ => Fwd.bind (Fwd.num 2) fun _ => Fwd.ifOk (Fwd.ite (Fwd.pure _) (Fwd.bind (Fwd.fail _ _ _) fun _ => Fwd.ifOk (Fwd.bind (Fwd.num 2) fun _ => Fwd.bind (evs_fwd _ _ _) fun _ => Fwd.ifOk (Fwd.bind (Fwd.fail _ _ _) fun _ => Fwd.ifOk (Fwd.pure _)))))
/-- Where something is told, nothing was wrong. -/
def Told {α : Type} (q : RM (Option α)) : Prop := ∀ r p, (q r).1 = some p → (q r).2.err = none
theorem Told.none {α : Type} : Told (RM.pure (none : Option α)) := fun _ _ h => by cases h
theorem Told.bind {α β : Type} {p : RM β} {q : β → RM (Option α)} (h : ∀ a, Told (q a)) : Told (p.bind q) := fun r x hx => h _ _ x hx
theorem Told.ifOk {α : Type} {q : RM (Option α)} (h : Told q) : Told (rdIfOk q Option.none) := fun r p hp => by
  rcases he : r.err with _ | e
  · rw [rdIfOk_none he] at hp ⊢; exact h r p hp
  · rw [rdIfOk_some he] at hp; cases hp
theorem Told.one {α : Type} (a : α) : Told (rdIfOk (RM.pure (some a)) Option.none) := fun r p hp => by
  rcases he : r.err with _ | e
  · rw [rdIfOk_none he]; exact he
  · rw [rdIfOk_some he] at hp; cases hp
theorem Told.ite {α : Type} {b : Prop} [Decidable b] {p p' : RM (Option α)} (h : Told p) (h' : Told p') : Told (if b then p else p') := by
  by_cases hb : b
  · rw [if_pos hb]; exact h
  · rw [if_neg hb]; exact h'
theorem attr_told : Told rdAttr := Told.bind fun _ => Told.bind fun _ => Told.ifOk (Told.ite Told.none (Told.bind fun _ => Told.ifOk (Told.bind fun _ => Told.bind fun _ => Told.ifOk (Told.bind fun _ => Told.one _))))
def rdStep (pl : Int) (f : Nat) (l : List AttP) : Option AttP → RM (List AttP)
  | none => RM.pure l
  | some a => (rdFail (decide (40 < l.length + 1)) 4 pl).bind fun _ => rdAttrs pl f (l ++ [a])
theorem rdAttrs_succ (pl : Int) (f : Nat) (l : List AttP) : rdAttrs pl (f + 1) l = rdAttr.bind (rdStep pl f l) := by
  rw [rdAttrs]
  congr 1

/-- Attributes that grow. -/
structure AtL where
  n : Nat
  l : List AttrV
  cap : Nat
  sp : List Value
def atX (l : List AttrV) : List Value := l.flatMap AttrV.cells
def AtL.ok (y : AtL) : Prop := y.l.length = y.n ∧ grOk 3 y.n y.cap (atX y.l) y.sp
theorem atX_snoc (l : List AttrV) (a : AttrV) : atX (l ++ [a]) = atX l ++ a.cells := by simp [atX]
def allEv (g : G) (l : List AttrV) : Prop := ∀ a ∈ l, EvsOk g a.events
theorem allEv.mono {g g' : G} {l : List AttrV} (h : allEv g l) (hl : G.le g g') : allEv g' l := fun a ha => SliceV.ok.mono (h a ha) hl fun _ h => h
theorem allEv.snoc {g : G} {l : List AttrV} {a : AttrV} (h : allEv g l) (k : EvsOk g a.events) : allEv g (l ++ [a]) := fun x hx => by
  rcases List.mem_append.1 hx with hx | hx
  · exact h x hx
  · simp at hx; subst hx; exact k
def meas (k : Nat) : Option (Int × Int) → Nat
  | none => k + 1
  | some _ => k
theorem meas_lt (k : Nat) (e : Option (Int × Int)) : meas k e < meas (k + 1) none := by cases e <;> simp only [meas] <;> omega

theorem mvrpRead_b (s : ByteArray) (g : G) (hs : s.size ≤ 1000000000) : Meets Tryd.prog 18 [.v (.string s)] [] g (fun o L' g' =>
    (∃ (l : List AttrV) (cap : Nat) (sp : List Value), o = .ret (.tup [grS 0 l.length cap, .v .nilIface]) ∧ L' = grL 156 l.length (atX l) sp ∧ grOk 3 l.length cap (atX l) sp ∧ allEv g' l ∧ (∃ r : RdV, r.err = none ∧ rdMvrp (s.size + 1) (rd0 s) = (l.map AttrV.p, r)) ∧ G.le g g') ∨
    (∃ p v, (rdMvrp (s.size + 1) (rd0 s)).2.err = some p ∧ o = .ret (.tup [.v (.slice none 0 0), .v v]) ∧ L' = [] ∧ errAt g' v (some p) ∧ G.le g g')) := by
  have hR0 := rd0_at (show s.size ≤ 1000000000000 by omega) g
  have hs0 : (rd0 s).s = s ∧ (rd0 s).at_ = 0 ∧ (rd0 s).off = 0 ∧ (rd0 s).place = 0 := ⟨rfl, rfl, rfl, rfl⟩
  generalize hM : rdMvrp (s.size + 1) (rd0 s) = M
  obtain ⟨r0, hr0⟩ : ∃ r0, rd0 s = r0 := ⟨_, rfl⟩
  have he0 : r0.err = none := by rw [← hr0]; rfl
  rw [hr0] at hM hR0 hs0
  refine meets_ofJ mixedW Tryd.func18 (by kernel_rfl) x18_ok none ?_
  refine (new_c s 0 g).call0 rfl rfl 0 rfl ?_
  rintro o L1 g0 ⟨rfl, rfl, hg0⟩
  subst g0
  have e0 : rdC ⟨s, 0, 0, none⟩ .nilIface = rdC r0 .nilIface := by rw [← hr0]; rfl
  change CallX _ _ _ [rdC ⟨s, 0, 0, none⟩ .nilIface] _ _ _
  rw [e0]
  refine (num_k hR0 1 (by decide) (by decide)).callS [0] 1 rfl rfl rfl rfl ?_
  intro o L1 g1 hq _
  rcases hx1 : rdNum 1 r0 with ⟨x1, r1⟩
  rw [hx1] at hq
  dsimp only at hq
  obtain ⟨rfl, v1, rfl, hR1⟩ := hq
  have e1 := one_byte r0
  rw [hx1, hs0.2.2.2] at e1
  dsimp only at e1
  obtain ⟨r2, hr2⟩ : ∃ r2, (rdFail (decide ((x1 : Int) ≠ 0)) 3 0 r1).2 = r2 := ⟨_, rfl⟩
  rw [hr2] at e1
  rw [rdMvrp, RM.bind_eq e1] at hM
  have hfw : r2.err = none → (r2.s = s ∧ r2.off = 0) ∧ 0 ≤ r2.at_ := fun h2 => by
    have f1 := Fwd.fail (decide ((x1 : Int) ≠ 0)) 3 0 r1 (by rw [hr2]; exact h2)
    rw [hr2] at f1
    have f0 := Fwd.num 1 r0 (by rw [hx1]; exact f1.1)
    rw [hx1] at f0
    exact ⟨⟨by rw [f1.2.1, f0.2.1, hs0.1], by rw [f1.2.2.1, f0.2.2.1, hs0.2.2.1]⟩, Nat.zero_le _⟩
  change JoinW _ _ _ _ _ _ _ _ _
  refine join_rule [] (α := Value × G) (fun _ => []) (fun y => [rdC r2 y.1]) (fun y => y.2) (fun y => RdAt g y.2 y.1 r2) (fun y => by kernel_rfl) ?_ ?_
  · refine bsplit_of (fun k5 => ?_) (fun k5 => ?_)
    · have hb : decide ((x1 : Int) ≠ 0) = true := by simpa using k5
      rw [hb] at hr2
      refine (fail_k hR1 3 0).callS [0] 1 rfl rfl rfl rfl ?_
      rintro o L1 g4 ⟨rfl, v4, rfl, hR4⟩ _
      subst hr2
      exact ⟨(v4, g4), hR4, [0], rfl, trivial, rfl, rfl, rfl, rfl⟩
    · have hb : decide ((x1 : Int) ≠ 0) = false := by simpa using k5
      rw [hb] at hr2
      subst hr2
      exact ⟨(v1, g1), hR1, [0], rfl, trivial, rfl, rfl, rfl, rfl⟩
  intro y hR2
  obtain ⟨v2, g2⟩ := y
  change LoopW _ _ _ _ _ _ _ _ _
  refine loop_gone ?_
  apply loop_rule [1] (α := AtL × Nat × RdV × Value × G) (fun y => [(6, grS 1 y.1.n y.1.cap)]) (fun y => [rdC y.2.2.1 y.2.2.2.1, grC 156 y.1.n (atX y.1.l) y.1.sp]) (fun y => y.2.2.2.2)
    (fun y => y.1.ok ∧ allEv y.2.2.2.2 y.1.l ∧ RdAt g y.2.2.2.2 y.2.2.2.1 y.2.2.1 ∧ (y.2.2.1.err = none → (y.2.2.1.s = s ∧ y.2.2.1.off = 0) ∧ y.1.n ≤ 40 ∧ s.size < 2 * y.2.1 + y.2.2.1.at_ ∧ rdMsgs y.2.1 (y.1.l.map AttrV.p) y.2.2.1 = M) ∧ (y.2.2.1.err ≠ none → M.2.err = y.2.2.1.err)) (fun y => meas y.2.1 y.2.2.1.err) (⟨0, [], 0, []⟩, s.size + 1, r2, v2, g2)
  · intro x
    obtain ⟨⟨n, l, cap, sp⟩, f, r, v, gl⟩ := x
    cases n <;> kernel_rfl
  · refine ⟨⟨rfl, grOk.zero 3⟩, fun a ha => by simp at ha, hR2, fun h2 => ⟨(hfw h2).1, Nat.zero_le _, by show s.size < 2 * (s.size + 1) + r2.at_; omega, hM⟩, fun h2 => ?_⟩
    rcases h3 : r2.err with _ | p
    · exact absurd h3 h2
    · rw [← hM]; exact msgs_keeps _ _ _ _ h3
  · exact ⟨rfl, trivial⟩
  · rfl
  · rfl
  clear hM
  intro y hy
  obtain ⟨⟨n, l, cap, sp⟩, F, rL, vL, gl⟩ := y
  obtain ⟨⟨hl, ho⟩, hal, hR', hgood, hbad⟩ := hy
  dsimp only at hl ho hal hR' hgood hbad
  have hR : RdAt gl gl vL rL := ⟨le_refl gl, hR'.2.1, hR'.2.2⟩
  have hle0 := hR'.1
  rcases n with _ | n
  · obtain rfl : l = [] := List.eq_nil_of_length_eq_zero hl
    refine (err_k hR).callS [0] 2 rfl rfl rfl rfl ?_
    rintro o L1 gE ⟨rfl, rfl, hgE⟩ _
    subst gE
    rcases heL : rL.err with _ | p
    rotate_left
    · obtain ⟨ad, rfl, hat⟩ := hR.some heL
      have hM := hbad (by rw [heL]; simp)
      refine (err_k hR).callS [0] 2 rfl rfl rfl rfl ?_
      rintro o L1 gE ⟨rfl, rfl, hgE⟩ _
      subst gE
      exact ⟨[], .inr ⟨p, _, by rw [hM, heL], rfl, rfl, ⟨ad, rfl, hat⟩, hle0⟩⟩
    obtain rfl := hR.nil heL
    obtain ⟨⟨hsS, hoff⟩, hn40, hF, hM⟩ := hgood heL
    have hsz : rL.at_ ≤ s.size := by rw [← hsS]; exact hR.2.1.1
    obtain ⟨F, rfl⟩ : ∃ j, F = j + 1 := ⟨F - 1, by omega⟩
    rw [rdMsgs, rdIfOk_none heL, RM.bind_eq (show rdAt rL = (rL.place, rL) from rfl)] at hM
    refine (at_k hR).callS [0] 2 rfl rfl rfl rfl ?_
    rintro o L1 gA ⟨rfl, rfl, hgA⟩ _
    subst gA
    refine (num_k hR 1 (by decide) (by decide)).callS [0] 2 rfl rfl rfl rfl ?_
    intro o L1 g3 hq _
    rcases hx3 : rdNum 1 rL with ⟨x3, r3⟩
    rw [hx3] at hq
    dsimp only at hq
    first | rw [RM.bind_eq hx3] at hM | skip
    obtain ⟨rfl, v3, rfl, hR3⟩ := hq
    refine (num_k hR3 1 (by decide) (by decide)).callS [0] 2 rfl rfl rfl rfl ?_
    intro o L1 g4 hq _
    rcases hx4 : rdNum 1 r3 with ⟨x4, r4⟩
    rw [hx4] at hq
    dsimp only at hq
    first | rw [RM.bind_eq hx4] at hM | skip
    obtain ⟨rfl, v4, rfl, hR4⟩ := hq
    have hb3 : x3 < 256 := by have := rdNum_lt 1 rL; rw [hx3] at this; exact this
    have hb4 : x4 < 256 := by have := rdNum_lt 1 r3; rw [hx4] at this; exact this
    have hdead : ∀ {r : RdV} {q : Int × Int}, r.err = some q → M.2 = r → (r.err = none → (r.s = s ∧ r.off = 0) ∧ (0 : Nat) ≤ 40 ∧ s.size < 2 * F + r.at_ ∧ rdMsgs F (([] : List AttrV).map AttrV.p) r = M) ∧ (r.err ≠ none → M.2.err = r.err) := fun he hm => ⟨fun h => (by rw [he] at h; cases h), fun _ => by rw [hm]⟩
    refine (err_k hR4).callS [0] 2 rfl rfl rfl rfl ?_
    rintro o L1 gE ⟨rfl, rfl, hgE⟩ _
    subst gE
    rcases he4 : r4.err with _ | p
    rotate_left
    · obtain ⟨ad, rfl, hat⟩ := hR4.some he4
      rw [rdIfOk_some he4] at hM
      have hd := hdead he4 (by rw [← hM])
      exact ⟨(⟨0, [], cap, sp⟩, F, r4, _, g4), ⟨⟨hl, ho⟩, allEv.mono hal hR4.1, ⟨le_trans hle0 hR4.1, (hR4).2⟩, hd.1, hd.2⟩, by show meas F (RdV.err (r4)) < meas (F + 1) none; exact meas_lt F _, [0, 1], rfl, ⟨rfl, trivial⟩, rfl, rfl, rfl, rfl⟩
    obtain rfl := hR4.nil he4
    rw [rdIfOk_none he4] at hM
    have f4 := Fwd.num 1 r3 (by rw [hx4]; exact he4)
    rw [hx4] at f4
    have f3 := Fwd.num 1 rL (by rw [hx3]; exact f4.1)
    rw [hx3] at f3
    have p4 := num_fwd hx4 f4.1 he4
    have p3 := num_fwd hx3 heL f4.1
    have hs4 : r4.s = s ∧ r4.off = 0 := ⟨by rw [p4.2.1, p3.2.1, hsS], by rw [p4.2.2, p3.2.2, hoff]⟩
    refine bsplit_of (fun (h1 : ((x3 : Int) == 0) = true) => ?_) (fun (h1 : ((x3 : Int) == 0) = false) => ?_)
    · have h1 : x3 = 0 := by have := eq_of_beq h1; omega
      refine bsplit_of (fun (h2 : ((x4 : Int) == 0) = true) => ?_) (fun (h2 : ((x4 : Int) == 0) = false) => ?_)
      · have h2 : x4 = 0 := by have := eq_of_beq h2; omega
        rw [if_pos ⟨h1, h2⟩] at hM
        refine (zeros_k hR4).callS [0] 2 rfl rfl rfl rfl ?_
        rintro o L1 gZ ⟨rfl, vZ, rfl, hRZ⟩ _
        have hM : (([] : List AttrV).map AttrV.p, r4.zeros) = M := hM
        obtain ⟨rz, hz⟩ : ∃ rz, r4.zeros = rz := ⟨_, rfl⟩
        rw [hz] at hRZ hM ⊢
        rcases hez : rz.err with _ | p
        · have hfin := allEv.mono hal hRZ.1
          exact ⟨[], .inl ⟨[], 0, [], rfl, rfl, grOk.zero 3, hfin, ⟨rz, hez, hM.symm⟩, le_trans hle0 hRZ.1⟩⟩
        · have hd := hdead hez (by rw [← hM])
          exact ⟨(⟨0, [], cap, sp⟩, F, rz, vZ, gZ), ⟨⟨hl, ho⟩, allEv.mono hal hRZ.1, ⟨le_trans hle0 hRZ.1, (hRZ).2⟩, hd.1, hd.2⟩, by show meas F (RdV.err (rz)) < meas (F + 1) none; exact meas_lt F _, [0, 1], rfl, ⟨rfl, trivial⟩, rfl, rfl, rfl, rfl⟩
      · have h2 : x4 ≠ 0 := by have := ne_of_beq_false h2; omega
        rw [if_neg (by omega)] at hM
        refine bsplit_of (fun (h3 : (((x3 : Int) != 1)) = true) => ?_) (fun (h3 : (((x3 : Int) != 1)) = false) => absurd h3 (by simp; omega))
        have hb2 : decide (x3 ≠ 1) = true := decide_eq_true (by omega)
        rw [hb2] at hM
        have hef : (r4.fail 5 rL.place).err = some (5, rL.place) := by rw [RdV.fail, he4]
        have hM : rdIfOk _ _ (r4.fail 5 rL.place) = M := hM
        rw [rdIfOk_some hef] at hM
        refine (fail_k hR4 5 rL.place).callS [0] 2 rfl rfl rfl rfl ?_
        rintro o L1 g5 ⟨rfl, v5, rfl, hR5⟩ _
        have hd := hdead hef (by rw [← hM])
        exact ⟨(⟨0, [], cap, sp⟩, F, r4.fail 5 rL.place, v5, g5), ⟨⟨hl, ho⟩, allEv.mono hal hR5.1, ⟨le_trans hle0 hR5.1, (hR5).2⟩, hd.1, hd.2⟩, by show meas F (RdV.err (r4.fail 5 rL.place)) < meas (F + 1) none; exact meas_lt F _, [0, 1], rfl, ⟨rfl, trivial⟩, rfl, rfl, rfl, rfl⟩
    have h1 : x3 ≠ 0 := by have := ne_of_beq_false h1; omega
    rw [if_neg (by omega)] at hM
    refine bsplit_of (fun (h3 : (((x3 : Int) != 1)) = true) => ?_) (fun (h3 : (((x3 : Int) != 1)) = false) => ?_)
    · have h3 : x3 ≠ 1 := by intro e; subst e; exact absurd h3 (by decide)
      have hb2 : decide (x3 ≠ 1) = true := decide_eq_true (by omega)
      rw [hb2] at hM
      have hef : (r4.fail 5 rL.place).err = some (5, rL.place) := by rw [RdV.fail, he4]
      have hM : rdIfOk _ _ (r4.fail 5 rL.place) = M := hM
      rw [rdIfOk_some hef] at hM
      refine (fail_k hR4 5 rL.place).callS [0] 2 rfl rfl rfl rfl ?_
      rintro o L1 g5 ⟨rfl, v5, rfl, hR5⟩ _
      have hd := hdead hef (by rw [← hM])
      exact ⟨(⟨0, [], cap, sp⟩, F, r4.fail 5 rL.place, v5, g5), ⟨⟨hl, ho⟩, allEv.mono hal hR5.1, ⟨le_trans hle0 hR5.1, (hR5).2⟩, hd.1, hd.2⟩, by show meas F (RdV.err (r4.fail 5 rL.place)) < meas (F + 1) none; exact meas_lt F _, [0, 1], rfl, ⟨rfl, trivial⟩, rfl, rfl, rfl, rfl⟩
    have h3 : x3 = 1 := by simp at h3; omega
    have hb2 : decide (x3 ≠ 1) = false := decide_eq_false (by omega)
    rw [hb2] at hM
    have hM : rdIfOk _ _ r4 = M := hM
    rw [rdIfOk_none he4] at hM
    refine bsplit_of (fun (h5 : (((x4 : Int) != 2)) = true) => ?_) (fun (h5 : (((x4 : Int) != 2)) = false) => ?_)
    · have h5 : x4 ≠ 2 := by intro e; subst e; exact absurd h5 (by decide)
      have hb3 : decide (x4 ≠ 2) = true := decide_eq_true h5
      rw [hb3] at hM
      have hef : (r4.fail 3 (rL.place + 1)).err = some (3, rL.place + 1) := by rw [RdV.fail, he4]
      have hM : rdIfOk _ _ (r4.fail 3 (rL.place + 1)) = M := hM
      rw [rdIfOk_some hef] at hM
      have hw : IntKind.i64.wrap (rL.place + 1) = rL.place + 1 := by
        have : rL.place = (rL.at_ : Int) := by show rL.off + (rL.at_ : Int) = rL.at_; rw [hoff]; omega
        exact wrap_id (by omega) (by omega)
      have hF := fail_k hR4 3 (IntKind.i64.wrap (rL.place + 1))
      refine hF.callS [0] 2 rfl rfl rfl rfl ?_
      rw [hw]
      rintro o L1 g5 ⟨rfl, v5, rfl, hR5⟩ _
      have hd := hdead hef (by rw [← hM])
      exact ⟨(⟨0, [], cap, sp⟩, F, r4.fail 3 (rL.place + 1), v5, g5), ⟨⟨hl, ho⟩, allEv.mono hal hR5.1, ⟨le_trans hle0 hR5.1, (hR5).2⟩, hd.1, hd.2⟩, by show meas F (RdV.err (r4.fail 3 (rL.place + 1))) < meas (F + 1) none; exact meas_lt F _, [0, 1], rfl, ⟨rfl, trivial⟩, rfl, rfl, rfl, rfl⟩
    have h5 : x4 = 2 := by simp at h5; omega
    have hb3 : decide (x4 ≠ 2) = false := decide_eq_false (by omega)
    rw [hb3] at hM
    have hM : rdIfOk _ _ r4 = M := hM
    rw [rdIfOk_none he4, rdAttrs_succ, RM.bind_assoc] at hM
    have hatt := mattr_c hR4
    have htold := attr_told r4
    have hfwd := attr_fwd r4
    rcases hA : rdAttr r4 with ⟨oA, r5⟩
    rw [hA] at hatt htold hfwd
    dsimp only at hatt htold hfwd
    rw [RM.bind_eq hA] at hM
    have hM : (rdStep rL.place 44 (([] : List AttrV).map AttrV.p) oA).bind (rdMsgs F) r5 = M := hM
    refine hatt.callS [0] 2 rfl rfl rfl rfl ?_
    rintro o L1 g5 ⟨a0, b0, v5, rfl, rfl, hR5, hEa, hab⟩ _
    change LoopW _ _ _ _ _ _ _ _ _
    apply loop_rule [1, 2] (α := AttrV × Bool × AtL × Nat × RdV × Value × G) (fun y => [(6, grS 1 y.2.2.1.n y.2.2.1.cap), (10, .ptr 2 0), (11, .v (.bool y.2.1))]) (fun y => [rdC y.2.2.2.2.1 y.2.2.2.2.2.1, grC 156 y.2.2.1.n (atX y.2.2.1.l) y.2.2.1.sp, .cells 156 (y.1.cells.map .v)]) (fun y => y.2.2.2.2.2.2)
      (fun y => y.2.2.1.ok ∧ allEv y.2.2.2.2.2.2 y.2.2.1.l ∧ EvsOk y.2.2.2.2.2.2 y.1.events ∧ RdAt gl y.2.2.2.2.2.2 y.2.2.2.2.2.1 y.2.2.2.2.1 ∧ (∃ o, (match o with | some p => y.2.1 = true ∧ y.1.p = p ∧ y.2.2.2.2.1.err = none | none => y.2.1 = false) ∧ (rdStep rL.place y.2.2.2.1 (y.2.2.1.l.map AttrV.p) o).bind (rdMsgs F) y.2.2.2.2.1 = M) ∧ 44 ≤ y.2.2.2.1 + y.2.2.1.n ∧ (y.2.2.2.2.1.err = none → (y.2.2.2.2.1.s = s ∧ y.2.2.2.2.1.off = 0) ∧ y.2.2.1.n ≤ 40 ∧ s.size < 2 * F + y.2.2.2.2.1.at_)) (fun y => if y.2.1 then y.2.2.2.1 + 1 else 0) (a0, b0, ⟨0, [], cap, sp⟩, 44, r5, v5, g5)
    · intro x
      obtain ⟨a, b, ⟨n, l, cap, sp⟩, f, r, v, gl⟩ := x
      cases n <;> kernel_rfl
    · refine ⟨⟨hl, ho⟩, allEv.mono hal hR5.1, hEa, hR5, ⟨oA, ?_, hM⟩, by show 44 ≤ 44 + (0 : Nat); omega, fun h => ?_⟩
      · rcases oA with _ | p
        · exact hab
        · exact ⟨hab.1, hab.2, htold p rfl⟩
      · obtain ⟨-, k2, k3, k4⟩ := hfwd h
        exact ⟨⟨k2.trans hs4.1, k3.trans hs4.2⟩, hn40, by show s.size < 2 * F + r5.at_; omega⟩
    · exact ⟨rfl, rfl, rfl, trivial⟩
    · rfl
    · rfl
    clear hM hab hEa hR5 hatt htold hfwd
    intro y hy
    obtain ⟨a, b, ⟨n', l', cap', sp'⟩, f, rI, vI, gi⟩ := y
    obtain ⟨⟨hl', ho'⟩, hal', hEa, hRI', ⟨oI, hob, hM⟩, hf44, hgd⟩ := hy
    dsimp only at hl' ho' hal' hEa hRI' hob hM hf44 hgd
    have hRI : RdAt gi gi vI rI := ⟨le_refl gi, hRI'.2.1, hRI'.2.2⟩
    rcases n' with _ | n'
    · obtain rfl : l' = [] := List.eq_nil_of_length_eq_zero hl'
      rcases b with _ | _
      ·
        have hoN : oI = none := by
          rcases oI with _ | p
          · rfl
          · exact absurd hob.1 (by decide)
        subst hoN
        have hM : rdMsgs F (([] : List AttrV).map AttrV.p) rI = M := hM
        exact ⟨(⟨0, [], cap', sp'⟩, F, rI, vI, gi), ⟨⟨hl', ho'⟩, hal', ⟨le_trans hle0 hRI'.1, hRI'.2⟩, fun h => ⟨(hgd h).1, (hgd h).2.1, (hgd h).2.2, hM⟩, fun h => by
          rcases h3 : rI.err with _ | p
          · exact absurd h3 h
          · rw [← hM]; exact msgs_keeps _ _ _ _ h3⟩, by show meas F (RdV.err rI) < meas (F + 1) none; exact meas_lt F _, [0, 1], rfl, ⟨rfl, trivial⟩, rfl, rfl, rfl, rfl⟩
      ·
        obtain ⟨pI, hpI⟩ : ∃ p, oI = some p := by
          rcases oI with _ | p
          · exact absurd (show true = false from hob) (by decide)
          · exact ⟨p, rfl⟩
        subst hpI
        obtain ⟨-, rfl, heI⟩ := hob
        obtain rfl := hRI.nil heI
        obtain ⟨hsI, hnI, hFI⟩ := hgd heI
        obtain ⟨f, rfl⟩ : ∃ j, f = j + 1 := ⟨f - 1, by omega⟩
        have hM : ((rdFail (decide (40 < (([] : List AttrV).map AttrV.p).length + 1)) 4 rL.place).bind fun _ => (rdAttr.bind (rdStep rL.place f (([] : List AttrV).map AttrV.p ++ [a.p]))).bind (rdMsgs F)) rI = M := by rw [← rdAttrs_succ]; exact hM
        rw [List.length_map, hl'] at hM
        have hM : (rdAttr.bind fun o => (rdStep rL.place f (([] : List AttrV).map AttrV.p ++ [a.p]) o).bind (rdMsgs F)) rI = M := hM
        refine ⟨by show 0 + 1 * 3 ≤ 3; decide, fun u hu => by simp at hu; rcases hu with rfl | rfl | rfl <;> rfl, ?_⟩
        refine ⟨by decide, fun cap2 sp2 k1 k2 k3 => ?_⟩
        have hatt := mattr_c hRI
        have htold := attr_told rI
        have hfwd := attr_fwd rI
        rcases hA' : rdAttr rI with ⟨oB, r7⟩
        rw [hA'] at hatt htold hfwd
        dsimp only at hatt htold hfwd
        rw [RM.bind_eq hA'] at hM
        have hM : (rdStep rL.place f (([] : List AttrV).map AttrV.p ++ [a.p]) oB).bind (rdMsgs F) r7 = M := hM
        refine hatt.callS [0] 6 rfl rfl rfl rfl ?_
        rintro o L1 g7 ⟨a7, b7, v7, rfl, rfl, hR7, hE7, hab7⟩ _
        have hmap : ([] : List AttrV).map AttrV.p ++ [a.p] = (([] : List AttrV) ++ [a]).map AttrV.p := by rw [List.map_append]; rfl
        rw [hmap] at hM
        have hal7 : allEv g7 (([] : List AttrV) ++ [a]) := allEv.mono (allEv.snoc hal' hEa) hR7.1
        have hk7 : ∃ o, (match o with | some p => b7 = true ∧ a7.p = p ∧ r7.err = none | none => b7 = false) ∧ (rdStep rL.place f ((([] : List AttrV) ++ [a]).map AttrV.p) o).bind (rdMsgs F) r7 = M := by
          refine ⟨oB, ?_, hM⟩
          rcases oB with _ | p
          · exact hab7
          · exact ⟨hab7.1, hab7.2, htold p rfl⟩
        have hg7 : r7.err = none → (r7.s = s ∧ r7.off = 0) ∧ (1 : Nat) ≤ 40 ∧ s.size < 2 * F + r7.at_ := fun h => by
          obtain ⟨k1, k2, k3, k4⟩ := hfwd h
          have kk := (⟨hsI, (by decide : 1 ≤ 40), hFI⟩ : (rI.s = s ∧ rI.off = 0) ∧ 1 ≤ 40 ∧ s.size < 2 * F + rI.at_)
          exact ⟨⟨k2.trans kk.1.1, k3.trans kk.1.2⟩, kk.2.1, by omega⟩
        have hμ : (if b7 then f + 1 else 0) < f + 1 + 1 := by cases b7 <;> simp
        exact ⟨(a7, b7, ⟨1, [a], cap2, sp2⟩, f, r7, v7, g7), ⟨⟨rfl, gr_first rfl k1 k2 k3⟩, hal7, hE7, ⟨le_trans hRI'.1 hR7.1, hR7.2⟩, hk7, by show 44 ≤ f + 1; omega, hg7⟩, hμ, [0, 4, 5], rfl, ⟨rfl, rfl, rfl, trivial⟩, rfl, rfl, rfl, rfl⟩
    · rcases b with _ | _
      ·
        have hoN : oI = none := by
          rcases oI with _ | p
          · rfl
          · exact absurd hob.1 (by decide)
        subst hoN
        have hM : rdMsgs F ((l' : List AttrV).map AttrV.p) rI = M := hM
        exact ⟨(⟨n' + 1, l', cap', sp'⟩, F, rI, vI, gi), ⟨⟨hl', ho'⟩, hal', ⟨le_trans hle0 hRI'.1, hRI'.2⟩, fun h => ⟨(hgd h).1, (hgd h).2.1, (hgd h).2.2, hM⟩, fun h => by
          rcases h3 : rI.err with _ | p
          · exact absurd h3 h
          · rw [← hM]; exact msgs_keeps _ _ _ _ h3⟩, by show meas F (RdV.err rI) < meas (F + 1) none; exact meas_lt F _, [0, 1], rfl, ⟨rfl, trivial⟩, rfl, rfl, rfl, rfl⟩
      ·
        obtain ⟨pI, hpI⟩ : ∃ p, oI = some p := by
          rcases oI with _ | p
          · exact absurd (show true = false from hob) (by decide)
          · exact ⟨p, rfl⟩
        subst hpI
        obtain ⟨-, rfl, heI⟩ := hob
        obtain rfl := hRI.nil heI
        obtain ⟨hsI, hnI, hFI⟩ := hgd heI
        obtain ⟨f, rfl⟩ : ∃ j, f = j + 1 := ⟨f - 1, by omega⟩
        have hM : ((rdFail (decide (40 < ((l' : List AttrV).map AttrV.p).length + 1)) 4 rL.place).bind fun _ => (rdAttr.bind (rdStep rL.place f ((l' : List AttrV).map AttrV.p ++ [a.p]))).bind (rdMsgs F)) rI = M := by rw [← rdAttrs_succ]; exact hM
        rw [List.length_map, hl'] at hM
        have g1 := gr_bounds ho'
        refine ⟨by show 0 + 1 * 3 ≤ 3; decide, fun u hu => by simp at hu; rcases hu with rfl | rfl | rfl <;> rfl, ?_⟩
        refine ⟨atX l', sp', rfl, g1.1, ⟨g1.2.1, g1.2.2.1, g1.2.2.2⟩, by omega, fun cap2 sp2 k1 k2 k3 => ?_⟩
        refine bsplit_of (fun h6 => ?_) (fun h6 => ?_)
        · have h6 : 40 < n' + 1 + 1 := by have h6 := of_decide_eq_true h6; omega
          rw [decide_eq_true h6] at hM
          have hef : (rI.fail 4 rL.place).err = some (4, rL.place) := by rw [RdV.fail, heI]
          have hM : (rdAttr.bind fun o => (rdStep rL.place f (l'.map AttrV.p ++ [a.p]) o).bind (rdMsgs F)) (rI.fail 4 rL.place) = M := hM
          refine (fail_k hRI 4 rL.place).callS [0] 5 rfl rfl rfl rfl ?_
          rintro o L1 g6 ⟨rfl, v6, rfl, hR6⟩ _
          obtain ⟨r6, hr6⟩ : ∃ r6, rI.fail 4 rL.place = r6 := ⟨_, rfl⟩
          rw [hr6] at hM hef hR6 ⊢
          have hatt := mattr_c hR6
          have htold := attr_told r6
          have hfwd := attr_fwd r6
          rcases hA' : rdAttr r6 with ⟨oB, r7⟩
          rw [hA'] at hatt htold hfwd
          dsimp only at hatt htold hfwd
          rw [RM.bind_eq hA'] at hM
          have hM : (rdStep rL.place f ((l' : List AttrV).map AttrV.p ++ [a.p]) oB).bind (rdMsgs F) r7 = M := hM
          refine hatt.callS [0] 6 rfl rfl rfl rfl ?_
          rintro o L1 g7 ⟨a7, b7, v7, rfl, rfl, hR7, hE7, hab7⟩ _
          have hmap : (l' : List AttrV).map AttrV.p ++ [a.p] = ((l' : List AttrV) ++ [a]).map AttrV.p := by rw [List.map_append]; rfl
          rw [hmap] at hM
          have hal7 : allEv g7 ((l' : List AttrV) ++ [a]) := allEv.mono (allEv.snoc hal' hEa) hR7.1
          have hk7 : ∃ o, (match o with | some p => b7 = true ∧ a7.p = p ∧ r7.err = none | none => b7 = false) ∧ (rdStep rL.place f (((l' : List AttrV) ++ [a]).map AttrV.p) o).bind (rdMsgs F) r7 = M := by
            refine ⟨oB, ?_, hM⟩
            rcases oB with _ | p
            · exact hab7
            · exact ⟨hab7.1, hab7.2, htold p rfl⟩
          have hg7 : r7.err = none → (r7.s = s ∧ r7.off = 0) ∧ (n' + 1 + 1 : Nat) ≤ 40 ∧ s.size < 2 * F + r7.at_ := fun h => by
            obtain ⟨k1, k2, k3, k4⟩ := hfwd h
            have kk := (absurd k1 (by rw [hef]; simp) : (r6.s = s ∧ r6.off = 0) ∧ n' + 1 + 1 ≤ 40 ∧ s.size < 2 * F + r6.at_)
            exact ⟨⟨k2.trans kk.1.1, k3.trans kk.1.2⟩, kk.2.1, by omega⟩
          have hμ : (if b7 then f + 1 else 0) < f + 1 + 1 := by cases b7 <;> simp
          refine ⟨(a7, b7, ⟨n' + 1 + 1, l' ++ [a], cap2, sp2⟩, f, r7, v7, g7), ⟨⟨by simp [hl'], by show grOk 3 (n' + 1 + 1) cap2 (atX (l' ++ [a])) sp2; rw [atX_snoc]; exact gr_next ho' rfl k1 k2 k3⟩, hal7, hE7, ⟨le_trans hRI'.1 hR7.1, hR7.2⟩, hk7, by show 44 ≤ f + (n' + 1 + 1); omega, hg7⟩, hμ, [0, 4, 5], rfl, ⟨rfl, rfl, rfl, trivial⟩, ?_, rfl, rfl, rfl⟩
          exact congrArg (fun w => [rdC r7 v7, .vals 156 w, .cells 156 (a7.cells.map .v)]) (show atX l' ++ (a.cells ++ sp2) = atX (l' ++ [a]) ++ sp2 by rw [atX_snoc, List.append_assoc])
        · have h6 : ¬ 40 < n' + 1 + 1 := by have h6 := of_decide_eq_false h6; omega
          rw [decide_eq_false h6] at hM
          have hM : (rdAttr.bind fun o => (rdStep rL.place f (l'.map AttrV.p ++ [a.p]) o).bind (rdMsgs F)) rI = M := hM
          have hatt := mattr_c hRI
          have htold := attr_told rI
          have hfwd := attr_fwd rI
          rcases hA' : rdAttr rI with ⟨oB, r7⟩
          rw [hA'] at hatt htold hfwd
          dsimp only at hatt htold hfwd
          rw [RM.bind_eq hA'] at hM
          have hM : (rdStep rL.place f ((l' : List AttrV).map AttrV.p ++ [a.p]) oB).bind (rdMsgs F) r7 = M := hM
          refine hatt.callS [0] 6 rfl rfl rfl rfl ?_
          rintro o L1 g7 ⟨a7, b7, v7, rfl, rfl, hR7, hE7, hab7⟩ _
          have hmap : (l' : List AttrV).map AttrV.p ++ [a.p] = ((l' : List AttrV) ++ [a]).map AttrV.p := by rw [List.map_append]; rfl
          rw [hmap] at hM
          have hal7 : allEv g7 ((l' : List AttrV) ++ [a]) := allEv.mono (allEv.snoc hal' hEa) hR7.1
          have hk7 : ∃ o, (match o with | some p => b7 = true ∧ a7.p = p ∧ r7.err = none | none => b7 = false) ∧ (rdStep rL.place f (((l' : List AttrV) ++ [a]).map AttrV.p) o).bind (rdMsgs F) r7 = M := by
            refine ⟨oB, ?_, hM⟩
            rcases oB with _ | p
            · exact hab7
            · exact ⟨hab7.1, hab7.2, htold p rfl⟩
          have hg7 : r7.err = none → (r7.s = s ∧ r7.off = 0) ∧ (n' + 1 + 1 : Nat) ≤ 40 ∧ s.size < 2 * F + r7.at_ := fun h => by
            obtain ⟨k1, k2, k3, k4⟩ := hfwd h
            have kk := (⟨hsI, by omega, hFI⟩ : (rI.s = s ∧ rI.off = 0) ∧ n' + 1 + 1 ≤ 40 ∧ s.size < 2 * F + rI.at_)
            exact ⟨⟨k2.trans kk.1.1, k3.trans kk.1.2⟩, kk.2.1, by omega⟩
          have hμ : (if b7 then f + 1 else 0) < f + 1 + 1 := by cases b7 <;> simp
          refine ⟨(a7, b7, ⟨n' + 1 + 1, l' ++ [a], cap2, sp2⟩, f, r7, v7, g7), ⟨⟨by simp [hl'], by show grOk 3 (n' + 1 + 1) cap2 (atX (l' ++ [a])) sp2; rw [atX_snoc]; exact gr_next ho' rfl k1 k2 k3⟩, hal7, hE7, ⟨le_trans hRI'.1 hR7.1, hR7.2⟩, hk7, by show 44 ≤ f + (n' + 1 + 1); omega, hg7⟩, hμ, [0, 4, 5], rfl, ⟨rfl, rfl, rfl, trivial⟩, ?_, rfl, rfl, rfl⟩
          exact congrArg (fun w => [rdC r7 v7, .vals 156 w, .cells 156 (a7.cells.map .v)]) (show atX l' ++ (a.cells ++ sp2) = atX (l' ++ [a]) ++ sp2 by rw [atX_snoc, List.append_assoc])
  ·
    refine (err_k hR).callS [0] 2 rfl rfl rfl rfl ?_
    rintro o L1 gE ⟨rfl, rfl, hgE⟩ _
    subst gE
    rcases heL : rL.err with _ | p
    rotate_left
    · obtain ⟨ad, rfl, hat⟩ := hR.some heL
      have hM := hbad (by rw [heL]; simp)
      refine (err_k hR).callS [0] 2 rfl rfl rfl rfl ?_
      rintro o L1 gE ⟨rfl, rfl, hgE⟩ _
      subst gE
      exact ⟨[], .inr ⟨p, _, by rw [hM, heL], rfl, rfl, ⟨ad, rfl, hat⟩, hle0⟩⟩
    obtain rfl := hR.nil heL
    obtain ⟨⟨hsS, hoff⟩, hn40, hF, hM⟩ := hgood heL
    have hsz : rL.at_ ≤ s.size := by rw [← hsS]; exact hR.2.1.1
    obtain ⟨F, rfl⟩ : ∃ j, F = j + 1 := ⟨F - 1, by omega⟩
    rw [rdMsgs, rdIfOk_none heL, RM.bind_eq (show rdAt rL = (rL.place, rL) from rfl)] at hM
    refine (at_k hR).callS [0] 2 rfl rfl rfl rfl ?_
    rintro o L1 gA ⟨rfl, rfl, hgA⟩ _
    subst gA
    refine (num_k hR 1 (by decide) (by decide)).callS [0] 2 rfl rfl rfl rfl ?_
    intro o L1 g3 hq _
    rcases hx3 : rdNum 1 rL with ⟨x3, r3⟩
    rw [hx3] at hq
    dsimp only at hq
    first | rw [RM.bind_eq hx3] at hM | skip
    obtain ⟨rfl, v3, rfl, hR3⟩ := hq
    refine (num_k hR3 1 (by decide) (by decide)).callS [0] 2 rfl rfl rfl rfl ?_
    intro o L1 g4 hq _
    rcases hx4 : rdNum 1 r3 with ⟨x4, r4⟩
    rw [hx4] at hq
    dsimp only at hq
    first | rw [RM.bind_eq hx4] at hM | skip
    obtain ⟨rfl, v4, rfl, hR4⟩ := hq
    have hb3 : x3 < 256 := by have := rdNum_lt 1 rL; rw [hx3] at this; exact this
    have hb4 : x4 < 256 := by have := rdNum_lt 1 r3; rw [hx4] at this; exact this
    have hdead : ∀ {r : RdV} {q : Int × Int}, r.err = some q → M.2 = r → (r.err = none → (r.s = s ∧ r.off = 0) ∧ (n + 1 : Nat) ≤ 40 ∧ s.size < 2 * F + r.at_ ∧ rdMsgs F ((l : List AttrV).map AttrV.p) r = M) ∧ (r.err ≠ none → M.2.err = r.err) := fun he hm => ⟨fun h => (by rw [he] at h; cases h), fun _ => by rw [hm]⟩
    refine (err_k hR4).callS [0] 2 rfl rfl rfl rfl ?_
    rintro o L1 gE ⟨rfl, rfl, hgE⟩ _
    subst gE
    rcases he4 : r4.err with _ | p
    rotate_left
    · obtain ⟨ad, rfl, hat⟩ := hR4.some he4
      rw [rdIfOk_some he4] at hM
      have hd := hdead he4 (by rw [← hM])
      exact ⟨(⟨n + 1, l, cap, sp⟩, F, r4, _, g4), ⟨⟨hl, ho⟩, allEv.mono hal hR4.1, ⟨le_trans hle0 hR4.1, (hR4).2⟩, hd.1, hd.2⟩, by show meas F (RdV.err (r4)) < meas (F + 1) none; exact meas_lt F _, [0, 1], rfl, ⟨rfl, trivial⟩, rfl, rfl, rfl, rfl⟩
    obtain rfl := hR4.nil he4
    rw [rdIfOk_none he4] at hM
    have f4 := Fwd.num 1 r3 (by rw [hx4]; exact he4)
    rw [hx4] at f4
    have f3 := Fwd.num 1 rL (by rw [hx3]; exact f4.1)
    rw [hx3] at f3
    have p4 := num_fwd hx4 f4.1 he4
    have p3 := num_fwd hx3 heL f4.1
    have hs4 : r4.s = s ∧ r4.off = 0 := ⟨by rw [p4.2.1, p3.2.1, hsS], by rw [p4.2.2, p3.2.2, hoff]⟩
    refine bsplit_of (fun (h1 : ((x3 : Int) == 0) = true) => ?_) (fun (h1 : ((x3 : Int) == 0) = false) => ?_)
    · have h1 : x3 = 0 := by have := eq_of_beq h1; omega
      refine bsplit_of (fun (h2 : ((x4 : Int) == 0) = true) => ?_) (fun (h2 : ((x4 : Int) == 0) = false) => ?_)
      · have h2 : x4 = 0 := by have := eq_of_beq h2; omega
        rw [if_pos ⟨h1, h2⟩] at hM
        refine (zeros_k hR4).callS [0] 2 rfl rfl rfl rfl ?_
        rintro o L1 gZ ⟨rfl, vZ, rfl, hRZ⟩ _
        have hM : ((l : List AttrV).map AttrV.p, r4.zeros) = M := hM
        obtain ⟨rz, hz⟩ : ∃ rz, r4.zeros = rz := ⟨_, rfl⟩
        rw [hz] at hRZ hM ⊢
        rcases hez : rz.err with _ | p
        · have hfin := allEv.mono hal hRZ.1
          exact ⟨[1], .inl ⟨l, cap, sp, by rw [hl]; rfl, by rw [hl]; rfl, by rw [hl]; exact ho, hfin, ⟨rz, hez, hM.symm⟩, le_trans hle0 hRZ.1⟩⟩
        · have hd := hdead hez (by rw [← hM])
          exact ⟨(⟨n + 1, l, cap, sp⟩, F, rz, vZ, gZ), ⟨⟨hl, ho⟩, allEv.mono hal hRZ.1, ⟨le_trans hle0 hRZ.1, (hRZ).2⟩, hd.1, hd.2⟩, by show meas F (RdV.err (rz)) < meas (F + 1) none; exact meas_lt F _, [0, 1], rfl, ⟨rfl, trivial⟩, rfl, rfl, rfl, rfl⟩
      · have h2 : x4 ≠ 0 := by have := ne_of_beq_false h2; omega
        rw [if_neg (by omega)] at hM
        refine bsplit_of (fun (h3 : (((x3 : Int) != 1)) = true) => ?_) (fun (h3 : (((x3 : Int) != 1)) = false) => absurd h3 (by simp; omega))
        have hb2 : decide (x3 ≠ 1) = true := decide_eq_true (by omega)
        rw [hb2] at hM
        have hef : (r4.fail 5 rL.place).err = some (5, rL.place) := by rw [RdV.fail, he4]
        have hM : rdIfOk _ _ (r4.fail 5 rL.place) = M := hM
        rw [rdIfOk_some hef] at hM
        refine (fail_k hR4 5 rL.place).callS [0] 2 rfl rfl rfl rfl ?_
        rintro o L1 g5 ⟨rfl, v5, rfl, hR5⟩ _
        have hd := hdead hef (by rw [← hM])
        exact ⟨(⟨n + 1, l, cap, sp⟩, F, r4.fail 5 rL.place, v5, g5), ⟨⟨hl, ho⟩, allEv.mono hal hR5.1, ⟨le_trans hle0 hR5.1, (hR5).2⟩, hd.1, hd.2⟩, by show meas F (RdV.err (r4.fail 5 rL.place)) < meas (F + 1) none; exact meas_lt F _, [0, 1], rfl, ⟨rfl, trivial⟩, rfl, rfl, rfl, rfl⟩
    have h1 : x3 ≠ 0 := by have := ne_of_beq_false h1; omega
    rw [if_neg (by omega)] at hM
    refine bsplit_of (fun (h3 : (((x3 : Int) != 1)) = true) => ?_) (fun (h3 : (((x3 : Int) != 1)) = false) => ?_)
    · have h3 : x3 ≠ 1 := by intro e; subst e; exact absurd h3 (by decide)
      have hb2 : decide (x3 ≠ 1) = true := decide_eq_true (by omega)
      rw [hb2] at hM
      have hef : (r4.fail 5 rL.place).err = some (5, rL.place) := by rw [RdV.fail, he4]
      have hM : rdIfOk _ _ (r4.fail 5 rL.place) = M := hM
      rw [rdIfOk_some hef] at hM
      refine (fail_k hR4 5 rL.place).callS [0] 2 rfl rfl rfl rfl ?_
      rintro o L1 g5 ⟨rfl, v5, rfl, hR5⟩ _
      have hd := hdead hef (by rw [← hM])
      exact ⟨(⟨n + 1, l, cap, sp⟩, F, r4.fail 5 rL.place, v5, g5), ⟨⟨hl, ho⟩, allEv.mono hal hR5.1, ⟨le_trans hle0 hR5.1, (hR5).2⟩, hd.1, hd.2⟩, by show meas F (RdV.err (r4.fail 5 rL.place)) < meas (F + 1) none; exact meas_lt F _, [0, 1], rfl, ⟨rfl, trivial⟩, rfl, rfl, rfl, rfl⟩
    have h3 : x3 = 1 := by simp at h3; omega
    have hb2 : decide (x3 ≠ 1) = false := decide_eq_false (by omega)
    rw [hb2] at hM
    have hM : rdIfOk _ _ r4 = M := hM
    rw [rdIfOk_none he4] at hM
    refine bsplit_of (fun (h5 : (((x4 : Int) != 2)) = true) => ?_) (fun (h5 : (((x4 : Int) != 2)) = false) => ?_)
    · have h5 : x4 ≠ 2 := by intro e; subst e; exact absurd h5 (by decide)
      have hb3 : decide (x4 ≠ 2) = true := decide_eq_true h5
      rw [hb3] at hM
      have hef : (r4.fail 3 (rL.place + 1)).err = some (3, rL.place + 1) := by rw [RdV.fail, he4]
      have hM : rdIfOk _ _ (r4.fail 3 (rL.place + 1)) = M := hM
      rw [rdIfOk_some hef] at hM
      have hw : IntKind.i64.wrap (rL.place + 1) = rL.place + 1 := by
        have : rL.place = (rL.at_ : Int) := by show rL.off + (rL.at_ : Int) = rL.at_; rw [hoff]; omega
        exact wrap_id (by omega) (by omega)
      have hF := fail_k hR4 3 (IntKind.i64.wrap (rL.place + 1))
      refine hF.callS [0] 2 rfl rfl rfl rfl ?_
      rw [hw]
      rintro o L1 g5 ⟨rfl, v5, rfl, hR5⟩ _
      have hd := hdead hef (by rw [← hM])
      exact ⟨(⟨n + 1, l, cap, sp⟩, F, r4.fail 3 (rL.place + 1), v5, g5), ⟨⟨hl, ho⟩, allEv.mono hal hR5.1, ⟨le_trans hle0 hR5.1, (hR5).2⟩, hd.1, hd.2⟩, by show meas F (RdV.err (r4.fail 3 (rL.place + 1))) < meas (F + 1) none; exact meas_lt F _, [0, 1], rfl, ⟨rfl, trivial⟩, rfl, rfl, rfl, rfl⟩
    have h5 : x4 = 2 := by simp at h5; omega
    have hb3 : decide (x4 ≠ 2) = false := decide_eq_false (by omega)
    rw [hb3] at hM
    have hM : rdIfOk _ _ r4 = M := hM
    rw [rdIfOk_none he4, rdAttrs_succ, RM.bind_assoc] at hM
    have hatt := mattr_c hR4
    have htold := attr_told r4
    have hfwd := attr_fwd r4
    rcases hA : rdAttr r4 with ⟨oA, r5⟩
    rw [hA] at hatt htold hfwd
    dsimp only at hatt htold hfwd
    rw [RM.bind_eq hA] at hM
    have hM : (rdStep rL.place 44 ((l : List AttrV).map AttrV.p) oA).bind (rdMsgs F) r5 = M := hM
    refine hatt.callS [0] 2 rfl rfl rfl rfl ?_
    rintro o L1 g5 ⟨a0, b0, v5, rfl, rfl, hR5, hEa, hab⟩ _
    change LoopW _ _ _ _ _ _ _ _ _
    apply loop_rule [1, 2] (α := AttrV × Bool × AtL × Nat × RdV × Value × G) (fun y => [(6, grS 1 y.2.2.1.n y.2.2.1.cap), (10, .ptr 2 0), (11, .v (.bool y.2.1))]) (fun y => [rdC y.2.2.2.2.1 y.2.2.2.2.2.1, grC 156 y.2.2.1.n (atX y.2.2.1.l) y.2.2.1.sp, .cells 156 (y.1.cells.map .v)]) (fun y => y.2.2.2.2.2.2)
      (fun y => y.2.2.1.ok ∧ allEv y.2.2.2.2.2.2 y.2.2.1.l ∧ EvsOk y.2.2.2.2.2.2 y.1.events ∧ RdAt gl y.2.2.2.2.2.2 y.2.2.2.2.2.1 y.2.2.2.2.1 ∧ (∃ o, (match o with | some p => y.2.1 = true ∧ y.1.p = p ∧ y.2.2.2.2.1.err = none | none => y.2.1 = false) ∧ (rdStep rL.place y.2.2.2.1 (y.2.2.1.l.map AttrV.p) o).bind (rdMsgs F) y.2.2.2.2.1 = M) ∧ 44 ≤ y.2.2.2.1 + y.2.2.1.n ∧ (y.2.2.2.2.1.err = none → (y.2.2.2.2.1.s = s ∧ y.2.2.2.2.1.off = 0) ∧ y.2.2.1.n ≤ 40 ∧ s.size < 2 * F + y.2.2.2.2.1.at_)) (fun y => if y.2.1 then y.2.2.2.1 + 1 else 0) (a0, b0, ⟨n + 1, l, cap, sp⟩, 44, r5, v5, g5)
    · intro x
      obtain ⟨a, b, ⟨n, l, cap, sp⟩, f, r, v, gl⟩ := x
      cases n <;> kernel_rfl
    · refine ⟨⟨hl, ho⟩, allEv.mono hal hR5.1, hEa, hR5, ⟨oA, ?_, hM⟩, by show 44 ≤ 44 + (n + 1 : Nat); omega, fun h => ?_⟩
      · rcases oA with _ | p
        · exact hab
        · exact ⟨hab.1, hab.2, htold p rfl⟩
      · obtain ⟨-, k2, k3, k4⟩ := hfwd h
        exact ⟨⟨k2.trans hs4.1, k3.trans hs4.2⟩, hn40, by show s.size < 2 * F + r5.at_; omega⟩
    · exact ⟨rfl, rfl, rfl, trivial⟩
    · rfl
    · rfl
    clear hM hab hEa hR5 hatt htold hfwd
    intro y hy
    obtain ⟨a, b, ⟨n', l', cap', sp'⟩, f, rI, vI, gi⟩ := y
    obtain ⟨⟨hl', ho'⟩, hal', hEa, hRI', ⟨oI, hob, hM⟩, hf44, hgd⟩ := hy
    dsimp only at hl' ho' hal' hEa hRI' hob hM hf44 hgd
    have hRI : RdAt gi gi vI rI := ⟨le_refl gi, hRI'.2.1, hRI'.2.2⟩
    rcases n' with _ | n'
    · obtain rfl : l' = [] := List.eq_nil_of_length_eq_zero hl'
      rcases b with _ | _
      ·
        have hoN : oI = none := by
          rcases oI with _ | p
          · rfl
          · exact absurd hob.1 (by decide)
        subst hoN
        have hM : rdMsgs F (([] : List AttrV).map AttrV.p) rI = M := hM
        exact ⟨(⟨0, [], cap', sp'⟩, F, rI, vI, gi), ⟨⟨hl', ho'⟩, hal', ⟨le_trans hle0 hRI'.1, hRI'.2⟩, fun h => ⟨(hgd h).1, (hgd h).2.1, (hgd h).2.2, hM⟩, fun h => by
          rcases h3 : rI.err with _ | p
          · exact absurd h3 h
          · rw [← hM]; exact msgs_keeps _ _ _ _ h3⟩, by show meas F (RdV.err rI) < meas (F + 1) none; exact meas_lt F _, [0, 1], rfl, ⟨rfl, trivial⟩, rfl, rfl, rfl, rfl⟩
      ·
        obtain ⟨pI, hpI⟩ : ∃ p, oI = some p := by
          rcases oI with _ | p
          · exact absurd (show true = false from hob) (by decide)
          · exact ⟨p, rfl⟩
        subst hpI
        obtain ⟨-, rfl, heI⟩ := hob
        obtain rfl := hRI.nil heI
        obtain ⟨hsI, hnI, hFI⟩ := hgd heI
        obtain ⟨f, rfl⟩ : ∃ j, f = j + 1 := ⟨f - 1, by omega⟩
        have hM : ((rdFail (decide (40 < (([] : List AttrV).map AttrV.p).length + 1)) 4 rL.place).bind fun _ => (rdAttr.bind (rdStep rL.place f (([] : List AttrV).map AttrV.p ++ [a.p]))).bind (rdMsgs F)) rI = M := by rw [← rdAttrs_succ]; exact hM
        rw [List.length_map, hl'] at hM
        have hM : (rdAttr.bind fun o => (rdStep rL.place f (([] : List AttrV).map AttrV.p ++ [a.p]) o).bind (rdMsgs F)) rI = M := hM
        refine ⟨by show 0 + 1 * 3 ≤ 3; decide, fun u hu => by simp at hu; rcases hu with rfl | rfl | rfl <;> rfl, ?_⟩
        refine ⟨by decide, fun cap2 sp2 k1 k2 k3 => ?_⟩
        have hatt := mattr_c hRI
        have htold := attr_told rI
        have hfwd := attr_fwd rI
        rcases hA' : rdAttr rI with ⟨oB, r7⟩
        rw [hA'] at hatt htold hfwd
        dsimp only at hatt htold hfwd
        rw [RM.bind_eq hA'] at hM
        have hM : (rdStep rL.place f (([] : List AttrV).map AttrV.p ++ [a.p]) oB).bind (rdMsgs F) r7 = M := hM
        refine hatt.callS [0] 6 rfl rfl rfl rfl ?_
        rintro o L1 g7 ⟨a7, b7, v7, rfl, rfl, hR7, hE7, hab7⟩ _
        have hmap : ([] : List AttrV).map AttrV.p ++ [a.p] = (([] : List AttrV) ++ [a]).map AttrV.p := by rw [List.map_append]; rfl
        rw [hmap] at hM
        have hal7 : allEv g7 (([] : List AttrV) ++ [a]) := allEv.mono (allEv.snoc hal' hEa) hR7.1
        have hk7 : ∃ o, (match o with | some p => b7 = true ∧ a7.p = p ∧ r7.err = none | none => b7 = false) ∧ (rdStep rL.place f ((([] : List AttrV) ++ [a]).map AttrV.p) o).bind (rdMsgs F) r7 = M := by
          refine ⟨oB, ?_, hM⟩
          rcases oB with _ | p
          · exact hab7
          · exact ⟨hab7.1, hab7.2, htold p rfl⟩
        have hg7 : r7.err = none → (r7.s = s ∧ r7.off = 0) ∧ (1 : Nat) ≤ 40 ∧ s.size < 2 * F + r7.at_ := fun h => by
          obtain ⟨k1, k2, k3, k4⟩ := hfwd h
          have kk := (⟨hsI, (by decide : 1 ≤ 40), hFI⟩ : (rI.s = s ∧ rI.off = 0) ∧ 1 ≤ 40 ∧ s.size < 2 * F + rI.at_)
          exact ⟨⟨k2.trans kk.1.1, k3.trans kk.1.2⟩, kk.2.1, by omega⟩
        have hμ : (if b7 then f + 1 else 0) < f + 1 + 1 := by cases b7 <;> simp
        exact ⟨(a7, b7, ⟨1, [a], cap2, sp2⟩, f, r7, v7, g7), ⟨⟨rfl, gr_first rfl k1 k2 k3⟩, hal7, hE7, ⟨le_trans hRI'.1 hR7.1, hR7.2⟩, hk7, by show 44 ≤ f + 1; omega, hg7⟩, hμ, [0, 4, 5], rfl, ⟨rfl, rfl, rfl, trivial⟩, rfl, rfl, rfl, rfl⟩
    · rcases b with _ | _
      ·
        have hoN : oI = none := by
          rcases oI with _ | p
          · rfl
          · exact absurd hob.1 (by decide)
        subst hoN
        have hM : rdMsgs F ((l' : List AttrV).map AttrV.p) rI = M := hM
        exact ⟨(⟨n' + 1, l', cap', sp'⟩, F, rI, vI, gi), ⟨⟨hl', ho'⟩, hal', ⟨le_trans hle0 hRI'.1, hRI'.2⟩, fun h => ⟨(hgd h).1, (hgd h).2.1, (hgd h).2.2, hM⟩, fun h => by
          rcases h3 : rI.err with _ | p
          · exact absurd h3 h
          · rw [← hM]; exact msgs_keeps _ _ _ _ h3⟩, by show meas F (RdV.err rI) < meas (F + 1) none; exact meas_lt F _, [0, 1], rfl, ⟨rfl, trivial⟩, rfl, rfl, rfl, rfl⟩
      ·
        obtain ⟨pI, hpI⟩ : ∃ p, oI = some p := by
          rcases oI with _ | p
          · exact absurd (show true = false from hob) (by decide)
          · exact ⟨p, rfl⟩
        subst hpI
        obtain ⟨-, rfl, heI⟩ := hob
        obtain rfl := hRI.nil heI
        obtain ⟨hsI, hnI, hFI⟩ := hgd heI
        obtain ⟨f, rfl⟩ : ∃ j, f = j + 1 := ⟨f - 1, by omega⟩
        have hM : ((rdFail (decide (40 < ((l' : List AttrV).map AttrV.p).length + 1)) 4 rL.place).bind fun _ => (rdAttr.bind (rdStep rL.place f ((l' : List AttrV).map AttrV.p ++ [a.p]))).bind (rdMsgs F)) rI = M := by rw [← rdAttrs_succ]; exact hM
        rw [List.length_map, hl'] at hM
        have g1 := gr_bounds ho'
        refine ⟨by show 0 + 1 * 3 ≤ 3; decide, fun u hu => by simp at hu; rcases hu with rfl | rfl | rfl <;> rfl, ?_⟩
        refine ⟨atX l', sp', rfl, g1.1, ⟨g1.2.1, g1.2.2.1, g1.2.2.2⟩, by omega, fun cap2 sp2 k1 k2 k3 => ?_⟩
        refine bsplit_of (fun h6 => ?_) (fun h6 => ?_)
        · have h6 : 40 < n' + 1 + 1 := by have h6 := of_decide_eq_true h6; omega
          rw [decide_eq_true h6] at hM
          have hef : (rI.fail 4 rL.place).err = some (4, rL.place) := by rw [RdV.fail, heI]
          have hM : (rdAttr.bind fun o => (rdStep rL.place f (l'.map AttrV.p ++ [a.p]) o).bind (rdMsgs F)) (rI.fail 4 rL.place) = M := hM
          refine (fail_k hRI 4 rL.place).callS [0] 5 rfl rfl rfl rfl ?_
          rintro o L1 g6 ⟨rfl, v6, rfl, hR6⟩ _
          obtain ⟨r6, hr6⟩ : ∃ r6, rI.fail 4 rL.place = r6 := ⟨_, rfl⟩
          rw [hr6] at hM hef hR6 ⊢
          have hatt := mattr_c hR6
          have htold := attr_told r6
          have hfwd := attr_fwd r6
          rcases hA' : rdAttr r6 with ⟨oB, r7⟩
          rw [hA'] at hatt htold hfwd
          dsimp only at hatt htold hfwd
          rw [RM.bind_eq hA'] at hM
          have hM : (rdStep rL.place f ((l' : List AttrV).map AttrV.p ++ [a.p]) oB).bind (rdMsgs F) r7 = M := hM
          refine hatt.callS [0] 6 rfl rfl rfl rfl ?_
          rintro o L1 g7 ⟨a7, b7, v7, rfl, rfl, hR7, hE7, hab7⟩ _
          have hmap : (l' : List AttrV).map AttrV.p ++ [a.p] = ((l' : List AttrV) ++ [a]).map AttrV.p := by rw [List.map_append]; rfl
          rw [hmap] at hM
          have hal7 : allEv g7 ((l' : List AttrV) ++ [a]) := allEv.mono (allEv.snoc hal' hEa) hR7.1
          have hk7 : ∃ o, (match o with | some p => b7 = true ∧ a7.p = p ∧ r7.err = none | none => b7 = false) ∧ (rdStep rL.place f (((l' : List AttrV) ++ [a]).map AttrV.p) o).bind (rdMsgs F) r7 = M := by
            refine ⟨oB, ?_, hM⟩
            rcases oB with _ | p
            · exact hab7
            · exact ⟨hab7.1, hab7.2, htold p rfl⟩
          have hg7 : r7.err = none → (r7.s = s ∧ r7.off = 0) ∧ (n' + 1 + 1 : Nat) ≤ 40 ∧ s.size < 2 * F + r7.at_ := fun h => by
            obtain ⟨k1, k2, k3, k4⟩ := hfwd h
            have kk := (absurd k1 (by rw [hef]; simp) : (r6.s = s ∧ r6.off = 0) ∧ n' + 1 + 1 ≤ 40 ∧ s.size < 2 * F + r6.at_)
            exact ⟨⟨k2.trans kk.1.1, k3.trans kk.1.2⟩, kk.2.1, by omega⟩
          have hμ : (if b7 then f + 1 else 0) < f + 1 + 1 := by cases b7 <;> simp
          refine ⟨(a7, b7, ⟨n' + 1 + 1, l' ++ [a], cap2, sp2⟩, f, r7, v7, g7), ⟨⟨by simp [hl'], by show grOk 3 (n' + 1 + 1) cap2 (atX (l' ++ [a])) sp2; rw [atX_snoc]; exact gr_next ho' rfl k1 k2 k3⟩, hal7, hE7, ⟨le_trans hRI'.1 hR7.1, hR7.2⟩, hk7, by show 44 ≤ f + (n' + 1 + 1); omega, hg7⟩, hμ, [0, 4, 5], rfl, ⟨rfl, rfl, rfl, trivial⟩, ?_, rfl, rfl, rfl⟩
          exact congrArg (fun w => [rdC r7 v7, .vals 156 w, .cells 156 (a7.cells.map .v)]) (show atX l' ++ (a.cells ++ sp2) = atX (l' ++ [a]) ++ sp2 by rw [atX_snoc, List.append_assoc])
        · have h6 : ¬ 40 < n' + 1 + 1 := by have h6 := of_decide_eq_false h6; omega
          rw [decide_eq_false h6] at hM
          have hM : (rdAttr.bind fun o => (rdStep rL.place f (l'.map AttrV.p ++ [a.p]) o).bind (rdMsgs F)) rI = M := hM
          have hatt := mattr_c hRI
          have htold := attr_told rI
          have hfwd := attr_fwd rI
          rcases hA' : rdAttr rI with ⟨oB, r7⟩
          rw [hA'] at hatt htold hfwd
          dsimp only at hatt htold hfwd
          rw [RM.bind_eq hA'] at hM
          have hM : (rdStep rL.place f ((l' : List AttrV).map AttrV.p ++ [a.p]) oB).bind (rdMsgs F) r7 = M := hM
          refine hatt.callS [0] 6 rfl rfl rfl rfl ?_
          rintro o L1 g7 ⟨a7, b7, v7, rfl, rfl, hR7, hE7, hab7⟩ _
          have hmap : (l' : List AttrV).map AttrV.p ++ [a.p] = ((l' : List AttrV) ++ [a]).map AttrV.p := by rw [List.map_append]; rfl
          rw [hmap] at hM
          have hal7 : allEv g7 ((l' : List AttrV) ++ [a]) := allEv.mono (allEv.snoc hal' hEa) hR7.1
          have hk7 : ∃ o, (match o with | some p => b7 = true ∧ a7.p = p ∧ r7.err = none | none => b7 = false) ∧ (rdStep rL.place f (((l' : List AttrV) ++ [a]).map AttrV.p) o).bind (rdMsgs F) r7 = M := by
            refine ⟨oB, ?_, hM⟩
            rcases oB with _ | p
            · exact hab7
            · exact ⟨hab7.1, hab7.2, htold p rfl⟩
          have hg7 : r7.err = none → (r7.s = s ∧ r7.off = 0) ∧ (n' + 1 + 1 : Nat) ≤ 40 ∧ s.size < 2 * F + r7.at_ := fun h => by
            obtain ⟨k1, k2, k3, k4⟩ := hfwd h
            have kk := (⟨hsI, by omega, hFI⟩ : (rI.s = s ∧ rI.off = 0) ∧ n' + 1 + 1 ≤ 40 ∧ s.size < 2 * F + rI.at_)
            exact ⟨⟨k2.trans kk.1.1, k3.trans kk.1.2⟩, kk.2.1, by omega⟩
          have hμ : (if b7 then f + 1 else 0) < f + 1 + 1 := by cases b7 <;> simp
          refine ⟨(a7, b7, ⟨n' + 1 + 1, l' ++ [a], cap2, sp2⟩, f, r7, v7, g7), ⟨⟨by simp [hl'], by show grOk 3 (n' + 1 + 1) cap2 (atX (l' ++ [a])) sp2; rw [atX_snoc]; exact gr_next ho' rfl k1 k2 k3⟩, hal7, hE7, ⟨le_trans hRI'.1 hR7.1, hR7.2⟩, hk7, by show 44 ≤ f + (n' + 1 + 1); omega, hg7⟩, hμ, [0, 4, 5], rfl, ⟨rfl, rfl, rfl, trivial⟩, ?_, rfl, rfl, rfl⟩
          exact congrArg (fun w => [rdC r7 v7, .vals 156 w, .cells 156 (a7.cells.map .v)]) (show atX l' ++ (a.cells ++ sp2) = atX (l' ++ [a]) ++ sp2 by rw [atX_snoc, List.append_assoc])
end Go.Proofs.YtfianfpmnglfnaaDoor
