/- frame.Head, frame.Right and their references: what each returns; the law FrameRights. Conditions: the tags lie where the frame says; few tags. -/
import Derived.Test.YtdfpbmchkfmfdaaDoorXright
import Derived.Test.YtdfpbmchkfmfdaaDoorFrameSC
import Derived.Test.YtdfpbmchkfmfdaaDoorBaseC
namespace Go.Proofs.YtdfpbmchkfmfdaaDoor
open Go.Sx
set_option maxRecDepth 100000
set_option maxHeartbeats 8000000
attribute [local irreducible] Meets
attribute [local instance] Classical.propDecidable

def inner (k : Int) : Int := if k = 2 then 3 else if k = 3 then 8 else 0
def headI (f : FrameV) : Int := 14 + 4 * f.tags.l.length + inner f.kind

theorem head_c (f : FrameV) (g : G) (ht : f.tags.l.length ≤ 1000000) : Tells Tryd.prog 112 [.agg (f.cells.map .v)] g (.v (.int .i64 (headI f))) := by
  refine meets_of mixedS Tryd.func112 (by kernel_rfl) x112_ok (some []) ?_
  have w1 : IntKind.i64.wrap (4 * (f.tags.l.length : Int)) = 4 * f.tags.l.length := wrap_id (by omega) (by omega)
  have w2 : IntKind.i64.wrap (14 + IntKind.i64.wrap (4 * (f.tags.l.length : Int))) = 14 + 4 * f.tags.l.length := by rw [w1]; exact wrap_id (by omega) (by omega)
  refine bsplit_of (fun h1 => ?_) (fun h1 => ?_)
  · have k2 : f.kind = 2 := by simpa using h1
    refine ⟨ri ?_, rfl, rfl⟩
    rw [w2, headI, inner, if_pos k2]
    exact wrap_id (by omega) (by omega)
  · have k2 : ¬ f.kind = 2 := by simpa using h1
    refine bsplit_of (fun h2 => ?_) (fun h2 => ?_)
    · have k3 : f.kind = 3 := by simpa using h2
      refine ⟨ri ?_, rfl, rfl⟩
      rw [w2, headI, inner, if_neg k2, if_pos k3]
      exact wrap_id (by omega) (by omega)
    · have k3 : ¬ f.kind = 3 := by simpa using h2
      refine ⟨ri ?_, rfl, rfl⟩
      rw [w2, headI, inner, if_neg k2, if_neg k3]
      omega

theorem headR_c (f : FrameV) (g : G) (ht : f.tags.l.length ≤ 1000000) : Tells Tryd.prog 173 [.agg (f.cells.map .v)] g (.v (.int .i64 (headI f))) := by
  refine meets_of mixedS Tryd.func173 (by kernel_rfl) x173_ok (some []) ?_
  have w1 : IntKind.i64.wrap (4 * (f.tags.l.length : Int)) = 4 * f.tags.l.length := wrap_id (by omega) (by omega)
  have w2 : IntKind.i64.wrap (14 + IntKind.i64.wrap (4 * (f.tags.l.length : Int))) = 14 + 4 * f.tags.l.length := by rw [w1]; exact wrap_id (by omega) (by omega)
  refine prim_makeMap 1 rfl rfl ?_
  refine prim_insert (kt := 3) (et := 3) (d := .int .i64) (by kernel_rfl) (by kernel_rfl) (by kernel_rfl) rfl rfl rfl ?_
  refine prim_insert (kt := 3) (et := 3) (d := .int .i64) (by kernel_rfl) (by kernel_rfl) (by kernel_rfl) rfl rfl rfl ?_
  by_cases k2 : f.kind = 2
  · refine prim_lookup (some (0, .int .i64 3)) (kt := 3) (et := 3) (d := .int .i64) (z := .int .i64 0) (i := Tryd.t3) (by kernel_rfl) (by kernel_rfl) (by kernel_rfl) (by kernel_rfl) rfl rfl rfl (by simp [Instr.findNow, Instr.sameNow, k2]) ?_
    refine ⟨ri ?_, rfl, rfl⟩
    rw [w2, headI, inner, if_pos k2]
    exact wrap_id (by omega) (by omega)
  · by_cases k3 : f.kind = 3
    · refine prim_lookup (some (1, .int .i64 8)) (kt := 3) (et := 3) (d := .int .i64) (z := .int .i64 0) (i := Tryd.t3) (by kernel_rfl) (by kernel_rfl) (by kernel_rfl) (by kernel_rfl) rfl rfl rfl (by simp [Instr.findNow, Instr.sameNow, k3]) ?_
      refine ⟨ri ?_, rfl, rfl⟩
      rw [w2, headI, inner, if_neg k2, if_pos k3]
      exact wrap_id (by omega) (by omega)
    · have e2 : (f.kind == 2) = false := by simpa using k2
      have e3 : (f.kind == 3) = false := by simpa using k3
      refine prim_lookup none (kt := 3) (et := 3) (d := .int .i64) (z := .int .i64 0) (i := Tryd.t3) (by kernel_rfl) (by kernel_rfl) (by kernel_rfl) (by kernel_rfl) rfl rfl rfl (by simp [Instr.findNow, Instr.sameNow, e2, e3]) ?_
      refine ⟨ri ?_, rfl, rfl⟩
      rw [w2, headI, inner, if_neg k2, if_neg k3]
      exact wrap_id (by omega) (by omega)

/-- What numbers may stand in a frame. -/
def frA (f : FrameV) : Prop :=
  (f.kind = 1 ∧ 14 + 4 * (f.tags.l.length : Int) + f.body.size ≤ 2000 ∧ 1536 ≤ f.type_ ∧ f.type_ ≤ 65535 ∧ f.type_ ≠ 33024 ∧ f.type_ ≠ 34984 ∧ f.dsap = 0 ∧ f.ssap = 0 ∧ f.ctl = 0 ∧ f.oui = 0 ∧ f.pid = 0) ∨
  (f.kind = 2 ∧ 17 + 4 * (f.tags.l.length : Int) + f.body.size ≤ 2000 ∧ f.type_ = 0 ∧ 0 ≤ f.dsap ∧ f.dsap ≤ 255 ∧ 0 ≤ f.ssap ∧ f.ssap ≤ 255 ∧ 0 ≤ f.ctl ∧ f.ctl ≤ 255 ∧ ¬ (f.dsap = 170 ∧ f.ssap = 170 ∧ f.ctl = 3) ∧ f.oui = 0 ∧ f.pid = 0 ∧ 3 + (f.body.size : Int) ≤ 1500) ∨
  (f.kind = 3 ∧ 22 + 4 * (f.tags.l.length : Int) + f.body.size ≤ 2000 ∧ f.type_ = 0 ∧ f.dsap = 0 ∧ f.ssap = 0 ∧ f.ctl = 0 ∧ 0 ≤ f.oui ∧ f.oui < 16777216 ∧ 0 ≤ f.pid ∧ f.pid < 65536 ∧ 8 + (f.body.size : Int) ≤ 1500)
def frP (f : FrameV) : Prop := stackP f.tags.l ∧ frA f

theorem three_c (f : FrameV) (d s c : Int) (g : G) : Meets Tryd.prog 175 [.v (.int .i64 d), .v (.int .i64 s), .v (.int .i64 c), .ptr 0 0] [.cells 85 (f.cells.map .v)] g (fun o L' g' => o = .ret (.v (.bool (decide (f.dsap = d ∧ f.ssap = s ∧ f.ctl = c)))) ∧ L' = [.cells 85 (f.cells.map .v)] ∧ g' = g) := by
  refine meets_of mixedS Tryd.func175 (by kernel_rfl) x175_ok (some []) ?_
  refine bsplit_of (fun h1 => ?_) (fun h1 => ⟨rbd (by simp at h1; simp [h1]), rfl, rfl⟩)
  refine bsplit_of (fun h2 => ?_) (fun h2 => ⟨rbd (by simp at h2; simp [h2]), rfl, rfl⟩)
  exact ⟨rbd (by simp at h1 h2; simp [h1, h2]), rfl, rfl⟩
theorem byteIn_c (x : Int) (g : G) : Tells Tryd.prog 176 [.v (.int .i64 x)] g (.v (.bool (decide (0 ≤ x ∧ x ≤ 255)))) := by
  refine meets_of mixedS Tryd.func176 (by kernel_rfl) x176_ok (some []) ?_
  refine bsplit_of (fun h1 => ?_) (fun h1 => ⟨rbd (by simp at h1; simp; omega), rfl, rfl⟩)
  exact ⟨rbd (by simp at h1; simp [h1]), rfl, rfl⟩

theorem frameRight_c (f : FrameV) (g : G) (hf : f.ok g) (hb : f.body.size ≤ 1000000) : Tells Tryd.prog 108 [.agg (f.cells.map .v)] g (.v (.bool (decide (frP f)))) := by
  refine meets_of mixedS Tryd.func108 (by kernel_rfl) x108_ok (some []) ?_
  refine (stack_c f.tags g hf.2.2.1).call rfl rfl rfl ?_
  refine bsplit_of (fun h1 => ⟨rbd (iff_of_false (by simp) fun hp => by simp at h1; exact h1 hp.1), rfl, rfl⟩) (fun h1 => ?_)
  have hst : stackP f.tags.l := by simpa using h1
  have hl : f.tags.l.length ≤ 2 := hst.2
  have hin : inner f.kind = 0 ∨ inner f.kind = 3 ∨ inner f.kind = 8 := by
    unfold inner
    by_cases h2 : f.kind = 2
    · simp [h2]
    · by_cases h3 : f.kind = 3
      · simp [h3]
      · simp [h2, h3]
  refine bsplit_of (fun h2 => ⟨rbd (iff_of_false (by simp) fun hp => by have := hp.2; unfold frA at this; simp at h2; omega), rfl, rfl⟩) (fun h2 => ?_)
  refine (head_c f g (by omega)).call rfl rfl rfl ?_
  have w1 : IntKind.i64.wrap (headI f + f.body.size) = headI f + f.body.size := wrap_id (by unfold headI; omega) (by unfold headI; omega)
  refine bsplit_of (fun h3 => ⟨rbd (iff_of_false (by simp) fun hp => by
    have := hp.2
    unfold frA at this
    rw [w1] at h3
    simp [headI] at h3
    have k1 : f.kind = 1 → inner f.kind = 0 := fun h => by simp [inner, h]
    have k2 : f.kind = 2 → inner f.kind = 3 := fun h => by simp [inner, h]
    have k3 : f.kind = 3 → inner f.kind = 8 := fun h => by simp [inner, h]
    omega), rfl, rfl⟩) (fun h3 => ?_)
  rw [w1] at h3
  simp [headI] at h3
  refine (head_c f g (by omega)).call rfl rfl rfl ?_
  have w4 : IntKind.i64.wrap (IntKind.i64.wrap (IntKind.i64.wrap (headI f - 14) - IntKind.i64.wrap (4 * (f.tags.l.length : Int))) + f.body.size) = inner f.kind + f.body.size := by
    rw [wrap_id (a := headI f - 14) (by unfold headI; omega) (by unfold headI; omega), wrap_id (a := 4 * (f.tags.l.length : Int)) (by omega) (by omega), wrap_id (a := headI f - 14 - 4 * (f.tags.l.length : Int)) (by unfold headI; omega) (by unfold headI; omega)]
    rw [wrap_id (by unfold headI; omega) (by unfold headI; omega)]
    unfold headI; omega
  refine bsplit_of (fun h4 => ?_) (fun h4 => ?_)
  · have k : f.kind = 1 := by simpa using h4
    have hi : inner f.kind = 0 := by simp [inner, k]
    refine bsplit_of (fun h5 => ?_) (fun h5 => ⟨rbd (iff_of_false (by simp) fun hp => by have := hp.2; unfold frA at this; simp at h5; omega), rfl, rfl⟩)
    refine bsplit_of (fun h6 => ?_) (fun h6 => ⟨rbd (iff_of_false (by simp) fun hp => by have := hp.2; unfold frA at this; simp at h6; omega), rfl, rfl⟩)
    refine bsplit_of (fun h7 => ?_) (fun h7 => ⟨rbd (iff_of_false (by simp) fun hp => by have := hp.2; unfold frA at this; simp at h7; omega), rfl, rfl⟩)
    refine bsplit_of (fun h8 => ?_) (fun h8 => ⟨rbd (iff_of_false (by simp) fun hp => by have := hp.2; unfold frA at this; simp at h8; omega), rfl, rfl⟩)
    refine (three_c f 0 0 0 g).callS [0] 1 rfl rfl rfl rfl ?_
    rintro o L1 g' ⟨rfl, rfl, rfl⟩ _
    refine bsplit_of (fun h9 => ?_) (fun h9 => ⟨rbd (iff_of_false (by simp) fun hp => by have := hp.2; unfold frA at this; simp at h9; omega), rfl, rfl⟩)
    refine bsplit_of (fun h10 => ?_) (fun h10 => ⟨rbd (iff_of_false (by simp) fun hp => by have := hp.2; unfold frA at this; simp at h10; omega), rfl, rfl⟩)
    simp at h5 h6 h7 h8 h9 h10
    exact ⟨rbd (by simp only [beq_iff_eq]; exact ⟨fun hh => ⟨hst, by unfold frA; omega⟩, fun hp => by have := hp.2; unfold frA at this; omega⟩), rfl, rfl⟩
  · refine bsplit_of (fun h5 => ?_) (fun h5 => ?_)
    · have k : f.kind = 2 := by simpa using h5
      have hi : inner f.kind = 3 := by simp [inner, k]
      refine bsplit_of (fun h6 => ?_) (fun h6 => ⟨rbd (iff_of_false (by simp) fun hp => by have := hp.2; unfold frA at this; simp at h6; omega), rfl, rfl⟩)
      refine (byteIn_c f.dsap g).call rfl rfl rfl ?_
      refine bsplit_of (fun h7 => ?_) (fun h7 => ⟨rbd (iff_of_false (by simp) fun hp => by have := hp.2; unfold frA at this; simp at h7; omega), rfl, rfl⟩)
      refine (byteIn_c f.ssap g).call rfl rfl rfl ?_
      refine bsplit_of (fun h8 => ?_) (fun h8 => ⟨rbd (iff_of_false (by simp) fun hp => by have := hp.2; unfold frA at this; simp at h8; omega), rfl, rfl⟩)
      refine (byteIn_c f.ctl g).call rfl rfl rfl ?_
      refine bsplit_of (fun h9 => ?_) (fun h9 => ⟨rbd (iff_of_false (by simp) fun hp => by have := hp.2; unfold frA at this; simp at h9; omega), rfl, rfl⟩)
      refine (three_c f 170 170 3 g).callS [0] 1 rfl rfl rfl rfl ?_
      rintro o L1 g' ⟨rfl, rfl, rfl⟩ _
      refine bsplit_of (fun h10 => ?_) (fun h10 => ⟨rbd (iff_of_false (by simp) fun hp => by have := hp.2; unfold frA at this; simp at h10; omega), rfl, rfl⟩)
      refine bsplit_of (fun h11 => ?_) (fun h11 => ⟨rbd (iff_of_false (by simp) fun hp => by have := hp.2; unfold frA at this; simp at h11; omega), rfl, rfl⟩)
      refine bsplit_of (fun h12 => ?_) (fun h12 => ⟨rbd (iff_of_false (by simp) fun hp => by have := hp.2; unfold frA at this; simp at h12; omega), rfl, rfl⟩)
      simp at h6 h7 h8 h9 h10 h11 h12
      exact ⟨rbd (by simp only [decide_eq_true_eq]; rw [w4]; exact ⟨fun hh => ⟨hst, by unfold frA; omega⟩, fun hp => by have := hp.2; unfold frA at this; omega⟩), rfl, rfl⟩
    · refine bsplit_of (fun h6 => ?_) (fun h6 => ⟨rbd (iff_of_false (by simp) fun hp => by have := hp.2; unfold frA at this; simp at h4 h5 h6; omega), rfl, rfl⟩)
      have k : f.kind = 3 := by simpa using h6
      have hi : inner f.kind = 8 := by simp [inner, k]
      refine bsplit_of (fun h7 => ?_) (fun h7 => ⟨rbd (iff_of_false (by simp) fun hp => by have := hp.2; unfold frA at this; simp at h7; omega), rfl, rfl⟩)
      refine (three_c f 0 0 0 g).callS [0] 1 rfl rfl rfl rfl ?_
      rintro o L1 g' ⟨rfl, rfl, rfl⟩ _
      refine bsplit_of (fun h8 => ?_) (fun h8 => ⟨rbd (iff_of_false (by simp) fun hp => by have := hp.2; unfold frA at this; simp at h8; omega), rfl, rfl⟩)
      refine bsplit_of (fun h9 => ?_) (fun h9 => ⟨rbd (iff_of_false (by simp) fun hp => by have := hp.2; unfold frA at this; simp at h9; omega), rfl, rfl⟩)
      refine bsplit_of (fun h10 => ?_) (fun h10 => ⟨rbd (iff_of_false (by simp) fun hp => by have := hp.2; unfold frA at this; simp at h10; omega), rfl, rfl⟩)
      refine bsplit_of (fun h11 => ?_) (fun h11 => ⟨rbd (iff_of_false (by simp) fun hp => by have := hp.2; unfold frA at this; simp at h11; omega), rfl, rfl⟩)
      refine bsplit_of (fun h12 => ?_) (fun h12 => ⟨rbd (iff_of_false (by simp) fun hp => by have := hp.2; unfold frA at this; simp at h12; omega), rfl, rfl⟩)
      simp at h7 h8 h9 h10 h11 h12
      exact ⟨rbd (by simp only [decide_eq_true_eq]; rw [w4]; exact ⟨fun hh => ⟨hst, by unfold frA; omega⟩, fun hp => by have := hp.2; unfold frA at this; omega⟩), rfl, rfl⟩

theorem frZero_ok (g : G) (t d s c o p : Int) (ht : iok .i64 t) (hd : iok .i64 d) (hs : iok .i64 s) (hc : iok .i64 c) (ho : iok .i64 o) (hp : iok .i64 p) : FrameV.ok g ⟨AddrV.zero, AddrV.zero, ⟨none, [], 0⟩, 0, t, d, s, c, o, p, ⟨#[]⟩⟩ := by
  have i8 : iok .u8 0 := by unfold iok; decide
  have i0 : iok .i64 0 := by unfold iok; decide
  exact ⟨⟨i8, i8, i8, i8, i8, i8⟩, ⟨i8, i8, i8, i8, i8, i8⟩, sliceV_nil _ _ _ _, i0, ht, hd, hs, hc, ho, hp, by show 0 ≤ maxLen; decide⟩
theorem restEq (t d s c o p : Int) : frameEq ⟨AddrV.zero, AddrV.zero, ⟨none, [], 0⟩, 0, t, d, s, c, o, p, ⟨#[]⟩⟩ FrameV.zero = decide (t = 0 ∧ d = 0 ∧ s = 0 ∧ c = 0 ∧ o = 0 ∧ p = 0) := by
  have e : ∀ b : ByteArray, eqS b b = true := fun b => by simp [eqS]
  have k : eqL TagV.eq [] [] = true := by simp [eqL]
  simp only [frameEq, FrameV.zero, AddrV.eq_refl, e, k, Bool.true_and, Bool.and_true, beq_self_eq_true]
  rw [Bool.eq_iff_iff]
  simp

theorem frameRightR_c (f : FrameV) (g : G) (hf : f.ok g) (hb : f.body.size ≤ 1000000) : Tells Tryd.prog 106 [.agg (f.cells.map .v)] g (.v (.bool (decide (frP f)))) := by
  obtain ⟨-, -, -, ik, it, id, is, ic, io, ip, -⟩ := id hf
  have i0 : iok .i64 0 := by unfold iok; decide
  refine meets_of mixedS Tryd.func106 (by kernel_rfl) x106_ok (some []) ?_
  refine (stackR_c f.tags g hf.2.2.1).call rfl rfl rfl ?_
  refine bsplit_of (fun h1 => ⟨rbd (iff_of_false (by simp) fun hp => by simp at h1; exact h1 hp.1), rfl, rfl⟩) (fun h1 => ?_)
  have hst : stackP f.tags.l := by simpa using h1
  have hl : f.tags.l.length ≤ 2 := hst.2
  have hin : inner f.kind = 0 ∨ inner f.kind = 3 ∨ inner f.kind = 8 := by
    unfold inner
    by_cases h2 : f.kind = 2
    · simp [h2]
    · by_cases h3 : f.kind = 3
      · simp [h3]
      · simp [h2, h3]
  refine (headR_c f g (by omega)).call rfl rfl rfl ?_
  have w1 : IntKind.i64.wrap (headI f + f.body.size) = headI f + f.body.size := wrap_id (by unfold headI; omega) (by unfold headI; omega)
  have k1 : f.kind = 1 → inner f.kind = 0 := fun h => by simp [inner, h]
  have k2 : f.kind = 2 → inner f.kind = 3 := fun h => by simp [inner, h]
  have k3 : f.kind = 3 → inner f.kind = 8 := fun h => by simp [inner, h]
  refine bsplit_of (fun h3 => ⟨rbd (iff_of_false (by simp) fun hp => by
    have := hp.2
    unfold frA at this
    rw [w1] at h3
    simp [headI] at h3
    omega), rfl, rfl⟩) (fun h3 => ?_)
  rw [w1] at h3
  simp [headI] at h3
  refine prim_makeMap 1 rfl rfl ?_
  refine prim_insert (kt := 3) (et := 3) (d := .int .i64) (by kernel_rfl) (by kernel_rfl) (by kernel_rfl) rfl rfl rfl ?_
  refine prim_insert (kt := 3) (et := 3) (d := .int .i64) (by kernel_rfl) (by kernel_rfl) (by kernel_rfl) rfl rfl rfl ?_
  by_cases hk2 : f.kind = 2
  · have hi := k2 hk2
    have w3 : IntKind.i64.wrap (3 + (f.body.size : Int)) = 3 + f.body.size := wrap_id (by omega) (by omega)
    refine prim_lookup (some (0, .int .i64 3)) (kt := 3) (et := 3) (d := .int .i64) (z := .int .i64 0) (i := Tryd.t3) (by kernel_rfl) (by kernel_rfl) (by kernel_rfl) (by kernel_rfl) rfl rfl rfl (by simp [Instr.findNow, Instr.sameNow, hk2]) ?_
    refine bsplit_of (fun h4 => absurd h4 (by simp; omega)) (fun _ => ?_)
    refine bsplit_of (fun _ => ?_) (fun h4 => absurd h4 (by simp; omega))
    refine (within_c f.dsap 0 255 g).call rfl rfl rfl ?_
    refine bsplit_of (fun h5 => ⟨rbd (iff_of_false (by simp) fun hp => by have := hp.2; unfold frA at this; simp at h5; omega), rfl, rfl⟩) (fun h5 => ?_)
    refine (within_c f.ssap 0 255 g).call rfl rfl rfl ?_
    refine bsplit_of (fun h6 => ⟨rbd (iff_of_false (by simp) fun hp => by have := hp.2; unfold frA at this; simp at h6; omega), rfl, rfl⟩) (fun h6 => ?_)
    refine (within_c f.ctl 0 255 g).call rfl rfl rfl ?_
    refine bsplit_of (fun h7 => ⟨rbd (iff_of_false (by simp) fun hp => by have := hp.2; unfold frA at this; simp at h7; omega), rfl, rfl⟩) (fun h7 => ?_)
    refine bsplit_of (fun (h8 : (false ^^ (f.dsap == 170 && (f.ssap == 170 && (f.ctl == 3 && true)))) = true) => ⟨rbd (iff_of_false (by simp) fun hp => by have := hp.2; unfold frA at this; simp at h8; omega), rfl, rfl⟩) (fun (h8 : (false ^^ (f.dsap == 170 && (f.ssap == 170 && (f.ctl == 3 && true)))) = false) => ?_)
    refine bsplit_of (fun (h9 : decide (IntKind.i64.wrap (3 + (f.body.size : Int)) > 1500) = true) => ⟨rbd (iff_of_false (by simp) fun hp => by have := hp.2; unfold frA at this; rw [w3] at h9; simp at h9; omega), rfl, rfl⟩) (fun (h9 : decide (IntKind.i64.wrap (3 + (f.body.size : Int)) > 1500) = false) => ?_)
    refine (frameR_c ⟨AddrV.zero, AddrV.zero, ⟨none, [], 0⟩, 0, f.type_, 0, 0, 0, f.oui, f.pid, ⟨#[]⟩⟩ FrameV.zero g (frZero_ok g _ _ _ _ _ _ it i0 i0 i0 io ip) (frZero_ok g _ _ _ _ _ _ i0 i0 i0 i0 i0 i0)).call rfl rfl rfl ?_
    rw [w3] at h9
    simp at h5 h6 h7 h8 h9
    refine ⟨rb ?_, rfl, rfl⟩
    rw [restEq, decide_eq_decide]
    exact ⟨fun hp => by have := hp.2; unfold frA at this; omega, fun hh => ⟨hst, by unfold frA; omega⟩⟩
  · by_cases hk3 : f.kind = 3
    · have hi := k3 hk3
      have w3 : IntKind.i64.wrap (8 + (f.body.size : Int)) = 8 + f.body.size := wrap_id (by omega) (by omega)
      refine prim_lookup (some (1, .int .i64 8)) (kt := 3) (et := 3) (d := .int .i64) (z := .int .i64 0) (i := Tryd.t3) (by kernel_rfl) (by kernel_rfl) (by kernel_rfl) (by kernel_rfl) rfl rfl rfl (by simp [Instr.findNow, Instr.sameNow, hk3]) ?_
      refine bsplit_of (fun h4 => absurd h4 (by simp; omega)) (fun _ => ?_)
      refine bsplit_of (fun h4 => absurd h4 (by simp; omega)) (fun _ => ?_)
      refine bsplit_of (fun _ => ?_) (fun h4 => absurd h4 (by simp; omega))
      refine (within_c f.oui 0 16777215 g).call rfl rfl rfl ?_
      refine bsplit_of (fun h5 => ⟨rbd (iff_of_false (by simp) fun hp => by have := hp.2; unfold frA at this; simp at h5; omega), rfl, rfl⟩) (fun h5 => ?_)
      refine (within_c f.pid 0 65535 g).call rfl rfl rfl ?_
      refine bsplit_of (fun h6 => ⟨rbd (iff_of_false (by simp) fun hp => by have := hp.2; unfold frA at this; simp at h6; omega), rfl, rfl⟩) (fun h6 => ?_)
      refine bsplit_of (fun (h9 : decide (IntKind.i64.wrap (8 + (f.body.size : Int)) > 1500) = true) => ⟨rbd (iff_of_false (by simp) fun hp => by have := hp.2; unfold frA at this; rw [w3] at h9; simp at h9; omega), rfl, rfl⟩) (fun (h9 : decide (IntKind.i64.wrap (8 + (f.body.size : Int)) > 1500) = false) => ?_)
      refine (frameR_c ⟨AddrV.zero, AddrV.zero, ⟨none, [], 0⟩, 0, f.type_, f.dsap, f.ssap, f.ctl, 0, 0, ⟨#[]⟩⟩ FrameV.zero g (frZero_ok g _ _ _ _ _ _ it id is ic i0 i0) (frZero_ok g _ _ _ _ _ _ i0 i0 i0 i0 i0 i0)).call rfl rfl rfl ?_
      rw [w3] at h9
      simp at h5 h6 h9
      refine ⟨rb ?_, rfl, rfl⟩
      rw [restEq, decide_eq_decide]
      exact ⟨fun hp => by have := hp.2; unfold frA at this; omega, fun hh => ⟨hst, by unfold frA; omega⟩⟩
    · have e2 : (f.kind == 2) = false := by simpa using hk2
      have e3 : (f.kind == 3) = false := by simpa using hk3
      refine prim_lookup none (kt := 3) (et := 3) (d := .int .i64) (z := .int .i64 0) (i := Tryd.t3) (by kernel_rfl) (by kernel_rfl) (by kernel_rfl) (by kernel_rfl) rfl rfl rfl (by simp [Instr.findNow, Instr.sameNow, e2, e3]) ?_
      refine bsplit_of (fun h4 => ?_) (fun h4 => ?_)
      · have hk1 : f.kind = 1 := by simpa using h4
        have hi := k1 hk1
        refine (within_c f.type_ 1536 65535 g).call rfl rfl rfl ?_
        refine bsplit_of (fun h5 => ⟨rbd (iff_of_false (by simp) fun hp => by have := hp.2; unfold frA at this; simp at h5; omega), rfl, rfl⟩) (fun h5 => ?_)
        refine bsplit_of (fun h6 => ⟨rbd (iff_of_false (by simp) fun hp => by have := hp.2; unfold frA at this; simp at h6; omega), rfl, rfl⟩) (fun h6 => ?_)
        refine bsplit_of (fun h7 => ⟨rbd (iff_of_false (by simp) fun hp => by have := hp.2; unfold frA at this; simp at h7; omega), rfl, rfl⟩) (fun h7 => ?_)
        refine (frameR_c ⟨AddrV.zero, AddrV.zero, ⟨none, [], 0⟩, 0, 0, f.dsap, f.ssap, f.ctl, f.oui, f.pid, ⟨#[]⟩⟩ FrameV.zero g (frZero_ok g _ _ _ _ _ _ i0 id is ic io ip) (frZero_ok g _ _ _ _ _ _ i0 i0 i0 i0 i0 i0)).call rfl rfl rfl ?_
        simp at h5 h6 h7
        refine ⟨rb ?_, rfl, rfl⟩
        rw [restEq, decide_eq_decide]
        exact ⟨fun hp => by have := hp.2; unfold frA at this; omega, fun hh => ⟨hst, by unfold frA; omega⟩⟩
      · refine bsplit_of (fun h5 => absurd h5 (by simp; omega)) (fun _ => ?_)
        refine bsplit_of (fun h5 => absurd h5 (by simp; omega)) (fun _ => ?_)
        exact ⟨rbd (iff_of_false (by simp) fun hp => by have := hp.2; unfold frA at this; simp at h4; omega), rfl, rfl⟩

end Go.Proofs.YtdfpbmchkfmfdaaDoor
