/- frame.Write: what it returns. Conditions: few tags, a short body. -/
import Derived.Test.YtdfpbmchkfmfdaaDoorFrWC
namespace Go.Proofs.YtdfpbmchkfmfdaaDoor
open Go.Sx Go.Lib Go.RowKit
set_option maxRecDepth 100000
set_option maxHeartbeats 8000000
attribute [local irreducible] Meets
attribute [local instance] Classical.propDecidable

theorem svc_yes : beS 2 (34984 : Int).toNat = svcS true := by decide +kernel
theorem svc_no : beS 2 (33024 : Int).toNat = svcS false := by decide +kernel
theorem tagNum_rng {t : TagV} (h : tagP t) : 0 ≤ tagNum t ∧ tagNum t < 65536 := by
  obtain ⟨h1, h2, h3, h4⟩ := h
  unfold tagNum
  split <;> omega

theorem frWrite_bad (f : FrameV) (g : G) (hf : f.ok g) (hb : f.body.size ≤ 1000000) (h : ¬ frP f) : Tells Tryd.prog 41 [.agg (f.cells.map .v)] g (.tup [.v (.string emp), .v (errW 1)]) := by
  refine meets_of mixedS Tryd.func41 (by kernel_rfl) x41_ok (some []) ?_
  refine (frameRight_c f g hf hb).call rfl rfl rfl ?_
  refine bsplit_of (fun _ => ⟨rfl, rfl, rfl⟩) (fun (q : (!decide (frP f)) = false) => absurd q (by simp [h]))

theorem frWrite_good (f : FrameV) (g : G) (hf : f.ok g) (hb : f.body.size ≤ 1000000) (h : frP f) : Tells Tryd.prog 41 [.agg (f.cells.map .v)] g (.tup [.v (.string (frameS f)), .v .nilIface]) := by
  refine meets_of mixedS Tryd.func41 (by kernel_rfl) x41_ok (some []) ?_
  refine (frameRight_c f g hf hb).call rfl rfl rfl ?_
  refine bsplit_of (fun (q : (!decide (frP f)) = true) => absurd q (by simp [h])) (fun _ => ?_)
  have hn2 : f.tags.l.length ≤ 2 := h.1.2
  refine (writeA0 f g).callS [1, 0] 2 rfl rfl rfl rfl ?_
  rintro o L1 g' ⟨cap0, sp0, hc0, rfl, rfl, rfl⟩ _
  refine (writeA1 f cap0 sp0 g' hc0.1 hc0.2).callS [1, 0, 2] 3 rfl rfl rfl rfl ?_
  rintro o L1 g ⟨cap, sp, hc, rfl, rfl, rfl⟩ _
  have hts := hf.2.2.1
  have hlen := hts.len
  have hp0 : (preS f 0).size = 12 := preS_size f 0 (Nat.zero_le _)
  have hcl : strCells (preS f 0) ++ sp = f.dst.cells ++ (f.src.cells ++ sp) := by
    rw [preS_zero, show strCells (aS f.dst ++ aS f.src) = strCells (aS f.dst) ++ strCells (aS f.src) by simp [strCells, ByteArray.data_append], aS_cells _ g hf.1, aS_cells _ g hf.2.1, List.append_assoc]
  change LoopW _ _ _ _ _ _ _
  apply loop_rule [3] (α := Nat × Nat × List Value) (fun y => [(23, .v (.int .i64 y.1))]) (fun y => [frC f, .cells 202 [.ptr 1 0, .slc 3 0 (preS f y.1).size y.2.1], .gone, .vals 5 (strCells (preS f y.1) ++ y.2.2)]) (fun _ => g)
    (fun y => y.1 ≤ f.tags.l.length ∧ ((preS f y.1).size + y.2.2.length = y.2.1 ∧ y.2.1 ≤ 9223372036854775807)) (fun y => f.tags.l.length - y.1) (0, cap, sp)
  · intro x; kernel_rfl
  · exact ⟨Nat.zero_le _, by rw [hp0]; exact hc⟩
  · exact ⟨rfl, trivial⟩
  · show _ = [frC f, .cells 202 [.ptr 1 0, .slc 3 0 (preS f 0).size cap], .gone, .vals 5 (strCells (preS f 0) ++ sp)]
    rw [hp0, hcl]
    rfl
  · rfl
  rintro ⟨k, cap, sp⟩ ⟨hk, hc⟩
  dsimp only at hk hc
  refine bsplit_of (fun hlt => ?_) (fun hlt => ?_)
  · have hlt' : k < f.tags.l.length := by simpa using hlt
    obtain ⟨ad, t, ha, hx, hat, htok⟩ := hts.elem (fun _ => rfl) hlt'
    refine ⟨⟨by omega, by omega⟩, ad, ha, ?_⟩
    refine ⟨t.cells, rfl, hat, ?_⟩
    have htp : tagP t := (h.1.1 k t hx).1
    have hrng := tagNum_rng htp
    have hps := preS_size f k hk
    refine (pack_good t g htp).call rfl rfl rfl ?_
    refine bsplit_of (fun (q : t.s = true) => ?_) (fun (q : t.s = false) => ?_)
    · refine (mustG 34984 2 g (by decide) (by decide) (by decide) (by decide) (by decide)).call rfl rfl rfl ?_
      refine (mustG (tagNum t) 2 g (by decide) (by decide) hrng.1 (by show tagNum t < 65536; omega) (by omega)).call rfl rfl rfl ?_
      refine ⟨szOk rfl, ?_⟩
      have e5 : preS f k ++ (beS 2 (34984 : Int).toNat ++ beS 2 (tagNum t).toNat) = preS f (k + 1) := by
        rw [← preS_next hx, tagS, q, svc_yes]
      refine (write1 (preS f k) (beS 2 (34984 : Int).toNat ++ beS 2 (tagNum t).toNat) cap sp g hc.1 hc.2 (by rw [hps, ByteArray.size_append, beS_size, beS_size]; omega)).callS [1, 3] 5 rfl rfl rfl rfl ?_
      rintro o L1 g' ⟨cap2, sp2, hc2, rfl, rfl, rfl⟩ _
      rw [e5] at hc2
      refine ⟨(k + 1, cap2, sp2), ⟨hlt', hc2⟩, by show f.tags.l.length - (k + 1) < f.tags.l.length - k; omega, [0, 1, 2, 5], rfl, ⟨vi (wrap_id (by omega) (by omega)), trivial⟩, ?_, rfl, rfl, rfl⟩
      show _ = ([frC f, .cells 202 [.ptr 1 0, .slc 5 0 (preS f (k + 1)).size cap2], .gone, .vals 5 (strCells (preS f (k + 1)) ++ sp2)] : List Chunk)
      rw [← e5]
      rfl
    · refine (mustG 33024 2 g (by decide) (by decide) (by decide) (by decide) (by decide)).call rfl rfl rfl ?_
      refine (mustG (tagNum t) 2 g (by decide) (by decide) hrng.1 (by show tagNum t < 65536; omega) (by omega)).call rfl rfl rfl ?_
      refine ⟨szOk rfl, ?_⟩
      have e5 : preS f k ++ (beS 2 (33024 : Int).toNat ++ beS 2 (tagNum t).toNat) = preS f (k + 1) := by
        rw [← preS_next hx, tagS, q, svc_no]
      refine (write1 (preS f k) (beS 2 (33024 : Int).toNat ++ beS 2 (tagNum t).toNat) cap sp g hc.1 hc.2 (by rw [hps, ByteArray.size_append, beS_size, beS_size]; omega)).callS [1, 3] 5 rfl rfl rfl rfl ?_
      rintro o L1 g' ⟨cap2, sp2, hc2, rfl, rfl, rfl⟩ _
      rw [e5] at hc2
      refine ⟨(k + 1, cap2, sp2), ⟨hlt', hc2⟩, by show f.tags.l.length - (k + 1) < f.tags.l.length - k; omega, [0, 1, 2, 5], rfl, ⟨vi (wrap_id (by omega) (by omega)), trivial⟩, ?_, rfl, rfl, rfl⟩
      show _ = ([frC f, .cells 202 [.ptr 1 0, .slc 5 0 (preS f (k + 1)).size cap2], .gone, .vals 5 (strCells (preS f (k + 1)) ++ sp2)] : List Chunk)
      rw [← e5]
      rfl
  · have hge : f.tags.l.length ≤ k := by simpa using hlt
    have hkn : k = f.tags.l.length := by omega
    subst hkn
    have hps := preS_size f _ hk
    rcases h.2 with ⟨hk1, a1, a2, a3, -⟩ | ⟨hk2, a1, -, b1, b2, b3, b4, b5, b6, -, -, -, b7⟩ | ⟨hk3, a1, -, -, -, -, b1, b2, b3, b4, b7⟩
    · refine bsplit_of (fun _ => ?_) (fun (q : (f.kind == 1) = false) => absurd q (by simp [hk1]))
      refine (mustG f.type_ 2 g (by decide) (by decide) (by omega) (by show f.type_ < 65536; omega) (by omega)).call rfl rfl rfl ?_
      obtain ⟨u1, hu1⟩ : ∃ u, preS f f.tags.l.length ++ beS 2 f.type_.toNat = u := ⟨_, rfl⟩
      obtain ⟨u2, hu2⟩ : ∃ u, u1 ++ f.body = u := ⟨_, rfl⟩
      have z1 : u1.size = 12 + 4 * f.tags.l.length + 2 := by rw [← hu1, ByteArray.size_append, hps, beS_size]
      have z2 : u2.size = 12 + 4 * f.tags.l.length + 2 + f.body.size := by rw [← hu2, ByteArray.size_append, z1]
      refine (write1E (preS f f.tags.l.length) (beS 2 f.type_.toNat) u1 hu1 cap sp g hc.1 hc.2 (by rw [hps, beS_size]; omega)).callS [1, 3] 4 rfl rfl rfl rfl ?_
      rintro o L1 g' ⟨cap1, sp1, hc1, rfl, rfl, rfl⟩ _
      refine bsplit_of (fun (q : (f.kind == 2) = true) => absurd q (by simp [hk1])) (fun _ => ?_)
      refine bsplit_of (fun (q : (f.kind == 3) = true) => absurd q (by simp [hk1])) (fun _ => ?_)
      refine (write1E u1 f.body u2 hu2 cap1 sp1 g' hc1.1 hc1.2 (by rw [z1]; omega)).callS [1, 4] 5 rfl rfl rfl rfl ?_
      rintro o L1 g' ⟨cap2, sp2, hc2, rfl, rfl, rfl⟩ _
      refine (string1 u2 cap2 sp2 g' (by rw [z2]; omega) hc2.1 (by rw [z2]; omega)).callS [1, 5] 6 rfl rfl rfl rfl ?_
      rintro o L1 g' ⟨rfl, ⟨ob, rfl⟩, rfl⟩ _
      refine ⟨rts ?_, rfl, rfl⟩
      rw [frameS, if_pos hk1, ← hu2, ← hu1]
    ·
      refine bsplit_of (fun (q : (f.kind == 1) = true) => absurd q (by simp [hk2])) (fun _ => ?_)
      have hin : inner f.kind = 3 := by rw [inner]; simp [hk2]
      have e : IntKind.i64.wrap (IntKind.i64.wrap (IntKind.i64.wrap (headI f - 14) - IntKind.i64.wrap (4 * (f.tags.l.length : Int))) + (f.body.size : Int)) = inner f.kind + f.body.size := by
        rw [headI, hin, wrap_id (a := 14 + 4 * (f.tags.l.length : Int) + 3 - 14) (by omega) (by omega), wrap_id (a := 4 * (f.tags.l.length : Int)) (by omega) (by omega), wrap_id (a := 14 + 4 * (f.tags.l.length : Int) + 3 - 14 - 4 * (f.tags.l.length : Int)) (by omega) (by omega), wrap_id (by omega) (by omega)]
        omega
      have hm : Tells Tryd.prog 102 [.v (.int .i64 (IntKind.i64.wrap (IntKind.i64.wrap (IntKind.i64.wrap (headI f - 14) - IntKind.i64.wrap (4 * (f.tags.l.length : Int))) + (f.body.size : Int)))), .v (.int .i64 2)] g (.v (.string (beS 2 (inner f.kind + f.body.size).toNat))) := by
        rw [e, hin]; exact mustG (3 + f.body.size) 2 g (by decide) (by decide) (by omega) (by show _ < (65536 : Int); omega) (by omega)
      refine (head_c f g (by omega)).call rfl rfl rfl ?_
      refine hm.call rfl rfl rfl ?_
      obtain ⟨u1, hu1⟩ : ∃ u, preS f f.tags.l.length ++ beS 2 (inner f.kind + f.body.size).toNat = u := ⟨_, rfl⟩
      have z1 : u1.size = 12 + 4 * f.tags.l.length + 2 := by rw [← hu1, ByteArray.size_append, hps, beS_size]
      refine (write1E (preS f f.tags.l.length) (beS 2 (inner f.kind + f.body.size).toNat) u1 hu1 cap sp g hc.1 hc.2 (by rw [hps, beS_size]; omega)).callS [1, 3] 4 rfl rfl rfl rfl ?_
      rintro o L1 g' ⟨cap1, sp1, hc1, rfl, rfl, rfl⟩ _
      have hsz : (beS 1 f.dsap.toNat ++ beS 1 f.ssap.toNat ++ beS 1 f.ctl.toNat).size = 3 := by rw [ByteArray.size_append, ByteArray.size_append, beS_size, beS_size, beS_size]
      refine bsplit_of (fun _ => ?_) (fun (q : (f.kind == 2) = false) => absurd q (by simp [hk2]))
      refine (mustG f.dsap 1 g' (by decide) (by decide) b1 (by show f.dsap < 256; omega) (by omega)).call rfl rfl rfl ?_
      refine (mustG f.ssap 1 g' (by decide) (by decide) b3 (by show f.ssap < 256; omega) (by omega)).call rfl rfl rfl ?_
      refine ⟨szOk rfl, ?_⟩
      refine (mustG f.ctl 1 g' (by decide) (by decide) b5 (by show f.ctl < 256; omega) (by omega)).call rfl rfl rfl ?_
      refine ⟨szOk rfl, ?_⟩
      obtain ⟨u2, hu2⟩ : ∃ u, u1 ++ (beS 1 f.dsap.toNat ++ beS 1 f.ssap.toNat ++ beS 1 f.ctl.toNat) = u := ⟨_, rfl⟩
      obtain ⟨u3, hu3⟩ : ∃ u, u2 ++ f.body = u := ⟨_, rfl⟩
      have z2 : u2.size = 12 + 4 * f.tags.l.length + 2 + 3 := by rw [← hu2, ByteArray.size_append, z1, hsz]
      have z3 : u3.size = 12 + 4 * f.tags.l.length + 2 + 3 + f.body.size := by rw [← hu3, ByteArray.size_append, z2]
      refine (write1E u1 (beS 1 f.dsap.toNat ++ beS 1 f.ssap.toNat ++ beS 1 f.ctl.toNat) u2 hu2 cap1 sp1 g' hc1.1 hc1.2 (by rw [z1, hsz]; omega)).callS [1, 4] 5 rfl rfl rfl rfl ?_
      rintro o L1 g' ⟨cap2, sp2, hc2, rfl, rfl, rfl⟩ _
      refine (write1E u2 f.body u3 hu3 cap2 sp2 g' hc2.1 hc2.2 (by rw [z2]; omega)).callS [1, 5] 6 rfl rfl rfl rfl ?_
      rintro o L1 g' ⟨cap3, sp3, hc3, rfl, rfl, rfl⟩ _
      refine (string1 u3 cap3 sp3 g' (by rw [z3]; omega) hc3.1 (by rw [z3]; omega)).callS [1, 6] 7 rfl rfl rfl rfl ?_
      rintro o L1 g' ⟨rfl, ⟨ob, rfl⟩, rfl⟩ _
      refine ⟨rts ?_, rfl, rfl⟩
      rw [frameS, if_neg (by omega), inS, ← hu3, ← hu2, ← hu1]
      rw [if_pos hk2]
    ·
      refine bsplit_of (fun (q : (f.kind == 1) = true) => absurd q (by simp [hk3])) (fun _ => ?_)
      have hin : inner f.kind = 8 := by rw [inner]; simp [hk3]
      have e : IntKind.i64.wrap (IntKind.i64.wrap (IntKind.i64.wrap (headI f - 14) - IntKind.i64.wrap (4 * (f.tags.l.length : Int))) + (f.body.size : Int)) = inner f.kind + f.body.size := by
        rw [headI, hin, wrap_id (a := 14 + 4 * (f.tags.l.length : Int) + 8 - 14) (by omega) (by omega), wrap_id (a := 4 * (f.tags.l.length : Int)) (by omega) (by omega), wrap_id (a := 14 + 4 * (f.tags.l.length : Int) + 8 - 14 - 4 * (f.tags.l.length : Int)) (by omega) (by omega), wrap_id (by omega) (by omega)]
        omega
      have hm : Tells Tryd.prog 102 [.v (.int .i64 (IntKind.i64.wrap (IntKind.i64.wrap (IntKind.i64.wrap (headI f - 14) - IntKind.i64.wrap (4 * (f.tags.l.length : Int))) + (f.body.size : Int)))), .v (.int .i64 2)] g (.v (.string (beS 2 (inner f.kind + f.body.size).toNat))) := by
        rw [e, hin]; exact mustG (8 + f.body.size) 2 g (by decide) (by decide) (by omega) (by show _ < (65536 : Int); omega) (by omega)
      refine (head_c f g (by omega)).call rfl rfl rfl ?_
      refine hm.call rfl rfl rfl ?_
      obtain ⟨u1, hu1⟩ : ∃ u, preS f f.tags.l.length ++ beS 2 (inner f.kind + f.body.size).toNat = u := ⟨_, rfl⟩
      have z1 : u1.size = 12 + 4 * f.tags.l.length + 2 := by rw [← hu1, ByteArray.size_append, hps, beS_size]
      refine (write1E (preS f f.tags.l.length) (beS 2 (inner f.kind + f.body.size).toNat) u1 hu1 cap sp g hc.1 hc.2 (by rw [hps, beS_size]; omega)).callS [1, 3] 4 rfl rfl rfl rfl ?_
      rintro o L1 g' ⟨cap1, sp1, hc1, rfl, rfl, rfl⟩ _
      have hsz : (⟨#[170, 170, 3]⟩ ++ beS 3 f.oui.toNat ++ beS 2 f.pid.toNat).size = 8 := by rw [ByteArray.size_append, ByteArray.size_append, beS_size, beS_size, sz3]
      refine bsplit_of (fun (q : (f.kind == 2) = true) => absurd q (by simp [hk3])) (fun _ => ?_)
      refine bsplit_of (fun _ => ?_) (fun (q : (f.kind == 3) = false) => absurd q (by simp [hk3]))
      refine (mustG f.oui 3 g' (by decide) (by decide) b1 (by show f.oui < 16777216; omega) (by omega)).call rfl rfl rfl ?_
      refine ⟨szOk rfl, ?_⟩
      refine (mustG f.pid 2 g' (by decide) (by decide) b3 (by show f.pid < 65536; omega) (by omega)).call rfl rfl rfl ?_
      refine ⟨szOk rfl, ?_⟩
      obtain ⟨u2, hu2⟩ : ∃ u, u1 ++ (⟨#[170, 170, 3]⟩ ++ beS 3 f.oui.toNat ++ beS 2 f.pid.toNat) = u := ⟨_, rfl⟩
      obtain ⟨u3, hu3⟩ : ∃ u, u2 ++ f.body = u := ⟨_, rfl⟩
      have z2 : u2.size = 12 + 4 * f.tags.l.length + 2 + 8 := by rw [← hu2, ByteArray.size_append, z1, hsz]
      have z3 : u3.size = 12 + 4 * f.tags.l.length + 2 + 8 + f.body.size := by rw [← hu3, ByteArray.size_append, z2]
      refine (write1E u1 (⟨#[170, 170, 3]⟩ ++ beS 3 f.oui.toNat ++ beS 2 f.pid.toNat) u2 hu2 cap1 sp1 g' hc1.1 hc1.2 (by rw [z1, hsz]; omega)).callS [1, 4] 5 rfl rfl rfl rfl ?_
      rintro o L1 g' ⟨cap2, sp2, hc2, rfl, rfl, rfl⟩ _
      refine (write1E u2 f.body u3 hu3 cap2 sp2 g' hc2.1 hc2.2 (by rw [z2]; omega)).callS [1, 5] 6 rfl rfl rfl rfl ?_
      rintro o L1 g' ⟨cap3, sp3, hc3, rfl, rfl, rfl⟩ _
      refine (string1 u3 cap3 sp3 g' (by rw [z3]; omega) hc3.1 (by rw [z3]; omega)).callS [1, 6] 7 rfl rfl rfl rfl ?_
      rintro o L1 g' ⟨rfl, ⟨ob, rfl⟩, rfl⟩ _
      refine ⟨rts ?_, rfl, rfl⟩
      rw [frameS, if_neg (by omega), inS, ← hu3, ← hu2, ← hu1]
      rw [if_neg (by omega)]
end Go.Proofs.YtdfpbmchkfmfdaaDoor
