/- lldp.Write: what it returns, where the station may tell that. Conditions: the slices lie where they say. -/
import Derived.Test.YtfianfpmnglfnaaDoorXlldpc
import Derived.Test.YtfianfpmnglfnaaDoorLldpC
import Derived.Test.YtfianfpmnglfnaaDoorTlvWC
namespace Go.Proofs.YtfianfpmnglfnaaDoor
open Go.Sx
set_option maxRecDepth 100000
set_option maxHeartbeats 8000000
attribute [local irreducible] Meets
attribute [local instance] Classical.propDecidable

theorem slice_at {α : Type} {sz : Nat} {f : α → List Value} {g : G} {l : List α} {cap b : Nat} {sp : List Value} (h : grOk sz l.length cap (l.flatMap f) sp) (hb : g.at ⟨b, 0, none⟩ (l.flatMap f ++ sp)) : SliceV.ok sz f (fun _ => True) g ⟨some ⟨b, 0, none⟩, l, cap⟩ := by
  obtain ⟨h1, h2, h3, -⟩ := h
  refine ⟨⟨h1, fun _ => ⟨_, rfl, ?_⟩⟩, ?_, h2, ?_, fun _ _ => trivial⟩
  · obtain ⟨a1, c, ty', fz, a2, a3⟩ := hb
    refine ⟨a1, c, ty', fz, a2, fun i hi => ?_⟩
    have hi : i < (l.flatMap f).length := hi
    rw [a3 i (by rw [List.length_append]; omega), List.getElem?_append_left hi]
  · show _ ≤ maxLen; simp only [maxLen]; omega
  · show _ ≤ maxLen; simp only [maxLen]; omega
theorem mustZ (x : Int) (n : Nat) (g : G) (h1 : 1 ≤ n) (h8 : n ≤ 8) (h0 : 0 ≤ x) (hx : x < ((256 ^ n : Nat) : Int)) (hm : x ≤ 9223372036854775807) : Tells Tryd.prog 30 [.v (.int .i64 x), .v (.int .i64 n)] g (.v (.string (beZ n x))) := by
  rw [beZ, u64_pos h0 hm]
  exact mustG x n g h1 h8 h0 hx hm
theorem tlvP_of {n : Int} {s : ByteArray} (h1 : 1 ≤ n) (h2 : n ≤ 127) (h3 : s.size ≤ 511) : tlvP ⟨n, s⟩ := ⟨h1, h2, h3⟩
theorem tlvs_good {l : LldpV} (h : lldpP l) : ∀ t ∈ tlvsOf l, tlvP t := by
  obtain ⟨⟨n1, n2, -⟩, ⟨s1, s2, s3⟩, ⟨-, hc⟩, ⟨-, hm⟩, ⟨-, ho⟩⟩ := h
  intro t ht
  simp only [tlvsOf, headT, strT2, List.mem_append, List.mem_cons, List.not_mem_nil, or_false, List.mem_map] at ht
  rcases ht with (((((((rfl | rfl | rfl) | ⟨x, hx, rfl⟩) | ⟨x, hx, rfl⟩) | ⟨x, hx, rfl⟩) | ⟨x, hx, rfl⟩) | ⟨x, hx, rfl⟩) | ⟨x, hx, rfl⟩)
  · refine tlvP_of (by decide) (by decide) ?_
    have := n1.2.2
    show (beZ 1 _ ++ _).size ≤ 511
    rw [ByteArray.size_append, beZ_size]; omega
  · refine tlvP_of (by decide) (by decide) ?_
    have := n2.2.2
    show (beZ 1 _ ++ _).size ≤ 511
    rw [ByteArray.size_append, beZ_size]; omega
  · refine tlvP_of (by decide) (by decide) ?_
    show (beZ 2 _).size ≤ 511
    rw [beZ_size]; omega
  · refine tlvP_of (by decide) (by decide) ?_
    have := s1.2 x hx
    show x.size ≤ 511
    omega
  · refine tlvP_of (by decide) (by decide) ?_
    have := s2.2 x hx
    show x.size ≤ 511
    omega
  · refine tlvP_of (by decide) (by decide) ?_
    have := s3.2 x hx
    show x.size ≤ 511
    omega
  · refine tlvP_of (by decide) (by decide) ?_
    show (beZ 2 _ ++ beZ 2 _).size ≤ 511
    rw [ByteArray.size_append, beZ_size, beZ_size]; omega
  · refine tlvP_of (by decide) (by decide) ?_
    obtain ⟨-, h2, -, -, h5⟩ := hm x hx
    simp only [manageT, ByteArray.size_append, beZ_size]
    omega
  · refine tlvP_of (by decide) (by decide) ?_
    obtain ⟨-, -, h3⟩ := ho x hx
    simp only [orgT, ByteArray.size_append, beZ_size]
    omega
def strC3 (l : LldpV) : Chunk := .cells 24 [.v (.slice l.desc.a l.desc.l.length l.desc.c), .v (.slice l.host.a l.host.l.length l.host.c), .v (.slice l.system.a l.system.l.length l.system.c)]
theorem lldpWrite_bad (l : LldpV) (g : G) (hl : l.ok g) (h : ¬ lldpP l) : Meets Tryd.prog 9 [.agg (l.cells.map .v)] [] g (fun o L' g' => o = .ret (.tup [.v (.string emp), .v (errW 1)]) ∧ L' = [] ∧ G.le g g') := by
  refine meets_ofJ mixedS Tryd.func9 (by kernel_rfl) x9_ok (some []) ?_
  refine (lldpRight_c l g hl).call rfl rfl rfl ?_
  refine bsplit_of (fun _ => ⟨rfl, rfl, le_refl _⟩) (fun q => absurd (by simpa using q) h)
theorem lldpWrite_good (l : LldpV) (g : G) (hl : l.ok g) (h : lldpP l) (hs : LldpSmall l) : Meets Tryd.prog 9 [.agg (l.cells.map .v)] [] g (fun o L' g' => o = .ret (.tup [.v (.string (tlvsS (tlvsOf l) ++ nul2)), .v .nilIface]) ∧ L' = [] ∧ G.le g g') := by
  have hall := tlvs_good h
  have hR := lldpRight_c l g hl
  rw [decide_eq_true h] at hR
  obtain ⟨-, -, -, o3, o4, o5, o6, o7, o8⟩ := hl
  have n3 := o3.len
  have n4 := o4.len
  have n5 := o5.len
  have n6 := o6.len
  have n7 := o7.len
  have n8 := o8.len
  obtain ⟨⟨p1, p2, p3⟩, -, ⟨-, hc⟩, ⟨-, hm⟩, ⟨-, ho⟩⟩ := h
  obtain ⟨z1, z2, z3, z4, z5, z6, z7, z8⟩ := hs
  obtain ⟨B, hB⟩ : ∃ B, B = 1048576 := ⟨_, rfl⟩
  haveI : Sz l.chassis.iD 1048576 := ⟨z1⟩
  haveI : Sz l.port.iD 1048576 := ⟨z2⟩
  refine meets_ofJ mixedS Tryd.func9 (by kernel_rfl) x9_ok (some []) ?_
  refine hR.call rfl rfl rfl ?_
  refine (mustZ l.chassis.sub 1 g (by decide) (by decide) (by have := p1.1; omega) (by show _ < (256 : Int); have := p1.1; omega) (by have := p1.1; omega)).call rfl rfl rfl ?_
  refine ⟨szOk rfl, ?_⟩
  refine (mustZ l.port.sub 1 g (by decide) (by decide) (by have := p2.1; omega) (by show _ < (256 : Int); have := p2.1; omega) (by have := p2.1; omega)).call rfl rfl rfl ?_
  refine ⟨szOk rfl, ?_⟩
  refine (mustZ l.ttl 2 g (by decide) (by decide) p3.1 (by show _ < (65536 : Int); omega) (by omega)).call rfl rfl rfl ?_
  change TurnW _ _ _ _ _ _
  refine turn_vals 1 108 ((headT l).flatMap TlvV.cells) rfl ?_
  change LoopW _ _ _ _ _ _ _ _ _
  apply loop_rule [1] (α := Nat × TS) (fun y => [(50, .v (.int .i64 y.1)), (4, .slc 1 0 (y.2.m + 1) y.2.cap)]) (fun y => [lldB l, y.2.c, strC3 l]) (fun _ => g) (fun y => y.1 ≤ 3 ∧ y.2.ok ∧ y.2.l = preS l y.1 ∧ y.2.m ≤ 2 + B * y.1) (fun y => 3 - y.1) (0, ⟨headT l, 2, 3, []⟩)
  · intro x; kernel_rfl
  · exact ⟨by show 0 ≤ 3; omega, ⟨rfl, ⟨rfl, by show 3 ≤ 3; omega, by show 3 ≤ 9223372036854775807; omega, fun _ => rfl⟩⟩, rfl, by show 2 ≤ 2 + B * 0; omega⟩
  · exact ⟨rfl, rfl, trivial⟩
  · rfl
  · rfl
  rintro ⟨i, y⟩ ⟨hi, hy, hyl, hym⟩
  dsimp only at hi hy hyl hym
  rcases (by omega : i = 0 ∨ i = 1 ∨ i = 2 ∨ i = 3) with rfl | rfl | rfl | rfl
  ·
    refine ⟨⟨by show (0 : Int) ≤ ((0 : Nat) : Int); decide, by show ((0 : Nat) : Int) < ((3 : Nat) : Int); decide⟩, ?_⟩
    change LoopW _ _ _ _ _ _ _ _ _
    apply loop_rule [1] (α := Nat × TS) (fun x => [(57, .v (.int .i64 x.1)), (4, .slc 1 0 (x.2.m + 1) x.2.cap)]) (fun x => [lldB l, x.2.c, strC3 l]) (fun _ => g) (fun x => x.1 ≤ l.desc.l.length ∧ x.2.ok ∧ x.2.l = preS l 0 ++ (l.desc.l.take x.1).map (fun s => ⟨4, s⟩) ∧ x.2.m ≤ 2 + B * 0 + x.1) (fun x => l.desc.l.length - x.1) (0, y)
    · intro x; kernel_rfl
    · exact ⟨Nat.zero_le _, hy, by rw [hyl]; simp, by show y.m ≤ 2 + B * 0 + 0; omega⟩
    · exact ⟨rfl, rfl, trivial⟩
    · rfl
    · rfl
    rintro ⟨k, w⟩ ⟨hk, hw, hwl, hwm⟩
    dsimp only at hk hw hwl hwm
    refine bsplit_of (fun hlt => ?_) (fun hlt => ?_)
    · have hlt' : k < l.desc.l.length := by have := of_decide_eq_true hlt; omega
      obtain ⟨ad, x, ha, hx, hat, -⟩ := o3.elem (fun _ => rfl) hlt'
      have hat : g.at _ [.string x] := hat
      refine ⟨⟨by omega, by omega⟩, ad, ha, ?_⟩
      refine ⟨[.string x], rfl, hat, ?_⟩
      have g1 := gr_bounds hw.2
      refine ⟨by show 0 + 1 * 2 ≤ 2; decide, fun u hu => by simp at hu; rcases hu with rfl | rfl <;> rfl, ?_⟩
      refine ⟨w.l.flatMap TlvV.cells, w.sp, rfl, g1.1, ⟨g1.2.1, g1.2.2.1, g1.2.2.2⟩, by show (w.m + 1 + 1) * 24 ≤ 140737488355328; omega, fun cap3 sp3 q1 q2 q3 => ?_⟩
      refine ⟨(k + 1, ⟨w.l ++ [⟨4, x⟩], w.m + 1, cap3, sp3⟩), ⟨hlt', ts_next hw q1 q2 q3, by rw [hwl, map_take (fun s => TlvV.mk 4 s) hx], by show w.m + 1 ≤ _; omega⟩, by show l.desc.l.length - (k + 1) < l.desc.l.length - k; omega, [0, 4, 2], rfl, ⟨vi (wrap_id (by omega) (by omega)), rfl, trivial⟩, ?_, rfl, rfl, rfl⟩
      exact congrArg (fun a => [lldB l, .vals 108 a, strC3 l]) (flat_app2 TlvV.cells w.l (⟨4, x⟩) sp3).symm
    · have hkn : k = l.desc.l.length := by have := of_decide_eq_false hlt; omega
      subst hkn
      refine ⟨(0 + 1, w), ⟨by omega, hw, by rw [hwl, List.take_length]; rfl, by show w.m ≤ 2 + B * (0 + 1); omega⟩, by show 3 - (0 + 1) < 3 - 0; omega, [0, 1, 2], rfl, ⟨rfl, rfl, trivial⟩, rfl, rfl, rfl, rfl⟩
  ·
    refine ⟨⟨by show (0 : Int) ≤ ((1 : Nat) : Int); decide, by show ((1 : Nat) : Int) < ((3 : Nat) : Int); decide⟩, ?_⟩
    change LoopW _ _ _ _ _ _ _ _ _
    apply loop_rule [1] (α := Nat × TS) (fun x => [(57, .v (.int .i64 x.1)), (4, .slc 1 0 (x.2.m + 1) x.2.cap)]) (fun x => [lldB l, x.2.c, strC3 l]) (fun _ => g) (fun x => x.1 ≤ l.host.l.length ∧ x.2.ok ∧ x.2.l = preS l 1 ++ (l.host.l.take x.1).map (fun s => ⟨5, s⟩) ∧ x.2.m ≤ 2 + B * 1 + x.1) (fun x => l.host.l.length - x.1) (0, y)
    · intro x; kernel_rfl
    · exact ⟨Nat.zero_le _, hy, by rw [hyl]; simp, by show y.m ≤ 2 + B * 1 + 0; omega⟩
    · exact ⟨rfl, rfl, trivial⟩
    · rfl
    · rfl
    rintro ⟨k, w⟩ ⟨hk, hw, hwl, hwm⟩
    dsimp only at hk hw hwl hwm
    refine bsplit_of (fun hlt => ?_) (fun hlt => ?_)
    · have hlt' : k < l.host.l.length := by have := of_decide_eq_true hlt; omega
      obtain ⟨ad, x, ha, hx, hat, -⟩ := o4.elem (fun _ => rfl) hlt'
      have hat : g.at _ [.string x] := hat
      refine ⟨⟨by omega, by omega⟩, ad, ha, ?_⟩
      refine ⟨[.string x], rfl, hat, ?_⟩
      have g1 := gr_bounds hw.2
      refine ⟨by show 0 + 1 * 2 ≤ 2; decide, fun u hu => by simp at hu; rcases hu with rfl | rfl <;> rfl, ?_⟩
      refine ⟨w.l.flatMap TlvV.cells, w.sp, rfl, g1.1, ⟨g1.2.1, g1.2.2.1, g1.2.2.2⟩, by show (w.m + 1 + 1) * 24 ≤ 140737488355328; omega, fun cap3 sp3 q1 q2 q3 => ?_⟩
      refine ⟨(k + 1, ⟨w.l ++ [⟨5, x⟩], w.m + 1, cap3, sp3⟩), ⟨hlt', ts_next hw q1 q2 q3, by rw [hwl, map_take (fun s => TlvV.mk 5 s) hx], by show w.m + 1 ≤ _; omega⟩, by show l.host.l.length - (k + 1) < l.host.l.length - k; omega, [0, 4, 2], rfl, ⟨vi (wrap_id (by omega) (by omega)), rfl, trivial⟩, ?_, rfl, rfl, rfl⟩
      exact congrArg (fun a => [lldB l, .vals 108 a, strC3 l]) (flat_app2 TlvV.cells w.l (⟨5, x⟩) sp3).symm
    · have hkn : k = l.host.l.length := by have := of_decide_eq_false hlt; omega
      subst hkn
      refine ⟨(1 + 1, w), ⟨by omega, hw, by rw [hwl, List.take_length]; rfl, by show w.m ≤ 2 + B * (1 + 1); omega⟩, by show 3 - (1 + 1) < 3 - 1; omega, [0, 1, 2], rfl, ⟨rfl, rfl, trivial⟩, rfl, rfl, rfl, rfl⟩
  ·
    refine ⟨⟨by show (0 : Int) ≤ ((2 : Nat) : Int); decide, by show ((2 : Nat) : Int) < ((3 : Nat) : Int); decide⟩, ?_⟩
    change LoopW _ _ _ _ _ _ _ _ _
    apply loop_rule [1] (α := Nat × TS) (fun x => [(57, .v (.int .i64 x.1)), (4, .slc 1 0 (x.2.m + 1) x.2.cap)]) (fun x => [lldB l, x.2.c, strC3 l]) (fun _ => g) (fun x => x.1 ≤ l.system.l.length ∧ x.2.ok ∧ x.2.l = preS l 2 ++ (l.system.l.take x.1).map (fun s => ⟨6, s⟩) ∧ x.2.m ≤ 2 + B * 2 + x.1) (fun x => l.system.l.length - x.1) (0, y)
    · intro x; kernel_rfl
    · exact ⟨Nat.zero_le _, hy, by rw [hyl]; simp, by show y.m ≤ 2 + B * 2 + 0; omega⟩
    · exact ⟨rfl, rfl, trivial⟩
    · rfl
    · rfl
    rintro ⟨k, w⟩ ⟨hk, hw, hwl, hwm⟩
    dsimp only at hk hw hwl hwm
    refine bsplit_of (fun hlt => ?_) (fun hlt => ?_)
    · have hlt' : k < l.system.l.length := by have := of_decide_eq_true hlt; omega
      obtain ⟨ad, x, ha, hx, hat, -⟩ := o5.elem (fun _ => rfl) hlt'
      have hat : g.at _ [.string x] := hat
      refine ⟨⟨by omega, by omega⟩, ad, ha, ?_⟩
      refine ⟨[.string x], rfl, hat, ?_⟩
      have g1 := gr_bounds hw.2
      refine ⟨by show 0 + 1 * 2 ≤ 2; decide, fun u hu => by simp at hu; rcases hu with rfl | rfl <;> rfl, ?_⟩
      refine ⟨w.l.flatMap TlvV.cells, w.sp, rfl, g1.1, ⟨g1.2.1, g1.2.2.1, g1.2.2.2⟩, by show (w.m + 1 + 1) * 24 ≤ 140737488355328; omega, fun cap3 sp3 q1 q2 q3 => ?_⟩
      refine ⟨(k + 1, ⟨w.l ++ [⟨6, x⟩], w.m + 1, cap3, sp3⟩), ⟨hlt', ts_next hw q1 q2 q3, by rw [hwl, map_take (fun s => TlvV.mk 6 s) hx], by show w.m + 1 ≤ _; omega⟩, by show l.system.l.length - (k + 1) < l.system.l.length - k; omega, [0, 4, 2], rfl, ⟨vi (wrap_id (by omega) (by omega)), rfl, trivial⟩, ?_, rfl, rfl, rfl⟩
      exact congrArg (fun a => [lldB l, .vals 108 a, strC3 l]) (flat_app2 TlvV.cells w.l (⟨6, x⟩) sp3).symm
    · have hkn : k = l.system.l.length := by have := of_decide_eq_false hlt; omega
      subst hkn
      refine ⟨(2 + 1, w), ⟨by omega, hw, by rw [hwl, List.take_length]; rfl, by show w.m ≤ 2 + B * (2 + 1); omega⟩, by show 3 - (2 + 1) < 3 - 2; omega, [0, 1, 2], rfl, ⟨rfl, rfl, trivial⟩, rfl, rfl, rfl, rfl⟩
  change LoopW _ _ _ _ _ _ _ _ _
  apply loop_rule [1] (α := Nat × TS) (fun x => [(73, .v (.int .i64 x.1)), (4, .slc 1 0 (x.2.m + 1) x.2.cap)]) (fun x => [lldB l, x.2.c, strC3 l]) (fun _ => g) (fun x => x.1 ≤ l.caps.l.length ∧ x.2.ok ∧ x.2.l = preS l 3 ++ (l.caps.l.take x.1).map capsT ∧ x.2.m ≤ 2 + B * 3 + x.1) (fun x => l.caps.l.length - x.1) (0, y)
  · intro x; kernel_rfl
  · exact ⟨Nat.zero_le _, hy, by rw [hyl]; simp, by show y.m ≤ 2 + B * 3 + 0; omega⟩
  · exact ⟨rfl, rfl, trivial⟩
  · rfl
  · rfl
  rintro ⟨k, w⟩ ⟨hk, hw, hwl, hwm⟩
  dsimp only at hk hw hwl hwm
  refine bsplit_of (fun hlt => ?_) (fun hlt => ?_)
  ·
    have hlt' : k < l.caps.l.length := by have := of_decide_eq_true hlt; omega
    obtain ⟨ad, x, ha, hx, hat, -⟩ := o6.elem (fun _ => rfl) hlt'
    refine ⟨⟨by omega, by omega⟩, ad, ha, ?_⟩
    refine ⟨x.cells, rfl, hat, ?_⟩
    obtain ⟨⟨a1, a2⟩, ⟨b1, b2⟩, -⟩ := hc x (List.mem_of_getElem? hx)
    refine (mustZ x.has 2 g (by decide) (by decide) a1 (by show _ < (65536 : Int); omega) (by omega)).call rfl rfl rfl ?_
    refine (mustZ x.on_ 2 g (by decide) (by decide) b1 (by show _ < (65536 : Int); omega) (by omega)).call rfl rfl rfl ?_
    refine ⟨szOk rfl, ?_⟩
    have g1 := gr_bounds hw.2
    refine ⟨by show 0 + 1 * 2 ≤ 2; decide, fun u hu => by simp at hu; rcases hu with rfl | rfl <;> rfl, ?_⟩
    refine ⟨w.l.flatMap TlvV.cells, w.sp, rfl, g1.1, ⟨g1.2.1, g1.2.2.1, g1.2.2.2⟩, by show (w.m + 1 + 1) * 24 ≤ 140737488355328; omega, fun cap3 sp3 q1 q2 q3 => ?_⟩
    refine ⟨(k + 1, ⟨w.l ++ [capsT x], w.m + 1, cap3, sp3⟩), ⟨hlt', ts_next hw q1 q2 q3, by rw [hwl, map_take capsT hx], by show w.m + 1 ≤ _; omega⟩, by show l.caps.l.length - (k + 1) < l.caps.l.length - k; omega, [0, 5, 2], rfl, ⟨vi (wrap_id (by omega) (by omega)), rfl, trivial⟩, ?_, rfl, rfl, rfl⟩
    exact congrArg (fun a => [lldB l, .vals 108 a, strC3 l]) (flat_app2 TlvV.cells w.l (capsT x) sp3).symm
  have hkn : k = l.caps.l.length := by have := of_decide_eq_false hlt; omega
  subst hkn
  rw [List.take_length] at hwl
  change LoopW _ _ _ _ _ _ _ _ _
  apply loop_rule [1] (α := Nat × TS) (fun x => [(92, .v (.int .i64 x.1)), (4, .slc 1 0 (x.2.m + 1) x.2.cap)]) (fun x => [lldB l, x.2.c, strC3 l]) (fun _ => g) (fun x => x.1 ≤ l.manage.l.length ∧ x.2.ok ∧ x.2.l = preS l 3 ++ l.caps.l.map capsT ++ (l.manage.l.take x.1).map manageT ∧ x.2.m ≤ 2 + B * 4 + x.1) (fun x => l.manage.l.length - x.1) (0, w)
  · intro x; kernel_rfl
  · exact ⟨Nat.zero_le _, hw, by rw [hwl]; simp, by show w.m ≤ 2 + B * 4 + 0; omega⟩
  · exact ⟨rfl, rfl, trivial⟩
  · rfl
  · rfl
  rintro ⟨k, u⟩ ⟨hk, hu, hul, hum⟩
  dsimp only at hk hu hul hum
  refine bsplit_of (fun hlt => ?_) (fun hlt => ?_)
  ·
    have hlt' : k < l.manage.l.length := by have := of_decide_eq_true hlt; omega
    obtain ⟨ad, x, ha, hx, hat, -⟩ := o7.elem (fun _ => rfl) hlt'
    refine ⟨⟨by omega, by omega⟩, ad, ha, ?_⟩
    refine ⟨x.cells, rfl, hat, ?_⟩
    have hz := z7.2 x (List.mem_of_getElem? hx)
    haveI : Sz x.addr.iD 1048576 := ⟨hz.1⟩
    haveI : Sz x.oid 1048576 := ⟨hz.2⟩
    obtain ⟨⟨a1, a2⟩, ⟨b1, b2⟩, ⟨c1, c2⟩, ⟨d1, d2⟩, e1⟩ := hm x (List.mem_of_getElem? hx)
    have hw1 : IntKind.i64.wrap (1 + (x.addr.iD.size : Int)) = (x.addr.iD.size : Int) + 1 := by rw [wrap_id (by omega) (by omega)]; omega
    have hbe : Tells Tryd.prog 30 [.v (.int .i64 (IntKind.i64.wrap (1 + (x.addr.iD.size : Int)))), .v (.int .i64 1)] g (.v (.string (beZ 1 ((x.addr.iD.size : Int) + 1)))) := by rw [hw1]; exact mustZ _ 1 g (by decide) (by decide) (by omega) (by show _ < (256 : Int); omega) (by omega)
    refine hbe.call rfl rfl rfl ?_
    refine (mustZ x.addr.sub 1 g (by decide) (by decide) a1 (by show _ < (256 : Int); omega) (by omega)).call rfl rfl rfl ?_
    refine ⟨szOk rfl, ?_⟩
    refine ⟨szOk rfl, ?_⟩
    refine (mustZ x.ifSub 1 g (by decide) (by decide) (by omega) (by show _ < (256 : Int); omega) (by omega)).call rfl rfl rfl ?_
    refine ⟨szOk rfl, ?_⟩
    refine (mustZ x.if_ 4 g (by decide) (by decide) d1 (by show _ < (4294967296 : Int); omega) (by omega)).call rfl rfl rfl ?_
    refine ⟨szOk rfl, ?_⟩
    refine (mustZ (x.oid.size : Int) 1 g (by decide) (by decide) (by omega) (by show _ < (256 : Int); omega) (by omega)).call rfl rfl rfl ?_
    refine ⟨szOk rfl, ?_⟩
    refine ⟨szOk rfl, ?_⟩
    have g1 := gr_bounds hu.2
    refine ⟨by show 0 + 1 * 2 ≤ 2; decide, fun u hu => by simp at hu; rcases hu with rfl | rfl <;> rfl, ?_⟩
    refine ⟨u.l.flatMap TlvV.cells, u.sp, rfl, g1.1, ⟨g1.2.1, g1.2.2.1, g1.2.2.2⟩, by show (u.m + 1 + 1) * 24 ≤ 140737488355328; omega, fun cap3 sp3 q1 q2 q3 => ?_⟩
    refine ⟨(k + 1, ⟨u.l ++ [manageT x], u.m + 1, cap3, sp3⟩), ⟨hlt', ts_next hu q1 q2 q3, by rw [hul, map_take manageT hx], by show u.m + 1 ≤ _; omega⟩, by show l.manage.l.length - (k + 1) < l.manage.l.length - k; omega, [0, 5, 2], rfl, ⟨vi (wrap_id (by omega) (by omega)), rfl, trivial⟩, ?_, rfl, rfl, rfl⟩
    exact congrArg (fun a => [lldB l, .vals 108 a, strC3 l]) (flat_app2 TlvV.cells u.l (manageT x) sp3).symm
  have hkn : k = l.manage.l.length := by have := of_decide_eq_false hlt; omega
  subst hkn
  rw [List.take_length] at hul
  change LoopW _ _ _ _ _ _ _ _ _
  apply loop_rule [1] (α := Nat × TS) (fun x => [(135, .v (.int .i64 x.1)), (4, .slc 1 0 (x.2.m + 1) x.2.cap)]) (fun x => [lldB l, x.2.c, strC3 l]) (fun _ => g) (fun x => x.1 ≤ l.orgs.l.length ∧ x.2.ok ∧ x.2.l = preS l 3 ++ l.caps.l.map capsT ++ l.manage.l.map manageT ++ (l.orgs.l.take x.1).map orgT ∧ x.2.m ≤ 2 + B * 5 + x.1) (fun x => l.orgs.l.length - x.1) (0, u)
  · intro x; kernel_rfl
  · exact ⟨Nat.zero_le _, hu, by rw [hul]; simp, by show u.m ≤ 2 + B * 5 + 0; omega⟩
  · exact ⟨rfl, rfl, trivial⟩
  · rfl
  · rfl
  rintro ⟨k, v⟩ ⟨hk, hv, hvl, hvm⟩
  dsimp only at hk hv hvl hvm
  refine bsplit_of (fun hlt => ?_) (fun hlt => ?_)
  ·
    have hlt' : k < l.orgs.l.length := by have := of_decide_eq_true hlt; omega
    obtain ⟨ad, x, ha, hx, hat, -⟩ := o8.elem (fun _ => rfl) hlt'
    refine ⟨⟨by omega, by omega⟩, ad, ha, ?_⟩
    refine ⟨x.cells, rfl, hat, ?_⟩
    have hz := z8.2 x (List.mem_of_getElem? hx)
    haveI : Sz x.info 1048576 := ⟨hz⟩
    obtain ⟨⟨a1, a2⟩, ⟨b1, b2⟩, c1⟩ := ho x (List.mem_of_getElem? hx)
    refine (mustZ x.oui 3 g (by decide) (by decide) a1 (by show _ < (16777216 : Int); omega) (by omega)).call rfl rfl rfl ?_
    refine (mustZ x.sub 1 g (by decide) (by decide) b1 (by show _ < (256 : Int); omega) (by omega)).call rfl rfl rfl ?_
    refine ⟨szOk rfl, ?_⟩
    refine ⟨szOk rfl, ?_⟩
    have g1 := gr_bounds hv.2
    refine ⟨by show 0 + 1 * 2 ≤ 2; decide, fun u hu => by simp at hu; rcases hu with rfl | rfl <;> rfl, ?_⟩
    refine ⟨v.l.flatMap TlvV.cells, v.sp, rfl, g1.1, ⟨g1.2.1, g1.2.2.1, g1.2.2.2⟩, by show (v.m + 1 + 1) * 24 ≤ 140737488355328; omega, fun cap3 sp3 q1 q2 q3 => ?_⟩
    refine ⟨(k + 1, ⟨v.l ++ [orgT x], v.m + 1, cap3, sp3⟩), ⟨hlt', ts_next hv q1 q2 q3, by rw [hvl, map_take orgT hx], by show v.m + 1 ≤ _; omega⟩, by show l.orgs.l.length - (k + 1) < l.orgs.l.length - k; omega, [0, 5, 2], rfl, ⟨vi (wrap_id (by omega) (by omega)), rfl, trivial⟩, ?_, rfl, rfl, rfl⟩
    exact congrArg (fun a => [lldB l, .vals 108 a, strC3 l]) (flat_app2 TlvV.cells v.l (orgT x) sp3).symm
  have hkn : k = l.orgs.l.length := by have := of_decide_eq_false hlt; omega
  subst hkn
  rw [List.take_length] at hvl
  change TurnW _ _ _ _ _ _
  refine turn_freeze 1 108 (v.l.flatMap TlvV.cells ++ v.sp) (.inl rfl) fun b g' hle hat => ?_
  have hvo : TlvsOk g' ⟨some ⟨b, 0, none⟩, v.l, v.cap⟩ := slice_at (by rw [hv.1]; exact hv.2) hat
  have hW := tlvWrite_c ⟨some ⟨b, 0, none⟩, v.l, v.cap⟩ g' hvo (by show v.l.length ≤ _; rw [hv.1]; omega)
  have hvl' : v.l = tlvsOf l := hvl
  dsimp only at hW
  rw [tlvBad_none (fun i t ht => hall t (by rw [← hvl']; exact List.mem_of_getElem? ht)), hv.1, hvl'] at hW
  refine hW.call0 rfl rfl 3 rfl ?_
  rintro o L1 g2 ⟨rfl, rfl, hle2⟩
  exact ⟨rfl, rfl, le_trans hle hle2⟩
end Go.Proofs.YtfianfpmnglfnaaDoor
