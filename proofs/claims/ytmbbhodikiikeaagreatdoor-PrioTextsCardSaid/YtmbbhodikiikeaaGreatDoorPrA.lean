/- prio.Text, its reference and prio.Parse: what each returns. Conditions: that the variables of the library that they read are as laid. -/
import Derived.Test.YtmbbhodikiikeaaGreatDoorXpriot
import Derived.Test.YtmbbhodikiikeaaGreatDoorPrL
import Derived.Test.YtmbbhodikiikeaaGreatDoorNumC
import Derived.Test.YtmbbhodikiikeaaGreatDoorMtD
namespace Go.Proofs.YtmbbhodikiikeaaGreatDoor
open Go.Sx Go.Lib Go.RowKit
set_option maxRecDepth 100000
set_option maxHeartbeats 8000000
attribute [local irreducible] Meets
attribute [local instance] Classical.propDecidable
attribute [local irreducible] numS addrT

theorem prioText_bad (b : BridgeV) (g : G) (h : ¬ bridgeP b) : Tells Tryz.prog 5 [.agg (b.cells.map .v)] g (.tup [.v (.string ⟨#[]⟩), .v (nilM 1)]) := by
  refine meets_of mixedS Tryz.func5 (by kernel_rfl) x5_ok (some []) ?_
  refine (prioRight_c b g).call rfl rfl rfl ?_
  refine bsplit_of (fun _ => ⟨rfl, rfl, rfl⟩) (fun (q : (!decide (bridgeP b)) = false) => absurd q (by simp [h]))
theorem bridgeText_bad (b : BridgeV) (g : G) (h : ¬ bridgeP b) : Tells Tryz.prog 4 [.agg (b.cells.map .v)] g (.tup [.v (.string ⟨#[]⟩), .v (.int .i64 1)]) := by
  refine meets_of mixedS Tryz.func4 (by kernel_rfl) x4_ok (some []) ?_
  refine (bridgeRight_c b g).call rfl rfl rfl ?_
  refine bsplit_of (fun _ => ⟨rfl, rfl, rfl⟩) (fun (q : (!decide (bridgeP b)) = false) => absurd q (by simp [h]))
theorem n46 : (⟨#[46]⟩ : ByteArray).size = 1 := rfl
theorem n47 : (⟨#[47]⟩ : ByteArray).size = 1 := rfl
theorem prioText_good (b : BridgeV) (g : G) (h : bridgeP b) (ha : b.addr.ok g) (hT : TabVar g) : Tells Tryz.prog 5 [.agg (b.cells.map .v)] g (.tup [.v (.string (briT b)), .v (nilM 0)]) := by
  refine meets_of mixedS Tryz.func5 (by kernel_rfl) x5_ok (some []) ?_
  obtain ⟨h1, h2, h3, h4, h5⟩ := id h
  have z1 := numS_size h1 (show b.prio < 100000 by omega)
  have z2 := numS_size h4 (show b.ext < 100000 by omega)
  have z3 := addrT_size b.addr
  refine (prioRight_c b g).call rfl rfl rfl ?_
  refine bsplit_of (fun (q : (!decide (bridgeP b)) = true) => absurd q (by simp [h])) (fun _ => ?_)
  refine (itoa_c b.prio (by omega) (by omega) g hT).call rfl rfl rfl ?_
  refine ⟨by show (numS b.prio).size + 1 ≤ _; omega, ?_⟩
  refine (itoa_c b.ext (by omega) (by omega) g hT).call rfl rfl rfl ?_
  refine ⟨by show (numS b.prio ++ ⟨#[46]⟩ : ByteArray).size + (numS b.ext).size ≤ _; rw [ByteArray.size_append, n46]; omega, ?_⟩
  refine ⟨by show (numS b.prio ++ ⟨#[46]⟩ ++ numS b.ext : ByteArray).size + 1 ≤ _; rw [ByteArray.size_append, ByteArray.size_append, n46]; omega, ?_⟩
  refine (macText_c b.addr g ha).call rfl rfl rfl ?_
  refine ⟨by show (numS b.prio ++ ⟨#[46]⟩ ++ numS b.ext ++ ⟨#[47]⟩ : ByteArray).size + (addrT b.addr).size ≤ _; rw [ByteArray.size_append, ByteArray.size_append, ByteArray.size_append, n46, n47]; omega, ?_⟩
  exact ⟨rfl, rfl, rfl⟩
theorem bridgeText_good (b : BridgeV) (g : G) (h : bridgeP b) (ha : b.addr.ok g) (hT : TabVar g) (hB : BitVar g) : Tells Tryz.prog 4 [.agg (b.cells.map .v)] g (.tup [.v (.string (briT b)), .v (.int .i64 0)]) := by
  refine meets_of mixedS Tryz.func4 (by kernel_rfl) x4_ok (some []) ?_
  obtain ⟨h1, h2, h3, h4, h5⟩ := id h
  have z1 := numS_size h1 (show b.prio < 100000 by omega)
  have z2 := numS_size h4 (show b.ext < 100000 by omega)
  have z3 := addrT_size b.addr
  refine (bridgeRight_c b g).call rfl rfl rfl ?_
  refine bsplit_of (fun (q : (!decide (bridgeP b)) = true) => absurd q (by simp [h])) (fun _ => ?_)
  refine (itoa_c b.prio (by omega) (by omega) g hT).call rfl rfl rfl ?_
  refine ⟨by show (numS b.prio).size + 1 ≤ _; omega, ?_⟩
  refine (itoa_c b.ext (by omega) (by omega) g hT).call rfl rfl rfl ?_
  refine ⟨by show (numS b.prio ++ ⟨#[46]⟩ : ByteArray).size + (numS b.ext).size ≤ _; rw [ByteArray.size_append, n46]; omega, ?_⟩
  refine ⟨by show (numS b.prio ++ ⟨#[46]⟩ ++ numS b.ext : ByteArray).size + 1 ≤ _; rw [ByteArray.size_append, ByteArray.size_append, n46]; omega, ?_⟩
  refine (text_c b.addr g ha hB).call rfl rfl rfl ?_
  refine ⟨by show (numS b.prio ++ ⟨#[46]⟩ ++ numS b.ext ++ ⟨#[47]⟩ : ByteArray).size + (addrT b.addr).size ≤ _; rw [ByteArray.size_append, ByteArray.size_append, ByteArray.size_append, n46, n47]; omega, ?_⟩
  exact ⟨rfl, rfl, rfl⟩

attribute [local irreducible] briT
theorem okA_zero : okA AddrV.zero := by
  have hz : iok .u8 0 := by unfold iok; decide
  exact ⟨hz, hz, hz, hz, hz, hz⟩
theorem prioParse_c (s : ByteArray) (hs : s.size ≤ 1000000) (g : G) (hM : MaxVar g) (hS : SynVar g) (hT : TabVar g) : Tells Tryz.prog 7 [.v (.string s)] g (.tup [.agg ((parB s).1.cells.map .v), .v (nilM (parB s).2)]) := by
  obtain ⟨A, E, hAE⟩ : ∃ A E, parB s = (A, E) := ⟨_, _, rfl⟩
  rw [hAE]
  dsimp only
  have miss : (∀ b, okB b → briT b ≠ s) → A = BridgeV.zero ∧ E = 3 := fun h => by rw [parB_miss h] at hAE; cases hAE; exact ⟨rfl, rfl⟩
  have hit : ∀ b, okB b → briT b = s → A = b ∧ E = 0 := fun b h1 h2 => by rw [parB_hit h1 h2] at hAE; cases hAE; exact ⟨rfl, rfl⟩
  obtain ⟨hd, a, k1, hc1⟩ : ∃ hd a k, cutS 47 s = (hd, a, k) := ⟨_, _, _, rfl⟩
  obtain ⟨p, e, k2, hc2⟩ : ∃ p e k, cutS 46 hd = (p, e, k) := ⟨_, _, _, rfl⟩
  have back : ∀ b, okB b → briT b = s → a = addrT b.addr ∧ Lib.atoiAll p.data.toList = .ok b.prio ∧ Lib.atoiAll e.data.toList = .ok b.ext := fun b h1 h2 => by
    obtain ⟨q1, q2⟩ := cut_bri h1.1
    rw [h2, hc1] at q1
    simp only [Prod.mk.injEq] at q1
    obtain ⟨rfl, rfl, -⟩ := q1
    rw [hc2] at q2
    simp only [Prod.mk.injEq] at q2
    obtain ⟨rfl, rfl, -⟩ := q2
    obtain ⟨b1, b2, b3, b4, b5⟩ := h1.1
    exact ⟨rfl, atoi_num b1 (by omega), atoi_num b4 (by omega)⟩
  have z1 := cutS_size 47 s
  have z2 := cutS_size 46 hd
  have cc1 := cut_c 47 s hs g hM
  rw [hc1] at z1 cc1
  have cc2 := cut_c 46 hd (by have := z1.1; dsimp only at this; omega) g hM
  rw [hc2] at z2 cc2
  dsimp only at z1 z2 cc1 cc2
  have ca := macParse_c a (by omega) g hM
  clear hc1 hc2 hAE
  rcases parA_cases a with ⟨x, q1, q2, q3⟩ | ⟨q1, q3⟩
  · rw [q3] at ca
    dsimp only at ca
    refine meets_of mixedS Tryz.func7 (by kernel_rfl) x7_ok (some []) ?_
    refine cc1.call rfl rfl rfl ?_
    refine cc2.call rfl rfl rfl ?_
    refine ca.call rfl rfl rfl ?_
    refine (atoi_c p (by omega) g hS).call0 rfl rfl 2 rfl ?_
    rintro o L1 g' ⟨r, hr, rfl, rfl, rfl⟩
    rcases hr with ⟨n, hn, rfl⟩ | ⟨hn, n, nt, nx, rfl⟩
    rotate_left
    · obtain ⟨rfl, rfl⟩ := miss fun b h1 h2 => hn _ (back b h1 h2).2.1
      refine (atoi_c e (by omega) g' hS).call0 rfl rfl 2 rfl ?_
      rintro o L1 g'' ⟨r, hr2, rfl, rfl, rfl⟩
      rcases hr2 with ⟨m, -, rfl⟩ | ⟨-, m, mt, mx, rfl⟩
      · by_cases hp : bridgeP ⟨n, m, x⟩
        · refine (prioText_good ⟨n, m, x⟩ g'' hp q1 hT).call rfl rfl rfl ?_
          exact ⟨rfl, rfl, rfl⟩
        · refine (prioText_bad ⟨n, m, x⟩ g'' hp).call rfl rfl rfl ?_
          exact ⟨rfl, rfl, rfl⟩
      · by_cases hp : bridgeP ⟨n, m, x⟩
        · refine (prioText_good ⟨n, m, x⟩ g'' hp q1 hT).call rfl rfl rfl ?_
          exact ⟨rfl, rfl, rfl⟩
        · refine (prioText_bad ⟨n, m, x⟩ g'' hp).call rfl rfl rfl ?_
          exact ⟨rfl, rfl, rfl⟩
    refine (atoi_c e (by omega) g' hS).call0 rfl rfl 2 rfl ?_
    rintro o L1 g'' ⟨r, hr2, rfl, rfl, rfl⟩
    rcases hr2 with ⟨m, hm, rfl⟩ | ⟨hm, m, mt, mx, rfl⟩
    rotate_left
    · obtain ⟨rfl, rfl⟩ := miss fun b h1 h2 => hm _ (back b h1 h2).2.2
      by_cases hp : bridgeP ⟨n, m, x⟩
      · refine (prioText_good ⟨n, m, x⟩ g'' hp q1 hT).call rfl rfl rfl ?_
        exact ⟨rfl, rfl, rfl⟩
      · refine (prioText_bad ⟨n, m, x⟩ g'' hp).call rfl rfl rfl ?_
        exact ⟨rfl, rfl, rfl⟩
    have same : ∀ b, okB b → briT b = s → b = ⟨n, m, x⟩ := fun b h1 h2 => by
      obtain ⟨b1, b2, b3⟩ := back b h1 h2
      rw [hn] at b2
      rw [hm] at b3
      injection b2 with b2
      injection b3 with b3
      have b4 := addrT_inj x b.addr (fun _ => none) q1 h1.2 (by rw [q2, b1])
      cases b
      simp only [BridgeV.mk.injEq]
      exact ⟨b2.symm, b3.symm, b4.symm⟩
    by_cases hp : bridgeP ⟨n, m, x⟩
    · refine (prioText_good ⟨n, m, x⟩ g'' hp q1 hT).call rfl rfl rfl ?_
      refine bsplit_of (fun (h : (!((briT ⟨n, m, x⟩).toList == s.toList)) = true) => ?_) (fun (h : (!((briT ⟨n, m, x⟩).toList == s.toList)) = false) => ?_)
      · obtain ⟨rfl, rfl⟩ := miss fun b h1 h2 => by
          rw [← same b h1 h2, h2] at h
          simp at h
        exact ⟨rfl, rfl, rfl⟩
      · obtain ⟨rfl, rfl⟩ := hit ⟨n, m, x⟩ ⟨hp, q1⟩ (by rw [str_beq] at h; simpa using h)
        exact ⟨rfl, rfl, rfl⟩
    · refine (prioText_bad ⟨n, m, x⟩ g'' hp).call rfl rfl rfl ?_
      obtain ⟨rfl, rfl⟩ := miss fun b h1 h2 => hp (by rw [← same b h1 h2]; exact h1.1)
      exact ⟨rfl, rfl, rfl⟩
  · rw [q3] at ca
    dsimp only at ca
    obtain ⟨rfl, rfl⟩ := miss fun b h1 h2 => q1 b.addr h1.2 (back b h1 h2).1.symm
    refine meets_of mixedS Tryz.func7 (by kernel_rfl) x7_ok (some []) ?_
    refine cc1.call rfl rfl rfl ?_
    refine cc2.call rfl rfl rfl ?_
    refine ca.call rfl rfl rfl ?_
    refine (atoi_c p (by omega) g hS).call0 rfl rfl 2 rfl ?_
    rintro o L1 g' ⟨r, hr, rfl, rfl, rfl⟩
    rcases hr with ⟨n, -, rfl⟩ | ⟨-, n, nt, nx, rfl⟩
    · skip
      refine (atoi_c e (by omega) g' hS).call0 rfl rfl 2 rfl ?_
      rintro o L1 g'' ⟨r, hr2, rfl, rfl, rfl⟩
      rcases hr2 with ⟨m, -, rfl⟩ | ⟨-, m, mt, mx, rfl⟩
      · by_cases hp : bridgeP ⟨n, m, AddrV.zero⟩
        · refine (prioText_good ⟨n, m, AddrV.zero⟩ g'' hp okA_zero hT).call rfl rfl rfl ?_
          exact ⟨rfl, rfl, rfl⟩
        · refine (prioText_bad ⟨n, m, AddrV.zero⟩ g'' hp).call rfl rfl rfl ?_
          exact ⟨rfl, rfl, rfl⟩
      · by_cases hp : bridgeP ⟨n, m, AddrV.zero⟩
        · refine (prioText_good ⟨n, m, AddrV.zero⟩ g'' hp okA_zero hT).call rfl rfl rfl ?_
          exact ⟨rfl, rfl, rfl⟩
        · refine (prioText_bad ⟨n, m, AddrV.zero⟩ g'' hp).call rfl rfl rfl ?_
          exact ⟨rfl, rfl, rfl⟩
    · skip
      refine (atoi_c e (by omega) g' hS).call0 rfl rfl 2 rfl ?_
      rintro o L1 g'' ⟨r, hr2, rfl, rfl, rfl⟩
      rcases hr2 with ⟨m, -, rfl⟩ | ⟨-, m, mt, mx, rfl⟩
      · by_cases hp : bridgeP ⟨n, m, AddrV.zero⟩
        · refine (prioText_good ⟨n, m, AddrV.zero⟩ g'' hp okA_zero hT).call rfl rfl rfl ?_
          exact ⟨rfl, rfl, rfl⟩
        · refine (prioText_bad ⟨n, m, AddrV.zero⟩ g'' hp).call rfl rfl rfl ?_
          exact ⟨rfl, rfl, rfl⟩
      · by_cases hp : bridgeP ⟨n, m, AddrV.zero⟩
        · refine (prioText_good ⟨n, m, AddrV.zero⟩ g'' hp okA_zero hT).call rfl rfl rfl ?_
          exact ⟨rfl, rfl, rfl⟩
        · refine (prioText_bad ⟨n, m, AddrV.zero⟩ g'' hp).call rfl rfl rfl ?_
          exact ⟨rfl, rfl, rfl⟩
end Go.Proofs.YtmbbhodikiikeaaGreatDoor
