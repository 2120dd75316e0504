/- The reference of prio.Parse; the law PrioTexts. Conditions: that the variables of the library that they read are as laid; of the law: the variable errors.errorType is, too. -/
import Derived.Test.YtmbbhodikiikeaaGreatDoorPrA
import Derived.Test.YtmbbhodikiikeaaGreatDoorShelfP
namespace Go.Proofs.YtmbbhodikiikeaaGreatDoor
open Go.Sx Go.Lib Go.RowKit
set_option maxRecDepth 100000
set_option maxHeartbeats 8000000
attribute [local irreducible] Meets
attribute [local instance] Classical.propDecidable

theorem hasPre_c (s p : ByteArray) (g : G) : Tells Tryz.prog 15 [.v (.string s), .v (.string p)] g (.v (.bool (decide (∃ r, s.data.toList = p.data.toList ++ r)))) := by
  have e : decide (∃ r, s.data.toList = p.data.toList ++ r) = Lib.hasPrefix s.data.toList p.data.toList := by
    rw [Bool.eq_iff_iff, decide_eq_true_iff, Lib.hasPrefix, List.isPrefixOf_iff_prefix]
    exact ⟨fun ⟨r, h⟩ => ⟨r, h.symm⟩, fun ⟨r, h⟩ => ⟨r, h.symm⟩⟩
  rw [e]
  refine Tells.of_below (by kernel_rfl) rfl fun _ w _ => (sh_strings_HasPrefix s p w).mono fun e w' h => ?_
  exact ⟨h.1, by rw [h.2]; exact Below.refl _ _⟩
/-- The text without its last 17 signs has the point, where the rest is an address. -/
theorem head_le {s hd : ByteArray} {x : AddrV} (hx : okA x) (hs : 17 ≤ s.size) (ht : addrT x = s.extract (s.size - 17) s.size) {l r : List UInt8} (hl : hd.data.toList = l ++ [46]) (hp : s.data.toList = hd.data.toList ++ r) : hd.size ≤ s.size - 17 := by
  have ez : s.data.toList.length = s.size := by rw [Array.length_toList]; rfl
  have eh : hd.data.toList.length = hd.size := by rw [Array.length_toList]; rfl
  rw [hl] at hp eh
  refine Classical.byContradiction fun hn => addr_no46 hx ?_
  rw [ht, Lib.extract_to_end, hp]
  have e1 : l.length + 1 = hd.size := by simpa using eh
  rw [List.append_assoc, List.drop_append]
  refine List.mem_append_right _ ?_
  rw [show s.size - 17 - l.length = 0 by omega, List.drop_zero]
  simp

attribute [local irreducible] numS addrT briT
/-- Where the reference looks: no name of these priorities. -/
def noneB (s : ByteArray) (P : Int) : Prop := ∀ b : BridgeV, okB b → b.prio < P → briT b ≠ s
theorem bridgeParseR_c (s : ByteArray) (hs : s.size ≤ 1000000) (g : G) (hT : TabVar g) (hB : BitVar g) : Meets Tryz.prog 6 [.v (.string s)] [] g (fun o L' g' => o = .ret (.tup [.agg ((parB s).1.cells.map .v), .v (.int .i64 (parB s).2)]) ∧ L' = [] ∧ G.le g g') := by
  obtain ⟨A, E, hAE⟩ : ∃ A E, parB s = (A, E) := ⟨_, _, rfl⟩
  rw [hAE]
  dsimp only
  have miss : (∀ b, okB b → briT b ≠ s) → A = BridgeV.zero ∧ E = 3 := fun h => by rw [parB_miss h] at hAE; cases hAE; exact ⟨rfl, rfl⟩
  have hit : ∀ b, okB b → briT b = s → A = b ∧ E = 0 := fun b h1 h2 => by rw [parB_hit h1 h2] at hAE; cases hAE; exact ⟨rfl, rfl⟩
  have back := fun b h1 h2 => bri_parts (s := s) (b := b) h1 h2
  clear hAE
  have hw : IntKind.i64.wrap ((s.size : Int) - 17) = s.size - 17 := wrap_id (by omega) (by omega)
  refine meets_of mixedS Tryz.func6 (by kernel_rfl) x6_ok (some []) ?_
  refine bsplit_of (fun (h : decide (IntKind.i64.wrap ((s.size : Int) - 17) < 4) = true) => ?_) (fun (h : decide (IntKind.i64.wrap ((s.size : Int) - 17) < 4) = false) => ?_)
  · rw [hw] at h
    obtain ⟨rfl, rfl⟩ := miss fun b h1 h2 => by have := (back b h1 h2).1; have := of_decide_eq_true h; omega
    exact ⟨rfl, rfl, gle g⟩
  rw [hw] at h
  have hs21 : 21 ≤ s.size := by have := of_decide_eq_false h; omega
  clear h
  refine bsplit_of (fun (h : decide (IntKind.i64.wrap ((s.size : Int) - 17) > 11) = true) => ?_) (fun (h : decide (IntKind.i64.wrap ((s.size : Int) - 17) > 11) = false) => ?_)
  · rw [hw] at h
    obtain ⟨rfl, rfl⟩ := miss fun b h1 h2 => by have := (back b h1 h2).1; have := of_decide_eq_true h; omega
    exact ⟨rfl, rfl, gle g⟩
  rw [hw] at h
  have hs28 : s.size ≤ 28 := by have := of_decide_eq_false h; omega
  clear h
  refine ⟨⟨by omega, by omega⟩, ?_⟩
  have hnn : (IntKind.i64.wrap ((s.size : Int) - 17)).toNat = s.size - 17 := by omega
  obtain ⟨T, hTT⟩ : ∃ T, s.extract (s.size - 17) s.size = T := ⟨_, rfl⟩
  have hTz : T.size ≤ 1000000 := by rw [← hTT, ByteArray.size_extract]; omega
  have hap : Tells Tryz.prog 14 [.v (.string (s.extract (IntKind.i64.wrap ((s.size : Int) - 17)).toNat s.size))] g (.tup [.agg ((parA T).1.cells.map .v), .v (.int .i64 (parA T).2)]) := by
    rw [hnn, hTT]; exact addrParse_c T hTz g hB
  rcases parA_cases T with ⟨x, q1, q2, q3⟩ | ⟨q1, q3⟩
  rotate_left
  · rw [q3] at hap
    dsimp only at hap
    obtain ⟨rfl, rfl⟩ := miss fun b h1 h2 => q1 b.addr h1.2 (by rw [← hTT, (back b h1 h2).2.1])
    refine hap.call rfl rfl rfl ?_
    exact ⟨rfl, rfl, gle g⟩
  rw [q3] at hap
  dsimp only at hap
  refine hap.call rfl rfl rfl ?_
  have hadr : ∀ b, okB b → briT b = s → b.addr = x := fun b h1 h2 => addrT_inj _ _ (fun _ => none) h1.2 q1 (by rw [q2, ← hTT, (back b h1 h2).2.1])
  have q2' : addrT x = s.extract (s.size - 17) s.size := by rw [q2, hTT]
  clear hap q3 q2 hTz hTT
  obtain ⟨M, hMM⟩ : ∃ M : Int, M = 61440 := ⟨_, rfl⟩
  change LoopW _ _ _ _ _ _ _
  apply loop_rule [] (α := Int × G) (fun y => [(7, .v (.int .i64 y.1))]) (fun _ => [.cells 25 (BridgeV.zero.cells.map .v), .cells 23 (x.cells.map .v)]) (fun y => y.2) (fun y => ((0 ≤ y.1 ∧ y.1 ≤ M + 4096) ∧ y.1 % 4096 = 0) ∧ noneB s y.1 ∧ G.le g y.2) (fun y => (M + 4096 - y.1).toNat) (0, g)
  · intro y; kernel_rfl
  · exact ⟨⟨⟨Int.le_refl 0, by show (0 : Int) ≤ M + 4096; omega⟩, rfl⟩, fun b h1 h2 => by have := h1.1.1; have : b.prio < 0 := h2; omega, gle g⟩
  · exact ⟨rfl, trivial⟩
  · rfl
  · rfl
  rintro ⟨P, gP⟩ ⟨⟨⟨hP0, hP1⟩, hPm⟩, hN, hgP⟩
  dsimp only at hP0 hP1 hPm hN hgP
  have hTP : TabVar gP := fun w him => hT w fun b o hb => him b o (hgP b o hb)
  have hBP : BitVar gP := G.at.mono hgP hB
  refine bsplit_of (fun (hlt : decide (P ≤ 61440) = true) => ?_) (fun (hlt : decide (P ≤ 61440) = false) => ?_)
  rotate_left
  · have hge : ¬ P ≤ 61440 := of_decide_eq_false hlt
    obtain ⟨rfl, rfl⟩ := miss fun b h1 h2 => hN b h1 (by have := h1.1.2.1; omega) h2
    exact ⟨rfl, rfl, hgP⟩
  have hle : P ≤ 61440 := of_decide_eq_true hlt
  have hzP := numS_size hP0 (show P < 100000 by omega)
  refine (itoa_c P (by omega) (by omega) gP hTP).call rfl rfl rfl ?_
  refine ⟨by show (numS P).size + 1 ≤ _; omega, ?_⟩
  obtain ⟨hd, hhd⟩ : ∃ hd, numS P ++ ⟨#[46]⟩ = hd := ⟨_, rfl⟩
  have hhl : hd.data.toList = decDigits P.toNat ++ [46] := by
    rw [← hhd]; simp only [ByteArray.data_append, Array.toList_append, numS_list hP0]
  have hhz : hd.size ≤ 6 := by rw [← hhd, ByteArray.size_append, n46]; omega
  have hpre : Tells Tryz.prog 15 [.v (.string s), .v (.string (numS P ++ ⟨#[46]⟩))] gP (.v (.bool (decide (∃ r, s.data.toList = hd.data.toList ++ r)))) := by rw [hhd]; exact hasPre_c s hd gP
  refine hpre.call rfl rfl rfl ?_
  have step : ∀ {g' : G}, G.le g g' → (∀ b, okB b → b.prio = P → briT b ≠ s) → ((0 ≤ P + 4096 ∧ P + 4096 ≤ M + 4096) ∧ (P + 4096) % 4096 = 0) ∧ noneB s (P + 4096) ∧ G.le g g' := fun hg' h => by
    refine ⟨⟨⟨by omega, by omega⟩, by omega⟩, fun b h1 h2 => ?_, hg'⟩
    have hm : b.prio % 4096 = 0 := by have := h1.1.2.2.1; rwa [Int.tmod_eq_emod_of_nonneg h1.1.1] at this
    by_cases hbp : b.prio < P
    · exact hN b h1 hbp
    · exact h b h1 (by omega)
  have hwP : IntKind.i64.wrap (P + 4096) = P + 4096 := wrap_id (by omega) (by omega)
  refine bsplit_of (fun (h : (!decide (∃ r, s.data.toList = hd.data.toList ++ r)) = true) => ?_) (fun (h : (!decide (∃ r, s.data.toList = hd.data.toList ++ r)) = false) => ?_)
  · refine ⟨(P + 4096, gP), step hgP fun b h1 h2 h3 => ?_, by show (M + 4096 - (P + 4096)).toNat < (M + 4096 - P).toNat; omega, [0, 1], rfl, ⟨vi hwP, trivial⟩, rfl, rfl, rfl, rfl⟩
    have := (back b h1 h3).2.2.1
    rw [h2, hhd] at this
    simp [this] at h
  have hpx : ∃ r, s.data.toList = hd.data.toList ++ r := by simpa using h
  obtain ⟨r, hr⟩ := hpx
  have hle2 := head_le q1 (by omega) q2' hhl hr
  clear h
  refine ⟨by omega, by rw [hhd]; omega, ?_⟩
  obtain ⟨D, hD⟩ : ∃ D, s.extract hd.size (s.size - 17) = D := ⟨_, rfl⟩
  have hDe : s.extract ((numS P ++ ⟨#[46]⟩ : ByteArray).size : Int).toNat (IntKind.i64.wrap ((s.size : Int) - 17)).toNat = D := by rw [hhd, hnn, Int.toNat_natCast, hD]
  have hDz : D.size ≤ 11 := by rw [← hD, ByteArray.size_extract]; omega
  have hDl : D.data.toList.length = D.size := by rw [Array.length_toList]; rfl
  refine prim_bytes (e := 5) (by kernel_rfl) (by kernel_rfl) (by kernel_rfl) rfl (fun g2 ad2 cap hg2 hat => ?_)
  replace hat : g2.at ad2 (D.data.toList.map fun b => Value.int .u8 b.toNat) := by rw [← hDe]; exact hat
  rw [hDe]
  have hgg : G.le g g2 := fun b o hb => hg2 b o (hgP b o hb)
  have hT2 : TabVar g2 := fun w him => hT w fun b o hb => him b o (hgg b o hb)
  have hB2 : BitVar g2 := G.at.mono hgg hB
  change LoopW _ _ _ _ _ _ _
  apply loop_rule [] (α := Nat) (fun k => [(54, .v (.int .i64 k)), (9, .v (.int .i64 (valF (D.data.toList.take k) : Nat)))]) (fun _ => [.cells 25 (BridgeV.zero.cells.map .v), .cells 23 (x.cells.map .v)]) (fun _ => g2) (fun k => k ≤ D.size) (fun k => D.size - k) 0
  · intro y; kernel_rfl
  · exact Nat.zero_le _
  · exact ⟨rfl, rfl, trivial⟩
  · rfl
  · rfl
  intro k hk
  refine bsplit_of (fun hlt => ?_) (fun hlt => ?_)
  · have hlt' : k < D.size := by simpa using hlt
    obtain ⟨b, hb, hat2⟩ := byteG hat hlt'
    have hb2 := b.toNat_lt
    have hv := valF_lt 11 (D.data.toList.take k) (by rw [List.length_take]; omega)
    have hv : valF (D.data.toList.take k) < 100000000000 := hv
    have hsn : valF (D.data.toList.take (k + 1)) = if 48 ≤ b.toNat ∧ b.toNat ≤ 57 then valF (D.data.toList.take k) * 10 + (b.toNat - 48) else valF (D.data.toList.take k) := by rw [take_snoc hb, valF_snoc]
    refine ⟨⟨by omega, by omega⟩, ad2, rfl, ?_⟩
    refine ⟨[.int .u8 b.toNat], rfl, hat2, ?_⟩
    have wb : IntKind.i64.wrap (b.toNat : Int) = b.toNat := wrap_id (by omega) (by omega)
    have hwi : Tells Tryz.prog 16 [.v (.int .i64 (IntKind.i64.wrap (b.toNat : Int))), .v (.int .i64 48), .v (.int .i64 57)] g2 (.v (.bool (decide (48 ≤ b.toNat ∧ b.toNat ≤ 57)))) := by
      have e : decide (48 ≤ b.toNat ∧ b.toNat ≤ 57) = decide ((48 : Int) ≤ b.toNat ∧ (b.toNat : Int) ≤ 57) := by rw [decide_eq_decide]; omega
      rw [wb, e]; exact within_c _ 48 57 g2
    refine hwi.call rfl rfl rfl ?_
    refine bsplit_of (fun (h : decide (48 ≤ b.toNat ∧ b.toNat ≤ 57) = true) => ?_) (fun (h : decide (48 ≤ b.toNat ∧ b.toNat ≤ 57) = false) => ?_)
    · have hd2 := of_decide_eq_true h
      refine ⟨k + 1, hlt', by omega, [0, 1], rfl, ⟨vi (wrap_id (by omega) (by omega)), vi ?_, trivial⟩, rfl, rfl, rfl, rfl⟩
      rw [hsn, if_pos hd2]
      show IntKind.i64.wrap (IntKind.i64.wrap (IntKind.i64.wrap ((valF (D.data.toList.take k) : Int) * 10) + IntKind.i64.wrap (b.toNat : Int)) - 48) = _
      rw [wb, wrap_id (a := (valF (D.data.toList.take k) : Int) * 10) (by omega) (by omega), wrap_id (a := (valF (D.data.toList.take k) : Int) * 10 + (b.toNat : Int)) (by omega) (by omega), wrap_id (by omega) (by omega)]
      omega
    · have hd2 := of_decide_eq_false h
      refine ⟨k + 1, hlt', by omega, [0, 1], rfl, ⟨vi (wrap_id (by omega) (by omega)), vi ?_, trivial⟩, rfl, rfl, rfl, rfl⟩
      rw [hsn, if_neg hd2]
  have hkD : k = D.size := by have := of_decide_eq_false hlt; omega
  rw [List.take_of_length_le (by omega)]
  obtain ⟨v, hv⟩ : ∃ v : Nat, valF D.data.toList = v := ⟨_, rfl⟩
  rw [hv]
  have same : ∀ b, okB b → b.prio = P → briT b = s → b = ⟨P, v, x⟩ := fun b h1 h2 h3 => by
    have hm := (back b h1 h3).2.2.2
    rw [h2, hhd, hD] at hm
    rw [hm, valF_snoc, if_neg (by decide), valF_dec] at hv
    have ha := hadr b h1 h3
    have he := h1.1.2.2.2.1
    cases b
    simp only [BridgeV.mk.injEq] at *
    exact ⟨h2, by omega, ha⟩
  by_cases hok : bridgeP ⟨P, v, x⟩
  · refine (bridgeText_good ⟨P, v, x⟩ g2 hok q1 hT2 hB2).call rfl rfl rfl ?_
    refine bsplit_of (fun (h : ((briT ⟨P, v, x⟩).toList == s.toList) = true) => ?_) (fun (h : ((briT ⟨P, v, x⟩).toList == s.toList) = false) => ?_)
    · obtain ⟨rfl, rfl⟩ := hit ⟨P, v, x⟩ ⟨hok, q1⟩ (by rw [str_beq] at h; simpa using h)
      exact ⟨rfl, rfl, hgg⟩
    · rw [str_beq, decide_eq_false_iff_not] at h
      exact ⟨(P + 4096, g2), step hgg fun b h1 h2 h3 => h (by rw [← same b h1 h2 h3]; exact h3), by show (M + 4096 - (P + 4096)).toNat < (M + 4096 - P).toNat; omega, [0, 1], rfl, ⟨vi hwP, trivial⟩, rfl, rfl, rfl, rfl⟩
  · refine (bridgeText_bad ⟨P, v, x⟩ g2 hok).call rfl rfl rfl ?_
    exact ⟨(P + 4096, g2), step hgg fun b h1 h2 h3 => hok (by rw [← same b h1 h2 h3]; exact h1.1), by show (M + 4096 - (P + 4096)).toNat < (M + 4096 - P).toNat; omega, [0, 1], rfl, ⟨vi hwP, trivial⟩, rfl, rfl, rfl, rfl⟩

noncomputable def bxS (b : BridgeV) : ByteArray := if bridgeP b then briT b else ⟨#[]⟩
noncomputable def bxE (b : BridgeV) : Int := if bridgeP b then 0 else 1
theorem prioText_c (b : BridgeV) (g : G) (ha : b.addr.ok g) (hT : TabVar g) : Tells Tryz.prog 5 [.agg (b.cells.map .v)] g (.tup [.v (.string (bxS b)), .v (nilM (bxE b))]) := by
  by_cases h : bridgeP b
  · rw [bxS, bxE, if_pos h, if_pos h]; exact prioText_good b g h ha hT
  · rw [bxS, bxE, if_neg h, if_neg h]; exact prioText_bad b g h
theorem bridgeText_c (b : BridgeV) (g : G) (ha : b.addr.ok g) (hT : TabVar g) (hB : BitVar g) : Tells Tryz.prog 4 [.agg (b.cells.map .v)] g (.tup [.v (.string (bxS b)), .v (.int .i64 (bxE b))]) := by
  by_cases h : bridgeP b
  · rw [bxS, bxE, if_pos h, if_pos h]; exact bridgeText_good b g h ha hT hB
  · rw [bxS, bxE, if_neg h, if_neg h]; exact bridgeText_bad b g h
/-- The law PrioTexts. -/
theorem prioTexts_c (b : BridgeV) (s : ByteArray) (g : G) (hb : b.ok g) (_ : sok s) (hT : TabVar g) (hB : BitVar g) (hS : SynVar g) (hM : MaxVar g) (hE : ErrVar g) : Meets Tryz.prog 3 [.agg (b.cells.map .v), .v (.string s)] [] g (fun o _ _ => o = .ret (.v (.bool true))) := by
  refine meets_of mixedS Tryz.func3 (by kernel_rfl) x3_ok (some []) ?_
  refine bsplit_of (fun _ => rfl) (fun (h : decide ((s.size : Int) > 100) = false) => ?_)
  have hs : s.size ≤ 1000000 := by have := of_decide_eq_false h; omega
  refine (bridgeText_c b g hb.2.2 hT hB).call rfl rfl rfl ?_
  refine (prioText_c b g hb.2.2 hT).call rfl rfl rfl ?_
  refine (bridgeParseR_c s hs g hT hB).call0 rfl rfl 1 rfl ?_
  rintro o L1 g2 ⟨rfl, rfl, hg2⟩
  have hT2 : TabVar g2 := fun w him => hT w fun b o hb => him b o (hg2 b o hb)
  have hM2 : MaxVar g2 := hM.imp fun _ h => G.at.mono hg2 h
  have hS2 : SynVar g2 := ⟨hS.1.imp fun _ h => h.imp fun _ h => G.at.mono hg2 h, hS.2.imp fun _ h => h.imp fun _ h => G.at.mono hg2 h⟩
  have hE2 : ErrVar g2 := G.at.mono hg2 hE
  refine (prioParse_c s hs g2 hM2 hS2 hT2).call rfl rfl rfl ?_
  refine (bare_c _ _ _ (bxE b) g2 hE2 (errP_nilM _)).call rfl rfl rfl ?_
  refine bsplit_of (fun _ => ?_) (fun h => absurd h (by simp))
  refine bsplit_of (fun _ => ?_) (fun (h : ((bxS b).toList == (bxS b).toList) = false) => absurd h (by simp))
  refine (bare_c _ _ _ (parB s).2 g2 hE2 (errP_nilM _)).call rfl rfl rfl ?_
  refine bsplit_of (fun _ => ?_) (fun h => absurd h (by simp))
  exact rb (show true = (false ^^ (parB s).1.eq (parB s).1) by rw [BridgeV.eq_refl]; rfl)
end Go.Proofs.YtmbbhodikiikeaaGreatDoor
