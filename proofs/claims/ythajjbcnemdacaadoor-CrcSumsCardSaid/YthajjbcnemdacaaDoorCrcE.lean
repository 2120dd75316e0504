/- Sealed texts: crc.Seal, crc.Open and their references; the law CrcSums. Conditions: the text's length; of the law: the variable errors.errorType is as laid. -/
import Derived.Test.YthajjbcnemdacaaDoorCrcD
namespace Go.Proofs.YthajjbcnemdacaaDoor
open Go.Sx Go.Lib
set_option maxRecDepth 100000
set_option maxHeartbeats 8000000
attribute [local irreducible] Meets
attribute [local instance] Classical.propDecidable

def sealB (n : Int) : ByteArray := bytesOfInts [n % 256, n / 256 % 256, n / 65536 % 256, n / 16777216 % 256]
def sealS (s : ByteArray) : ByteArray := s ++ sealB (u32I (crcS s))
theorem u32I_rng (x : BitVec 32) : 0 ≤ u32I x ∧ u32I x < 4294967296 := by
  have := x.isLt
  unfold u32I
  omega
theorem w8 {n : Int} (h : 0 ≤ n) : IntKind.u8.wrap n = n % 256 := by
  simp only [IntKind.wrap, IntKind.signed, IntKind.bits]
  simp
theorem w32 {n : Int} (h0 : 0 ≤ n) (h1 : n < 4294967296) : IntKind.u32.wrap n = n := by
  obtain ⟨k, rfl⟩ := Int.eq_ofNat_of_zero_le h0
  exact wrap32 (by omega)
theorem sealP_eq {n : Int} (h0 : 0 ≤ n) (h1 : n < 4294967296) : bytesOfInts [IntKind.u8.wrap n, IntKind.u8.wrap (n.fdiv (2 ^ (min (8 : Int).toNat IntKind.u32.bits))), IntKind.u8.wrap (n.fdiv (2 ^ (min (16 : Int).toNat IntKind.u32.bits))), IntKind.u8.wrap (n.fdiv (2 ^ (min (24 : Int).toNat IntKind.u32.bits)))] = sealB n := by
  have e8 : (2 : Int) ^ (min (8 : Int).toNat IntKind.u32.bits) = 256 := by decide
  have e16 : (2 : Int) ^ (min (16 : Int).toNat IntKind.u32.bits) = 65536 := by decide
  have e24 : (2 : Int) ^ (min (24 : Int).toNat IntKind.u32.bits) = 16777216 := by decide
  rw [e8, e16, e24, Int.fdiv_eq_ediv_of_nonneg _ (by decide), Int.fdiv_eq_ediv_of_nonneg _ (by decide), Int.fdiv_eq_ediv_of_nonneg _ (by decide), w8 h0, w8 (by omega), w8 (by omega), w8 (by omega)]
  rfl
theorem sealR_eq {n : Int} (h0 : 0 ≤ n) (h1 : n < 4294967296) : bytesOfInts [IntKind.u8.wrap (n.tmod 256), IntKind.u8.wrap ((IntKind.u32.wrap (n.tdiv 256)).tmod 256), IntKind.u8.wrap ((IntKind.u32.wrap (n.tdiv 65536)).tmod 256), IntKind.u8.wrap (IntKind.u32.wrap ((IntKind.u32.wrap (n.tdiv 65536)).tdiv 256))] = sealB n := by
  rw [Int.tdiv_eq_ediv_of_nonneg h0, Int.tdiv_eq_ediv_of_nonneg h0, w32 (n := n / 256) (by omega) (by omega), w32 (n := n / 65536) (by omega) (by omega), Int.tmod_eq_emod_of_nonneg h0, Int.tmod_eq_emod_of_nonneg (a := n / 256) (by omega), Int.tmod_eq_emod_of_nonneg (a := n / 65536) (by omega), Int.tdiv_eq_ediv_of_nonneg (a := n / 65536) (by omega), w32 (by omega) (by omega),
    w8 (by omega), w8 (by omega), w8 (by omega), w8 (by omega), sealB]
  have e1 : n % 256 % 256 = n % 256 := by omega
  have e2 : n / 256 % 256 % 256 = n / 256 % 256 := by omega
  have e3 : n / 65536 % 256 % 256 = n / 65536 % 256 := by omega
  have e4 : n / 65536 / 256 % 256 = n / 16777216 % 256 := by omega
  rw [e1, e2, e3, e4]
attribute [local irreducible] crcS
theorem vsR {a b c : ByteArray} (h : b = c) : Out.ret (.v (.string (a ++ b))) = .ret (.v (.string (a ++ c))) := by rw [h]
theorem seal_c (s : ByteArray) (hs : s.size ≤ 300) (g : G) : Meets Tryd.prog 11 [.v (.string s)] [] g (fun o L' g' => o = .ret (.v (.string (sealS s))) ∧ L' = [] ∧ G.le g g') := by
  refine meets_of mixedR Tryd.func11 (by kernel_rfl) x11_ok (some []) ?_
  refine (sum_c s (by omega) g).call0 rfl rfl 0 rfl ?_
  rintro o L1 g' ⟨rfl, rfl, hg⟩
  obtain ⟨h0, h1⟩ := u32I_rng (crcS s)
  refine ⟨by decide, ?_⟩
  refine ⟨by decide, ?_⟩
  refine ⟨by decide, ?_⟩
  refine ⟨by show s.size + 4 ≤ _; omega, ?_⟩
  exact ⟨vsR (sealP_eq h0 h1), rfl, hg⟩
theorem sealR_c (s : ByteArray) (hs : s.size ≤ 300) (g : G) : Meets Tryd.prog 12 [.v (.string s)] [] g (fun o L' g' => o = .ret (.v (.string (sealS s))) ∧ L' = [] ∧ G.le g g') := by
  refine meets_of mixedR Tryd.func12 (by kernel_rfl) x12_ok (some []) ?_
  refine (crcRef_c s hs g).call0 rfl rfl 0 rfl ?_
  rintro o L1 g' ⟨rfl, rfl, hg⟩
  obtain ⟨h0, h1⟩ := u32I_rng (crcS s)
  refine ⟨by decide, ?_⟩
  refine ⟨by decide, ?_⟩
  refine ⟨by decide, ?_⟩
  refine ⟨by decide, ?_⟩
  refine ⟨by decide, ?_⟩
  refine ⟨by decide, ?_⟩
  refine ⟨by decide, ?_⟩
  refine ⟨by show s.size + 4 ≤ _; omega, ?_⟩
  exact ⟨vsR (sealR_eq h0 h1), rfl, hg⟩
attribute [local irreducible] sealS
def cutE (s : ByteArray) : ByteArray := s.extract 0 (IntKind.i64.wrap ((s.size : Int) - 4)).toNat
noncomputable def opE (s : ByteArray) : Int := if s.size < 4 then 7 else if sealS (cutE s) = s then 0 else 15
noncomputable def opS (s : ByteArray) : ByteArray := if s.size < 4 then ⟨#[]⟩ else if sealS (cutE s) = s then cutE s else ⟨#[]⟩
def nilE (e : Int) : Value := if e = 0 then .nilIface else .iface 22 (.int .i64 e)
theorem errP_nilE {g : G} (e : Int) : ErrP g (nilE e) e (-1) := by
  unfold nilE
  split
  · rename_i h; subst h; exact .nil
  · exact .bare _
theorem open_c (s : ByteArray) (hs : s.size ≤ 300) (g : G) : Meets Tryd.prog 8 [.v (.string s)] [] g (fun o L' g' => o = .ret (.tup [.v (.string (opS s)), .v (nilE (opE s))]) ∧ L' = [] ∧ G.le g g') := by
  obtain ⟨E, hE⟩ : ∃ E, opE s = E := ⟨_, rfl⟩
  obtain ⟨T, hT⟩ : ∃ T, opS s = T := ⟨_, rfl⟩
  rw [hE, hT]
  refine meets_of mixedR Tryd.func8 (by kernel_rfl) x8_ok (some []) ?_
  refine bsplit_of (fun (h : decide ((s.size : Int) < 4) = true) => ?_) (fun (h : decide ((s.size : Int) < 4) = false) => ?_)
  · have h4 : s.size < 4 := by have := of_decide_eq_true h; omega
    rw [opE, if_pos h4] at hE
    rw [opS, if_pos h4] at hT
    subst hE hT
    exact ⟨rfl, rfl, fun _ _ h => h⟩
  have h4 : ¬ s.size < 4 := by have := of_decide_eq_false h; omega
  have hw : IntKind.i64.wrap ((s.size : Int) - 4) = s.size - 4 := wrap_id (by omega) (by omega)
  refine ⟨⟨by rw [hw]; omega, by rw [hw]; omega⟩, ?_⟩
  have hz : (cutE s).size ≤ 300 := by rw [cutE, ByteArray.size_extract]; omega
  refine (seal_c (cutE s) hz g).call0 rfl rfl 0 rfl ?_
  rintro o L1 g' ⟨rfl, rfl, hg⟩
  by_cases hq : sealS (cutE s) = s
  · rw [opE, if_neg h4, if_pos hq] at hE
    rw [opS, if_neg h4, if_pos hq] at hT
    subst hE hT
    refine bsplit_of (fun (h : (!((sealS (cutE s)).toList == s.toList)) = true) => absurd h (by rw [hq]; simp)) (fun _ => ⟨rfl, rfl, hg⟩)
  · rw [opE, if_neg h4, if_neg hq] at hE
    rw [opS, if_neg h4, if_neg hq] at hT
    subst hE hT
    refine bsplit_of (fun _ => ⟨rfl, rfl, hg⟩) (fun (h : (!((sealS (cutE s)).toList == s.toList)) = false) => absurd h (by rw [str_beq]; simp [hq]))
theorem openR_c (s : ByteArray) (hs : s.size ≤ 300) (g : G) : Meets Tryd.prog 7 [.v (.string s)] [] g (fun o L' g' => o = .ret (.tup [.v (.string (opS s)), .v (.int .i64 (opE s))]) ∧ L' = [] ∧ G.le g g') := by
  obtain ⟨E, hE⟩ : ∃ E, opE s = E := ⟨_, rfl⟩
  obtain ⟨T, hT⟩ : ∃ T, opS s = T := ⟨_, rfl⟩
  rw [hE, hT]
  refine meets_of mixedR Tryd.func7 (by kernel_rfl) x7_ok (some []) ?_
  refine bsplit_of (fun (h : decide ((s.size : Int) < 4) = true) => ?_) (fun (h : decide ((s.size : Int) < 4) = false) => ?_)
  · have h4 : s.size < 4 := by have := of_decide_eq_true h; omega
    rw [opE, if_pos h4] at hE
    rw [opS, if_pos h4] at hT
    subst hE hT
    exact ⟨rfl, rfl, fun _ _ h => h⟩
  have h4 : ¬ s.size < 4 := by have := of_decide_eq_false h; omega
  have hw : IntKind.i64.wrap ((s.size : Int) - 4) = s.size - 4 := wrap_id (by omega) (by omega)
  refine ⟨⟨by rw [hw]; omega, by rw [hw]; omega⟩, ?_⟩
  have hz : (cutE s).size ≤ 300 := by rw [cutE, ByteArray.size_extract]; omega
  refine (sealR_c (cutE s) hz g).call0 rfl rfl 0 rfl ?_
  rintro o L1 g' ⟨rfl, rfl, hg⟩
  by_cases hq : sealS (cutE s) = s
  · rw [opE, if_neg h4, if_pos hq] at hE
    rw [opS, if_neg h4, if_pos hq] at hT
    subst hE hT
    refine bsplit_of (fun _ => ⟨rfl, rfl, hg⟩) (fun (h : ((sealS (cutE s)).toList == s.toList) = false) => absurd h (by rw [hq]; simp))
  · rw [opE, if_neg h4, if_neg hq] at hE
    rw [opS, if_neg h4, if_neg hq] at hT
    subst hE hT
    refine bsplit_of (fun (h : ((sealS (cutE s)).toList == s.toList) = true) => absurd h (by rw [str_beq]; simp [hq])) (fun _ => ⟨rfl, rfl, hg⟩)
/-- The law CrcSums. -/
theorem crcSums_c (s : ByteArray) (g : G) (_ : sok s) (hE : ErrVar g) : Meets Tryd.prog 3 [.v (.string s)] [] g (fun o _ _ => o = .ret (.v (.bool true))) := by
  refine meets_of mixedR Tryd.func3 (by kernel_rfl) x3_ok (some []) ?_
  refine bsplit_of (fun _ => rfl) (fun (h : decide ((s.size : Int) > 300) = false) => ?_)
  have hs : s.size ≤ 300 := by have := of_decide_eq_false h; omega
  refine (openR_c s hs g).call0 rfl rfl 0 rfl ?_
  rintro o L1 g1 ⟨rfl, rfl, h1⟩
  refine (open_c s hs g1).call0 rfl rfl 0 rfl ?_
  rintro o L1 g2 ⟨rfl, rfl, h2⟩
  refine (sum_c s (by omega) g2).call0 rfl rfl 0 rfl ?_
  rintro o L1 g3 ⟨rfl, rfl, h3⟩
  refine (crcRef_c s hs g3).call0 rfl rfl 0 rfl ?_
  rintro o L1 g4 ⟨rfl, rfl, h4⟩
  refine bsplit_of (fun _ => ?_) (fun h => absurd h (by simp))
  refine (seal_c s hs g4).call0 rfl rfl 0 rfl ?_
  rintro o L1 g5 ⟨rfl, rfl, h5⟩
  refine (sealR_c s hs g5).call0 rfl rfl 0 rfl ?_
  rintro o L1 g6 ⟨rfl, rfl, h6⟩
  refine bsplit_of (fun _ => ?_) (fun (h : ((sealS s).toList == (sealS s).toList) = false) => absurd h (by simp))
  have hE6 : ErrVar g6 := G.at.mono (fun b o hb => h6 b o (h5 b o (h4 b o (h3 b o (h2 b o (h1 b o hb)))))) hE
  refine (bare_c _ _ _ (opE s) g6 hE6 (errP_nilE _)).call rfl rfl rfl ?_
  refine bsplit_of (fun _ => ?_) (fun h => absurd h (by simp))
  exact rb (by simp)
end Go.Proofs.YthajjbcnemdacaaDoor
