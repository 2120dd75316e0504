/- ref.Hmac and its closure: what each returns. Conditions: the key is not longer than 5000 bytes, the text than 9000. -/
import Derived.Test.YtdbkceojpeboeaaDoorMdD
namespace Go.Proofs.YtdbkceojpeboeaaDoor
open Go.Sx
set_option maxRecDepth 100000
set_option maxHeartbeats 8000000
attribute [local irreducible] Meets

theorem kF_zero (K : List UInt8) (x : UInt8) (h : K.length = 64) : K.map bI = kF K x 0 := by
  apply List.ext_getElem?
  intro i
  rw [List.getElem?_map]
  by_cases hi : i < 64
  · rw [kF, vF_get hi, if_neg (by omega), List.getElem?_eq_getElem (by omega), List.getD_eq_getElem?_getD, List.getElem?_eq_getElem (by omega)]
    rfl
  · rw [List.getElem?_eq_none (by omega), List.getElem?_eq_none (by rw [kF, vF_len]; omega)]; rfl
theorem hPad_fill (K : List UInt8) (n : Nat) (x : UInt8) : hPad (K ++ List.replicate n 0) x = hPad K x := by
  unfold hPad
  refine List.map_congr_left fun i _ => ?_
  congr 1
  rw [List.getD_eq_getElem?_getD, List.getD_eq_getElem?_getD]
  by_cases h : i < K.length
  · rw [List.getElem?_append_left h]
  · rw [List.getElem?_append_right (by omega), List.getElem?_eq_none (l := K) (by omega), List.getElem?_replicate]
    split <;> rfl
theorem kF_app {K : List UInt8} {x : UInt8} {i : Nat} {sp : List Value} {v : Value} (hi : i < 64) (hv : v = bI (K.getD i 0 ^^^ x)) : (kF K x i ++ sp).take i ++ ([v] ++ (kF K x i ++ sp).drop (i + 1)) = kF K x (i + 1) ++ sp := by
  have hl : (kF K x i).length = 64 := vF_len _ _
  rw [List.take_append_of_le_length (by omega), List.drop_append_of_le_length (by omega), ← List.append_assoc, ← List.append_assoc, List.append_assoc ((kF K x i).take i)]
  congr 1
  refine vF_set hi (fun q hq => ?_) ?_
  · have : (q < i + 1) = (q < i) := by simp only [eq_iff_iff]; omega
    simp only [this]
  · rw [hv, if_pos (by omega)]
theorem with_c (K : List UInt8) (hK : K.length = 64) (c : Nat) (hc : c < 256) (g : G) : Meets Tryd.prog 18 [.v (.int .u8 c), .ptr 0 0] [.cells 9 [.v (.string (ofL K))]] g (fun o L' g' => o = .ret (.v (.string (ofL (hPad K (UInt8.ofNat c))))) ∧ L' = [.cells 9 [.v (.string (ofL K))]] ∧ g' = g) := by
  have hs : (ofL K).size = 64 := by rw [ofL_size]; exact hK
  obtain ⟨S, hS⟩ : ∃ S, ofL K = S := ⟨_, rfl⟩
  have hSl : S.data.toList = K := by rw [← hS]; rfl
  rw [hS] at hs ⊢
  refine meets_of mixedM Tryd.func18 (by kernel_rfl) x18_ok (some []) ?_
  refine prim_bytesR 1 rfl (e := 5) (by kernel_rfl) (by kernel_rfl) (by kernel_rfl) rfl (by omega) fun cap sp fz k1 k2 k3 k4 => ?_
  rw [hSl] at k4 ⊢
  change LoopW _ _ _ _ _ _ _ _ _ _
  apply loop_rule [] (α := Nat) (fun i => [(10, .v (.int .i64 i))]) (fun i => [.cells 9 [.v (.string S)], .row 5 (kF K (UInt8.ofNat c) i ++ sp) fz]) (fun _ => g) (fun i => i ≤ 64) (fun i => 64 - i) 0
  · intro x; kernel_rfl
  · exact Nat.zero_le _
  · exact ⟨rfl, trivial⟩
  · rw [← kF_zero K _ hK]; rfl
  · rfl
  intro i hi
  refine bsplit_of (fun (hlt : decide ((i : Int) < ((S.size : Nat) : Int)) = true) => ?_) (fun (hlt : decide ((i : Int) < ((S.size : Nat) : Int)) = false) => ?_)
  · have hi64 : i < 64 := by have := of_decide_eq_true hlt; omega
    have hB : (0 : Int) ≤ ((i : Nat) : Int) ∧ ((i : Nat) : Int) < ((S.size : Nat) : Int) := ⟨by omega, by omega⟩
    have hl : (kF K (UInt8.ofNat c) i).length = 64 := vF_len _ _
    refine ⟨hB, ?_⟩
    refine load1_at (x := bI (K.getD i 0)) (show (kF K (UInt8.ofNat c) i ++ sp)[0 + ((i : Int)).toNat * 1]? = _ from by rw [offN, List.getElem?_append_left (by omega), kF, vF_get hi64, if_neg (by omega)]) ?_
    refine ⟨hB, ?_⟩
    refine ⟨rfl, fun u hu => by simp [Value.cells] at hu; subst hu; rfl, show 0 + ((i : Int)).toNat * 1 + 1 ≤ (kF K (UInt8.ofNat c) i ++ sp).length from by rw [List.length_append, hl, offN]; omega, ?_, ?_⟩
    · have e : (kF K (UInt8.ofNat c) i ++ sp).length = (K.map bI ++ sp).length := by rw [List.length_append, List.length_append, hl, List.length_map, hK]
      show hzOk fz (kF K (UInt8.ofNat c) i ++ sp).length
      rw [e]
      exact k4
    refine ⟨i + 1, hi64, by show 64 - (i + 1) < 64 - i; omega, [0, 1], rfl, ⟨vi (show IntKind.i64.wrap ((i : Int) + 1) = ((i + 1 : Nat) : Int) from by rw [wrap_id (by omega) (by omega)]; omega), trivial⟩, ?_, rfl, rfl, rfl⟩
    refine congrArg (fun q => [Chunk.cells 9 [.v (.string S)], Chunk.row 5 q fz]) ?_
    rw [offN]
    refine kF_app hi64 ?_
    show Value.int .u8 (IntKind.u8.wrap ((BitVec.ofInt IntKind.u8.bits ((K.getD i 0).toNat : Int) ^^^ BitVec.ofInt IntKind.u8.bits (c : Int)).toNat : Int)) = _
    rw [xor8 _ _ hc]
    rfl
  have hi64 : i = 64 := by have : ¬ ((i : Int) < ((S.size : Nat) : Int)) := of_decide_eq_false hlt; omega
  subst hi64
  have hl : (kF K (UInt8.ofNat c) 64).length = 64 := vF_len _ _
  refine ⟨show 0 + S.size ≤ (kF K (UInt8.ofNat c) 64 ++ sp).length from by rw [List.length_append, hl]; omega, (List.range 64).map fun j => ((K.getD j 0 ^^^ UInt8.ofNat c).toNat : Int), ?_, ?_⟩
  · show ((kF K (UInt8.ofNat c) 64 ++ sp).drop 0).take S.size = _
    rw [hs, ← kF_end, List.drop_zero, List.drop_zero, List.take_append_of_le_length (by omega)]
  · exact ⟨rs (kF_str K _), rfl, rfl⟩
theorem hmRef_c (key s : ByteArray) (hk : key.size ≤ 5000) (hs : s.size ≤ 9000) (g : G) : Meets Tryd.prog 8 [.v (.string key), .v (.string s)] [] g (fun o L' g' => o = .ret (.v (.string (mdHmac key s))) ∧ L' = [] ∧ G.le g g') := by
  refine meets_ofJ mixedM Tryd.func8 (by kernel_rfl) x8_ok (some []) ?_
  change JoinW _ _ _ _ _ _ _ _ _ _
  refine join_rule [] (α := G) (fun _ => []) (fun _ => [.cells 9 [.v (.string (ofL (hKey key)))]]) (fun y => y) (fun y => G.le g y) (fun y => by kernel_rfl) ?_ ?_
  · refine bsplit_of (fun h => ?_) (fun h => ?_)
    · have h : key.size > 64 := by have : ((key.size : Int) > 64) := of_decide_eq_true h; omega
      refine (mdRef_c key (by omega) g).call0 rfl rfl 1 rfl ?_
      rintro o L1 g1 ⟨rfl, rfl, hle⟩
      exact ⟨g1, hle, [0], rfl, trivial, by rw [hKey, if_pos h, ofL_self]; rfl, rfl, rfl, rfl⟩
    · have h : ¬ key.size > 64 := by have : ¬ ((key.size : Int) > 64) := of_decide_eq_false h; omega
      exact ⟨g, fun _ _ h => h, [0], rfl, trivial, by rw [hKey, if_neg h, ofL_self]; rfl, rfl, rfl, rfl⟩
  intro g1 hg1
  obtain ⟨K, hK⟩ : ∃ K, hKey key = K := ⟨_, rfl⟩
  have hKl : K.length ≤ 64 := by rw [← hK]; exact hKey_len key
  rw [hK]
  change LoopW _ _ _ _ _ _ _ _ _ _
  apply loop_rule [] (α := Nat) (fun _ => []) (fun n => [.cells 9 [.v (.string (ofL (K ++ List.replicate n 0)))]]) (fun _ => g1) (fun n => K.length + n ≤ 64) (fun n => 64 - (K.length + n)) 0
  · intro x; kernel_rfl
  · exact hKl
  · trivial
  · rw [List.replicate_zero, List.append_nil]
  · rfl
  intro n hn
  have hsz : (ofL (K ++ List.replicate n 0)).size = K.length + n := by rw [ofL_size]; simp
  refine bsplit_of (fun (hlt : decide ((((ofL (K ++ List.replicate n 0)).size : Nat) : Int) < 64) = true) => ?_) (fun (hlt : decide ((((ofL (K ++ List.replicate n 0)).size : Nat) : Int) < 64) = false) => ?_)
  · rw [hsz] at hlt
    have hlt := of_decide_eq_true hlt
    refine ⟨show (ofL (K ++ List.replicate n 0)).size + 1 ≤ _ from by rw [hsz]; omega, ?_⟩
    refine ⟨n + 1, by show K.length + (n + 1) ≤ 64; omega, by show 64 - (K.length + (n + 1)) < 64 - (K.length + n); omega, [0], rfl, trivial, ?_, rfl, rfl, rfl⟩
    show [Chunk.cells 9 [.v (.string (ofL (K ++ List.replicate n 0) ++ ofL [0]))]] = _
    rw [ofL_app, List.append_assoc, ← List.replicate_succ']
    rfl
  rw [hsz] at hlt
  have hlt := of_decide_eq_false hlt
  have hn : K.length + n ≤ 64 := hn
  obtain ⟨J, hJ⟩ : ∃ J, K ++ List.replicate n 0 = J := ⟨_, rfl⟩
  have hJl : J.length = 64 := by rw [← hJ]; simp; omega
  have hJp : ∀ x, hPad J x = hPad (hKey key) x := fun x => by rw [← hJ, hPad_fill, hK]
  rw [hJ]
  refine (with_c J hJl 92 (by decide) g1).callS [0] 1 rfl rfl rfl rfl ?_
  rintro o L1 g2 ⟨rfl, rfl, rfl⟩ _
  refine (with_c J hJl 54 (by decide) g2).callS [0] 1 rfl rfl rfl rfl ?_
  rintro o L1 g3 ⟨rfl, rfl, rfl⟩ _
  refine ⟨by show (ofL (hPad J 54)).size + s.size ≤ _; rw [ofL_size, hPad_len]; omega, ?_⟩
  refine (mdRef_c (ofL (hPad J 54) ++ s) (by rw [ByteArray.size_append, ofL_size, hPad_len]; omega) _).call0 rfl rfl 1 rfl ?_
  rintro o L1 g4 ⟨rfl, rfl, hle2⟩
  refine ⟨by show (ofL (hPad J 92)).size + (mdSum _).size ≤ _; rw [ofL_size, hPad_len, mdSum_size]; omega, ?_⟩
  refine (mdRef_c (ofL (hPad J 92) ++ mdSum (ofL (hPad J 54) ++ s)) (by rw [ByteArray.size_append, ofL_size, hPad_len, mdSum_size]; omega) _).call0 rfl rfl 1 rfl ?_
  rintro o L1 g5 ⟨rfl, rfl, hle3⟩
  refine ⟨rs ?_, rfl, fun b o h => hle3 b o (hle2 b o (hg1 b o h))⟩
  rw [mdHmac, hJp, hJp]
end Go.Proofs.YtdbkceojpeboeaaDoor
