/- The reference's cursor: what each of its methods does, or throws. Conditions: the cursor's place and text are of a size that memory holds. -/
import Derived.Test.YtfianfpmnglfnaaDoorXcur
import Derived.Test.YtfianfpmnglfnaaDoorBaseC
import Derived.Test.YtfianfpmnglfnaaDoorRdC
namespace Go.Proofs.YtfianfpmnglfnaaDoor
open Go.Sx
set_option maxRecDepth 100000
set_option maxHeartbeats 8000000
attribute [local irreducible] Meets

def cuC (c : CurV) : Chunk := .cells 152 [.v (.string c.s), .v (.int .i64 c.at_), .v (.int .i64 c.off)]
/-- What is thrown. -/
def thr (e pl : Int) : SV := .iface 204 (.agg [.v (.int .i64 e), .v (.int .i64 pl)])

theorem good_c (g : G) : Tells Tryd.prog 48 [] g (.agg [.v (.int .i64 0), .v (.int .i64 (-1))]) := by
  refine meets_of mixedW Tryd.func48 (by kernel_rfl) x48_ok (some []) ?_
  exact ⟨rfl, rfl, rfl⟩
theorem is_c (e pl : Int) (g : G) : Tells Tryd.prog 42 [.agg [.v (.int .i64 e), .v (.int .i64 pl)]] g (.v (.bool (e == 0))) := by
  refine meets_of mixedW Tryd.func42 (by kernel_rfl) x42_ok (some []) ?_
  exact ⟨rfl, rfl, rfl⟩
theorem throw_c (c : CurV) (e at_ : Int) (g : G) (h : c.ok) (ha : 0 ≤ at_ ∧ at_ ≤ 1000000000000) : Meets Tryd.prog 63 [.ptr 0 0, .v (.int .i64 e), .v (.int .i64 at_)] [cuC c] g (fun o L' g' => o = .pan (thr e (c.off + at_)) ∧ L' = [cuC c] ∧ g' = g) := by
  obtain ⟨h1, h2, h3, h4⟩ := h
  refine meets_of mixedW Tryd.func63 (by kernel_rfl) x63_ok (some []) ?_
  refine prim_panic rfl ?_
  exact ⟨congrArg (fun x => Out.pan (thr e x)) (wrap_id (a := c.off + at_) (by omega) (by omega)), rfl, rfl⟩

theorem eat_good (c : CurV) (n : Nat) (g : G) (h : c.ok) (hn : c.at_ + n ≤ c.s.size) : Meets Tryd.prog 90 [.ptr 0 0, .v (.int .i64 n)] [cuC c] g (fun o L' g' => o = .ret (.v (.string (c.cut n))) ∧ L' = [cuC (c.fwd n)] ∧ g' = g) := by
  obtain ⟨h1, h2, h3, h4⟩ := h
  have w0 : IntKind.i64.wrap ((c.s.size : Int) - c.at_) = (c.s.size : Int) - c.at_ := wrap_id (by omega) (by omega)
  have w1 : IntKind.i64.wrap ((c.at_ : Int) + n) = c.at_ + n := wrap_id (by omega) (by omega)
  have w2 : IntKind.i64.wrap (IntKind.i64.wrap ((c.at_ : Int) + n) - n) = c.at_ := by rw [w1, wrap_id (by omega) (by omega)]; omega
  refine meets_of mixedW Tryd.func90 (by kernel_rfl) x90_ok (some []) ?_
  refine bsplit_of (fun k1 => absurd k1 (by rw [w0]; simp; omega)) (fun _ => ?_)
  refine ⟨⟨by rw [w1]; omega, by rw [w1]; omega⟩, ⟨by rw [w2]; omega, by rw [w2, w1]; omega⟩, ?_⟩
  refine ⟨rs (by rw [w2, w1]; rfl), ?_, rfl⟩
  exact congrArg (fun x : Int => [Chunk.cells 152 [.v (.string c.s), .v (.int .i64 x), .v (.int .i64 c.off)]]) w1
theorem eat_bad (c : CurV) (n : Nat) (g : G) (h : c.ok) (hn : c.s.size < c.at_ + n) (hm : n ≤ 1000000000000) : Meets Tryd.prog 90 [.ptr 0 0, .v (.int .i64 n)] [cuC c] g (fun o L' g' => o = .pan (thr 7 (c.off + c.at_)) ∧ L' = [cuC c] ∧ g' = g) := by
  obtain ⟨h1, h2, h3, h4⟩ := id h
  have w0 : IntKind.i64.wrap ((c.s.size : Int) - c.at_) = (c.s.size : Int) - c.at_ := wrap_id (by omega) (by omega)
  refine meets_of mixedW Tryd.func90 (by kernel_rfl) x90_ok (some []) ?_
  refine bsplit_of (fun _ => ?_) (fun k1 => absurd k1 (by rw [w0]; simp; omega))
  refine absK fun K hK => ?_
  refine (throw_c c 7 c.at_ g h (by omega)).callS [0] 1 rfl rfl rfl rfl ?_
  rintro o L1 g' ⟨rfl, rfl, rfl⟩ _
  subst hK
  exact ⟨rfl, rfl, rfl⟩

theorem mul_add {x : Nat} (b : UInt8) (hx : x < 256 ^ 6) : IntKind.i64.wrap (IntKind.i64.wrap ((x : Int) * 256) + IntKind.i64.wrap (b.toNat : Int)) = ((x * 256 + b.toNat : Nat) : Int) := by
  have hb := b.toNat_lt
  have e1 : (256 : Nat) ^ 6 = 281474976710656 := by decide
  rw [e1] at hx
  rw [show IntKind.i64.wrap ((x : Int) * 256) = x * 256 from wrap_id (by omega) (by omega), show IntKind.i64.wrap (b.toNat : Int) = b.toNat from wrap_id (by omega) (by omega), wrap_id (by omega) (by omega)]
  omega
theorem cnum_good (c : CurV) (n : Nat) (g : G) (h : c.ok) (hn : c.at_ + n ≤ c.s.size) (h7 : n ≤ 7) : Meets Tryd.prog 61 [.ptr 0 0, .v (.int .i64 n)] [cuC c] g (fun o L' g' => o = .ret (.v (.int .i64 (c.numOf n))) ∧ L' = [cuC (c.fwd n)] ∧ G.le g g') := by
  have hsz := cut_size hn
  have hl : (c.cut n).data.toList.length = n := by rw [Array.length_toList]; exact hsz
  refine meets_of mixedW Tryd.func61 (by kernel_rfl) x61_ok (some []) ?_
  refine (eat_good c n g h hn).callS [0] 1 rfl rfl rfl rfl ?_
  rintro o L1 g1 ⟨rfl, rfl, rfl⟩ _
  refine prim_bytes (e := 5) (by kernel_rfl) (by kernel_rfl) (by kernel_rfl) rfl (fun g2 ad2 cap hg2 hat => ?_)
  change LoopW _ _ _ _ _ _ _ _ _
  apply loop_rule [] (α := Nat) (fun k => [(13, .v (.int .i64 k)), (5, .v (.int .i64 (numL ((c.cut n).data.toList.take k) : Nat)))]) (fun _ => [cuC (c.fwd n)]) (fun _ => g2) (fun k => k ≤ (c.cut n).size) (fun k => (c.cut n).size - k) 0
  · intro x; kernel_rfl
  · exact Nat.zero_le _
  · exact ⟨rfl, rfl, trivial⟩
  · rfl
  · rfl
  intro k hk
  refine bsplit_of (fun hlt => ?_) (fun hlt => ?_)
  · have hlt' : k < (c.cut n).size := by simpa using hlt
    obtain ⟨b, hb, hat2⟩ := byte_at hat hlt'
    refine ⟨⟨by omega, by omega⟩, ad2, rfl, ?_⟩
    refine ⟨[.int .u8 b.toNat], rfl, hat2, ?_⟩
    have hx : numL ((c.cut n).data.toList.take k) < 256 ^ 6 := Nat.lt_of_lt_of_le (numL_lt k _ (by rw [List.length_take]; omega)) (Nat.pow_le_pow_right (by decide) (by omega))
    refine ⟨k + 1, hlt', by omega, [0], rfl, ⟨vi (wrap_id (by omega) (by omega)), vi ?_, trivial⟩, rfl, rfl, rfl, rfl⟩
    rw [numL_take _ k b hb]
    exact mul_add b hx
  · have : k = (c.cut n).size := by simp at hlt; omega
    subst this
    refine ⟨ri (k := .i64) ?_, rfl, hg2⟩
    rw [List.take_of_length_le (by omega)]
    rfl
theorem cnum_bad (c : CurV) (n : Nat) (g : G) (h : c.ok) (hn : c.s.size < c.at_ + n) (hm : n ≤ 1000000000000) : Meets Tryd.prog 61 [.ptr 0 0, .v (.int .i64 n)] [cuC c] g (fun o L' g' => o = .pan (thr 7 (c.off + c.at_)) ∧ L' = [cuC c] ∧ g' = g) := by
  refine meets_of mixedW Tryd.func61 (by kernel_rfl) x61_ok (some []) ?_
  refine (eat_bad c n g h hn hm).callS [0] 1 rfl rfl rfl rfl ?_
  rintro o L1 g1 ⟨rfl, rfl, rfl⟩ _
  exact ⟨rfl, rfl, rfl⟩

/-- An address out of six bytes. -/
def addrOf (s : ByteArray) : AddrV := ⟨byteI s 0, byteI s 1, byteI s 2, byteI s 3, byteI s 4, byteI s 5⟩

theorem want_good (c : CurV) (s : ByteArray) (g : G) (h : c.ok) (hn : c.at_ + s.size ≤ c.s.size) (he : c.cut s.size = s) : Meets Tryd.prog 60 [.ptr 0 0, .v (.string s)] [cuC c] g (fun o L' g' => o = .ret (.tup []) ∧ L' = [cuC (c.fwd s.size)] ∧ g' = g) := by
  refine meets_of mixedW Tryd.func60 (by kernel_rfl) x60_ok (some []) ?_
  refine (eat_good c s.size g h hn).callS [0] 1 rfl rfl rfl rfl ?_
  rintro o L1 g1 ⟨rfl, rfl, rfl⟩ _
  refine bsplit_of (fun k => absurd k (by rw [he]; simp)) (fun _ => ?_)
  exact ⟨rfl, rfl, rfl⟩
theorem want_diff (c : CurV) (s : ByteArray) (g : G) (h : c.ok) (hn : c.at_ + s.size ≤ c.s.size) (he : c.cut s.size ≠ s) : Meets Tryd.prog 60 [.ptr 0 0, .v (.string s)] [cuC c] g (fun o L' g' => o = .pan (thr 3 (c.off + c.at_)) ∧ L' = [cuC (c.fwd s.size)] ∧ g' = g) := by
  refine meets_of mixedW Tryd.func60 (by kernel_rfl) x60_ok (some []) ?_
  refine (eat_good c s.size g h hn).callS [0] 1 rfl rfl rfl rfl ?_
  rintro o L1 g1 ⟨rfl, rfl, rfl⟩ _
  refine bsplit_of (fun _ => ?_) (fun k => absurd k (by rw [str_beq]; simp [he]))
  refine absK fun K hK => ?_
  refine (throw_c (c.fwd s.size) 3 c.at_ _ (CurV.fwd_ok h hn) (by obtain ⟨h1, h2, h3, h4⟩ := h; omega)).callS [0] 1 rfl rfl rfl rfl ?_
  rintro o L1 g1 ⟨rfl, rfl, rfl⟩ _
  subst hK
  exact ⟨rfl, rfl, rfl⟩
theorem want_short (c : CurV) (s : ByteArray) (g : G) (h : c.ok) (hn : c.s.size < c.at_ + s.size) (hm : s.size ≤ 1000000000000) : Meets Tryd.prog 60 [.ptr 0 0, .v (.string s)] [cuC c] g (fun o L' g' => o = .pan (thr 7 (c.off + c.at_)) ∧ L' = [cuC c] ∧ g' = g) := by
  refine meets_of mixedW Tryd.func60 (by kernel_rfl) x60_ok (some []) ?_
  refine (eat_bad c s.size g h hn hm).callS [0] 1 rfl rfl rfl rfl ?_
  rintro o L1 g1 ⟨rfl, rfl, rfl⟩ _
  exact ⟨rfl, rfl, rfl⟩

/-- Whether only zeros are left; where the first other byte lies. -/
theorem noughts_c (c : CurV) (g : G) (h : c.ok) : Meets Tryd.prog 62 [.ptr 0 0] [cuC c] g (fun o L' g' => g' = g ∧ L' = [cuC (c.fwd (zat c.rest))] ∧
    ((c.at_ + zat c.rest = c.s.size ∧ o = .ret (.tup [])) ∨ (c.at_ + zat c.rest < c.s.size ∧ o = .pan (thr 15 (c.off + (c.at_ + zat c.rest : Nat)))))) := by
  obtain ⟨o1, o2, o3, o4⟩ := id h
  have hl : c.s.data.toList.length = c.s.size := by rw [Array.length_toList]; rfl
  refine meets_of mixedW Tryd.func62 (by kernel_rfl) x62_ok (some []) ?_
  change LoopW _ _ _ _ _ _ _ _ _
  apply loop_rule [] (α := Nat) (fun _ => []) (fun k => [cuC (c.fwd k)]) (fun _ => g) (fun k => c.at_ + k ≤ c.s.size ∧ ∀ j, j < k → c.s.data.toList[c.at_ + j]? = some 0) (fun k => c.s.size - (c.at_ + k)) 0
  · intro x; kernel_rfl
  · exact ⟨o1, fun j hj => by omega⟩
  · exact trivial
  · rfl
  · rfl
  intro k hk
  have hok : (c.fwd k).ok := ⟨hk.1, o2, o3, o4⟩
  have hdrop : ∀ j, c.rest[j]? = c.s.data.toList[c.at_ + j]? := fun j => by simp [CurV.rest]
  refine bsplit_of (fun hlt => ?_) (fun hlt => ?_)
  · have hlt' : c.at_ + k < c.s.size := by
      have hlt : decide (((c.at_ + k : Nat) : Int) < (c.s.size : Int)) = true := hlt
      simp at hlt; omega
    obtain ⟨b, hb⟩ : ∃ b, c.s.data.toList[c.at_ + k]? = some b := lt_some (by omega)
    have hbD : c.s.data.toList.getD (Int.toNat ((c.at_ + k : Nat) : Int)) 0 = b := by rw [Int.toNat_natCast]; exact getD_of hb
    refine ⟨⟨Int.natCast_nonneg _, by show ((c.at_ + k : Nat) : Int) < (c.s.size : Int); omega⟩, ?_⟩
    refine bsplit_of (fun hne => ?_) (fun hne => ?_)
    · have hne' : b ≠ 0 := by
        have hne : (((c.s.data.toList.getD (Int.toNat ((c.at_ + k : Nat) : Int)) 0).toNat : Int) != 0) = true := hne
        rw [hbD] at hne
        intro e
        subst e
        simp at hne
      refine absK fun K hK => ?_
      refine (throw_c (c.fwd k) 15 (c.at_ + k : Nat) _ hok (by omega)).callS [0] 1 rfl rfl rfl rfl ?_
      rintro o L1 g1 ⟨rfl, rfl, rfl⟩ _
      subst hK
      have hz : zat c.rest = k := zat_eq _ k (fun j hj => by rw [hdrop]; exact hk.2 j hj) (.inr ⟨b, by rw [hdrop]; exact hb, hne'⟩)
      rw [hz]
      exact ⟨rfl, rfl, .inr ⟨hlt', rfl⟩⟩
    · have hb0 : b = 0 := by
        have hne : (((c.s.data.toList.getD (Int.toNat ((c.at_ + k : Nat) : Int)) 0).toNat : Int) != 0) = false := hne
        rw [hbD] at hne
        simp at hne
        exact UInt8.toNat_inj.1 (by simpa using hne)
      refine ⟨k + 1, ⟨by omega, fun j hj => ?_⟩, by omega, [0], rfl, trivial, ?_, rfl, rfl, rfl⟩
      · by_cases hjk : j = k
        · subst hjk; rw [hb, hb0]
        · exact hk.2 j (by omega)
      · exact congrArg (fun x : Int => [Chunk.cells 152 [.v (.string c.s), .v (.int .i64 x), .v (.int .i64 c.off)]]) (by show IntKind.i64.wrap (((c.at_ + k : Nat) : Int) + 1) = ((c.at_ + (k + 1) : Nat) : Int); rw [wrap_id (by omega) (by omega)]; omega)
  · have hend : c.at_ + k = c.s.size := by
      have hlt : decide (((c.at_ + k : Nat) : Int) < (c.s.size : Int)) = false := hlt
      simp at hlt; omega
    have hz : zat c.rest = k := zat_eq _ k (fun j hj => by rw [hdrop]; exact hk.2 j hj) (.inl (by simp only [CurV.rest, List.length_drop]; omega))
    rw [hz]
    exact ⟨rfl, rfl, .inl ⟨hend, rfl⟩⟩

/-! ### Bytes copied by a reader: all, or none -/

/-- Six bytes of a reader, or none. -/
def addrRd (b : ByteArray) : AddrV := if b.size = 6 then addrOf b else AddrV.zero
theorem bytes_all {r : RdV} (n : Nat) : (r.bytes n).1.size = n ∨ (r.bytes n).1 = ⟨#[]⟩ := by
  unfold RdV.bytes
  split
  · exact .inr rfl
  · rw [if_neg (by omega)]
    split
    · exact .inr rfl
    · left
      simp only [ByteArray.size_extract, Int.toNat_natCast]; omega
theorem copy6 {b : ByteArray} (hb : b.size = 6 ∨ b = ⟨#[]⟩) (pre post cur : List SV) (off : Nat) (hoff : pre.length = off) (hcur : cur = pre ++ (AddrV.zero.cells.map .v ++ post)) :
    cur.take off ++ ((Go.Lib.strCells b).map SV.v ++ cur.drop (off + b.size)) = pre ++ ((addrRd b).cells.map .v ++ post) := by
  subst hoff hcur
  rw [List.take_left, ← List.drop_drop, List.drop_left]
  rcases hb with hb | rfl
  · rw [cells6 hb, hb, addrRd, if_pos hb]; rfl
  · rfl
theorem num_ok {r : RdV} (h : r.ok) (n : Nat) : (r.num n).2.ok := RdV.bytes_ok h n
theorem numL_rng (r : RdV) (n : Nat) : (r.num n).1 < 256 ^ n := by
  refine numL_lt n _ ?_
  rw [Array.length_toList]
  exact RdV.bytes_size r n
theorem numOf_lt (c : CurV) (n : Nat) : c.numOf n < 256 ^ n := by
  refine numL_lt n _ ?_
  rw [Array.length_toList]
  show (c.cut n).size ≤ n
  simp only [CurV.cut, ByteArray.size_extract]; omega
/-- The text from its head on. -/
def cur0 (s : ByteArray) : CurV := ⟨s, 0, 0⟩
theorem cur0_ok {s : ByteArray} (h : s.size ≤ 1000000000000) : (cur0 s).ok := ⟨Nat.zero_le _, h, Int.le_refl _, (by decide : (0 : Int) ≤ 1000000000000000)⟩
end Go.Proofs.YtfianfpmnglfnaaDoor
