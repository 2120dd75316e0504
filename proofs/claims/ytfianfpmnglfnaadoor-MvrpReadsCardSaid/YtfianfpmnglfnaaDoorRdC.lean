/- wire.Reader: what each of its methods does to a reader that the function at hand owns. Conditions: the reader's place and text are of a size that memory holds. -/
import Derived.Test.YtfianfpmnglfnaaDoorXrd
import Derived.Test.YtfianfpmnglfnaaDoorBaseC
import Derived.Test.YtfianfpmnglfnaaDoorWireC
namespace Go.Proofs.YtfianfpmnglfnaaDoor
open Go.Sx
set_option maxRecDepth 100000
set_option maxHeartbeats 8000000
attribute [local irreducible] Meets

/-- The error that a reader holds. -/
def errAt (g : G) (v : Value) : Option (Int × Int) → Prop
  | none => v = .nilIface
  | some (n, pl) => ∃ ad, v = .iface 136 (.pointer (some ad)) ∧ g.at ad [.int .i64 n, .int .i64 pl]
theorem errAt.mono {g g' : G} (hg : G.le g g') {v : Value} {e : Option (Int × Int)} (h : errAt g v e) : errAt g' v e := by
  cases e with
  | none => exact h
  | some e => obtain ⟨ad, h1, h2⟩ := h; exact ⟨ad, h1, h2.mono hg⟩
theorem errAt.errP {g : G} {v : Value} {e : Option (Int × Int)} (h : errAt g v e) : ErrP g v (match e with | none => 0 | some p => p.1) (match e with | none => -1 | some p => p.2) := by
  cases e with
  | none => cases h; exact .nil
  | some e => obtain ⟨ad, rfl, h2⟩ := h; exact .at_ ad _ _ h2
def rdC (r : RdV) (v : Value) : Chunk := .cells 207 [.v (.string r.s), .v (.int .i64 r.at_), .v (.int .i64 r.off), .v v]
/-- A reader is left, and this told. -/
def RdPost (g : G) (r : RdV) (x : SV) (o : Out) (L' : List Chunk) (g' : G) : Prop := o = .ret x ∧ (∃ v, L' = [rdC r v] ∧ errAt g' v r.err) ∧ G.le g g'
theorem le_refl (g : G) : G.le g g := fun _ _ h => h
theorem le_trans {g1 g2 g3 : G} (h : G.le g1 g2) (k : G.le g2 g3) : G.le g1 g3 := fun b o hb => k b o (h b o hb)

theorem new_c (s : ByteArray) (off : Int) (g : G) : Meets Tryd.prog 65 [.v (.string s), .v (.int .i64 off)] [] g (fun o L' g' => o = .ret (.ptr 0 0) ∧ L' = [rdC ⟨s, 0, off, none⟩ .nilIface] ∧ g' = g) := by
  refine meets_of mixedW Tryd.func65 (by kernel_rfl) x65_ok (some [0]) ?_
  exact ⟨rfl, rfl, rfl⟩
theorem at_c (r : RdV) (v : Value) (g : G) (h : r.ok) : Meets Tryd.prog 69 [.ptr 0 0] [rdC r v] g (fun o L' g' => o = .ret (.v (.int .i64 r.place)) ∧ L' = [rdC r v] ∧ g' = g) := by
  obtain ⟨h1, h2, h3, h4⟩ := h
  refine meets_of mixedW Tryd.func69 (by kernel_rfl) x69_ok (some []) ?_
  exact ⟨ri (k := .i64) (wrap_id (by omega) (by omega)), rfl, rfl⟩
theorem left_c (r : RdV) (v : Value) (g : G) (h : r.ok) : Meets Tryd.prog 94 [.ptr 0 0] [rdC r v] g (fun o L' g' => o = .ret (.v (.int .i64 ((r.s.size : Int) - r.at_))) ∧ L' = [rdC r v] ∧ g' = g) := by
  obtain ⟨h1, h2, h3, h4⟩ := h
  refine meets_of mixedW Tryd.func94 (by kernel_rfl) x94_ok (some []) ?_
  exact ⟨ri (k := .i64) (wrap_id (by omega) (by omega)), rfl, rfl⟩
theorem err_c (r : RdV) (v : Value) (g : G) : Meets Tryd.prog 68 [.ptr 0 0] [rdC r v] g (fun o L' g' => o = .ret (.v v) ∧ L' = [rdC r v] ∧ g' = g) := by
  refine meets_of mixedW Tryd.func68 (by kernel_rfl) x68_ok (some []) ?_
  exact ⟨rfl, rfl, rfl⟩
theorem fail_c (r : RdV) (v : Value) (n pl : Int) (g : G) (h : errAt g v r.err) : Meets Tryd.prog 67 [.ptr 0 0, .v (.int .i64 n), .v (.int .i64 pl)] [rdC r v] g (RdPost g (r.fail n pl) (.tup [])) := by
  obtain ⟨s, at_, off, err⟩ := r
  cases err with
  | none =>
    cases h
    refine Meets.freeze (post := fun o L' g' => o = .ret (.tup []) ∧ L' = [.cells 207 [.v (.string s), .v (.int .i64 at_), .v (.int .i64 off), .iface 136 (.ptr 1 0)], .cells 138 [.v (.int .i64 n), .v (.int .i64 pl)]] ∧ g' = g) ?_ ?_
    · refine meets_of mixedW Tryd.func67 (by kernel_rfl) x67_ok (some [1]) ?_
      exact ⟨rfl, rfl, rfl⟩
    · rintro o L' g' ⟨rfl, rfl, rfl⟩
      right
      refine ⟨[.cells 207 [.v (.string s), .v (.int .i64 at_), .v (.int .i64 off), .iface 136 (.ptr 1 0)]], 138, [.int .i64 n, .int .i64 pl], rfl, by simp, fun b g'' hle hb => ?_⟩
      exact ⟨rfl, ⟨.iface 136 (.pointer (some ⟨b, 0, none⟩)), rfl, ⟨⟨b, 0, none⟩, rfl, at_frz hb⟩⟩, hle⟩
  | some e =>
    obtain ⟨ad, rfl, h2⟩ := h
    refine meets_of mixedW Tryd.func67 (by kernel_rfl) x67_ok (some []) ?_
    exact ⟨rfl, ⟨_, rfl, ⟨ad, rfl, h2⟩⟩, le_refl g⟩

theorem bytes_c (r : RdV) (v : Value) (n : Int) (g : G) (hr : r.ok) (hn : -1000000000000 ≤ n ∧ n ≤ 1000000000000) (h : errAt g v r.err) : Meets Tryd.prog 93 [.ptr 0 0, .v (.int .i64 n)] [rdC r v] g (RdPost g (r.bytes n).2 (.v (.string (r.bytes n).1))) := by
  cases he : r.err with
  | some e =>
    rw [RdV.bytes_dead he]
    have h' := h
    rw [he] at h'
    obtain ⟨ad, rfl, h2⟩ := h'
    refine meets_of mixedW Tryd.func93 (by kernel_rfl) x93_ok (some []) ?_
    exact ⟨rfl, ⟨_, rfl, h⟩, le_refl g⟩
  | none =>
    have h' := h
    rw [he] at h'
    have h' : v = .nilIface := h'
    subst h'
    obtain ⟨h1, h2, h3, h4⟩ := id hr
    refine meets_of mixedW Tryd.func93 (by kernel_rfl) x93_ok (some []) ?_
    refine bsplit_of (fun k1 => ?_) (fun k1 => ?_)
    · refine (at_c r .nilIface g hr).callS [0] 1 rfl rfl rfl rfl ?_
      rintro o L1 g' ⟨rfl, rfl, rfl⟩ _
      refine (fail_c r .nilIface 2 r.place _ h).callS [0] 1 rfl rfl rfl rfl ?_
      rintro o L1 g' ⟨rfl, ⟨v, rfl, hv⟩, hle⟩ _
      have e : r.bytes n = (⟨#[]⟩, r.fail 2 r.place) := by simp at k1; simp [RdV.bytes, he, k1]
      rw [e]
      exact ⟨rfl, ⟨v, rfl, hv⟩, hle⟩
    · refine (left_c r .nilIface g hr).callS [0] 1 rfl rfl rfl rfl ?_
      rintro o L1 g' ⟨rfl, rfl, rfl⟩ _
      refine bsplit_of (fun k2 => ?_) (fun k2 => ?_)
      · refine (at_c r .nilIface _ hr).callS [0] 1 rfl rfl rfl rfl ?_
        rintro o L1 g' ⟨rfl, rfl, rfl⟩ _
        refine (fail_c r .nilIface 7 r.place _ h).callS [0] 1 rfl rfl rfl rfl ?_
        rintro o L1 g' ⟨rfl, ⟨v, rfl, hv⟩, hle⟩ _
        have e : r.bytes n = (⟨#[]⟩, r.fail 7 r.place) := by
          simp at k1 k2
          simp [RdV.bytes, he, show ¬ n < 0 by omega, k2]
        rw [e]
        exact ⟨rfl, ⟨v, rfl, hv⟩, hle⟩
      · have k1' : 0 ≤ n := by simpa using k1
        have k2' : ¬ (r.s.size : Int) - r.at_ < n := by simpa using k2
        have w1 : IntKind.i64.wrap ((r.at_ : Int) + n) = r.at_ + n := wrap_id (by omega) (by omega)
        have w2 : IntKind.i64.wrap (IntKind.i64.wrap ((r.at_ : Int) + n) - n) = r.at_ := by rw [w1, wrap_id (by omega) (by omega)]; omega
        refine ⟨⟨by rw [w1]; omega, by rw [w1]; omega⟩, ⟨by rw [w2]; omega, by rw [w2, w1]; omega⟩, ?_⟩
        rw [RdV.bytes_good he k1' k2']
        refine ⟨?_, ⟨.nilIface, ?_, by rw [errAt.eq_def]; simp [he]⟩, le_refl _⟩
        · exact rs (by rw [w2, w1, Int.toNat_natCast]; show _ = r.s.extract r.at_ (r.at_ + n.toNat); congr 1; omega)
        · exact congrArg (fun x : Int => [Chunk.cells 207 [.v (.string r.s), .v (.int .i64 x), .v (.int .i64 r.off), .v .nilIface]]) (by rw [w1]; show r.at_ + n = ((r.at_ + n.toNat : Nat) : Int); omega)

theorem errAt_cases {g : G} {v : Value} {e : Option (Int × Int)} (h : errAt g v e) : (v = .nilIface ∧ e = none) ∨ ∃ ad, v = .iface 136 (.pointer (some ad)) ∧ ∃ p, e = some p := by
  cases e with
  | none => exact .inl ⟨h, rfl⟩
  | some e => obtain ⟨ad, rfl, _⟩ := h; exact .inr ⟨ad, rfl, e, rfl⟩
theorem byte_at {g : G} {ad : Addr} {s : ByteArray} (h : g.at ad (s.data.toList.map fun b => Value.int .u8 b.toNat)) {k : Nat} (hk : k < s.size) : ∃ b : UInt8, s.data.toList[k]? = some b ∧ g.at (ad.add (k * 1)) [.int .u8 b.toNat] := by
  have hl : s.data.toList.length = s.size := by rw [Array.length_toList]; rfl
  obtain ⟨b, hb⟩ : ∃ b, s.data.toList[k]? = some b := lt_some (by omega)
  refine ⟨b, hb, ?_⟩
  have := h.sub k 1 (by rw [List.length_map]; omega)
  rw [Nat.mul_one]
  have e : ((s.data.toList.map fun b => Value.int .u8 b.toNat).drop k).take 1 = [.int .u8 b.toNat] := by
    rw [List.drop_eq_getElem_cons (by rw [List.length_map]; omega), List.take_succ_cons, List.take_zero]
    rw [List.getElem?_eq_getElem (by omega)] at hb
    cases hb
    simp
  rw [e] at this
  exact this
theorem shl_or {x : Nat} (b : UInt8) (hx : x < 256 ^ 6) : IntKind.i64.wrap ((BitVec.ofInt IntKind.i64.bits (IntKind.i64.wrap ((x : Int) * 2 ^ (min 8 IntKind.i64.bits))) ||| BitVec.ofInt IntKind.i64.bits (IntKind.i64.wrap (b.toNat : Int))).toNat : Int) = ((x * 256 + b.toNat : Nat) : Int) := by
  have hb := b.toNat_lt
  have e1 : (256 : Nat) ^ 6 = 281474976710656 := by decide
  rw [e1] at hx
  rw [shl64 (by decide), show IntKind.i64.wrap ((x : Int) * 2 ^ 8) = x * 256 from wrap_id (by omega) (by omega), show IntKind.i64.wrap (b.toNat : Int) = b.toNat from wrap_id (by omega) (by omega)]
  rw [orI 8 x (by omega) (by omega) (by omega) (by omega) (by omega) (by decide)]
  omega

theorem num_c (r : RdV) (v : Value) (n : Nat) (g : G) (hr : r.ok) (h1 : 1 ≤ n) (h7 : n ≤ 7) (h : errAt g v r.err) : Meets Tryd.prog 66 [.ptr 0 0, .v (.int .i64 n)] [rdC r v] g (RdPost g (r.num n).2 (.v (.int .i64 (r.num n).1))) := by
  have hsz : (r.bytes n).1.size ≤ n := RdV.bytes_size r n
  have hl : (r.bytes n).1.data.toList.length = (r.bytes n).1.size := by rw [Array.length_toList]; rfl
  refine meets_of mixedW Tryd.func66 (by kernel_rfl) x66_ok (some []) ?_
  rcases errAt_cases h with ⟨rfl, -⟩ | ⟨ad, rfl, -⟩
  · refine bsplit_of (fun k1 => absurd k1 (by simp; omega)) (fun _ => ?_)
    refine bsplit_of (fun k1 => absurd k1 (by simp; omega)) (fun _ => ?_)
    refine (bytes_c r _ n g hr (by omega) h).callS [0] 1 rfl rfl rfl rfl ?_
    rintro o L1 g1 ⟨rfl, ⟨v', rfl, hv'⟩, hle⟩ _
    refine prim_bytes (e := 5) (by kernel_rfl) (by kernel_rfl) (by kernel_rfl) rfl (fun g2 ad2 cap hg2 hat => ?_)
    change LoopW _ _ _ _ _ _ _ _ _
    apply loop_rule [] (α := Nat) (fun k => [(30, .v (.int .i64 k)), (5, .v (.int .i64 (numL ((r.bytes n).1.data.toList.take k) : Nat)))]) (fun _ => [rdC (r.bytes n).2 v']) (fun _ => g2) (fun k => k ≤ (r.bytes n).1.size) (fun k => (r.bytes n).1.size - k) 0
    · intro x; kernel_rfl
    · exact Nat.zero_le _
    · exact ⟨rfl, rfl, trivial⟩
    · rfl
    · rfl
    intro k hk
    refine bsplit_of (fun hlt => ?_) (fun hlt => ?_)
    · have hlt' : k < (r.bytes n).1.size := by simpa using hlt
      obtain ⟨b, hb, hat2⟩ := byte_at hat hlt'
      refine ⟨⟨by omega, by omega⟩, ad2, rfl, ?_⟩
      refine ⟨[.int .u8 b.toNat], rfl, hat2, ?_⟩
      refine ⟨by decide, ?_⟩
      have hx : numL ((r.bytes n).1.data.toList.take k) < 256 ^ 6 := Nat.lt_of_lt_of_le (numL_lt k _ (by rw [List.length_take]; omega)) (Nat.pow_le_pow_right (by decide) (by omega))
      refine ⟨k + 1, hlt', by omega, [0], rfl, ⟨vi (wrap_id (by omega) (by omega)), vi ?_, trivial⟩, rfl, rfl, rfl, rfl⟩
      rw [numL_take _ k b hb]
      exact shl_or b hx
    · have : k = (r.bytes n).1.size := by simp at hlt; omega
      subst this
      refine ⟨ri (k := .i64) ?_, ⟨v', rfl, hv'.mono hg2⟩, le_trans hle hg2⟩
      rw [List.take_of_length_le (by omega)]
      rfl
  · refine (bytes_c r _ n g hr (by omega) h).callS [0] 1 rfl rfl rfl rfl ?_
    rintro o L1 g1 ⟨rfl, ⟨v', rfl, hv'⟩, hle⟩ _
    refine prim_bytes (e := 5) (by kernel_rfl) (by kernel_rfl) (by kernel_rfl) rfl (fun g2 ad2 cap hg2 hat => ?_)
    change LoopW _ _ _ _ _ _ _ _ _
    apply loop_rule [] (α := Nat) (fun k => [(30, .v (.int .i64 k)), (5, .v (.int .i64 (numL ((r.bytes n).1.data.toList.take k) : Nat)))]) (fun _ => [rdC (r.bytes n).2 v']) (fun _ => g2) (fun k => k ≤ (r.bytes n).1.size) (fun k => (r.bytes n).1.size - k) 0
    · intro x; kernel_rfl
    · exact Nat.zero_le _
    · exact ⟨rfl, rfl, trivial⟩
    · rfl
    · rfl
    intro k hk
    refine bsplit_of (fun hlt => ?_) (fun hlt => ?_)
    · have hlt' : k < (r.bytes n).1.size := by simpa using hlt
      obtain ⟨b, hb, hat2⟩ := byte_at hat hlt'
      refine ⟨⟨by omega, by omega⟩, ad2, rfl, ?_⟩
      refine ⟨[.int .u8 b.toNat], rfl, hat2, ?_⟩
      refine ⟨by decide, ?_⟩
      have hx : numL ((r.bytes n).1.data.toList.take k) < 256 ^ 6 := Nat.lt_of_lt_of_le (numL_lt k _ (by rw [List.length_take]; omega)) (Nat.pow_le_pow_right (by decide) (by omega))
      refine ⟨k + 1, hlt', by omega, [0], rfl, ⟨vi (wrap_id (by omega) (by omega)), vi ?_, trivial⟩, rfl, rfl, rfl, rfl⟩
      rw [numL_take _ k b hb]
      exact shl_or b hx
    · have : k = (r.bytes n).1.size := by simp at hlt; omega
      subst this
      refine ⟨ri (k := .i64) ?_, ⟨v', rfl, hv'.mono hg2⟩, le_trans hle hg2⟩
      rw [List.take_of_length_le (by omega)]
      rfl

theorem getD_of {l : List UInt8} {k : Nat} {b : UInt8} (h : l[k]? = some b) : l.getD k 0 = b := by
  rw [List.getD_eq_getElem?_getD, h]; rfl
theorem zeros_c (r : RdV) (v : Value) (g : G) (hr : r.ok) (h : errAt g v r.err) : Meets Tryd.prog 70 [.ptr 0 0] [rdC r v] g (RdPost g r.zeros (.v (.bool r.zeros.err.isNone))) := by
  obtain ⟨o1, o2, o3, o4⟩ := id hr
  have hl : r.s.data.toList.length = r.s.size := by rw [Array.length_toList]; rfl
  cases he : r.err with
  | some e =>
    rw [RdV.zeros_err he, he]
    have h' := h
    rw [he] at h'
    obtain ⟨ad, rfl, h2⟩ := h'
    refine meets_of mixedW Tryd.func70 (by kernel_rfl) x70_ok (some []) ?_
    change LoopW _ _ _ _ _ _ _ _ _
    apply loop_rule [] (α := Unit) (fun _ => []) (fun _ => [rdC r (.iface 136 (.pointer (some ad)))]) (fun _ => g) (fun _ => True) (fun _ => 0) ()
    · intro x; kernel_rfl
    · trivial
    · exact trivial
    · rfl
    · rfl
    intro k hk
    exact ⟨rfl, ⟨_, rfl, h⟩, le_refl g⟩
  | none =>
    have h' := h
    rw [he] at h'
    have h' : v = .nilIface := h'
    subst h'
    obtain ⟨s, at_, off, err⟩ := r
    simp only at he
    subst he
    simp only at hl o1 o2 o3 o4
    refine meets_of mixedW Tryd.func70 (by kernel_rfl) x70_ok (some []) ?_
    change LoopW _ _ _ _ _ _ _ _ _
    apply loop_rule [] (α := Nat) (fun _ => []) (fun k => [rdC ⟨s, at_ + k, off, none⟩ .nilIface]) (fun _ => g) (fun k => at_ + k ≤ s.size ∧ ∀ j, j < k → s.data.toList[at_ + j]? = some 0) (fun k => s.size - (at_ + k)) 0
    · intro x; kernel_rfl
    · exact ⟨o1, fun j hj => by omega⟩
    · exact trivial
    · rfl
    · rfl
    intro k hk
    have hok : (RdV.mk s (at_ + k) off none).ok := ⟨hk.1, o2, o3, o4⟩
    have hdrop : ∀ j, ((RdV.mk s at_ off none).rest)[j]? = s.data.toList[at_ + j]? := fun j => by simp [RdV.rest]
    refine (left_c ⟨s, at_ + k, off, none⟩ .nilIface g hok).callS [0] 1 rfl rfl rfl rfl ?_
    rintro o L1 g1 ⟨rfl, rfl, rfl⟩ _
    refine bsplit_of (fun hlt => ?_) (fun hlt => ?_)
    · have hlt' : at_ + k < s.size := by simp at hlt; omega
      obtain ⟨b, hb⟩ : ∃ b, s.data.toList[at_ + k]? = some b := lt_some (by omega)
      have hbD : s.data.toList.getD (Int.toNat ((at_ + k : Nat) : Int)) 0 = b := by rw [Int.toNat_natCast]; exact getD_of hb
      refine ⟨⟨Int.natCast_nonneg _, by show ((at_ + k : Nat) : Int) < (s.size : Int); omega⟩, ?_⟩
      refine bsplit_of (fun hne => ?_) (fun hne => ?_)
      · have hne' : b ≠ 0 := by
          rw [hbD] at hne
          intro e
          subst e
          simp at hne
        refine (at_c ⟨s, at_ + k, off, none⟩ .nilIface _ hok).callS [0] 1 rfl rfl rfl rfl ?_
        rintro o L1 g1 ⟨rfl, rfl, rfl⟩ _
        refine (fail_c ⟨s, at_ + k, off, none⟩ .nilIface 15 (RdV.place ⟨s, at_ + k, off, none⟩) _ rfl).callS [0] 1 rfl rfl rfl rfl ?_
        rintro o L1 g1 ⟨rfl, ⟨v, rfl, hv⟩, hle⟩ _
        have hz : zat (RdV.rest ⟨s, at_, off, none⟩) = k := zat_eq _ k (fun j hj => by rw [hdrop]; exact hk.2 j hj) (.inr ⟨b, by rw [hdrop]; exact hb, hne'⟩)
        have e : RdV.zeros ⟨s, at_, off, none⟩ = RdV.fail ⟨s, at_ + k, off, none⟩ 15 (RdV.place ⟨s, at_ + k, off, none⟩) := by
          simp only [RdV.zeros, hz, RdV.fail, RdV.place]
          rw [if_neg (by omega)]
        rw [e]
        obtain ⟨ad, rfl, h2⟩ := id hv
        exact ⟨rfl, ⟨_, rfl, hv⟩, hle⟩
      · have hb0 : b = 0 := by
          rw [hbD] at hne
          simp at hne
          exact UInt8.toNat_inj.1 (by simpa using hne)
        refine ⟨k + 1, ⟨by omega, fun j hj => ?_⟩, by omega, [0], rfl, trivial, ?_, rfl, rfl, rfl⟩
        · by_cases hjk : j = k
          · subst hjk; rw [hb, hb0]
          · exact hk.2 j (by omega)
        · exact congrArg (fun x : Int => [Chunk.cells 207 [.v (.string s), .v (.int .i64 x), .v (.int .i64 off), .v .nilIface]]) (by show IntKind.i64.wrap (((at_ + k : Nat) : Int) + 1) = ((at_ + (k + 1) : Nat) : Int); rw [wrap_id (by omega) (by omega)]; omega)
    · have hend : at_ + k = s.size := by simp at hlt; omega
      have hz : zat (RdV.rest ⟨s, at_, off, none⟩) = k := zat_eq _ k (fun j hj => by rw [hdrop]; exact hk.2 j hj) (.inl (by simp only [RdV.rest, List.length_drop]; omega))
      have e : RdV.zeros ⟨s, at_, off, none⟩ = ⟨s, at_ + k, off, none⟩ := by
        simp only [RdV.zeros, hz]
        rw [if_pos hend, hend]
      rw [e]
      exact ⟨rfl, ⟨_, rfl, rfl⟩, le_refl _⟩
end Go.Proofs.YtfianfpmnglfnaaDoor
