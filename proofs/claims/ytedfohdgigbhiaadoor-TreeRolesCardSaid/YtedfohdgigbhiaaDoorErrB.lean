/- errors.As at an Errno or an At, api.Tell, plain.Place: what each returns. Conditions: the variable errors.errorType holds the handle of the type error. -/
import Derived.Test.YtedfohdgigbhiaaDoorErrA
namespace Go.Proofs.YtedfohdgigbhiaaDoor
open Go.Sx Go.Extern
set_option maxRecDepth 100000
set_option maxHeartbeats 8000000
attribute [local irreducible] Meets

/-- An error that holds this Errno. -/
inductive ErrIs (g : G) : Value → Int → Prop where
  | bare (n : Int) : ErrIs g (.iface 29 (.int .i64 n)) n
  | at_ (ad : Addr) (n pl : Int) (h : g.at ad [.int .i64 n, .int .i64 pl]) : ErrIs g (.iface 191 (.pointer (some ad))) n
theorem ErrIs.mono {g g' : G} (hg : G.le g g') {v : Value} {n : Int} (h : ErrIs g v n) : ErrIs g' v n := by
  cases h with
  | bare => exact .bare n
  | at_ ad n pl h => exact .at_ ad n pl (h.mono hg)

theorem unwrap_c (ad : Addr) (n pl : Int) (g : G) (h : g.at ad [.int .i64 n, .int .i64 pl]) : Tells Tryd.prog 185 [.v (.pointer (some ad))] g (.v (.iface 29 (.int .i64 n))) := by
  refine meets_of mixed Tryd.func185 (by kernel_rfl) x185_ok (some []) ?_
  exact ⟨[.int .i64 n], rfl, (show g.at _ _ from by simpa using h.sub 0 1 (by simp)), rfl, rfl, rfl⟩

def valP (k : Nat) : SV := .agg [.v (hdl 285), .ptr k 0, .v (.int .u64 150)]
def roundV (v : Value) (n : Int) : Bool → Value
  | true => v
  | false => .iface 29 (.int .i64 n)

theorem as2_c (v : Value) (n : Int) (g : G) (hv : ErrIs g v n) : Meets Tryd.prog 161 [.v v, .iface 285 (.ptr 0 0), valP 1, .v (rt 29)] [.cells 29 [.v (.int .i64 0)], .cells 285 [.ptr 0 0]] g (fun o L' g' => o = .ret (.v (.bool true)) ∧ L' = [.vals 29 [.int .i64 n], .cells 285 [.ptr 0 0]] ∧ g' = g) := by
  refine meets_of mixed Tryd.func161 (by kernel_rfl) x161_ok (some []) ?_
  change LoopW _ _ _ _ _ _ _ _ _ _
  obtain ⟨x0, hx0, hr0⟩ : ∃ b : Bool, (b = true → ∃ ad pl, v = .iface 191 (.pointer (some ad)) ∧ g.at ad [.int .i64 n, .int .i64 pl]) ∧ v = roundV v n b := by
    rcases hv with _ | ⟨ad, _, pl, h⟩
    · exact ⟨false, nofun, rfl⟩
    · exact ⟨true, fun _ => ⟨ad, pl, rfl, h⟩, rfl⟩
  apply loop_rule [] (α := Bool) (fun b => [(0, .v (roundV v n b))]) (fun _ => [Chunk.cells 29 [.v (.int .i64 0)], Chunk.cells 285 [.ptr 0 0], Chunk.cells 296 [.v (hdl 285), .ptr 1 0, .v (.int .u64 150)]]) (fun _ => g) (fun b => b = true → ∃ ad pl, v = .iface 191 (.pointer (some ad)) ∧ g.at ad [.int .i64 n, .int .i64 pl]) (fun b => if b then 1 else 0) x0
  · intro x; kernel_rfl
  · exact hx0
  · exact ⟨congrArg SV.v hr0, trivial⟩
  · rfl
  · rfl
  intro b hb
  cases b with
  | false =>
    refine prim_val (.v (rt 29)) rfl (fun _ => rfl) (fun o a σ w ho hev => ?_) ?_
    · rw [exec_ext rfl rfl ho hev]
      show (callFunc 163 #[.iface 29 (.int .i64 n)]).run Tryd.prog w = _
      rw [cTypeOf, typeOfE]; rfl
    refine prim_val (.v (.bool true)) rfl (fun _ => rfl) (fun o a σ w ho hev => ?_) ?_
    · rw [exec_inv rfl rfl ho hev rfl (methodAssignable (hdl 29) w)]
      show (callFunc 191 #[.agg #[hdl 29], rt 29]).run Tryd.prog w = _
      rw [cAssign, assignE]; rfl
    refine prim_read [1] (.agg [.v (hdl 29), .ptr 0 0, .v (.int .u64 386)]) rfl (fun _ => rfl) (fun o a σ w ho hev hse => ?_) ?_
    · have h1 := hse.lo 1 _ _ (by simp) rfl rfl
      have hc : w.cell? ⟨σ 1, 0, none⟩ = some (.pointer (some ⟨σ 0, 0, none⟩)) := by simp [World.cell?, h1, reL, SV.re]
      rw [exec_ext rfl rfl ho hev]
      show (callFunc 164 #[.agg #[hdl 285, .pointer (some ⟨σ 1, 0, none⟩), .int .u64 150]]).run Tryd.prog w = _
      rw [cElemV, elemVP _ _ w hc]; rfl
    refine prim_newS [] rfl (.vals 29 [.int .i64 n]) (.agg [.v (hdl 29), .ptr 3 0, .v (.int .u64 130)]) rfl (fun _ => rfl) (fun _ => rfl) (fun o a σ w ho hev hse => ⟨.cells #[.int .i64 n] 29 (0, 0), .agg #[hdl 29, .pointer (some ⟨w.heap.size, 0, none⟩), .int .u64 130], w.drawn, rfl, ?_, fun σ' _ hs => ?_⟩) ?_
    · rw [exec_ext rfl rfl ho hev]
      show (callFunc 158 #[.iface 29 (.int .i64 n)]).run Tryd.prog w = _
      rw [cValueOf]
      show ((ReflectliteValue.unpack (.iface 29 (.int .i64 n))).run Tryd.prog w).andThen _ = _
      rw [valueOfE]; rfl
    · simp only [SV.re, reL]
      rw [show σ' 3 = w.heap.size from hs]
    refine prim_setC 0 [3] (.vals 29 [.int .i64 n]) (.cells #[.int .i64 n] 29 (0, 0)) (.v (.tuple #[])) _ rfl rfl rfl rfl (fun _ => rfl) rfl (fun o a σ w ho hev hse => ?_) ?_
    · have h0 := hse.lo 0 _ _ (by simp) rfl rfl
      have h3 := hse.lo 3 _ _ (by simp) rfl rfl
      have hc0 : w.cell? ⟨σ 0, 0, none⟩ = some (.int .i64 0) := by simp [World.cell?, h0, reL, SV.re]
      have hc3 : w.cell? ⟨σ 3, 0, none⟩ = some (.int .i64 n) := by simp [World.cell?, h3]
      have hf : w.frozen? ⟨σ 0, 0, none⟩ = false := by simp [World.frozen?, h0]
      rw [exec_ext rfl rfl ho hev]
      show (callFunc 165 #[.agg #[hdl 29, .pointer (some ⟨σ 0, 0, none⟩), .int .u64 386], .agg #[hdl 29, .pointer (some ⟨σ 3, 0, none⟩), .int .u64 130]]).run Tryd.prog w = _
      rw [cSet, setE _ _ _ n w hc3 hc0 hf]
      rw [setCell_eq_setRow w _ 0 _ _ _ _ h0, setRow_eq h0]
      rfl
    exact ⟨rfl, rfl, rfl⟩
  | true =>
    obtain ⟨ad, pl, rfl, hat⟩ := hb rfl
    refine prim_val (.v (rt 191)) rfl (fun _ => rfl) (fun o a σ w ho hev => ?_) ?_
    · rw [exec_ext rfl rfl ho hev]
      show (callFunc 163 #[.iface 191 (.pointer (some ad))]).run Tryd.prog w = _
      rw [cTypeOf, typeOfA]; rfl
    refine prim_val (.v (.bool false)) rfl (fun _ => rfl) (fun o a σ w ho hev => ?_) ?_
    · rw [exec_inv rfl rfl ho hev rfl (methodAssignable (hdl 191) w)]
      show (callFunc 191 #[.agg #[hdl 191], rt 29]).run Tryd.prog w = _
      rw [cAssign, assignA]; rfl
    refine prim_tassI (z := .nilIface) (u := 191) (y := .pointer (some ad)) _ false (fun _ => rfl) (by kernel_rfl) (by kernel_rfl) (by kernel_rfl) rfl ?_
    refine prim_tassI (z := .nilIface) (u := 191) (y := .pointer (some ad)) _ true (fun _ => rfl) (by kernel_rfl) (by kernel_rfl) (by kernel_rfl) rfl ?_
    refine prim_invoke rfl 185 (.v (.pointer (some ad))) _ 191 (.pointer (some ad)) [] rfl (fun _ => rfl) (fun w => by kernel_rfl) (fun _ => rfl) (fun _ => rfl) ?_
    refine (unwrap_c ad n pl g hat).call rfl rfl rfl ?_
    exact ⟨false, nofun, by decide, [0, 1, 2], rfl, ⟨rfl, trivial⟩, rfl, rfl, rfl, rfl⟩

theorem ErrIs.iface {g : G} {v : Value} {n : Int} (h : ErrIs g v n) : ∃ t y, v = .iface t y := by
  cases h <;> exact ⟨_, _, rfl⟩

theorem as_c (v : Value) (n : Int) (g : G) (hE : ErrVar g) (hv : ErrIs g v n) : Meets Tryd.prog 154 [.v v, .iface 285 (.ptr 0 0)] [.cells 29 [.v (.int .i64 0)]] g (fun o L' g' => o = .ret (.v (.bool true)) ∧ L' = [.vals 29 [.int .i64 n]] ∧ g' = g) := by
  obtain ⟨t, y, rfl⟩ := hv.iface
  refine meets_of mixed Tryd.func154 (by kernel_rfl) x154_ok (some []) ?_
  refine prim_newS [] rfl (.cells 285 [.ptr 0 0]) (valP 1) rfl (fun _ => rfl) (fun _ => rfl) (fun o a σ w ho hev hse => ⟨.cells #[.pointer (some ⟨σ 0, 0, none⟩)] 285 (0, 0), .agg #[hdl 285, .pointer (some ⟨w.heap.size, 0, none⟩), .int .u64 150], w.drawn, rfl, ?_, fun σ' _ hs => ?_⟩) ?_
  · rw [exec_ext rfl rfl ho hev]
    show (callFunc 158 #[.iface 285 (.pointer (some ⟨σ 0, 0, none⟩))]).run Tryd.prog w = _
    rw [cValueOf]
    show ((ReflectliteValue.unpack (.iface 285 (.pointer (some ⟨σ 0, 0, none⟩)))).run Tryd.prog w).andThen _ = _
    rw [valueOfP]; rfl
  · simp only [valP, SV.re, reL]
    rw [show σ' 1 = w.heap.size from hs]
  refine prim_val (.v (rt 285)) rfl (fun _ => rfl) (fun o a σ w ho hev => ?_) ?_
  · rw [exec_ext rfl rfl ho hev]
    show (callFunc 159 #[.agg #[hdl 285, .pointer (some ⟨σ 1, 0, none⟩), .int .u64 150]]).run Tryd.prog w = _
    rw [cType, typeP]; rfl
  refine prim_val (.v (.int .u8 22)) rfl (fun _ => rfl) (fun o a σ w ho hev => ?_) ?_
  · rw [exec_inv rfl rfl ho hev rfl (methodKind (hdl 285) w)]
    show (callFunc 180 #[hdl 285]).run Tryd.prog w = _
    rw [cKind]
    exact congrArg (fun r => Result.andThen r fun v w' => .ok (Next.value v) w') (kindP w)
  refine prim_read [1] (.v (.bool false)) rfl (fun _ => rfl) (fun o a σ w ho hev hse => ?_) ?_
  · have h1 := hse.lo 1 _ _ (by simp) rfl rfl
    have hc : w.cell? ⟨σ 1, 0, none⟩ = some (.pointer (some ⟨σ 0, 0, none⟩)) := by simp [World.cell?, h1, reL, SV.re]
    rw [exec_ext rfl rfl ho hev]
    show (callFunc 160 #[.agg #[hdl 285, .pointer (some ⟨σ 1, 0, none⟩), .int .u64 150]]).run Tryd.prog w = _
    rw [cIsNil, isNilP _ _ w hc]; rfl
  refine prim_val (.v (rt 29)) rfl (fun _ => rfl) (fun o a σ w ho hev => ?_) ?_
  · rw [exec_inv rfl rfl ho hev rfl (methodElem (hdl 285) w)]
    show (callFunc 193 #[.agg #[hdl 285]]).run Tryd.prog w = _
    rw [cElemT, elemTP]; rfl
  refine prim_val (.v (.int .u8 2)) rfl (fun _ => rfl) (fun o a σ w ho hev => ?_) ?_
  · rw [exec_inv rfl rfl ho hev rfl (methodKind (hdl 29) w)]
    show (callFunc 180 #[hdl 29]).run Tryd.prog w = _
    rw [cKind]
    exact congrArg (fun r => Result.andThen r fun v w' => .ok (Next.value v) w') (kindE w)
  refine ⟨[rt 26], rfl, hE, ?_⟩
  refine prim_val (.v (.bool true)) rfl (fun _ => rfl) (fun o a σ w ho hev => ?_) ?_
  · rw [exec_inv rfl rfl ho hev rfl (methodImplements (hdl 29) w)]
    show (callFunc 194 #[.agg #[hdl 29], rt 26]).run Tryd.prog w = _
    rw [cImpl, implE]; rfl
  refine (as2_c _ n g hv).callS [0, 1] 3 rfl rfl rfl rfl ?_
  rintro o L1 g' ⟨rfl, rfl, rfl⟩ _
  exact ⟨rfl, rfl, rfl⟩

theorem tell_c (v : Value) (n : Int) (g : G) (hE : ErrVar g) (hv : ErrIs g v n) : Tells Tryd.prog 114 [.v v] g (.v (.int .i64 n)) := by
  obtain ⟨t, y, rfl⟩ := hv.iface
  refine meets_of mixed Tryd.func114 (by kernel_rfl) x114_ok (some []) ?_
  refine (as_c _ n g hE hv).callS [0] 1 rfl rfl rfl rfl ?_
  rintro o L1 g' ⟨rfl, rfl, rfl⟩ _
  refine ⟨by simp, ?_⟩
  exact ⟨rfl, rfl, rfl⟩
theorem tellNil_c (g : G) : Tells Tryd.prog 114 [.v .nilIface] g (.v (.int .i64 0)) := by
  refine meets_of mixed Tryd.func114 (by kernel_rfl) x114_ok (some []) ?_
  exact ⟨rfl, rfl, rfl⟩

/-- What an error tells: its Errno, and its place. -/
inductive ErrP (g : G) : Value → Int → Int → Prop where
  | nil : ErrP g .nilIface 0 (-1)
  | bare (n : Int) : ErrP g (.iface 29 (.int .i64 n)) n (-1)
  | at_ (ad : Addr) (n pl : Int) (h : g.at ad [.int .i64 n, .int .i64 pl]) : ErrP g (.iface 191 (.pointer (some ad))) n pl
theorem ErrP.mono {g g' : G} (hg : G.le g g') {v : Value} {n pl : Int} (h : ErrP g v n pl) : ErrP g' v n pl := by
  cases h with
  | nil => exact .nil
  | bare => exact .bare n
  | at_ ad n pl h => exact .at_ ad n pl (h.mono hg)

theorem place_c (v : Value) (n pl : Int) (g : G) (hE : ErrVar g) (hv : ErrP g v n pl) : Tells Tryd.prog 62 [.v v] g (.tup [.v (.int .i64 n), .v (.int .i64 pl)]) := by
  refine meets_of mixed Tryd.func62 (by kernel_rfl) x62_ok (some []) ?_
  rcases hv with _ | _ | ⟨ad, _, _, hat⟩
  · refine (tellNil_c g).call rfl rfl rfl ?_
    change LoopW _ _ _ _ _ _ _ _ _ _
    apply loop_rule [] (α := Unit) (fun _ => [(0, .v .nilIface)]) (fun _ => []) (fun _ => g) (fun _ => True) (fun _ => 0) ()
    · intro x; kernel_rfl
    · trivial
    · exact ⟨rfl, trivial⟩
    · rfl
    · rfl
    intro k hk
    exact ⟨rfl, rfl, rfl⟩
  · refine (tell_c _ n g hE (.bare n)).call rfl rfl rfl ?_
    change LoopW _ _ _ _ _ _ _ _ _ _
    apply loop_rule [] (α := Unit) (fun _ => [(0, .v (.iface 29 (.int .i64 n)))]) (fun _ => []) (fun _ => g) (fun _ => True) (fun _ => 0) ()
    · intro x; kernel_rfl
    · trivial
    · exact ⟨rfl, trivial⟩
    · rfl
    · rfl
    intro k hk
    refine prim_tassI (z := .nilIface) (u := 29) (y := .int .i64 n) _ false (fun _ => rfl) (by kernel_rfl) (by kernel_rfl) (by kernel_rfl) rfl ?_
    exact ⟨rfl, rfl, rfl⟩
  · refine (tell_c _ n g hE (.at_ ad n pl hat)).call rfl rfl rfl ?_
    change LoopW _ _ _ _ _ _ _ _ _ _
    apply loop_rule [] (α := Unit) (fun _ => [(0, .v (.iface 191 (.pointer (some ad))))]) (fun _ => []) (fun _ => g) (fun _ => True) (fun _ => 0) ()
    · intro x; kernel_rfl
    · trivial
    · exact ⟨rfl, trivial⟩
    · rfl
    · rfl
    intro k hk
    exact ⟨[.int .i64 pl], rfl, (show g.at _ _ from by simpa using hat.sub 1 1 (by simp)), rfl, rfl, rfl⟩

theorem bare_c (v : Value) (n pl e : Int) (g : G) (hE : ErrVar g) (hv : ErrP g v n pl) : Tells Tryd.prog 24 [.v v, .v (.int .i64 e)] g (.v (.bool (n == e && pl == -1))) := by
  refine meets_of mixed Tryd.func24 (by kernel_rfl) x24_ok (some []) ?_
  refine (place_c v n pl g hE hv).call rfl rfl rfl ?_
  refine bsplit_of (fun h => ?_) (fun h => ?_)
  · exact ⟨rb (by rw [h, Bool.true_and]), rfl, rfl⟩
  · exact ⟨rb (by rw [h, Bool.false_and]), rfl, rfl⟩
theorem placed_c (v : Value) (n pl e p : Int) (g : G) (hE : ErrVar g) (hv : ErrP g v n pl) : Tells Tryd.prog 13 [.v v, .agg [.v (.int .i64 e), .v (.int .i64 p)]] g (.v (.bool (n == e && pl == p))) := by
  refine meets_of mixed Tryd.func13 (by kernel_rfl) x13_ok (some []) ?_
  refine (place_c v n pl g hE hv).call rfl rfl rfl ?_
  refine bsplit_of (fun h => ?_) (fun h => ?_)
  · exact ⟨rb (by rw [h, Bool.true_and]), rfl, rfl⟩
  · exact ⟨rb (by rw [h, Bool.false_and]), rfl, rfl⟩
end Go.Proofs.YtedfohdgigbhiaaDoor
