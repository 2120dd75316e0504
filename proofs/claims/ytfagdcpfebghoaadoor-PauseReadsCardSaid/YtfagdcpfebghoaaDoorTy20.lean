/- A symbolic executor of my own, part 20: calls of functions that have no body, by what the model makes of them. Conditions: none; it speaks of any program. -/
import Derived.Test.YtfagdcpfebghoaaDoorTy19
import Derived.Stop.Asserts
namespace Go.Sx

section
variable {P : Program} {L L' : List Chunk} {g : G} {op : Op} {args : List Operand} {vs : List SV} {chk : List Nat → List Nat → Bool} {K : Out → List Chunk → G → Prop}

/-- It makes a block, whose cells may lead to blocks at hand. -/
theorem prim_newS (ids : List Nat) (hc : chk ids [] = true) (c : Chunk) (r : SV) (hh : c.here = true) (hsc : scL L.length vs = true → scC L.length c = true) (hr : scL L.length vs = true → r.sc (L.length + 1) = true)
    (hrun : ∀ (o : Oper) (a : Act) (σ : Nat → Nat) (w : World), o.op = op → (∀ p ∈ args.zip vs, a.eval p.1 = p.2.re σ) → Sees ids L g σ w → ∃ ob v dn, c.obj σ = some ob ∧
      (execOp a.eval o).run P w = .ok (.value v) { ({ w with heap := w.heap.push ob } : World) with drawn := dn } ∧ (∀ σ' : Nat → Nat, (∀ k, k < L.length → σ' k = σ k) → σ' L.length = w.heap.size → v = r.re σ'))
    (k : K (.ret r) (L ++ [c]) g) : PrimX P op args vs L g chk K := by
  refine PrimX_of ids [] hc fun o L' σ a w ho hl hm hscL hv hev hids hid0 => ?_
  obtain ⟨ob, v, dn, hob, hrun, hvr⟩ := hrun o a σ w ho hev (sees_of hm hids)
  unfold Oper.wp
  rw [hrun]
  have hrd : redo [] 0 L' (L ++ [c]) = L' ++ [c] := redo_app hl.1.symm rfl (fun k _ hk => (hid0 k hk).symm) (fun _ _ _ => rfl)
  have hcs := hsc hv
  rw [← hl.1] at hcs
  have hm2 := hm.place.born (k := L'.length) (by simp) (offNew (scH_less hl hscL)) c (con_imp (on_true c) hcs fun k hk _ => by simp; omega) ob hob
  have hg2 := ((Goes.refl σ L' g w).place).born (k := L'.length) (Nat.le_refl _) c ob
  rw [set_last] at hm2 hg2
  refine ⟨v, r, L ++ [c], g, fun j => if j = L'.length then w.heap.size else σ j, rfl, fun _ => hvr _ (fun k hk => by simp [show k ≠ L'.length by rw [hl.1]; omega]) (by simp [hl.1]), by simpa using hr hv, ⟨by simp, fun k hk _ => List.getElem?_append_left hk⟩, ?_, ?_, ?_, k⟩
  · rw [hrd]; exact hm2.drew _
  · intro k ty l hkl
    rcases getElem?_append_one hkl with ⟨_, h2⟩ | ⟨_, h2⟩
    · exact scL_mono (by simp) _ (hscL k ty l h2)
    · subst h2
      exact scL_mono (by simp) _ (hsc hv)
  · rw [hrd]; exact hg2.drew _

/-- It writes a block at hand, always the same. -/
theorem prim_setC (b : Nat) (ids : List Nat) (c : Chunk) (ob : Obj) (r : SV) (d : Chunk) (hc : chk [] (b :: ids) = true) (hd : L[b]? = some d) (hlv : d.here = true) (hl : c.lone = true) (hob : ∀ σ, c.obj σ = some ob) (hr : r.sc L.length = true)
    (hrun : ∀ (o : Oper) (a : Act) (σ : Nat → Nat) (w : World), o.op = op → (∀ p ∈ args.zip vs, a.eval p.1 = p.2.re σ) → Sees (b :: ids) L g σ w → (execOp a.eval o).run P w = .ok (.value (r.re σ)) { w with heap := w.heap.setIfInBounds (σ b) ob })
    (k : K (.ret r) (L.set b c) g) : PrimX P op args vs L g chk K :=
  prim_set b ids hc d hd hlv fun o a σ w ho hev hse => ⟨c, ob, r, w.drawn, hl, hob, hr, hrun o a σ w ho hev hse, k⟩

/-- A call of a function by its number, whether it has a body or not. -/
theorem exec_ext {c : Call} {f : FuncId} (hcal : c.callee = .value (.func f)) (hlen : c.args.toList.length = vs.length) {o : Oper} {a : Act} {σ : Nat → Nat} {w : World} (ho : o.op = .call c) (hev : ∀ p ∈ c.args.toList.zip vs, a.eval p.1 = p.2.re σ) :
    (execOp a.eval o).run P w = (callFunc f (reL σ vs).toArray).run P w := by
  have e1 : c.args.toList.map a.eval = reL σ vs := zip_self_map hlen hev
  have e2 : c.args.map a.eval = (reL σ vs).toArray := by apply Array.ext'; simp [← e1]
  simp only [execOp, ho, resolve, hcal, Act.eval, Deferred.ofValue, Sem.run_bind, Sem.run_pure, Result.andThen_ok, invoke, e2, Array.append_empty, Array.empty_append]

/-- A call by a method, resolved. -/
theorem exec_inv {c : Call} {recv : Operand} {name : String} (hcal : c.callee = .invoke recv name) {x : SV} {as : List SV} (hlen : c.args.toList.length = as.length) {o : Oper} {a : Act} {σ : Nat → Nat} {w : World} (ho : o.op = .call c) (hev : ∀ p ∈ (recv :: c.args.toList).zip (x :: as), a.eval p.1 = p.2.re σ)
    {t : TypeId} {y y' : Value} {f : FuncId} (hx : x.re σ = .iface t y) (hm : (Go.method (P.types.size + Made.depth) t y name).run P w = .ok (f, y') w) :
    (execOp a.eval o).run P w = (callFunc f (y' :: reL σ as).toArray).run P w := by
  have e0 : a.eval recv = .iface t y := by rw [hev (recv, x) (by simp)]; exact hx
  have e1 : c.args.toList.map a.eval = reL σ as := zip_self_map hlen fun p hp => hev p (by simp [hp])
  have e2 : c.args.map a.eval = (reL σ as).toArray := by apply Array.ext'; simp [← e1]
  have hpr : (program.run P w : Result Program) = .ok P w := rfl
  simp only [execOp, ho, resolve, hcal, e0, e2, Sem.run_bind, Sem.run_pure, Result.andThen_ok, invoke]
  have g0 : (#[Value.iface t y] ++ (reL σ as).toArray)[0]? = some (.iface t y) := by simp
  have g1 : (#[Value.iface t y] ++ (reL σ as).toArray).extract 1 (#[Value.iface t y] ++ (reL σ as).toArray).size = (reL σ as).toArray := by
    apply Array.ext'; simp
  have g2 : #[y'] ++ (reL σ as).toArray = (y' :: reL σ as).toArray := by apply Array.ext'; simp
  simp only [g0, g1, callMethod, Sem.run_bind, hpr, Result.andThen_ok, hm, g2]

def isIfaceT (P : Program) (t : TypeId) : Bool :=
  match P.underlying t with
  | some (.interface _) => true
  | _ => false
/-- Whether a type has the methods that an interface asks for. -/
def hasB (P : Program) (t u : TypeId) : Option Bool :=
  match P.underlying t with
  | some (.interface want) => (P.info? u).map fun i => (lacking want i.methods).isEmpty
  | _ => none
def tassO (X : SV) (z : Value) : Bool → SV
  | true => .tup [X, .v (.bool true)]
  | false => .tup [.v z, .v (.bool false)]
def tassV (u : TypeId) (y z : Value) : Bool → Value
  | true => .tuple #[.iface u y, .bool true]
  | false => .tuple #[z, .bool false]
/-- x.(I), ok: whether the value's type has the methods. -/
theorem prim_tassI {x : Operand} {st t u : TypeId} {z y : Value} (X : SV) (b : Bool) (hX : ∀ σ, X.re σ = .iface u (y)) (ht : isIfaceT P t = true) (hz0 : (P.info? t).bind (·.zero) = some z)
    (hm : hasB P t u = some b) (hc : chk [] [] = true) (k : K (.ret (tassO X z b)) L g) : PrimX P (.typeAssert x st t true) [x] [X] L g chk K := by
  obtain ⟨want, ht⟩ : ∃ want, P.underlying t = some (.interface want) := by
    unfold isIfaceT at ht
    split at ht
    · rename_i want hu; exact ⟨want, hu⟩
    · cases ht
  obtain ⟨i, hi, hz⟩ := Option.bind_eq_some_iff.1 hz0
  have hz' : ∀ w, (zeroValue t).run P w = .ok z w := fun w => by simp [zeroValue, typeInfo, hi, hz]
  have key : ∀ (w : World), (Instr.typeAssert (.iface u y) st t true).run P w = .ok (tassV u y z b) w := by
    intro w
    have hb := hm
    simp only [hasB, ht, Option.map_eq_some_iff] at hb
    obtain ⟨iu, hiu, hb⟩ := hb
    have hiu' : (typeInfo u).run P w = .ok iu w := by simp [typeInfo, hiu]
    cases hle : lacking want iu.methods with
    | nil =>
      rw [hle] at hb
      simp only [List.isEmpty_nil] at hb
      subst hb
      simp only [Instr.typeAssert, Sem.run_bind, run_underlying ht, Result.andThen_ok, hiu', missingMethod_none hle, if_true, Sem.run_pure, tassV]
    | cons s l =>
      obtain ⟨m, hmm⟩ := missingMethod_some (want := want) (got := iu.methods) (by rw [hle]; simp)
      rw [hle] at hb
      simp only [List.isEmpty_cons] at hb
      subst hb
      simp only [Instr.typeAssert, Sem.run_bind, run_underlying ht, Result.andThen_ok, hiu', hmm, if_true, Sem.run_pure, hz', tassV]
  refine prim_val _ hc ?_ (fun o a σ w ho hev => ?_) k
  · intro hs
    cases b
    · rfl
    · simpa [tassO, SV.sc, scL] using hs
  · have e1 : a.eval x = .iface u y := by rw [hev (x, X) (by simp)]; exact hX σ
    have hk := key w
    simp only [execOp, ho, e1, Sem.run_bind, hk, Result.andThen_ok, Sem.run_pure]
    cases b <;> simp [tassO, tassV, SV.re, reL, hX σ]

end
end Go.Sx
