/- The wrap of a law told of readings of small bulk. Conditions: none. -/
import Derived.Test.YtfianfpmnglfnaaDoorUpA
import Derived.Test.YtfianfpmnglfnaaDoorRowX
import Derived.JoinedOf
import Derived.Stop.Joined
namespace Go.Proofs.YtfianfpmnglfnaaDoor
open Go.Sx Go.ChangeShapes Go.WideShapes
open Go.Proofs.YtfianfpmnglfnaaDoor.Rows (uptoSmall uptoBulkAll uptoBulk)
variable {H : Type} {enc : TypeId × Value → H}
def upMet (enc : TypeId × Value → H) (P : Program) (fn : Func) (s : ChangeSpec) (apart : Bool) (w : World) (args : Array Value) : Bool :=
  match DataW.whole enc P w fn.params.toList s.vars apart args.toList 8 with
  | some x => uptoSmall H (x.1 ++ x.2.1)
  | none => false
theorem up_pre {P : Program} {fn : Func} {s : ChangeSpec} {apart : Bool} {w : World} {args : Array Value} (h : upMet enc P fn s apart w args = true) : (Rows.OpenSpec.upto s).pre enc P fn [] apart w args := by
  unfold upMet at h
  split at h
  · rename_i x hx
    exact ⟨x.1, x.2.1, x.2.2, DataW.Whole_of_whole hx, rfl, h⟩
  · cases h
theorem returns_upto {a : Assume} {C : Checked} {os : Os} {f : FuncId} {fn : Func} {s : ChangeSpec} {apart fresh handsOn again : Bool} {X : World → Array Value → Prop}
    (hX : ∀ (w w' : World) (args : Array Value), w.heap = w'.heap → X w args → X w' args)
    (own : ownKnob C.prog.godebug = none) (started : os.Started) (noInit : C.prog.inits.idxOf? f = none) (hfn : C.prog.funcs[f]? = some fn)
    (witness : ∃ (w : World) (tape : Tape) (i : Input), w.os = os ∧ (w.forCall tape i).Shaped C.prog ∧ i.vars = [] ∧ Input.okWide C.prog (w.forCall tape i) .any w.heap.size f i ∧
      ((s.pre enc C.prog fn [] apart (w.forCall tape i).memory i.args ∧ (X (w.forCall tape i).memory i.args ∧ upMet enc C.prog fn s apart (w.forCall tape i).memory i.args = true)) ∧ sizedMet enc C.prog fn (OpenSpec.ofChange s) apart (w.forCall tape i).memory i.args) ∧ a.holds C.prog (lone (Frame.enter C.prog f i.args .normal) [] (w.forCall tape i)))
    (contract : ∀ (W : World) (base : Nat) (args : Array Value) (ds gs : List (DataW H)) (before : List MemPlace),
      (∀ (j : Nat) t v, fn.params[j]? = some t → args[j]? = some v → Value.okWide C.prog W .any base t v) →
      DataW.Whole enc C.prog fn.params.toList s.vars apart W args.toList ds gs before → uptoSmall H (ds ++ gs) = true → X W args → W.ShapedOpen C.prog →
      Calls C.prog f args W fun e W' => ∃ v, e = .returned v ∧ s.post enc C.prog fn apart fresh handsOn again W args v W') :
    ReturnsInHanded a C os f .any (fun w args => ((Rows.OpenSpec.upto s).pre enc C.prog fn [] apart w args ∧ X w args) ∧ sizedMet enc C.prog fn (Rows.OpenSpec.upto s) apart w args) (s.post enc C.prog fn apart fresh handsOn again) := by
  obtain ⟨w, tape, i, h1, h2, h3, h4, ⟨⟨h5, h6, h7⟩, h8⟩, h9⟩ := witness
  refine returnsInHanded_of_calls own started noInit ⟨w, tape, i, h1, h2, h3, h4, ⟨⟨up_pre h7, h6⟩, h8⟩, h9⟩ ?_
  intro w tape i _ hsh _ hok hpre hholds
  obtain ⟨_, _, _, fn', hfn', _, _, _, _, hval⟩ := hok
  have e : fn' = fn := Option.some.inj (hfn'.symm.trans hfn)
  subst e
  obtain ⟨⟨⟨ds, gs, before, hw, hc, hk⟩, hx⟩, hz⟩ := hpre
  have hw' := DataW.Whole.of_heap (w' := w.forCall tape i) (by rfl) hw
  refine (contract (w.forCall tape i) w.heap.size i.args ds gs before hval hw' hk (hX _ _ _ (by rfl) hx) hsh).mono fun e W' ⟨v, he, hp⟩ => ?_
  subst he
  exact ChangeSpec.post_blind hp
end Go.Proofs.YtfianfpmnglfnaaDoor
