/- From the judgement to the row's words: the whole run; what stood is as it was. Conditions stand as premises. -/
import Derived.Test.YtiobhgemjbjipaaPmPumpBase
import Derived.Test.YtiobhgemjbjipaaPmPumpOpen
import Derived.Conc.LeavingOf
import Derived.Below
import Derived.Carry
set_option linter.unusedSimpArgs false
set_option linter.unusedVariables false
namespace Go.Proofs.Ytiobhgemjbjipaa
open Go.Conc Go.RowKit
/-- What a law leaves: true; what stood is as it was. -/
def Told (W : World) (v : Value) (w : World) : Prop := v = .bool true ∧ ∃ Old', Ext NoB Old' W w
/-- THE WHOLE RUN of a function that is entered alone. -/
theorem run_of_ok {P : Program} {f : FuncId} {fn : Func} {c : Code} {args : Array Value} {W : World} {Q : Value → World → Prop} {m : Nat} (hm : 0 < m) (hf : P.funcs[f]? = some fn) (hb : fn.body = some c)
    (hok : Ok P Q NoB m (G ((base f).at { tmps := args ++ Array.replicate (fn.ntmps - args.size) undef, defers := [] } [.code c]) []) W) :
    ∃ M last o w' t', runNT P (M + 1) (solo (G (Frame.enter P f args .normal) []) W) #[] = (.ended o w', t') ∧ runN P M (solo (G (Frame.enter P f args .normal) []) W) = .next last ∧ step P last = .ended o w' ∧ Conc.Good P Q last o w' t' := by
  have e : Frame.enter P f args .normal = (base f).at { tmps := args ++ Array.replicate (fn.ntmps - args.size) undef, defers := [] } [.code c] := by
    simp [Frame.enter, Frame.at, hf, base, hb]
  rw [e, solo_eq_crowd]
  have := hok #[_] none #[] (fun _ => 0) W.drawn rfl (by simp; omega) (leavers_one _ _) ⟨⟨past_nil.clean, fun i a ha hm => (past_nil.known i a ha hm).imp id fun x => x.1.elim, past_nil.over, past_nil.hears, fun op hop => by simp at hop⟩, fun i a c ha => by simp [touchAt, Trace.act?] at ha⟩
  exact this
variable {Old Old' : Nat → Prop} {W W' : World}
theorem Ext.frame (h : Ext Old Old' W W') (may : MemPlace → Prop) : W.keptBut W' may := by
  refine ⟨h.oo.1, h.oo.2, fun i hi => ?_⟩
  rw [h.low i hi]
  split <;> simp_all
theorem Ext.same (h : Ext Old Old' W W') {p : MemPlace} (hp : p.block < W.heap.size) : W.sameAt W' p := by
  cases p with
  | cell b o => exact World.cell?_of_block (w := W) (h.low b hp)
  | map b => exact h.low b hp
theorem Ext.trod {H : Type} {enc : TypeId × Value → H} {P : Program} {t : TypeId} (hl : laidOutB P = true) (hr : P.readableRec t = true) (hrow : t < P.types.size) {v : Value} {d : DataW H} {ps : List MemPlace}
    (h : DataW.Trod enc P W 0 (fun _ => true) true t v d ps) (hb : Ext Old Old' W W') (hlt : ∀ x ∈ ps, x.block < W.heap.size) :
    DataW.Trod enc P W' 0 (fun b => decide (b < W.heap.size)) true t v d ps :=
  WideElems.Trod_stays hl hr hrow h (fun x hx => hb.same (hlt x hx)) (fun x hx => by simpa using hlt x hx)
end Go.Proofs.Ytiobhgemjbjipaa
