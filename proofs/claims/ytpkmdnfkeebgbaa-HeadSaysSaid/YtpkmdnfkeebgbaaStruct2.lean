/- Structs in a block of their own: the load as a step that is taken first. No program in sight; no condition. -/
import Derived.Test.YtpkmdnfkeebgbaaStruct
namespace Go.Proofs.Ytpkmdnfkeebgbaa
open Go.ChangeShapes Go.WideShapes Go.ChangeAt Go.RowKit
set_option linter.unusedVariables false
set_option linter.unusedSimpArgs false
section
variable {P : Program} {w : World} {o : Oper}
theorem exec_loadS {ρ : Operand → Value} {ty : TypeId} {x : Operand} (ho : o.op = .load ty x) {S n : Nat} {cs : Array Value} {T : TypeId} (hI : RowInfo P ty n)
    (hx : ρ x = .pointer (some ⟨S, 0, none⟩)) (hg : w.heap[S]? = some (.cells cs T (0, 0))) (hs : cs.size = n) : (execOp ρ o).run P w = .ok (.value (.agg cs)) w := by
  obtain ⟨d, hu, hd⟩ := hI.desc
  unfold execOp
  simp only [ho, hx, Instr.loadAt, Instr.sureAddr, Sem.run_bind, Sem.run_pure, Result.andThen_ok, run_loadVar_row w S T ty cs (0, 0) d hg hu (by revert hd; cases d <;> simp) (by rw [hI.2, hs])]
end
end Go.Proofs.Ytpkmdnfkeebgbaa
