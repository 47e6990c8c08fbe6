/- A run of cells loaded out of the middle of a block. No program in sight; no condition. -/
import Derived.Test.YtpkmdnfkeebgbaaArrEq
namespace Go.Proofs.Ytpkmdnfkeebgbaa
open Go.ChangeShapes Go.WideShapes Go.ChangeAt Go.RowKit
set_option linter.unusedVariables false
set_option linter.unusedSimpArgs false
section
variable {P : Program} {w : World} {ops : Array Oper} {rest : List Oper} {o : Oper} {a : Act} {Q : Exit → Act → World → Prop}
theorem RowInfo.row {ty : TypeId} {n : Nat} (h : RowInfo P ty n) : ∃ d, P.underlying ty = some d ∧ d.isRow = true := by
  obtain ⟨d, hu, hd⟩ := h.desc
  refine ⟨d, hu, ?_⟩
  cases d <;> simp at hd <;> rfl
theorem wp_loadMid {K : Act → World → Prop} {t : TypeId} {x : Operand} (ho : o.op = .load t x) {n : Nat} (hI : RowInfo P t n) {b off : Nat} {L : List Value} (hx : a.eval x = .pointer (some ⟨b, off, none⟩)) (hc : w.rangeAt b off L) (lb : L.length = n)
    (h : K (a.put o.dst (.agg L.toArray)) w) : o.wp P a w K Q := by
  obtain ⟨d, hu, hd⟩ := hI.row
  exact wp_load_mid t x ho b off hx _ d hc hu hd (by rw [hI.2, lb]) h
theorem wpList_loadMid (hgd : o.guard = none) {t : TypeId} {x : Operand} (ho : o.op = .load t x) {n : Nat} (hI : RowInfo P t n) {b off : Nat} {L : List Value} (hx : a.eval x = .pointer (some ⟨b, off, none⟩)) (hc : w.rangeAt b off L) (lb : L.length = n)
    (h : wpList P ops Q rest (a.put o.dst (.agg L.toArray)) w) : wpList P ops Q (o :: rest) a w :=
  wpList_plain hgd fun _ hK => wp_loadMid ho hI hx hc lb (hK _ _ h)
theorem range_of_heap {S o : Nat} {cs : Array Value} {T : TypeId} (h : w.heap[S]? = some (.cells cs T (0, 0))) (L : List Value) (hL : ∀ (j : Nat) (v : Value), L[j]? = some v → cs[o + j]? = some v) : w.rangeAt S o L :=
  fun j v hv => cell_of_heap h (o + j) v (hL j v hv)
theorem exec_buildS {ρ : Operand → Value} {t : TypeId} {parts : Array (Nat × Operand)} (ho : o.op = .build t parts) {cells : Array Value} (hf : P.built t (parts.map fun (i, x) => (i, ρ x)).toList = some cells) : (execOp ρ o).run P w = .ok (.value (.agg cells)) w := by
  unfold execOp
  simp only [ho, Sem.run_bind, run_build w t _ cells hf, Result.andThen_ok, Sem.run_pure]
end
theorem list16 {B : List Int} (h : B.length = 16) : ∃ b0 b1 b2 b3 b4 b5 b6 b7 b8 b9 b10 b11 b12 b13 b14 b15, B = [b0, b1, b2, b3, b4, b5, b6, b7, b8, b9, b10, b11, b12, b13, b14, b15] := by
  match B, h with
  | [b0, b1, b2, b3, b4, b5, b6, b7, b8, b9, b10, b11, b12, b13, b14, b15], _ => exact ⟨b0, b1, b2, b3, b4, b5, b6, b7, b8, b9, b10, b11, b12, b13, b14, b15, rfl⟩
theorem list20 {B : List Int} (h : B.length = 20) : ∃ b0 b1 b2 b3 b4 b5 b6 b7 b8 b9 b10 b11 b12 b13 b14 b15 b16 b17 b18 b19, B = [b0, b1, b2, b3, b4, b5, b6, b7, b8, b9, b10, b11, b12, b13, b14, b15, b16, b17, b18, b19] := by
  match B, h with
  | [b0, b1, b2, b3, b4, b5, b6, b7, b8, b9, b10, b11, b12, b13, b14, b15, b16, b17, b18, b19], _ => exact ⟨b0, b1, b2, b3, b4, b5, b6, b7, b8, b9, b10, b11, b12, b13, b14, b15, b16, b17, b18, b19, rfl⟩
end Go.Proofs.Ytpkmdnfkeebgbaa
