/- What head.table and the document's own table compute. Conditions stand as premises. -/
import Derived.Test.YtpkmdnfkeebgbaaHeadPtr
namespace Go.Proofs.Ytpkmdnfkeebgbaa
open Go.ChangeShapes Go.WideShapes Go.ChangeAt Go.RowKit
set_option linter.unusedVariables false
set_option linter.unusedSimpArgs false

/-- What is amiss with a table of so many bytes at a place. -/
def tabV (at_ size from_ end_ : Int) : Int := if at_ % 8 ≠ 0 then 3 else if size = 0 ∨ size % 16 ≠ 0 then 5 else if at_ < from_ ∨ at_ - from_ < 16 ∨ end_ < at_ ∨ end_ - at_ < size then 2 else 0
/-- The ways through the tests. -/
def TabWay (at_ size from_ end_ C : Int) : Prop :=
  ((at_ % 8 != 0) = true ∧ C = 3) ∨
  ((at_ % 8 != 0) = false ∧ (size == 0) = true ∧ C = 5) ∨
  ((at_ % 8 != 0) = false ∧ (size == 0) = false ∧ (size % 16 != 0) = true ∧ C = 5) ∨
  ((at_ % 8 != 0) = false ∧ (size == 0) = false ∧ (size % 16 != 0) = false ∧ at_ < from_ ∧ C = 2) ∨
  ((at_ % 8 != 0) = false ∧ (size == 0) = false ∧ (size % 16 != 0) = false ∧ from_ ≤ at_ ∧ at_ - from_ < 16 ∧ C = 2) ∨
  ((at_ % 8 != 0) = false ∧ (size == 0) = false ∧ (size % 16 != 0) = false ∧ from_ ≤ at_ ∧ 16 ≤ at_ - from_ ∧ end_ < at_ ∧ C = 2) ∨
  ((at_ % 8 != 0) = false ∧ (size == 0) = false ∧ (size % 16 != 0) = false ∧ from_ ≤ at_ ∧ 16 ≤ at_ - from_ ∧ at_ ≤ end_ ∧ end_ - at_ < size ∧ C = 2) ∨
  ((at_ % 8 != 0) = false ∧ (size == 0) = false ∧ (size % 16 != 0) = false ∧ from_ ≤ at_ ∧ 16 ≤ at_ - from_ ∧ at_ ≤ end_ ∧ size ≤ end_ - at_ ∧ C = 0)
theorem tabWay (at_ size from_ end_ : Int) : TabWay at_ size from_ end_ (tabV at_ size from_ end_) := by
  unfold TabWay tabV
  by_cases q1 : at_ % 8 ≠ 0
  · exact .inl ⟨by simpa using q1, if_pos q1⟩
  rw [if_neg q1]
  have q1' : (at_ % 8 != 0) = false := by simpa using q1
  by_cases q2 : size = 0
  · exact .inr (.inl ⟨q1', by simpa using q2, if_pos (.inl q2)⟩)
  have q2' : (size == 0) = false := by simpa using q2
  by_cases q3 : size % 16 ≠ 0
  · exact .inr (.inr (.inl ⟨q1', q2', by simpa using q3, if_pos (.inr q3)⟩))
  have q3' : (size % 16 != 0) = false := by simpa using q3
  rw [if_neg (by omega)]
  by_cases q4 : at_ < from_
  · exact .inr (.inr (.inr (.inl ⟨q1', q2', q3', q4, if_pos (by omega)⟩)))
  by_cases q5 : at_ - from_ < 16
  · exact .inr (.inr (.inr (.inr (.inl ⟨q1', q2', q3', by omega, q5, if_pos (by omega)⟩))))
  by_cases q6 : end_ < at_
  · exact .inr (.inr (.inr (.inr (.inr (.inl ⟨q1', q2', q3', by omega, by omega, q6, if_pos (by omega)⟩)))))
  by_cases q7 : end_ - at_ < size
  · exact .inr (.inr (.inr (.inr (.inr (.inr (.inl ⟨q1', q2', q3', by omega, by omega, by omega, q7, if_pos (by omega)⟩))))))
  · exact .inr (.inr (.inr (.inr (.inr (.inr (.inr ⟨q1', q2', q3', by omega, by omega, by omega, by omega, if_neg (by omega)⟩))))))

set_option maxRecDepth 100000 in
set_option maxHeartbeats 2000000 in
theorem reftable_any (at_ size from_ end_ : Int) (w : World) (h1 : 0 ≤ at_ ∧ at_ ≤ 18446744073709551615) (h2 : 0 ≤ size ∧ size ≤ 18446744073709551615) (h3 : 0 ≤ from_ ∧ from_ ≤ 18446744073709551615) (h4 : 0 ≤ end_ ∧ end_ ≤ 18446744073709551615) :
    Calls Try.prog 23 #[.int .u64 at_, .int .u64 size, .int .u64 from_, .int .u64 end_] w fun e w' => e = .returned (.int .i64 (tabV at_ size from_ end_)) ∧ w = w' := by
  obtain ⟨a0, a1⟩ := h1
  obtain ⟨s0, s1⟩ := h2
  obtain ⟨f0, f1⟩ := h3
  obtain ⟨e0, e1⟩ := h4
  rcases tabWay at_ size from_ end_ with ⟨q1, hC⟩ | ⟨q1, q2, hC⟩ | ⟨q1, q2, q3, hC⟩ | ⟨q1, q2, q3, q4, hC⟩ | ⟨q1, q2, q3, q4, q5, hC⟩ | ⟨q1, q2, q3, q4, q5, q6, hC⟩ | ⟨q1, q2, q3, q4, q5, q6, q7, hC⟩ | ⟨q1, q2, q3, q4, q5, q6, q7, hC⟩
  all_goals
    rw [hC]
    clear hC
    go_enter Try.func23, Try.ntmps23
    go_wp2
    go_ret
    exact ⟨rfl, rfl⟩

set_option maxRecDepth 100000 in
set_option maxHeartbeats 2000000 in
theorem headtable_any (co inc st : Int) (I Ns : List Int) (ta ti te at_ size from_ end_ : Int) (w : World) (hI : I.length = 64) (hz : Ns[0]? = some from_) (h1 : 0 ≤ at_ ∧ at_ ≤ 18446744073709551615) (h2 : 0 ≤ size ∧ size ≤ 18446744073709551615) (h3 : 0 ≤ from_ ∧ from_ ≤ 18446744073709551615) (h4 : 0 ≤ end_ ∧ end_ ≤ 18446744073709551615) :
    Calls Try.prog 21 #[.agg (headL co inc st I Ns ta ti te).toArray, .int .u64 at_, .int .u64 size, .int .u64 end_] w fun e w' => e = .returned (.int .i64 (tabV at_ size from_ end_)) ∧ Below w.heap.size w w' := by
  have hX := heap_alloc_new w (.cells (headL co inc st I Ns ta ti te).toArray 29)
  have hB := below_alloc w (.cells (headL co inc st I Ns ta ti te).toArray 29)
  have i0 := cell_of_heap hX 67 _ (headL_N hI 0 from_ hz)
  have HB := Lib.hid hB
  obtain ⟨a0, a1⟩ := h1
  obtain ⟨s0, s1⟩ := h2
  obtain ⟨f0, f1⟩ := h3
  obtain ⟨e0, e1⟩ := h4
  clear hX hB hz hI
  rcases tabWay at_ size from_ end_ with ⟨q1, hC⟩ | ⟨q1, q2, hC⟩ | ⟨q1, q2, q3, hC⟩ | ⟨q1, q2, q3, q4, hC⟩ | ⟨q1, q2, q3, q4, q5, hC⟩ | ⟨q1, q2, q3, q4, q5, q6, hC⟩ | ⟨q1, q2, q3, q4, q5, q6, q7, hC⟩ | ⟨q1, q2, q3, q4, q5, q6, q7, hC⟩
  all_goals
    rw [hC]
    clear hC
    go_enter Try.func21, Try.ntmps21
    go_upto_region 1 with fail
    generalize w.alloc (.cells (headL co inc st I Ns ta ti te).toArray 29) = w1 at i0 HB ⊢
    go_wp2_with fail
    go_ret
    exact ⟨rfl, HB.out⟩
end Go.Proofs.Ytpkmdnfkeebgbaa
