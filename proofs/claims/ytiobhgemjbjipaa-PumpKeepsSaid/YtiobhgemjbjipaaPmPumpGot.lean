/- What is told (two cells: whence, what): made, stored, loaded, put into a row; what these list. Conditions stand as premises. -/
import Derived.Test.YtiobhgemjbjipaaPmG6
import Derived.Laws.AppendOwn
import Derived.Conc.AppendEvents3
set_option linter.unusedSimpArgs false
set_option linter.unusedVariables false
namespace Go.Proofs.Ytiobhgemjbjipaa
open Go.Conc Go.RowKit
variable {w : World} {p : Nat} {kk : Int} {va : Option Addr} {vn vc : Nat}
theorem setCell_two0 {b : Nat} {v0 v1 v : Value} {ty : TypeId} (h : w.heap[b]? = some (.cells #[v0, v1] ty)) : (w.setCell ⟨b, 0, none⟩ v).heap[b]? = some (.cells #[v, v1] ty) := by
  simp only [World.setCell]
  rw [Array.getElem?_modify, if_pos rfl, h]
  rfl
theorem setCell_two1 {b : Nat} {v0 v1 v : Value} {ty : TypeId} (h : w.heap[b]? = some (.cells #[v0, v1] ty)) : (w.setCell ⟨b, 1, none⟩ v).heap[b]? = some (.cells #[v0, v] ty) := by
  simp only [World.setCell]
  rw [Array.getElem?_modify, if_pos rfl, h]
  rfl
theorem two_cell0 {b : Nat} {v0 v1 : Value} {ty : TypeId} (h : w.heap[b]? = some (.cells #[v0, v1] ty)) : w.cell? ⟨b, 0, none⟩ = some v0 ∧ w.frozen? ⟨b, 0, none⟩ = false := by simp [World.cell?, World.frozen?, h]
theorem two_cell1 {b : Nat} {v0 v1 : Value} {ty : TypeId} (h : w.heap[b]? = some (.cells #[v0, v1] ty)) : w.cell? ⟨b, 1, none⟩ = some v1 ∧ w.frozen? ⟨b, 1, none⟩ = false := by simp [World.cell?, World.frozen?, h]
theorem got_store {v0 v1 : Value} (h : w.heap[p]? = some (.cells #[v0, v1] 33)) :
    (Instr.storeAt 33 (.pointer (some ⟨p, 0, none⟩)) (.agg #[.int .i64 kk, .slice va vn vc])).run Try.prog w = .ok () ((w.setCell ⟨p, 0, none⟩ (.int .i64 kk)).setCell ⟨p, 1, none⟩ (.slice va vn vc)) ∧
    ∀ e ∈ (Instr.storeAt 33 (.pointer (some ⟨p, 0, none⟩)) (.agg #[.int .i64 kk, .slice va vn vc])).events Try.prog w #[], ∃ a : Addr, e = ⟨.cell a, true, false⟩ ∧ a.block = p := by
  obtain ⟨c0, f0⟩ := two_cell0 h
  obtain ⟨c1, f1⟩ := two_cell1 (setCell_two0 (v := .int .i64 kk) h)
  refine ⟨by simp [go_sem, c0, f0, c1, f1], fun e he => ?_⟩
  simp [go_sem, c0, f0] at he
  rw [events_store _ _ _ _ _ _ rfl, c1, f1] at he
  simp at he
  rcases he with rfl | rfl
  · exact ⟨_, rfl, rfl⟩
  · exact ⟨_, rfl, rfl⟩
theorem got_load {v0 v1 : Value} (h : w.heap[p]? = some (.cells #[v0, v1] 33)) :
    (Instr.loadAt 33 (.pointer (some ⟨p, 0, none⟩))).run Try.prog w = .ok (.agg #[v0, v1]) w ∧
    ∀ e ∈ (Instr.loadAt 33 (.pointer (some ⟨p, 0, none⟩))).events Try.prog w #[], ∃ a : Addr, e = ⟨.cell a, false, false⟩ ∧ a.block = p := by
  obtain ⟨c0, f0⟩ := two_cell0 h
  obtain ⟨c1, f1⟩ := two_cell1 h
  refine ⟨by simp [go_sem, c0, f0, c1, f1], fun e he => ?_⟩
  simp [go_sem, c0, f0, c1, f1] at he
  rcases he with rfl | rfl
  · exact ⟨_, rfl, rfl⟩
  · exact ⟨_, rfl, rfl⟩
theorem got_slice :
    (Instr.buildSlice 25 1 #[(0, .agg #[.int .i64 kk, .slice va vn vc])]).run Try.prog w = .ok (.slice (some ⟨w.heap.size, 0, none⟩) 1 1) (w.alloc (.cells #[.int .i64 kk, .slice va vn vc] 33)) ∧
    ∀ e ∈ (Instr.buildSlice 25 1 #[(0, .agg #[.int .i64 kk, .slice va vn vc])]).events Try.prog w #[], ∃ a : Addr, ∃ b, e = ⟨.cell a, b, false⟩ ∧ a.block = w.heap.size := by
  refine ⟨by simp [go_sem], fun e he => ?_⟩
  simp [go_sem] at he
/-- One more is put into a row of one's own. -/
theorem got_append {ty : TypeId} {base n : Nat} {v : Value} {xs : List Value} {tb tc : Nat} (hown : w.ownsRow base 33 2 v n xs) (hb : base ≤ w.heap.size) (hn : n < 1000000)
    (ht : w.heap[tb]? = some (.cells #[.int .i64 kk, .slice va vn vc] 33)) :
    ∃ v' w', (Builtin.append_ #[25, 25] ty #[v, .slice (some ⟨tb, 0, none⟩) 1 tc]).run Try.prog w = .ok v' w' ∧ w'.ownsRow base 33 2 v' (n + 1) (xs ++ [.int .i64 kk, .slice va vn vc]) ∧ w.grownBy w' v.ownBlock ∧
      ∀ e ∈ (Builtin.append_ #[25, 25] ty #[v, .slice (some ⟨tb, 0, none⟩) 1 tc]).events Try.prog w #[], (∃ (a : Addr) (b s : Bool), e = ⟨.cell a, b, s⟩ ∧ (a.block = tb ∨ some a.block = v.ownBlock)) ∨ e = ⟨.mark .noRoom, false, true⟩ := by
  obtain ⟨i, hi⟩ : ∃ i, Try.prog.info? 33 = some i := ⟨_, rfl⟩
  have h3 : i.size = 2 ∧ i.bytes = 32 ∧ ∃ z, i.zero = some z ∧ z.cells.size = 2 := by
    have : Try.prog.info? 33 = some i := hi
    revert hi
    intro hi
    cases hi
    exact ⟨by kernel_rfl, by kernel_rfl, _, rfl, by kernel_rfl⟩
  obtain ⟨h4, h5, z, h6, h7⟩ := h3
  have hnews : ∀ j u, [Value.int .i64 kk, .slice va vn vc][j]? = some u → w.cell? ((⟨tb, 0, none⟩ : Addr).add j) = some u := by
    intro j u hj
    match j, hj with
    | 0, hj => cases hj; exact (two_cell0 ht).1
    | 1, hj => cases hj; exact (two_cell1 ht).1
    | j + 2, hj => simp at hj
  have h1 : ∀ u ∈ [Value.int .i64 kk, .slice va vn vc], u.oneCell' = true := by
    intro u hu
    simp only [List.mem_cons, List.not_mem_nil, or_false] at hu
    rcases hu with rfl | rfl <;> rfl
  have hm : n + 1 ≤ maxLen := by unfold maxLen; omega
  obtain ⟨v', w', r1, r2, r3, _⟩ := run_append_own w base 25 ty 33 i z 2 32 (by rfl) hi h6 h4 h5 h7 (by omega) v n xs hown ⟨tb, 0, none⟩ 1 tc _ rfl hnews h1 hm (by omega) hb
  refine ⟨v', w', r1, r2, r3, fun e he => ?_⟩
  rcases events_append_where w base 25 ty 33 i z 2 32 (by rfl) hi h6 h4 h5 v n xs hown ⟨tb, 0, none⟩ 1 tc _ rfl hnews h1 hm (by omega) e he with ⟨ad, h8, h9⟩ | ⟨m, rfl, hm⟩
  · obtain ⟨loc, wr, sy⟩ := e
    simp only at h8
    subst h8
    exact .inl ⟨ad, wr, sy, rfl, h9.imp (·.2) id⟩
  · exact .inr (by rw [show m = .noRoom from hm])
end Go.Proofs.Ytiobhgemjbjipaa
