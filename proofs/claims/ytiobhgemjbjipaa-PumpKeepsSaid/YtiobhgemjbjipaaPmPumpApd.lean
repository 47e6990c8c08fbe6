/- Rows of slices that the first makes, beside leavers: an append of one, of zeros, as steps. Conditions stand as premises. -/
import Derived.Test.YtiobhgemjbjipaaPmPumpZer
set_option linter.unusedSimpArgs false
set_option linter.unusedVariables false
namespace Go.Proofs.Ytiobhgemjbjipaa
open Go.Conc Go.RowKit Go.Conc.Lib
/-- A slice type whose elements are slices. -/
def InfoS (P : Program) (t e : TypeId) : Prop := P.underlying t = some (.slice e) ∧ ∃ i z, P.info? e = some i ∧ i.zero = some z ∧ i.size = 1 ∧ i.bytes = 24 ∧ z.cells.size = 1
theorem infoS3 : InfoS Try.prog 22 29 := by
  obtain ⟨i, h1, h2, h3, h4⟩ := info_rows
  exact ⟨Try.underlying22, i, _, h1, h2, h3, h4, rfl⟩
theorem infoS2 : InfoS Try.prog 29 30 := by
  obtain ⟨i, hi⟩ : ∃ i, Try.prog.info? 30 = some i := ⟨_, rfl⟩
  have h3 : i.zero = some (.slice none 0 0) ∧ i.size = 1 ∧ i.bytes = 24 := by
    have : Try.prog.info? 30 = some i := hi
    revert hi
    intro hi
    cases hi
    exact ⟨by kernel_rfl, by kernel_rfl, by kernel_rfl⟩
  exact ⟨Try.underlying29, i, _, hi, h3.1, h3.2.1, h3.2.2, rfl⟩
section
variable {P : Program} {w : World} {base n tb tc : Nat} {v x : Value} {xs : List Value} {t e : TypeId}
theorem slice_append {ty : TypeId} (hI : InfoS P t e) (hown : w.ownsRow base e 1 v n xs) (hb : base ≤ w.heap.size) (hn : n < 1000000) (hx : x.oneCell' = true) (ht : w.heap[tb]? = some (.cells #[x] e)) :
    ∃ v' w', (Builtin.append_ #[t, t] ty #[v, .slice (some ⟨tb, 0, none⟩) 1 tc]).run P w = .ok v' w' ∧ w'.ownsRow base e 1 v' (n + 1) (xs ++ [x]) ∧ w.grownBy w' v.ownBlock ∧
      ∀ e ∈ (Builtin.append_ #[t, t] ty #[v, .slice (some ⟨tb, 0, none⟩) 1 tc]).events P w #[], (∃ (a : Addr) (b s : Bool), e = ⟨.cell a, b, s⟩ ∧ (a.block = tb ∨ some a.block = v.ownBlock)) ∨ e = ⟨.mark .noRoom, false, true⟩ := by
  obtain ⟨hu, i, z, hi, h6, h4, h5, h7⟩ := hI
  have hnews : ∀ j u, [x][j]? = some u → w.cell? ((⟨tb, 0, none⟩ : Addr).add j) = some u := by
    intro j u hj
    match j, hj with
    | 0, hj => cases hj; exact cell_box ht
    | j + 1, hj => simp at hj
  have h1 : ∀ u ∈ [x], u.oneCell' = true := by
    intro u hu
    simp only [List.mem_cons, List.not_mem_nil, or_false] at hu
    subst hu
    exact hx
  have hm : n + 1 ≤ maxLen := by unfold maxLen; omega
  obtain ⟨v', w', r1, r2, r3, _⟩ := run_append_own w base t ty e i z 1 24 hu hi h6 h4 h5 h7 (by omega) v n xs hown ⟨tb, 0, none⟩ 1 tc _ rfl hnews h1 hm (by omega) hb
  refine ⟨v', w', r1, r2, r3, fun e he => ?_⟩
  rcases events_append_where w base t ty _ i z 1 24 hu hi h6 h4 h5 v n xs hown ⟨tb, 0, none⟩ 1 tc _ rfl hnews h1 hm (by omega) e he with ⟨ad, h8, h9⟩ | ⟨m, rfl, hm⟩
  · obtain ⟨loc, wr, sy⟩ := e
    simp only at h8
    subst h8
    exact .inl ⟨ad, wr, sy, rfl, h9.imp (·.2) id⟩
  · exact .inr (by rw [show m = .noRoom from hm])
variable {Post : Value → World → Prop} {Old : Nat → Prop} {m : Nat} {b : Frame} {ac : Act} {k : List Item} {cs : List Frame} {ops : Array Oper} {i : Nat} {rest : List Nat} {o : Oper}
theorem ownsRow_at {d : Nat} (h : w.ownsRow base e 1 v n xs) : (w.at d).ownsRow base e 1 v n xs := h
/-- ONE MORE. -/
theorem Ok.append_one (s y : Operand) (hI : InfoS P t e) (h1 : ops[i]? = some o) (hw : Region.wanted o (yielded ops ac.tmps) = true) (hk : b.kind ≠ .early) (ho : o.op = .call { callee := .builtin .append, args := #[s, y], argTypes := #[t, t] })
    (hs : ac.eval s = v) (hy : ac.eval y = .slice (some ⟨tb, 0, none⟩) 1 tc) (hown : w.ownsRow base e 1 v n xs) (hb : base ≤ w.heap.size) (hn : n < 1000000) (hx : x.oneCell' = true) (ht : w.heap[tb]? = some (.cells #[x] e)) (hold : ∀ b, Old b → b < base) (htb : base ≤ tb)
    (h : ∀ v' w', w'.ownsRow base e 1 v' (n + 1) (xs ++ [x]) → w.grownBy w' v.ownBlock → Ok P Post Old m (G (b.at (ac.put o.dst v') (.inRegion ops rest :: k)) cs) w') : Ok P Post Old m (G (b.at ac (.inRegion ops (i :: rest) :: k)) cs) w := by
  refine Ok.opv h1 hw hk fun w₁ h₁ => ?_
  obtain ⟨d, rfl⟩ := h₁
  obtain ⟨v', w', r1, r2, r3, r4⟩ := slice_append (w := w.at d) (ty := o.type) (tc := tc) hI hown hb hn hx ht
  refine ⟨v', w', run_append_op s y t ho hs hy r1, r3.size, fun e he => ?_, h v' w' r2 ⟨r3.os, r3.tape, r3.output, r3.size, r3.block⟩⟩
  rw [events_append_op s y t ho hs hy] at he
  rcases r4 e he with ⟨ad, wr, sy, rfl, hab | hab⟩ | rfl
  · exact evO_cell (by rw [hab]; exact Nat.lt_of_lt_of_le (lt_of_heap (w := w) ht) r3.size) (by rw [hab]; exact fun x => by have := hold _ x; omega)
  · have hl := World.ownsRow.lt hown _ hab.symm
    exact evO_cell (Nat.lt_of_lt_of_le hl.2 r3.size) (fun x => by have := hold _ x; omega)
  · exact .inr (.inr rfl)
theorem run_append_op2 {P : Program} {o : Oper} {a : Act} {w w' : World} {v xv v' : Value} (s x : Operand) (t t2 : TypeId)
    (ho : o.op = .call { callee := .builtin .append, args := #[s, x], argTypes := #[t, t2] }) (hs : a.eval s = v) (hx : a.eval x = xv)
    (hr : (Builtin.append_ #[t, t2] o.type #[v, xv]).run P w = .ok v' w') : (execOp a.eval o).run P w = .ok (.value v') w' := by
  unfold execOp
  simp only [ho, resolve, invoke, builtin, Sem.run_bind, Sem.run_pure, Result.andThen_ok, List.map_toArray, List.map_cons, List.map_nil, hs, hx, hr]
theorem events_append_op2 {P : Program} {o : Oper} {a : Act} {w : World} {v xv : Value} (s x : Operand) (t t2 : TypeId)
    (ho : o.op = .call { callee := .builtin .append, args := #[s, x], argTypes := #[t, t2] }) (hs : a.eval s = v) (hx : a.eval x = xv) (es : Array Event) :
    (execOp a.eval o).events P w es = (Builtin.append_ #[t, t2] o.type #[v, xv]).events P w es := by
  unfold execOp
  simp only [ho, resolve, invoke, builtin, Sem.events_bind, Sem.run_pure, Sem.events_pure, Result.evThen_ok, List.map_toArray, List.map_cons, List.map_nil, hs, hx]
  cases (Builtin.append_ #[t, t2] o.type #[v, xv]).run P w <;> rfl
/-- SO MANY ZEROS MORE. -/
theorem Ok.append_nils {z : Nat} (s y : Operand) (h1 : ops[i]? = some o) (hw : Region.wanted o (yielded ops ac.tmps) = true) (hk : b.kind ≠ .early) (ho : o.op = .call { callee := .builtin .append, args := #[s, y], argTypes := #[22, 3] })
    (hs : ac.eval s = v) (hy : ac.eval y = .int .i64 (z : Int)) (hown : w.ownsRow base 29 1 v n xs) (hb : base ≤ w.heap.size) (hn : n + z ≤ 1000000) (hold : ∀ b, Old b → b < base)
    (h : ∀ v' w', w'.ownsRow base 29 1 v' (n + z) (xs ++ List.replicate z nilS) → w.grownBy w' v.ownBlock → Ok Try.prog Post Old m (G (b.at (ac.put o.dst v') (.inRegion ops rest :: k)) cs) w') : Ok Try.prog Post Old m (G (b.at ac (.inRegion ops (i :: rest) :: k)) cs) w := by
  refine Ok.opv h1 hw hk fun w₁ h₁ => ?_
  obtain ⟨d, rfl⟩ := h₁
  obtain ⟨v', w', r1, r2, r3, r4⟩ := append_zeros (w := w.at d) (ty := o.type) hown hb hn
  refine ⟨v', w', run_append_op2 s y 22 3 ho hs hy r1, r3.size, fun e he => ?_, h v' w' r2 ⟨r3.os, r3.tape, r3.output, r3.size, r3.block⟩⟩
  rw [events_append_op2 s y 22 3 ho hs hy] at he
  rcases r4 e he with ⟨ad, wr, sy, rfl, hab⟩ | rfl
  · have hl := World.ownsRow.lt hown _ hab.symm
    exact evO_cell (Nat.lt_of_lt_of_le hl.2 r3.size) (fun x => by have := hold _ x; omega)
  · exact .inr (.inr rfl)
/-- What has grown beyond a world. -/
theorem Ext.grow {Old' : Nat → Prop} {w0 w' : World} {row : Option Nat} (h : Ext Old Old' w0 w) (g : w.grownBy w' row) (hr : ∀ k, row = some k → w0.heap.size ≤ k) : Ext Old Old' w0 w' :=
  ⟨Nat.le_trans h.size g.size, fun b hb => (g.block b (Nat.lt_of_lt_of_le hb h.size) (fun e => by have := hr b e.symm; omega)).trans (h.low b hb), h.old, h.oo.trans ⟨g.os, g.output⟩⟩
theorem SlOf.own (h : w.ownsRow base e 1 v n xs) (hold : ∀ b, Old b → b < base) : SlOf Old w v xs := by
  have hl : xs.length = n := by have := h.1; omega
  have hc := fun g hg => World.ownsRow.cells h (g := g) hg
  rcases h.2 with ⟨rfl, h0⟩ | ⟨g, cap, cur, rfl, hbg, hg, hnc, hcm, _, _⟩
  · exact ⟨none, 0, by rw [hl, h0], by omega, Nat.zero_le _, fun _ => rfl, .inl (by omega)⟩
  · refine ⟨_, _, by rw [hl], by omega, hcm, fun h => (by cases h), .inr ⟨g, 0, rfl, lt_of_heap hg, fun x => by have := hold _ x; omega, fun k u hk => ?_⟩⟩
    have := hc g rfl k u hk
    rwa [addr_add] at this
theorem owns_eq (h : w.ownsRow base e 1 v n xs) : ∃ a c, v = .slice a n c := by
  rcases h.2 with ⟨rfl, h0⟩ | ⟨g, cap, cur, rfl, _⟩
  · exact ⟨none, 0, by rw [h0]⟩
  · exact ⟨_, _, rfl⟩
end
end Go.Proofs.Ytiobhgemjbjipaa
