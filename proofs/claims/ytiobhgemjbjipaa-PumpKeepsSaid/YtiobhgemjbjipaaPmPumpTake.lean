/- The first takes what comes into a row of its own: what it holds; one operation at a time. Conditions stand as premises. -/
import Derived.Test.YtiobhgemjbjipaaPmPumpGot
set_option linter.unusedSimpArgs false
set_option linter.unusedVariables false
namespace Go.Proofs.Ytiobhgemjbjipaa
open Go.Conc Go.RowKit
open Go.ConcN (WgLive)
variable {P : Program} {E : PE} {w0 w w₁ w' : World} {N n : Nat} {b : Frame} {a : Act} {k : List Item} {cs : List Frame} {ops : Array Oper} {S : Goroutine → World → Prop} {MB : Value → List Int → Prop}
theorem g0_opv {i : Nat} {rest : List Nat} {o : Oper} (ho : ops[i]? = some o) (hw : Region.wanted o (yielded ops a.tmps) = true) (hk : b.kind ≠ .early)
    (h : ∀ w₁, R0 E w w₁ → ∃ v w', (execOp a.eval o).run P w₁ = .ok (.value v) w' ∧ Adds E (F0 E N w₁) w₁ w' ∧ (∀ e ∈ (execOp a.eval o).events P w₁ #[], EvG (Rd0 E N w₁) (F0 E N w₁) w₁.heap.size w'.heap.size e) ∧ Goes P true (R0 E) (D0 E N) S n (G (b.at (a.put o.dst v) (.inRegion ops rest :: k)) cs) w') :
    Goes P true (R0 E) (D0 E N) S (n + 1) (G (b.at a (.inRegion ops (i :: rest) :: k)) cs) w := by
  refine Goes.step rfl fun w₁ h₁ => goes_oper ho hw hk ?_
  obtain ⟨v, w', hr, hs, he, hn⟩ := h w₁ h₁
  rw [hr]
  exact ⟨⟨hs, fun e hm => he e (mem_listed hm)⟩, hn⟩
theorem g0_opn {i : Nat} {rest : List Nat} {o : Oper} (ho : ops[i]? = some o) (hw : Region.wanted o (yielded ops a.tmps) = true) (hk : b.kind ≠ .early)
    (h : ∀ w₁, R0 E w w₁ → ∃ w', (execOp a.eval o).run P w₁ = .ok .skip w' ∧ Adds E (F0 E N w₁) w₁ w' ∧ (∀ e ∈ (execOp a.eval o).events P w₁ #[], EvG (Rd0 E N w₁) (F0 E N w₁) w₁.heap.size w'.heap.size e) ∧ Goes P true (R0 E) (D0 E N) S n (G (b.at (a.put o.dst undef) (.inRegion ops rest :: k)) cs) w') :
    Goes P true (R0 E) (D0 E N) S (n + 1) (G (b.at a (.inRegion ops (i :: rest) :: k)) cs) w := by
  refine Goes.step rfl fun w₁ h₁ => goes_oper ho hw hk ?_
  obtain ⟨w', hr, hs, he, hn⟩ := h w₁ h₁
  rw [hr]
  exact ⟨⟨hs, fun e hm => he e (mem_listed hm)⟩, hn⟩
/-- What has come, as cells. -/
def cellsOf (ys : List (Nat × Value × Value)) : List Value := ys.flatMap fun y => match y.2.2 with | .agg c => c.toList | _ => []
theorem cellsOf_snoc (ys : List (Nat × Value × Value)) (kk : Nat) (v : Value) (kx : Int) (V : Value) : cellsOf (ys ++ [(kk, v, .agg #[.int .i64 kx, V])]) = cellsOf ys ++ [.int .i64 kx, V] := by simp [cellsOf]
/-- A row of one's own; what it holds; other blocks of one's own (l). -/
structure KG (E : PE) (w0 : World) (N : Nat) (sl : Value) (ys : List (Nat × Value × Value)) (l : List (Nat × Array Value)) (w : World) : Prop where
  j : KJ E w0 N w
  own : w.ownsRow N 33 2 sl ys.length (cellsOf ys)
  fits : ∀ y ∈ ys, E.Fits y.1 y.2.1 y.2.2 w
  l : ∀ q ∈ l, N ≤ q.1 ∧ w.heap[q.1]? = some (.cells q.2 33) ∧ sl.ownBlock ≠ some q.1
  lt : ∀ y ∈ ys, y.1 < E.n
theorem ownsRow_same {base : Nat} {e : TypeId} {size : Nat} {v : Value} {n : Nat} {xs : List Value} (h : w.ownsRow base e size v n xs) (hb : ∀ g, v.ownBlock = some g → base ≤ g → g < w.heap.size → w'.heap[g]? = w.heap[g]?) : w'.ownsRow base e size v n xs := by
  refine ⟨h.1, h.2.imp id ?_⟩
  rintro ⟨g, cap, cur, rfl, h1, h2, h3⟩
  exact ⟨g, cap, cur, rfl, h1, by rw [hb g rfl h1 (lt_of_heap h2)]; exact h2, h3⟩
theorem fits_keep (W : EW E MB) {kk : Nat} {v x : Value} (h : E.Fits kk v x w) (hs : w.heap.size ≤ w'.heap.size) (hb : ∀ b, Byt E w b → w'.heap[b]? = w.heap[b]?) : E.Fits kk v x w' := by
  rw [W.fits] at h ⊢
  obtain ⟨bs, V, h1, h2, h3⟩ := h
  refine ⟨bs, V, h1, h2, h3.keep hs fun b hB hl => ⟨hb b hB.2, ?_⟩⟩
  obtain ⟨h0, vs, hv⟩ := hB
  exact ⟨h0, vs, (hb b ⟨vs, hv⟩).trans hv⟩
variable {sl : Value} {ys : List (Nat × Value × Value)} {l : List (Nat × Array Value)}
theorem KG.r0 (hE : E.Ok) (W : EW E MB) (h : KG E w0 N sl ys l w) (r : R0 E w w₁) : KG E w0 N sl ys l w₁ := by
  have keep : ∀ g, N ≤ g → g < w.heap.size → w₁.heap[g]? = w.heap[g]? := fun g h1 h2 => r.block g (.inl (notSh hE (Nat.le_trans h.j.n0 h1))) h2
  exact ⟨h.j.r0 r, ownsRow_same h.own fun g _ h1 h2 => keep g h1 h2, fun y hy => fits_keep W (h.fits y hy) r.size fun b hb => r.block b (.inr hb) (byt_lt hb), fun q hq => ⟨(h.l q hq).1, (keep _ (h.l q hq).1 (lt_of_heap (h.l q hq).2.1)).trans (h.l q hq).2.1, (h.l q hq).2.2⟩, h.lt⟩
theorem notByt33 (hby : E.by_ = 5) {g : Nat} {c : Array Value} (h : w.heap[g]? = some (.cells c 33)) : ¬ Byt E w g := notByt h (by rw [hby]; decide)
theorem KG.alloc (hE : E.Ok) (W : EW E MB) (h : KG E w0 N sl ys l w) (c : Array Value) : KG E w0 N sl ys ((w.heap.size, c) :: l) (w.alloc (.cells c 33)) := by
  have hs : w.heap.size ≤ (w.alloc (.cells c 33)).heap.size := by simp
  have n0 := h.j.n0
  have n1 := h.j.n1
  refine ⟨h.j.grow hs (fun b hb => ah_old w _ (by omega)) (hE.low _ (.inl rfl)), ownsRow_same h.own fun g _ _ h2 => ah_old w _ h2, fun y hy => fits_keep W (h.fits y hy) hs fun b hb => ah_old w _ (byt_lt hb), fun q hq => ?_, h.lt⟩
  rcases List.mem_cons.1 hq with rfl | hq
  · refine ⟨h.j.n1, heap_alloc_new w _, fun e => ?_⟩
    have := (World.ownsRow.lt h.own _ e).2
    simp at this
  · exact ⟨(h.l q hq).1, (ah_old w _ (lt_of_heap (h.l q hq).2.1)).trans (h.l q hq).2.1, (h.l q hq).2.2⟩
/-- A block of one's own turned whole (by steps that turn none other). -/
theorem KG.turn (hE : E.Ok) (W : EW E MB) (hby : E.by_ = 5) {p : Nat} {c c' : Array Value} (h : KG E w0 N sl ys [(p, c)] w) (hs : w'.heap.size = w.heap.size) (hb : ∀ b, b ≠ p → w'.heap[b]? = w.heap[b]?) (hp : w'.heap[p]? = some (.cells c' 33)) (hoo : SO w w' := by exact ⟨rfl, rfl⟩) : KG E w0 N sl ys [(p, c')] w' := by
  obtain ⟨h1, h2, h3⟩ := h.l (p, c) (by simp)
  have n0 := h.j.n0
  have hw := hE.low _ (.inl rfl)
  refine ⟨h.j.grow (by omega) (fun b hl => hb b (by simp only at h1; omega)) hw hoo, ownsRow_same h.own fun g he _ _ => hb g fun e => h3 (e ▸ he), fun y hy => fits_keep W (h.fits y hy) (by omega) fun b hB => hb b fun e => notByt33 hby h2 (e ▸ hB), fun q hq => ?_, h.lt⟩
  obtain rfl : q = (p, c') := by simpa using hq
  exact ⟨h1, hp, h3⟩
/-- One more has been put into the row. -/
theorem KG.put (hE : E.Ok) (W : EW E MB) (hby : E.by_ = 5) (h : KG E w0 N sl ys l w) {sl' : Value} {kk : Nat} {v : Value} {kx : Int} {V : Value} (hown : w'.ownsRow N 33 2 sl' (ys.length + 1) (cellsOf ys ++ [.int .i64 kx, V])) (hg : w.grownBy w' sl.ownBlock)
    (hk : kk < E.n) (hf : E.Fits kk v (.agg #[.int .i64 kx, V]) w) : KG E w0 N sl' (ys ++ [(kk, v, .agg #[.int .i64 kx, V])]) [] w' := by
  have n0 := h.j.n0
  have hw := hE.low _ (.inl rfl)
  have hgo : ∀ g, sl.ownBlock = some g → N ≤ g ∧ ¬ Byt E w g := by
    intro g hg'
    refine ⟨(World.ownsRow.lt h.own g hg').1, ?_⟩
    rcases h.own.2 with ⟨e, _⟩ | ⟨g', cap, cur, e, _, hh, _⟩
    · rw [e] at hg'; cases hg'
    · rw [e] at hg'
      cases hg'
      exact notByt33 hby hh
  have keep : ∀ b, b < w.heap.size → (b < N ∨ Byt E w b) → w'.heap[b]? = w.heap[b]? := fun b hl ho => hg.block b hl fun e => by
    have := hgo b e.symm
    rcases ho with ho | ho
    · omega
    · exact this.2 ho
  have n1 := h.j.n1
  have fk : ∀ {kk : Nat} {v x : Value}, E.Fits kk v x w → E.Fits kk v x w' := fun hf => fits_keep W hf hg.size fun b hb => keep b (byt_lt hb) (.inr hb)
  refine ⟨h.j.grow hg.size (fun b hl => keep b (by omega) (.inl (by omega))) hw ⟨hg.os, hg.output⟩, by rw [List.length_append, cellsOf_snoc]; exact hown, fun y hy => ?_, fun q hq => by simp at hq, fun y hy => ?_⟩
  rotate_right
  · rcases List.mem_append.1 hy with hy | hy
    · exact h.lt y hy
    · obtain rfl := List.mem_singleton.1 hy
      exact hk
  rcases List.mem_append.1 hy with hy | hy
  · exact fk (h.fits y hy)
  · obtain rfl := List.mem_singleton.1 hy
    exact fk hf
theorem adds_alloc (c : Array Value) : Adds E (F0 E N w) w (w.alloc (.cells c 33)) := ⟨rfl, rfl, rfl, by simp, fun b hb _ => ah_old w _ hb⟩
theorem adds_grown (hg : w.grownBy w' sl.ownBlock) (hF : ∀ g, sl.ownBlock = some g → F0 E N w g) : Adds E (F0 E N w) w w' := ⟨hg.tape, hg.os, hg.output, hg.size, fun b hb hn => hg.block b hb fun e => hn (hF b e.symm)⟩
theorem KG.ownF (hby : E.by_ = 5) (h : KG E w0 N sl ys l w) : ∀ g, sl.ownBlock = some g → F0 E N w g := by
  intro g hg'
  refine ⟨(World.ownsRow.lt h.own g hg').1, ?_⟩
  rcases h.own.2 with ⟨e, _⟩ | ⟨g', cap, cur, e, _, hh, _⟩
  · rw [e] at hg'; cases hg'
  · rw [e] at hg'
    cases hg'
    exact notByt33 hby hh
theorem ev_F {N' : Nat} {M : Nat → Prop} {a : Addr} {wr sy : Bool} (h : F0 E N w a.block) (hl : a.block < N') : EvG M (F0 E N w) w.heap.size N' ⟨.cell a, wr, sy⟩ := .inl ⟨_, _, _, rfl, hl, .inr (.inl h)⟩
end Go.Proofs.Ytiobhgemjbjipaa
