/- Rows, each on a channel of its own: what holds while they are laid. Conditions stand as premises. -/
import Derived.Test.YtiobhgemjbjipaaPmPumpRd
set_option linter.unusedSimpArgs false
set_option linter.unusedVariables false
namespace Go.Proofs.Ytiobhgemjbjipaa
open Go.Conc Go.RowKit
open Go.ConcN (upd upd_ne upd_same)
variable {cl : Bool} {Old : Nat → Prop} {w0 w w' : World} {VS : Nat → List Value} {i j c : Nat} {Cr : Nat → Nat} {out : Value}
def chansOf (Cr : Nat → Nat) (i : Nat) : List Value := (List.range i).map fun k => .chan (some (Cr k))
/-- i rows lie on channels; their channels are listed in a row of the call's own. -/
structure WS (Old : Nat → Prop) (w0 : World) (VS : Nat → List Value) (i : Nat) (Cr : Nat → Nat) (out : Value) (w : World) : Prop where
  e : Ext Old Old w0 w
  own : w.ownsRow w0.heap.size 58 1 out i (chansOf Cr i)
  ch : ∀ k, k < i → w0.heap.size ≤ Cr k ∧ ∃ s, w.heap[Cr k]? = some (.chan (VS k).length (VS k).toArray true s 0 false)
  inj : ∀ k k', k < i → k' < i → Cr k = Cr k' → k = k'
/-- .. and a channel being filled (j messages), at last closed (cl). -/
structure WS2 (Old : Nat → Prop) (w0 : World) (VS : Nat → List Value) (i : Nat) (Cr : Nat → Nat) (out : Value) (c j : Nat) (cl : Bool) (w : World) : Prop where
  s : WS Old w0 VS i Cr out w
  c0 : w0.heap.size ≤ c
  cn : ∀ k, k < i → Cr k ≠ c
  hc : w.heap[c]? = some (.chan (VS i).length ((VS i).take j).toArray cl j 0 false)
theorem ownsRow_notChan {v : Value} {n base size : Nat} {e : TypeId} {xs : List Value} (h : w.ownsRow base e size v n xs) {cap s r : Nat} {buf : Array Value} {cl tm : Bool} (hc : w.heap[c]? = some (.chan cap buf cl s r tm)) : v.ownBlock ≠ some c := by
  rcases h.2 with ⟨rfl, _⟩ | ⟨g, cp, cur, rfl, _, hg, _⟩
  · simp [Value.ownBlock]
  · simp only [Value.ownBlock, ne_eq, Option.some.injEq]
    rintro rfl
    rw [hc] at hg
    cases hg
theorem WS.turn (h : WS Old w0 VS i Cr out w) (hs : w.heap.size ≤ w'.heap.size) (hb : ∀ b, b < w.heap.size → b ≠ c → w'.heap[b]? = w.heap[b]?) (h0 : w0.heap.size ≤ c) (hcn : ∀ k, k < i → Cr k ≠ c) (hco : out.ownBlock ≠ some c) (hoo : SO w w' := by exact ⟨rfl, rfl⟩) : WS Old w0 VS i Cr out w' := by
  refine ⟨⟨Nat.le_trans h.e.size hs, fun b hb' => (hb b (Nat.lt_of_lt_of_le hb' h.e.size) (by omega)).trans (h.e.low b hb'), fun _ x => .inl x, h.e.oo.trans hoo⟩, ownsRow_same h.own fun g hg _ hl => hb g hl fun e => hco (e ▸ hg), fun k hk => ?_, h.inj⟩
  obtain ⟨h1, s, h2⟩ := h.ch k hk
  exact ⟨h1, s, (hb _ (lt_of_heap h2) (hcn k hk)).trans h2⟩
theorem WS.make (h : WS Old w0 VS i Cr out w) : WS2 Old w0 VS i Cr out w.heap.size 0 false (w.alloc (.chan (VS i).length #[] false 0 0 false)) := by
  have hcn : ∀ k, k < i → Cr k ≠ w.heap.size := fun k hk e => by
    obtain ⟨_, s, h2⟩ := h.ch k hk
    have := lt_of_heap h2
    omega
  refine ⟨h.turn (c := w.heap.size) (by simp) (fun b hb _ => ah_old w _ hb) h.e.size hcn fun e => ?_, h.e.size, hcn, by simpa using heap_alloc_new w _⟩
  have := (World.ownsRow.lt h.own _ e).2
  omega
theorem WS2.chan (h : WS2 Old w0 VS i Cr out c j cl w) (k : Nat) (buf : Array Value) (b : Bool) (hb : buf = ((VS i).take k).toArray) : WS2 Old w0 VS i Cr out c k b (w.setChan c (VS i).length buf b k 0 false) := by
  refine ⟨h.s.turn (c := c) (Nat.le_of_eq (size_setChan _ _ _ _ _ _ _ _).symm) (fun x _ hx => heap_setChan_ne w _ _ _ _ _ _ (Ne.symm hx)) h.c0 h.cn (ownsRow_notChan h.s.own h.hc), h.c0, h.cn, ?_⟩
  rw [heap_setChan_self w h.hc, hb]
theorem WS2.send (h : WS2 Old w0 VS i Cr out c j false w) {v : Value} (hv : (VS i)[j]? = some v) : WS2 Old w0 VS i Cr out c (j + 1) false (w.setChan c (VS i).length (((VS i).take j).toArray.push v) false (j + 1) 0 false) := by
  refine h.chan (j + 1) _ false ?_
  obtain ⟨hl, rfl⟩ := List.getElem?_eq_some_iff.1 hv
  rw [List.take_succ_eq_append_getElem hl]
  simp
theorem WS2.alloc (h : WS2 Old w0 VS i Cr out c j cl w) (o : Obj) : WS2 Old w0 VS i Cr out c j cl (w.alloc o) := by
  refine ⟨h.s.turn (c := w.heap.size) (by simp) (fun b hb _ => ah_old w _ hb) h.s.e.size (fun k hk e => ?_) fun e => ?_, h.c0, h.cn, (ah_old w o (lt_of_heap h.hc)).trans h.hc⟩
  · obtain ⟨_, s, h2⟩ := h.s.ch k hk
    have := lt_of_heap h2
    omega
  · have := (World.ownsRow.lt h.s.own _ e).2
    omega
theorem chansOf_succ (Cr : Nat → Nat) (i c : Nat) : chansOf (upd Cr i c) (i + 1) = chansOf Cr i ++ [.chan (some c)] := by
  unfold chansOf
  rw [List.range_succ, List.map_append, List.map_cons, List.map_nil, upd_same]
  congr 1
  refine List.map_congr_left fun k hk => ?_
  rw [upd_ne _ _ (by have := List.mem_range.1 hk; omega)]
theorem WS2.put (h : WS2 Old w0 VS i Cr out c (VS i).length true w) {out' : Value} (hown : w'.ownsRow w0.heap.size 58 1 out' (i + 1) (chansOf Cr i ++ [.chan (some c)])) (hg : w.grownBy w' out.ownBlock) : WS Old w0 VS (i + 1) (upd Cr i c) out' w' := by
  have keep : ∀ b, b < w.heap.size → out.ownBlock ≠ some b → w'.heap[b]? = w.heap[b]? := fun b hb hn => hg.block b hb fun e => hn e.symm
  refine ⟨⟨Nat.le_trans h.s.e.size hg.size, fun b hb => (keep b (Nat.lt_of_lt_of_le hb h.s.e.size) fun e => ?_).trans (h.s.e.low b hb), fun _ x => .inl x, h.s.e.oo.trans ⟨hg.os, hg.output⟩⟩, by rw [chansOf_succ]; exact hown, fun k hk => ?_, fun k k' hk hk' e => ?_⟩
  · have := (World.ownsRow.lt h.s.own b e).1
    omega
  · by_cases hki : k = i
    · subst hki
      rw [upd_same]
      refine ⟨h.c0, (VS k).length, (keep c (lt_of_heap h.hc) (ownsRow_notChan h.s.own h.hc)).trans ?_⟩
      rw [h.hc, List.take_length]
    · rw [upd_ne _ _ hki]
      obtain ⟨h1, s, h2⟩ := h.s.ch k (by omega)
      exact ⟨h1, s, (keep _ (lt_of_heap h2) (ownsRow_notChan h.s.own h2)).trans h2⟩
  · by_cases h1 : k = i
    · by_cases h2 : k' = i
      · omega
      · rw [h1, upd_same, upd_ne _ _ h2] at e
        exact absurd e.symm (h.cn k' (by omega))
    · by_cases h2 : k' = i
      · rw [h2, upd_same, upd_ne _ _ h1] at e
        exact absurd e (h.cn k (by omega))
      · rw [upd_ne _ _ h1, upd_ne _ _ h2] at e
        exact h.s.inj k k' (by omega) (by omega) e
theorem chan_append {ty : TypeId} {base n : Nat} {v : Value} {xs : List Value} {tb tc c : Nat} (hown : w.ownsRow base 58 1 v n xs) (hb : base ≤ w.heap.size) (hn : n < 1000000)
    (ht : w.heap[tb]? = some (.cells #[.chan (some c)] 58)) :
    ∃ v' w', (Builtin.append_ #[41, 41] ty #[v, .slice (some ⟨tb, 0, none⟩) 1 tc]).run Try.prog w = .ok v' w' ∧ w'.ownsRow base 58 1 v' (n + 1) (xs ++ [.chan (some c)]) ∧ w.grownBy w' v.ownBlock ∧
      ∀ e ∈ (Builtin.append_ #[41, 41] ty #[v, .slice (some ⟨tb, 0, none⟩) 1 tc]).events Try.prog w #[], (∃ (a : Addr) (b s : Bool), e = ⟨.cell a, b, s⟩ ∧ (a.block = tb ∨ some a.block = v.ownBlock)) ∨ e = ⟨.mark .noRoom, false, true⟩ := by
  obtain ⟨i, hi⟩ : ∃ i, Try.prog.info? 58 = some i := ⟨_, rfl⟩
  have h3 : i.size = 1 ∧ i.bytes = 8 ∧ ∃ z, i.zero = some z ∧ z.cells.size = 1 := by
    have : Try.prog.info? 58 = some i := hi
    revert hi
    intro hi
    cases hi
    exact ⟨by kernel_rfl, by kernel_rfl, _, rfl, by kernel_rfl⟩
  obtain ⟨h4, h5, z, h6, h7⟩ := h3
  have hnews : ∀ j u, [Value.chan (some c)][j]? = some u → w.cell? ((⟨tb, 0, none⟩ : Addr).add j) = some u := by
    intro j u hj
    match j, hj with
    | 0, hj => cases hj; exact cell_box ht
    | j + 1, hj => simp at hj
  have h1 : ∀ u ∈ [Value.chan (some c)], u.oneCell' = true := by
    intro u hu
    simp only [List.mem_cons, List.not_mem_nil, or_false] at hu
    subst hu
    rfl
  have hm : n + 1 ≤ maxLen := by unfold maxLen; omega
  obtain ⟨v', w', r1, r2, r3, _⟩ := run_append_own w base 41 ty 58 i z 1 8 (by rfl) hi h6 h4 h5 h7 (by omega) v n xs hown ⟨tb, 0, none⟩ 1 tc _ rfl hnews h1 hm (by omega) hb
  refine ⟨v', w', r1, r2, r3, fun e he => ?_⟩
  rcases events_append_where w base 41 ty 58 i z 1 8 (by rfl) hi h6 h4 h5 v n xs hown ⟨tb, 0, none⟩ 1 tc _ rfl hnews h1 hm (by omega) e he with ⟨ad, h8, h9⟩ | ⟨m, rfl, hm⟩
  · obtain ⟨loc, wr, sy⟩ := e
    simp only at h8
    subst h8
    exact .inl ⟨ad, wr, sy, rfl, h9.imp (·.2) id⟩
  · exact .inr (by rw [show m = .noRoom from hm])
end Go.Proofs.Ytiobhgemjbjipaa
