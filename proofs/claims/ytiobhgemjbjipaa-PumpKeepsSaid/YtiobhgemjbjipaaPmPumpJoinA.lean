/- Join: the region that draws its order: three channels, three boxes, in whatever order. Conditions stand as premises. -/
import Derived.Test.YtiobhgemjbjipaaPmG4
import Derived.Test.YtiobhgemjbjipaaPmPumpWayA
import Derived.Conc.SmallLaws
set_option linter.unusedSimpArgs false
set_option linter.unusedVariables false
namespace Go.Proofs.Ytiobhgemjbjipaa
open Go.Conc Go.RowKit
open Go.ConcN (upd upd_ne upd_same)
noncomputable def bodyJ : Code := (Try.f16).body.getD .skip
noncomputable def opsJ1 : Array Oper := cOps (cFst (cSnd bodyJ))
/-- The types: of a channel, of what goes over it. -/
def tyJ (k : Nat) : TypeId := if k = 0 then 47 else 44
theorem oJ_make (k : Nat) (hk : k < 3) : ∃ o, opsJ1[k]? = some o ∧ o.dst = some (11 + k) ∧ o.op = .makeChan (tyJ k) (.const (.int .i64 0)) ∧ o.guard = none ∧ o.after = #[] := by
  match k, hk with
  | 0, _ => exact ⟨_, rfl, rfl, rfl, rfl, rfl⟩
  | 1, _ => exact ⟨_, rfl, rfl, rfl, rfl, rfl⟩
  | 2, _ => exact ⟨_, rfl, rfl, rfl, rfl, rfl⟩
theorem oJ_alloc (k : Nat) (hk : k < 3) : ∃ o, opsJ1[3 + k]? = some o ∧ o.dst = some (5 + k) ∧ o.op = .alloc (tyJ k) ∧ o.guard = none ∧ o.after = #[] := by
  match k, hk with
  | 0, _ => exact ⟨_, rfl, rfl, rfl, rfl, rfl⟩
  | 1, _ => exact ⟨_, rfl, rfl, rfl, rfl, rfl⟩
  | 2, _ => exact ⟨_, rfl, rfl, rfl, rfl, rfl⟩
theorem oJ_store (k : Nat) (hk : k < 3) : ∃ o, opsJ1[6 + k]? = some o ∧ o.dst = none ∧ o.op = .store (tyJ k) (.tmp (5 + k)) (.tmp (11 + k)) ∧ o.guard = none ∧ (∃ e ∈ o.after, Region.binds .any e = true ∧ e.on = 3 + k) ∧ (∃ e ∈ o.after, Region.binds .any e = true ∧ e.on = k) ∧ o.after.all (fun e => decide (e.on < 6 + k)) = true := by
  match k, hk with
  | 0, _ => exact ⟨_, rfl, rfl, rfl, rfl, ⟨⟨3, .data⟩, Array.mem_of_getElem? (i := 0) rfl, rfl, rfl⟩, ⟨⟨0, .data⟩, Array.mem_of_getElem? (i := 1) rfl, rfl, rfl⟩, by kernel_rfl⟩
  | 1, _ => exact ⟨_, rfl, rfl, rfl, rfl, ⟨⟨4, .data⟩, Array.mem_of_getElem? (i := 0) rfl, rfl, rfl⟩, ⟨⟨1, .data⟩, Array.mem_of_getElem? (i := 1) rfl, rfl, rfl⟩, by kernel_rfl⟩
  | 2, _ => exact ⟨_, rfl, rfl, rfl, rfl, ⟨⟨5, .data⟩, Array.mem_of_getElem? (i := 0) rfl, rfl, rfl⟩, ⟨⟨2, .data⟩, Array.mem_of_getElem? (i := 1) rfl, rfl, rfl⟩, by kernel_rfl⟩
/-- What has been done (l): channels at ch, boxes at bx. -/
structure J1 (N : Nat) (w0 : World) (T0 : Array Value) (l : Array Bool) (ch bx : Nat → Nat) (T : Array Value) (w : World) : Prop where
  lsz : l.size = 9
  size : T.size = T0.size
  old : ∀ j, ¬ (5 ≤ j ∧ j ≤ 7) → ¬ (11 ≤ j ∧ j ≤ 13) → T[j]? = T0[j]?
  tc : ∀ k, k < 3 → l.getD k false = true → T[11 + k]? = some (.chan (some (ch k)))
  tb : ∀ k, k < 3 → l.getD (3 + k) false = true → T[5 + k]? = some (.pointer (some ⟨bx k, 0, none⟩))
  hsz : N ≤ w.heap.size
  low : ∀ b, b < N → w.heap[b]? = w0.heap[b]?
  hc : ∀ k, k < 3 → l.getD k false = true → N ≤ ch k ∧ w.heap[ch k]? = some (.chan 0 #[] false 0 0 false)
  hb : ∀ k, k < 3 → l.getD (3 + k) false = true → N ≤ bx k ∧ w.heap[bx k]? = some (.cells #[.chan (if l.getD (6 + k) false = true then some (ch k) else none)] (tyJ k))
  dc : ∀ k k', k < 3 → k' < 3 → k ≠ k' → l.getD k false = true → l.getD k' false = true → ch k ≠ ch k'
  db : ∀ k k', k < 3 → k' < 3 → k ≠ k' → l.getD (3 + k) false = true → l.getD (3 + k') false = true → bx k ≠ bx k'
  st : ∀ k, k < 3 → l.getD (6 + k) false = true → l.getD k false = true ∧ l.getD (3 + k) false = true
  oo : SO w0 w
theorem getD_set_same {l : Array Bool} {i : Nat} (h : i < l.size) : (l.setIfInBounds i true).getD i false = true := by
  rw [Array.getD_eq_getD_getElem?, Array.getElem?_setIfInBounds_self_of_lt h]; rfl
theorem getD_set_other {l : Array Bool} {i j : Nat} (h : i ≠ j) : (l.setIfInBounds i true).getD j false = l.getD j false := by
  rw [Array.getD_eq_getD_getElem?, Array.getD_eq_getD_getElem?, Array.getElem?_setIfInBounds_ne h]
theorem lt_of_heap {w : World} {b : Nat} {o : Obj} (h : w.heap[b]? = some o) : b < w.heap.size := (Array.getElem?_eq_some_iff.1 h).1
variable {N : Nat} {w0 w w₁ : World} {T0 T : Array Value} {l : Array Bool} {ch bx : Nat → Nat}
theorem J1.rel (h : J1 N w0 T0 l ch bx T w) (r : AtRel w w₁) : J1 N w0 T0 l ch bx T w₁ := by
  obtain ⟨d, rfl⟩ := r
  exact ⟨h.lsz, h.size, h.old, h.tc, h.tb, h.hsz, h.low, h.hc, h.hb, h.dc, h.db, h.st, ⟨h.oo.1, h.oo.2⟩⟩
/-- A channel is made. -/
theorem J1.make (h : J1 N w0 T0 l ch bx T w) {k : Nat} (hk : k < 3) (hT : 29 ≤ T0.size) (hl : l.getD k false = false) : J1 N w0 T0 (l.setIfInBounds k true) (upd ch k w.heap.size) bx (T.setIfInBounds (11 + k) (.chan (some w.heap.size))) (w.alloc (.chan 0 #[] false 0 0 false)) := by
  have hs := h.hsz
  have hns : l.getD (6 + k) false = false := by
    by_cases e : l.getD (6 + k) false = true
    · rw [(h.st k hk e).1] at hl; cases hl
    · simpa using e
  refine ⟨by simpa using h.lsz, by simpa using h.size, fun j h1 h2 => ?_, fun j hj hl' => ?_, fun j hj hl' => ?_, by simp; omega, fun b hb => ?_, fun j hj hl' => ?_, fun j hj hl' => ?_, fun j j' hj hj' hne e e' => ?_, fun j j' hj hj' hne e e' => ?_, fun j hj e => ?_, ⟨h.oo.1, h.oo.2⟩⟩
  · rw [Array.getElem?_setIfInBounds_ne (by omega)]; exact h.old j h1 h2
  · by_cases e : j = k
    · subst e; rw [upd_same, Array.getElem?_setIfInBounds_self_of_lt (by rw [h.size]; omega)]
    · rw [getD_set_other (Ne.symm e)] at hl'
      rw [upd_ne _ _ e, Array.getElem?_setIfInBounds_ne (by omega)]; exact h.tc j hj hl'
  · rw [getD_set_other (by omega)] at hl'
    rw [Array.getElem?_setIfInBounds_ne (by omega)]; exact h.tb j hj hl'
  · rw [heap_alloc_old w _ _ (by omega)]; exact h.low b hb
  · by_cases e : j = k
    · subst e; rw [upd_same]; exact ⟨hs, heap_alloc_new w _⟩
    · rw [getD_set_other (Ne.symm e)] at hl'
      have := h.hc j hj hl'
      rw [upd_ne _ _ e, heap_alloc_old w _ _ (lt_of_heap this.2)]; exact this
  · rw [getD_set_other (by omega)] at hl'
    have := h.hb j hj hl'
    rw [heap_alloc_old w _ _ (lt_of_heap this.2), getD_set_other (by omega)]
    refine ⟨this.1, this.2.trans ?_⟩
    by_cases e : j = k
    · subst e; rw [hns]; simp
    · rw [upd_ne _ _ e]
  · by_cases h1 : j = k
    · have h2 : j' ≠ k := by omega
      rw [getD_set_other (Ne.symm h2)] at e'
      have := lt_of_heap (h.hc j' hj' e').2
      rw [h1, upd_same, upd_ne _ _ h2]; omega
    · rw [getD_set_other (Ne.symm h1)] at e
      by_cases h2 : j' = k
      · have := lt_of_heap (h.hc j hj e).2
        rw [h2, upd_same, upd_ne _ _ h1]; omega
      · rw [getD_set_other (Ne.symm h2)] at e'
        rw [upd_ne _ _ h1, upd_ne _ _ h2]; exact h.dc j j' hj hj' hne e e'
  · rw [getD_set_other (by omega)] at e
    rw [getD_set_other (by omega)] at e'
    exact h.db j j' hj hj' hne e e'
  · rw [getD_set_other (i := k) (j := 6 + j) (by omega)] at e
    have := h.st j hj e
    rw [getD_set_other (i := k) (j := 3 + j) (by omega)]
    refine ⟨?_, this.2⟩
    by_cases h1 : k = j
    · subst h1; exact getD_set_same (by rw [h.lsz]; omega)
    · rw [getD_set_other h1]; exact this.1
/-- A box is made. -/
theorem J1.alloc (h : J1 N w0 T0 l ch bx T w) {k : Nat} (hk : k < 3) (hT : 29 ≤ T0.size) (hl : l.getD (3 + k) false = false) : J1 N w0 T0 (l.setIfInBounds (3 + k) true) ch (upd bx k w.heap.size) (T.setIfInBounds (5 + k) (.pointer (some ⟨w.heap.size, 0, none⟩))) (w.alloc (.cells #[.chan none] (tyJ k))) := by
  have hs := h.hsz
  have hns : l.getD (6 + k) false = false := by
    by_cases e : l.getD (6 + k) false = true
    · rw [(h.st k hk e).2] at hl; cases hl
    · simpa using e
  refine ⟨by simpa using h.lsz, by simpa using h.size, fun j h1 h2 => ?_, fun j hj hl' => ?_, fun j hj hl' => ?_, by simp; omega, fun b hb => ?_, fun j hj hl' => ?_, fun j hj hl' => ?_, fun j j' hj hj' hne e e' => ?_, fun j j' hj hj' hne e e' => ?_, fun j hj e => ?_, ⟨h.oo.1, h.oo.2⟩⟩
  · rw [Array.getElem?_setIfInBounds_ne (by omega)]; exact h.old j h1 h2
  · rw [getD_set_other (by omega)] at hl'
    rw [Array.getElem?_setIfInBounds_ne (by omega)]; exact h.tc j hj hl'
  · by_cases e : j = k
    · subst e; rw [upd_same, Array.getElem?_setIfInBounds_self_of_lt (by rw [h.size]; omega)]
    · rw [getD_set_other (by omega)] at hl'
      rw [upd_ne _ _ e, Array.getElem?_setIfInBounds_ne (by omega)]; exact h.tb j hj hl'
  · rw [heap_alloc_old w _ _ (by omega)]; exact h.low b hb
  · rw [getD_set_other (by omega)] at hl'
    have := h.hc j hj hl'
    rw [heap_alloc_old w _ _ (lt_of_heap this.2)]; exact this
  · by_cases e : j = k
    · subst e
      rw [upd_same, getD_set_other (by omega), hns]
      exact ⟨hs, heap_alloc_new w _⟩
    · rw [getD_set_other (by omega)] at hl'
      have := h.hb j hj hl'
      rw [upd_ne _ _ e, heap_alloc_old w _ _ (lt_of_heap this.2), getD_set_other (by omega)]
      exact this
  · rw [getD_set_other (by omega)] at e
    rw [getD_set_other (by omega)] at e'
    exact h.dc j j' hj hj' hne e e'
  · by_cases h1 : j = k
    · have h2 : j' ≠ k := by omega
      rw [getD_set_other (by omega)] at e'
      have := lt_of_heap (h.hb j' hj' e').2
      rw [h1, upd_same, upd_ne _ _ h2]; omega
    · rw [getD_set_other (by omega)] at e
      by_cases h2 : j' = k
      · have := lt_of_heap (h.hb j hj e).2
        rw [h2, upd_same, upd_ne _ _ h1]; omega
      · rw [getD_set_other (by omega)] at e'
        rw [upd_ne _ _ h1, upd_ne _ _ h2]; exact h.db j j' hj hj' hne e e'
  · rw [getD_set_other (i := 3 + k) (j := 6 + j) (by omega)] at e
    have := h.st j hj e
    rw [getD_set_other (i := 3 + k) (j := j) (by omega)]
    refine ⟨this.1, ?_⟩
    by_cases h1 : k = j
    · subst h1; exact getD_set_same (by rw [h.lsz]; omega)
    · rw [getD_set_other (by omega)]; exact this.2
theorem setCell_box {w : World} {b : Nat} {v v' : Value} {ty : TypeId} (h : w.heap[b]? = some (.cells #[v] ty)) : (w.setCell ⟨b, 0, none⟩ v').heap[b]? = some (.cells #[v'] ty) := by
  simp only [World.setCell]
  rw [Array.getElem?_modify, if_pos rfl, h]
  rfl
/-- A box is filled. -/
theorem J1.fill (h : J1 N w0 T0 l ch bx T w) {k : Nat} (hk : k < 3) (h1 : l.getD k false = true) (h2 : l.getD (3 + k) false = true) : J1 N w0 T0 (l.setIfInBounds (6 + k) true) ch bx T (w.setCell ⟨bx k, 0, none⟩ (.chan (some (ch k)))) := by
  have hbk := h.hb k hk h2
  have ho := fun b hb => (aside_setCell w ⟨bx k, 0, none⟩ (.chan (some (ch k)))).block b hb
  refine ⟨by simpa using h.lsz, h.size, h.old, fun j hj hl' => ?_, fun j hj hl' => ?_, ?_, fun b hb => ?_, fun j hj hl' => ?_, fun j hj hl' => ?_, fun j j' hj hj' hne e e' => ?_, fun j j' hj hj' hne e e' => ?_, fun j hj e => ?_, ⟨h.oo.1, h.oo.2⟩⟩
  · rw [getD_set_other (by omega)] at hl'; exact h.tc j hj hl'
  · rw [getD_set_other (by omega)] at hl'; exact h.tb j hj hl'
  · rw [(aside_setCell w ⟨bx k, 0, none⟩ (.chan (some (ch k)))).size]; exact h.hsz
  · rw [ho b (by show b ≠ bx k; omega)]; exact h.low b hb
  · rw [getD_set_other (by omega)] at hl'
    have := h.hc j hj hl'
    refine ⟨this.1, ?_⟩
    rw [ho _ (fun e => ?_)]
    · exact this.2
    · have e' : ch j = bx k := e
      rw [e'] at this
      rw [hbk.2] at this
      cases this.2
  · rw [getD_set_other (by omega)] at hl'
    have := h.hb j hj hl'
    refine ⟨this.1, ?_⟩
    by_cases e : j = k
    · subst e
      rw [setCell_box this.2, getD_set_same (by rw [h.lsz]; omega)]
      simp
    · rw [ho _ (by exact h.db j k hj hk e hl' h2), getD_set_other (by omega)]
      exact this.2
  · rw [getD_set_other (by omega)] at e
    rw [getD_set_other (by omega)] at e'
    exact h.dc j j' hj hj' hne e e'
  · rw [getD_set_other (by omega)] at e
    rw [getD_set_other (by omega)] at e'
    exact h.db j j' hj hj' hne e e'
  · rw [getD_set_other (i := 6 + k) (j := j) (by omega), getD_set_other (i := 6 + k) (j := 3 + j) (by omega)]
    by_cases e' : j = k
    · subst e'; exact ⟨h1, h2⟩
    · rw [getD_set_other (by omega)] at e; exact h.st j hj e
end Go.Proofs.Ytiobhgemjbjipaa
