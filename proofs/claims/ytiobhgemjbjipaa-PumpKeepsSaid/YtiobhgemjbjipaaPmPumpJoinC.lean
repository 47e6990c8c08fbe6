/- The first's fork: what it leans on; the loop's head. Conditions stand as premises. -/
import Derived.Test.YtiobhgemjbjipaaPmPumpScr
import Derived.Test.YtiobhgemjbjipaaPmPumpJoinB
import Derived.Test.YtiobhgemjbjipaaPmG4
set_option linter.unusedSimpArgs false
set_option linter.unusedVariables false
namespace Go.Proofs.Ytiobhgemjbjipaa
open Go.Conc Go.RowKit Go.Conc.Lib
open Go.ConcR (KK wgBlock WgAt stA smA rd wr mk DC0)
open Go.ConcN (WgLive)
variable {E : PE} {w0 w w₁ : World} {N p q : Nat} {vp vq : Value}
/-- What the first leans on: what was there at the fork is there still. -/
structure KJ (E : PE) (w0 : World) (N : Nat) (w : World) : Prop where
  low : ∀ b, b < E.N0 → ¬ E.Sh b → w.heap[b]? = w0.heap[b]?
  live : WgLive E.ty E.Wg w
  n0 : E.N0 ≤ N
  n1 : N ≤ w.heap.size
  oo : SO w0 w
/-- .. and a new box. -/
structure KP1 (E : PE) (w0 : World) (N p : Nat) (vp : Value) (w : World) : Prop where
  j : KJ E w0 N w
  p0 : N ≤ p
  ph : w.heap[p]? = some (.cells #[vp] 3)
structure KP2 (E : PE) (w0 : World) (N p q : Nat) (vp vq : Value) (w : World) : Prop where
  a : KP1 E w0 N p vp w
  q0 : N ≤ q
  qh : w.heap[q]? = some (.cells #[vq] 58)
  ne : p ≠ q
theorem ah_old (w : World) (o : Obj) {b : Nat} (h : b < w.heap.size) : (w.alloc o).heap[b]? = w.heap[b]? := by
  simp only [World.alloc]
  rw [Array.getElem?_push_lt h, Array.getElem?_eq_getElem h]
theorem notSh (hE : E.Ok) {b : Nat} (h : E.N0 ≤ b) : ¬ E.Sh b := fun x => by have := hE.low b x; omega
theorem KJ.r0 (h : KJ E w0 N w) (r : R0 E w w₁) : KJ E w0 N w₁ :=
  ⟨fun b hb hs => (r.block b (.inl hs) (Nat.lt_of_lt_of_le hb (Nat.le_trans h.n0 h.n1))).trans (h.low b hb hs), r.live h.live, h.n0, Nat.le_trans h.n1 r.size, h.oo.trans r.oo⟩
theorem KP1.r0 (hE : E.Ok) (h : KP1 E w0 N p vp w) (r : R0 E w w₁) : KP1 E w0 N p vp w₁ :=
  ⟨h.j.r0 r, h.p0, (r.block p (.inl (notSh hE (Nat.le_trans h.j.n0 h.p0))) (lt_of_heap h.ph)).trans h.ph⟩
theorem KP2.r0 (hE : E.Ok) (h : KP2 E w0 N p q vp vq w) (r : R0 E w w₁) : KP2 E w0 N p q vp vq w₁ :=
  ⟨h.a.r0 hE r, h.q0, (r.block q (.inl (notSh hE (Nat.le_trans h.a.j.n0 h.q0))) (lt_of_heap h.qh)).trans h.qh, h.ne⟩
theorem wg_lt' (h : WgLive E.ty E.Wg w) : E.Wg < w.heap.size := by
  obtain ⟨st, sm, h⟩ := h
  exact lt_of_heap (show w.heap[E.Wg]? = some _ from h)
theorem live_same (h : WgLive E.ty E.Wg w) (e : w₁.heap[E.Wg]? = w.heap[E.Wg]?) : WgLive E.ty E.Wg w₁ := by
  obtain ⟨st, sm, h⟩ := h
  exact ⟨st, sm, h.of_block e⟩
theorem KJ.grow (h : KJ E w0 N w) (hs : w.heap.size ≤ w₁.heap.size) (hb : ∀ b, b < E.N0 → w₁.heap[b]? = w.heap[b]?) (hw : E.Wg < E.N0) (hoo : SO w w₁ := by exact ⟨rfl, rfl⟩) : KJ E w0 N w₁ :=
  ⟨fun b hl hn => (hb b hl).trans (h.low b hl hn), live_same h.live (hb _ hw), h.n0, Nat.le_trans h.n1 hs, h.oo.trans hoo⟩
theorem KJ.alloc (hE : E.Ok) (h : KJ E w0 N w) (v : Value) : KP1 E w0 N w.heap.size v (w.alloc (.cells #[v] 3)) :=
  ⟨h.grow (by simp) (fun b hb => ah_old w _ (Nat.lt_of_lt_of_le hb (Nat.le_trans h.n0 h.n1))) (hE.low _ (.inl rfl)), h.n1, heap_alloc_new w _⟩
theorem KP1.alloc (hE : E.Ok) (h : KP1 E w0 N p vp w) (v : Value) : KP2 E w0 N p w.heap.size vp v (w.alloc (.cells #[v] 58)) := by
  have hp := lt_of_heap h.ph
  exact ⟨⟨h.j.grow (by simp) (fun b hb => ah_old w _ (Nat.lt_of_lt_of_le hb (Nat.le_trans h.j.n0 h.j.n1))) (hE.low _ (.inl rfl)), h.p0, (ah_old w _ hp).trans h.ph⟩, h.j.n1, heap_alloc_new w _, by omega⟩
theorem KP2.setP (hE : E.Ok) (h : KP2 E w0 N p q vp vq w) (v : Value) : KP2 E w0 N p q v vq (w.setCell ⟨p, 0, none⟩ v) := by
  have ho := fun b hb => (aside_setCell w ⟨p, 0, none⟩ v).block b hb
  refine ⟨⟨h.a.j.grow (by rw [(aside_setCell w ⟨p, 0, none⟩ v).size]; exact Nat.le_refl _) (fun b hb => ho b ?_) (hE.low _ (.inl rfl)), h.a.p0, setCell_box h.a.ph⟩, h.q0, (ho q (Ne.symm h.ne)).trans h.qh, h.ne⟩
  have := h.a.p0
  have := h.a.j.n0
  show b ≠ p
  omega
theorem KP2.setQ (hE : E.Ok) (h : KP2 E w0 N p q vp vq w) (v : Value) : KP2 E w0 N p q vp v (w.setCell ⟨q, 0, none⟩ v) := by
  have ho := fun b hb => (aside_setCell w ⟨q, 0, none⟩ v).block b hb
  refine ⟨⟨h.a.j.grow (by rw [(aside_setCell w ⟨q, 0, none⟩ v).size]; exact Nat.le_refl _) (fun b hb => ho b ?_) (hE.low _ (.inl rfl)), h.a.p0, (ho p h.ne).trans h.a.ph⟩, h.q0, setCell_box h.qh, h.ne⟩
  have := h.q0
  have := h.a.j.n0
  show b ≠ q
  omega
theorem KP2.wg (hE : E.Ok) (h : KP2 E w0 N p q vp vq w) {v : Value} (hl : WgLive E.ty E.Wg (w.setCell (stA E.Wg) v)) : KP2 E w0 N p q vp vq (w.setCell (stA E.Wg) v) := by
  have ho := fun b hb => (aside_setCell w (stA E.Wg) v).block b hb
  have hw := hE.low _ (.inl rfl)
  have h0 := h.a.j.n0
  refine ⟨⟨⟨fun b hb hs => (ho b ?_).trans (h.a.j.low b hb hs), hl, h0, by rw [(aside_setCell w (stA E.Wg) v).size]; exact h.a.j.n1, h.a.j.oo.trans ⟨rfl, rfl⟩⟩, h.a.p0, (ho p ?_).trans h.a.ph⟩, h.q0, (ho q ?_).trans h.qh, h.ne⟩
  · intro e
    exact hs (.inl e)
  · have := h.a.p0
    show p ≠ E.Wg
    omega
  · have := h.q0
    show q ≠ E.Wg
    omega
theorem cell_box {b : Nat} {v : Value} {ty : TypeId} (h : w.heap[b]? = some (.cells #[v] ty)) : w.cell? ⟨b, 0, none⟩ = some v := by simp [World.cell?, h]
theorem frozen_box {b : Nat} {v : Value} {ty : TypeId} (h : w.heap[b]? = some (.cells #[v] ty)) : w.frozen? ⟨b, 0, none⟩ = false := by simp [World.frozen?, h]
/-! ### the first's own steps -/
theorem d0_ev {es : Array Event} (h : ∀ e ∈ es, EvG (Rd0 E N w) (F0 E N w) w.heap.size w.heap.size e) : D0 E N w w es := ⟨.refl w, h⟩
theorem d0_alloc (o : Obj) {es : Array Event} (h : ∀ e ∈ es, False) : D0 E N w (w.alloc o) es :=
  ⟨⟨rfl, rfl, rfl, by simp, fun b hb _ => ah_old w _ hb⟩, fun e he => (h e he).elim⟩
theorem d0_store {b : Nat} {v : Value} {es : Array Event} (hb : N ≤ b) (hl : b < w.heap.size) (hn : ¬ Byt E w b) (h : ∀ e ∈ es, e = ⟨.cell ⟨b, 0, none⟩, true, false⟩) : D0 E N w (w.setCell ⟨b, 0, none⟩ v) es := by
  have q := aside_setCell w ⟨b, 0, none⟩ v
  refine ⟨⟨q.tape, q.os, q.output, Nat.le_of_eq q.size.symm, fun k _ hk => q.block k fun e => hk ?_⟩, fun e he => ?_⟩
  · have e' : k = b := e
    subst e'; exact ⟨hb, hn⟩
  · rw [h e he]
    exact .inl ⟨_, _, _, rfl, by rw [q.size]; exact hl, .inr (.inl ⟨hb, hn⟩)⟩
theorem notByt {b : Nat} {vs : Array Value} {ty : TypeId} {fz : Nat × Nat} (h : w.heap[b]? = some (.cells vs ty fz)) (ht : ty ≠ E.by_) : ¬ Byt E w b := by
  rintro ⟨vs', h'⟩
  rw [h] at h'
  cases h'
  exact ht rfl
/-- A place that stood at the fork may be read. -/
theorem rd_low {b : Nat} (h : KJ E w0 N w) (hb : b < E.N0) (hs : ¬ E.Sh b) (ho : ¬ E.Old b) : Rd0 E N w b := ⟨Nat.lt_of_lt_of_le hb h.n0, hs, ho, .inl hb⟩
/-- A block of this kind: it stood at the fork, nobody else's. -/
def Kept1 (E : PE) (b : Nat) : Prop := b < E.N0 ∧ ¬ E.Sh b ∧ ¬ E.Old b
/-- What Join has at its loop. -/
structure JF (E : PE) (w0 : World) (sb b5 b6 b7 bi oi : Nat) : Prop where
  ok : E.Ok
  by_ : E.by_ = 5
  ty : E.ty = 57
  k2 : Kept1 E sb
  k5 : Kept1 E b5
  k6 : Kept1 E b6
  k7 : Kept1 E b7
  c2 : w0.heap[sb]? = some (.cells #[.chan E.St] 46)
  c5 : w0.heap[b5]? = some (.cells #[.chan (some E.O)] (tyJ 0))
  c6 : w0.heap[b6]? = some (.cells #[.chan (some E.Q)] (tyJ 1))
  c7 : w0.heap[b7]? = some (.cells #[.chan (some E.Dn)] (tyJ 2))
  ki : 0 < E.n → Kept1 E bi
  ci : ∀ k, k < E.n → w0.cell? ⟨bi, oi + k, none⟩ = some (.chan (some (E.Cr k)))
theorem KJ.cell (h : KJ E w0 N w) {b off : Nat} {v : Value} (hk : Kept1 E b) (hc : w0.cell? ⟨b, off, none⟩ = some v) : w.cell? ⟨b, off, none⟩ = some v := (cell_same (a := ⟨b, off, none⟩) (h.low b hk.1 hk.2.1)).trans hc
theorem KJ.box (h : KJ E w0 N w) {b : Nat} {o : Obj} (hk : Kept1 E b) (hc : w0.heap[b]? = some o) : w.heap[b]? = some o := (h.low b hk.1 hk.2.1).trans hc
noncomputable def tailJ : Code := cSnd (cSnd (cSnd bodyJ))
noncomputable def loopJ : Code := cIn (cIn (cSnd (cFst tailJ)))
noncomputable def restJ : Code := cSnd tailJ
/-- A place of one's own. -/
theorem ev_own {b N' : Nat} (h : N ≤ b) (hn : ¬ Byt E w b) (hl : b < N') {M : Nat → Prop} {wr : Bool} : EvG M (F0 E N w) w.heap.size N' ⟨.cell ⟨b, 0, none⟩, wr, false⟩ := .inl ⟨_, _, _, rfl, hl, .inr (.inl ⟨h, hn⟩)⟩
noncomputable def r8J : Code := cSnd (cSnd (cSnd (cIn (cFst (cSnd (cSnd loopJ))))))
noncomputable def r9J : Code := cSnd (cSnd (cSnd loopJ))
/-- Join behind a way's start. -/
noncomputable def gGo (E : PE) (sb b5 b6 b7 bi oi cap i : Nat) (ba : Option Addr) (J : Nat → Value) (c : Frame) (cs : List Frame) : Goroutine :=
  G ((base 16).at ⟨#[.chan E.St, .slice ba E.n cap, .pointer (some ⟨sb, 0, none⟩), undef, .chan none, .pointer (some ⟨b5, 0, none⟩), .pointer (some ⟨b6, 0, none⟩), .pointer (some ⟨b7, 0, none⟩), .pointer (some ⟨E.Wg, 0, none⟩), J 9, J 10, .chan (some E.O), .chan (some E.Q), .chan (some E.Dn),
    .slice ba E.n cap, .int .i64 (E.n : Int), .int .i64 (i : Int), J 17, J 18, J 19, J 20, J 21, J 22, J 23, J 24, J 25, J 26, J 27, J 28], []⟩ [.inRegion (cOps r8J) [], .inBlock 1, .code r9J, .inLoop loopJ, .inBlock 0, .code restJ]) (c :: cs)
/-- Join at its loop's head. -/
noncomputable def gJ (E : PE) (sb b5 b6 b7 bi oi cap i : Nat) (ba : Option Addr) (J : Nat → Value) (c : Frame) (cs : List Frame) : Goroutine :=
  G ((base 16).at ⟨#[.chan E.St, .slice ba E.n cap, .pointer (some ⟨sb, 0, none⟩), undef, .chan none, .pointer (some ⟨b5, 0, none⟩), .pointer (some ⟨b6, 0, none⟩), .pointer (some ⟨b7, 0, none⟩), .pointer (some ⟨E.Wg, 0, none⟩), J 9, J 10, .chan (some E.O), .chan (some E.Q), .chan (some E.Dn),
    .slice ba E.n cap, .int .i64 (E.n : Int), .int .i64 (i : Int), J 17, J 18, J 19, J 20, J 21, J 22, J 23, J 24, J 25, J 26, J 27, J 28], []⟩ [.code loopJ, .inLoop loopJ, .inBlock 0, .code restJ]) (c :: cs)
end Go.Proofs.Ytiobhgemjbjipaa
