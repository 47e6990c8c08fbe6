/- What is told, written into; rows that the law builds. No program's walk here; no condition. -/
import Derived.Test.YtiobhgemjbjipaaPmPumpByt
set_option linter.unusedSimpArgs false
set_option linter.unusedVariables false
namespace Go.Proofs.Ytiobhgemjbjipaa
open Go.Conc Go.RowKit Go.Conc.Lib
section
variable {Old Old' : Nat → Prop} {w w1 w' w4 w5 w6 : World} {V V6 Vb VR VW : Value} {VS VSW : List Value} {bs : List Int} {M : List (List Int)} {L : List (List (List Int))} {base i k : Nat}
/-- Bytes of what was told have been written into; nothing else. -/
structure WrF (base : Nat) (w w' : World) : Prop where
  size : w'.heap.size = w.heap.size
  oo : SO w w'
  low : ∀ b, b < base → w'.heap[b]? = w.heap[b]?
  obj : ∀ (b : Nat) cur ty, w.heap[b]? = some (Obj.cells cur ty (0, 0)) → ∃ cur', w'.heap[b]? = some (Obj.cells cur' ty (0, 0))
  other : ∀ (b : Nat) cur ty, ty ≠ 5 → w.heap[b]? = some (Obj.cells cur ty (0, 0)) → w'.heap[b]? = w.heap[b]?
  byt : ∀ (b off : Nat) y, w.cell? ⟨b, off, none⟩ = some (.int .u8 y) → 0 ≤ y ∧ y ≤ 255 → ∃ y', w'.cell? ⟨b, off, none⟩ = some (.int .u8 y') ∧ 0 ≤ y' ∧ y' ≤ 255
theorem WrF.refl (base : Nat) (w : World) : WrF base w w := ⟨rfl, .refl w, fun _ _ => rfl, fun _ cur _ h => ⟨cur, h⟩, fun _ _ _ _ _ => rfl, fun _ _ y h hy => ⟨y, h, hy⟩⟩
theorem WrF.put {vb off : Nat} {vs : Array Value} {y : Int} (h : WrF base w w') (hb : base ≤ vb) (hv : w.heap[vb]? = some (Obj.cells vs 5 (0, 0))) (hy : 0 ≤ y ∧ y ≤ 255) : WrF base w (w'.setCell ⟨vb, off, none⟩ (.int .u8 y)) := by
  have q := aside_setCell w' ⟨vb, off, none⟩ (.int .u8 y)
  refine ⟨q.size.trans h.size, h.oo.trans ⟨rfl, rfl⟩, fun b hl => (q.block b ?_).trans (h.low b hl), fun b cur ty hc => ?_, fun b cur ty ht hc => (q.block b ?_).trans (h.other b cur ty ht hc), fun b off' y0 hc hy0 => ?_⟩
  · show b ≠ vb
    omega
  · obtain ⟨cur', hc'⟩ := h.obj b cur ty hc
    by_cases e : b = vb
    · subst e
      exact ⟨cur'.setIfInBounds off (.int .u8 y), by
        simp only [World.setCell]
        rw [Array.getElem?_modify, if_pos rfl, hc']
        rfl⟩
    · exact ⟨cur', (q.block b e).trans hc'⟩
  · intro e
    have e : b = vb := e
    subst e
    rw [hc] at hv
    simp only [Option.some.injEq, Obj.cells.injEq] at hv
    exact ht hv.2.1
  · obtain ⟨y', h1, h2⟩ := h.byt b off' y0 hc hy0
    by_cases e : b = vb ∧ off' = off
    · obtain ⟨rfl, rfl⟩ := e
      exact ⟨y, World.cell?_setCell_same _ _ _ h1, hy⟩
    · refine ⟨y', ?_, h2⟩
      rw [World.cell?_setCell_other _ _ _ _ (by simp; omega)]
      exact h1
theorem WrF.ext (h : WrF base w1 w') (e : Ext Old Old' w w1) (hb : base = w.heap.size) : Ext Old Old' w w' := by
  subst hb
  exact ⟨by rw [h.size]; exact e.size, fun b hl => (h.low b hl).trans (e.low b hl), e.old, e.oo.trans h.oo⟩
/-- What was told, at a place: where it lies. -/
theorem GotL.cells {G0 : List (Nat × List Int)} {a : Option Addr} {n c k : Nat} (h : GotL Old w base (.slice a n c) G0) (hn : G0.length = n) (hi : G0[i]? = some (k, bs)) :
    ∃ g cur va vc, a = some ⟨g, 0, none⟩ ∧ w.heap[g]? = some (Obj.cells cur 33 (0, 0)) ∧ ¬ Old g ∧ w.cell? ⟨g, i * 2 + 1, none⟩ = some (.slice va bs.length vc) ∧ bs.length ≤ maxLen ∧
      (0 < bs.length → ∃ vb vo vs, va = some ⟨vb, vo, none⟩ ∧ base ≤ vb ∧ ¬ Old vb ∧ w.heap[vb]? = some (Obj.cells vs 5 (0, 0)) ∧ ∀ q, q < bs.length → ∃ y, w.cell? ⟨vb, vo + q, none⟩ = some (.int .u8 y) ∧ 0 ≤ y ∧ y ≤ 255) := by
  obtain ⟨a', c', h1, h2, h3, h4, h5⟩ := h
  have hl := (List.getElem?_eq_some_iff.1 hi).1
  simp only [Value.slice.injEq] at h1
  obtain ⟨rfl, _, _⟩ := h1
  rcases h5 with h5 | ⟨g, cur, e', k1, k2, k3, k4⟩
  · omega
  · obtain ⟨l1, v, l2, ⟨va, vn, vc, rfl, hlen, hvc, hvm, _, hB, hx⟩⟩ := k4 i k bs hi
    subst hlen
    rw [Nat.mul_comm] at l2
    refine ⟨g, cur, va, vc, e', k3, k2, l2, Nat.le_trans hvc hvm, fun hp => ?_⟩
    rcases hx with hx | ⟨vb, vo, hva, _, ⟨hb1, hb2, vs, hb3⟩, hcs⟩
    · omega
    · refine ⟨vb, vo, vs, hva, hb1, hb2, hb3, fun q hq => ⟨bs[q], hcs q _ (List.getElem?_eq_getElem hq), hB _ (List.getElem_mem hq)⟩⟩
/-- A row that is being built. -/
structure RowF (Old : Nat → Prop) (w : World) (M : List (List Int)) (k : Nat) (V : Value) (VS : List Value) (w' : World) : Prop where
  e : Ext Old Old w w'
  own : w'.ownsRow w.heap.size 30 1 V k VS
  al : Al (R1B Old w') VS (M.take k)
theorem RowF.zero : RowF Old w M 0 (.slice none 0 0) [] w := ⟨.refl _ _, owns_nil, al_nil⟩
theorem RowF.step (h : RowF Old w M k V VS w') (hB : M[k]? = some bs) (e4 : Ext Old Old w' w4) (hb : R1B Old w4 Vb bs) (e5 : Ext Old Old w4 w5) (g : w5.grownBy w6 V.ownBlock) (ow : w6.ownsRow w.heap.size 30 1 V6 (k + 1) (VS ++ [Vb])) :
    RowF Old w M (k + 1) V6 (VS ++ [Vb]) w6 := by
  have o5 := ownsRow_ext (ownsRow_ext h.own e4) e5
  have k56 : KeepT w5 w6 5 := KeepT.grown g o5 (by decide)
  refine ⟨(h.e.trans (e4.trans e5)).grow g fun k hk => (World.ownsRow.lt o5 k hk).1, ow, ?_⟩
  rw [take_app hB]
  exact al_snoc (h.al.imp fun _ _ x => ((x.keep (KeepT.ext e4)).keep (KeepT.ext e5)).keep k56) ((hb.keep (KeepT.ext e5)).keep k56)
theorem RowF.done (h : RowF Old w M M.length V VS w') (hold : ∀ b, Old b → b < w.heap.size) : R2B Old w' V M := by
  refine ⟨VS, .own h.own hold, ?_⟩
  have := h.al
  rwa [List.take_length] at this
/-- The rows that are being built. -/
structure WantF (Old : Nat → Prop) (w : World) (L : List (List (List Int))) (i : Nat) (V : Value) (VS : List Value) (w' : World) : Prop where
  e : Ext Old Old w w'
  own : w'.ownsRow w.heap.size 29 1 V i VS
  al : Al (R2B Old w') VS (L.take i)
theorem WantF.zero : WantF Old w L 0 (.slice none 0 0) [] w := ⟨.refl _ _, owns_nil, al_nil⟩
theorem WantF.step (h : WantF Old w L i VW VSW w1) (hM : L[i]? = some M) (hr : RowF Old w1 M M.length VR VS w') (e5 : Ext Old Old w' w5) (g : w5.grownBy w6 VW.ownBlock) (ow : w6.ownsRow w.heap.size 29 1 V6 (i + 1) (VSW ++ [VR])) (hold : ∀ b, Old b → b < w.heap.size) :
    WantF Old w L (i + 1) V6 (VSW ++ [VR]) w6 := by
  have o5 := ownsRow_ext (ownsRow_ext h.own hr.e) e5
  have k56 : KeepT w5 w6 5 := KeepT.grown g o5 (by decide)
  have l56 : KeepT w5 w6 30 := KeepT.grown g o5 (by decide)
  refine ⟨(h.e.trans (hr.e.trans e5)).grow g fun k hk => (World.ownsRow.lt o5 k hk).1, ow, ?_⟩
  rw [take_app hM]
  have hd := hr.done fun b hb => Nat.lt_of_lt_of_le (hold b hb) h.e.size
  exact al_snoc (h.al.imp fun _ _ x => ((x.keep (KeepT.ext hr.e) (KeepT.ext hr.e)).keep (KeepT.ext e5) (KeepT.ext e5)).keep k56 l56) ((hd.keep (KeepT.ext e5) (KeepT.ext e5)).keep k56 l56)
theorem WantF.r3 (h : WantF Old w L L.length V VS w') (hold : ∀ b, Old b → b < w.heap.size) : R3 Old w' V L := by
  refine ⟨VS, .own h.own hold, ?_⟩
  have := h.al
  rw [List.take_length] at this
  exact this.imp fun _ _ x => x.r2
end
/-- The other bits of a byte. -/
theorem xor_u8 (a y : Int) : 0 ≤ IntKind.u8.wrap ((BitVec.ofInt 8 a ^^^ BitVec.ofInt 8 y).toNat : Int) ∧ IntKind.u8.wrap ((BitVec.ofInt 8 a ^^^ BitVec.ofInt 8 y).toNat : Int) ≤ 255 := by
  have h := (BitVec.ofInt 8 a ^^^ BitVec.ofInt 8 y).isLt
  rw [show IntKind.u8.wrap ((BitVec.ofInt 8 a ^^^ BitVec.ofInt 8 y).toNat : Int) = (((BitVec.ofInt 8 a ^^^ BitVec.ofInt 8 y).toNat : Int) % 256) from rfl]
  omega
end Go.Proofs.Ytiobhgemjbjipaa
