/- Worlds that differ in named blocks alone, and what reads the same behind it. No program in sight; no condition. -/
import Derived.Test.YtiobhgemjbjipaaPmLib
import Derived.Maps.AppendAt
namespace Go.Proofs.Ytiobhgemjbjipaa
open Go.ChangeShapes Go.WideShapes Go.ChangeAt Go.RowKit
set_option linter.unusedVariables false

/-- Of the blocks of w those in F alone may have turned. -/
structure Upd (F : Nat → Prop) (w w' : World) : Prop where
  os : w'.os = w.os
  tape : w'.tape = w.tape
  output : w'.output = w.output
  size : w.heap.size ≤ w'.heap.size
  block : ∀ k, k < w.heap.size → ¬ F k → w'.heap[k]? = w.heap[k]?

theorem Upd.refl (F : Nat → Prop) (w : World) : Upd F w w := ⟨rfl, rfl, rfl, Nat.le_refl _, fun _ _ _ => rfl⟩
theorem Upd.mono {F G : Nat → Prop} {w w' : World} (h : Upd F w w') (hg : ∀ k, k < w.heap.size → F k → G k) : Upd G w w' :=
  ⟨h.os, h.tape, h.output, h.size, fun k hk hn => h.block k hk (fun hf => hn (hg k hk hf))⟩
theorem Upd.trans {F G : Nat → Prop} {a b c : World} (h : Upd F a b) (k : Upd G b c) (hg : ∀ j, j < a.heap.size → G j → F j) : Upd F a c :=
  ⟨k.os.trans h.os, k.tape.trans h.tape, k.output.trans h.output, Nat.le_trans h.size k.size, fun i hi hn => (k.block i (Nat.lt_of_lt_of_le hi h.size) (fun hG => hn (hg i hi hG))).trans (h.block i hi hn)⟩
theorem Upd.ofBelow {F : Nat → Prop} {w w' : World} (h : Below w.heap.size w w') : Upd F w w' := ⟨h.os, h.tape, h.output, h.size, fun k hk _ => h.block k hk⟩
theorem Upd.below {F : Nat → Prop} {B : Nat} {w w' : World} (h : Upd F w w') (hB : B ≤ w.heap.size) (hf : ∀ k, F k → B ≤ k) : Below B w w' :=
  ⟨h.os, h.tape, h.output, h.size, fun k hk => h.block k (by omega) (fun hF => by have := hf k hF; omega)⟩
theorem Upd.grown {F : Nat → Prop} {w w' : World} {r : Option Nat} (h : w.grownBy w' r) (hf : ∀ k, r = some k → F k) : Upd F w w' :=
  ⟨h.os, h.tape, h.output, h.size, fun k hk hn => h.block k hk (fun e => hn (hf k e.symm))⟩
theorem Upd.setCell {F : Nat → Prop} (w : World) (p : Addr) (v : Value) (hf : F p.block) : Upd F w (w.setCell p v) :=
  ⟨rfl, rfl, rfl, by simp, fun k hk hn => heap_setCell_other w p k v (fun e => hn (by rw [e]; exact hf))⟩
theorem Upd.drewN {F : Nat → Prop} {w w' : World} (h : Upd F w w') (n : Nat) : Upd F w (w'.drewN n) := ⟨h.os, h.tape, h.output, h.size, h.block⟩
theorem Upd.drew {F : Nat → Prop} {w w' : World} (h : Upd F w w') : Upd F w w'.drew := ⟨h.os, h.tape, h.output, h.size, h.block⟩
theorem Upd.alloc {F : Nat → Prop} {w w' : World} (h : Upd F w w') (o : Obj) : Upd F w (w'.alloc o) :=
  h.trans (G := fun _ => False) (Upd.ofBelow ((Below.refl _ _).alloc (Nat.le_refl _) o)) (fun _ _ h => h.elim)

theorem Upd.cell {F : Nat → Prop} {w w' : World} (h : Upd F w w') {p : Addr} {v : Value} (hc : w.cell? p = some v) (hf : ¬ F p.block) : w'.cell? p = some v :=
  (World.cell?_of_block (w := w) (h.block p.block (World.block_lt_of_cell? w p hc) hf)).trans hc
theorem Upd.frozen {F : Nat → Prop} {w w' : World} (h : Upd F w w') {p : Addr} (hlt : p.block < w.heap.size) (hf : ¬ F p.block) : w'.frozen? p = w.frozen? p :=
  World.frozen?_of_block (w := w) (h.block p.block hlt hf)

section
variable {α : Type}
theorem Rd.upd {enc : α → Value} {F : Nat → Prop} {w w' : World} {a : Option Addr} {len cap : Nat} {l : List α} (h : Rd enc w a len cap l) (hu : Upd F w w') (hf : ∀ x, a = some x → ¬ F x.block) : Rd enc w' a len cap l := by
  obtain ⟨h1, h2, h3, hn, h4⟩ := h
  refine ⟨h1, h2, h3, hn, ?_⟩
  rcases h4 with h4 | ⟨b, off, rfl, hlt, hc⟩
  · exact .inl h4
  · exact .inr ⟨b, off, rfl, Nat.lt_of_lt_of_le hlt hu.size, hc.mono (hu.block b hlt (hf _ rfl))⟩
theorem Own.upd {enc : α → Value} {e : TypeId} {F : Nat → Prop} {w w' : World} {base : Nat} {a : Option Addr} {len cap : Nat} {l : List α} (h : Own enc e w base a len cap l) (hu : Upd F w w') (hf : ∀ x, a = some x → ¬ F x.block) : Own enc e w' base a len cap l := by
  obtain ⟨hl, h1, h2⟩ := h
  refine ⟨hl, h1, ?_⟩
  rcases h2 with h2 | ⟨g, c, cur, hv, hbg, hg', rest⟩
  · exact .inl h2
  · cases hv
    exact .inr ⟨g, _, cur, rfl, hbg, by rw [hu.block g (Array.getElem?_eq_some_iff.1 hg').1 (hf _ rfl)]; exact hg', rest⟩
/-- An owned slice lies where its block is. -/
theorem Own.lt {enc : α → Value} {e : TypeId} {w : World} {base : Nat} {a : Option Addr} {len cap : Nat} {l : List α} (h : Own enc e w base a len cap l) : ∀ x, a = some x → base ≤ x.block ∧ x.block < w.heap.size := by
  rintro x rfl
  obtain ⟨hl, h1, h2⟩ := h
  rcases h2 with ⟨h2, _⟩ | ⟨g, c, cur, hv, hbg, hg, rest⟩
  · cases h2
  · cases hv; exact ⟨hbg, (Array.getElem?_eq_some_iff.1 hg).1⟩
end
theorem RdB.upd {F : Nat → Prop} {w w' : World} {a : Option Addr} {len cap : Nat} {l : List Int} (h : RdB w a len cap l) (hu : Upd F w w') (hf : ∀ x, a = some x → ¬ F x.block) : RdB w' a len cap l := ⟨h.1, h.2.upd hu hf⟩
theorem OwnB.upd {e : TypeId} {F : Nat → Prop} {w w' : World} {base : Nat} {a : Option Addr} {len cap : Nat} {l : List Int} (h : OwnB e w base a len cap l) (hu : Upd F w w') (hf : ∀ x, a = some x → ¬ F x.block) : OwnB e w' base a len cap l := ⟨h.1, h.2.upd hu hf⟩

/-- The block of a slice. -/
def blk (a : Option Addr) : List Nat := match a with | none => [] | some x => [x.block]
theorem mem_blk {a : Option Addr} {k : Nat} : k ∈ blk a ↔ ∃ x, a = some x ∧ x.block = k := by
  cases a with
  | none => simp [blk]
  | some x => simp [blk]; exact ⟨fun h => h.symm, fun h => h.symm⟩

section
variable {α : Type} {P : Program} {w : World} {ops : Array Oper} {rest : List Oper} {o : Oper} {a : Act} {Q : Exit → Act → World → Prop}
/-- append to what the call owns, and where the answer lies: in the old block or in a new one. -/
theorem wp_appAt {enc : α → Value} {K : Act → World → Prop} {s x : Operand} {t : TypeId} (ho : o.op = .call { callee := .builtin .append, args := #[s, x], argTypes := #[t, t] })
    {base : Nat} {e : TypeId} {bytes : Nat} (hI : OneInfo P t e bytes) {sa xa : Option Addr} {sn sc xn xc : Nat} (hs : a.eval s = .slice sa sn sc) (hx : a.eval x = .slice xa xn xc)
    {l1 l2 : List α} (hown : Own enc e w base sa sn sc l1) (hr : Rd enc w xa xn xc l2) (h1 : ∀ y, (enc y).oneCell' = true)
    (hfit : (sn + xn) * bytes ≤ 140737488355328) (hfit2 : sn + xn ≤ 140737488355328) (hbase : base ≤ w.heap.size)
    (h : ∀ a' c' w', Own enc e w' base a' (sn + xn) c' (l1 ++ l2) → Upd (· ∈ blk sa) w w' → (∀ k ∈ blk a', k ∈ blk sa ∨ w.heap.size ≤ k) → K (a.put o.dst (.slice a' (sn + xn) c')) w') : o.wp P a w K Q := by
  obtain ⟨ht, i, z, hi, hz, hsize, hby, hzs⟩ := hI
  obtain ⟨hl1, how⟩ := hown
  obtain ⟨hl2, hc1, hc2, hcn, hcells⟩ := hr
  have hsrc : (xa = none ∧ xn = 0 ∧ xc = 0) ∨ ∃ ad, xa = some ad ∧ ∀ j y, l2[j]? = some y → w.cell? (ad.add j) = some (enc y) := by
    rcases hcells with h0 | ⟨b, off, rfl, hbk, hc⟩
    · cases xa with
      | none => exact .inl ⟨rfl, h0, hcn rfl⟩
      | some ad =>
        refine .inr ⟨ad, rfl, fun j y hy => ?_⟩
        obtain rfl : l2 = [] := List.eq_nil_of_length_eq_zero (by omega)
        simp at hy
    · exact .inr ⟨_, rfl, fun j y hy => by rw [addr_add]; exact hc j y hy⟩
  rcases hsrc with ⟨rfl, rfl, rfl⟩ | ⟨ad, rfl, hc⟩
  · obtain rfl : l2 = [] := List.eq_nil_of_length_eq_zero hl2
    have hrun := run_append_owned_none (P := P) (w := w) base t o.type e i 1 ht hi _ sn _ how
    have := h sa sc w ⟨by simpa using hl1, by simpa using how⟩ (Upd.refl _ _) (fun k hk => .inl hk)
    unfold Oper.wp
    simp [execOp, ho, resolve, invoke, builtin, hs, hx, hrun, Result.andThen]
    exact this
  · obtain ⟨v', w', hrun, hv', hg, hn, hat⟩ := run_append_own_at (P := P) w base t o.type e i z 1 bytes ht hi hz hsize hby hzs (by decide) _ sn _ how ad xn xc (l2.map enc) (by simpa using hl2) (fun j u hu => by
      rw [List.getElem?_map] at hu
      obtain ⟨y, hy, rfl⟩ := Option.map_eq_some_iff.1 hu
      exact hc j y hy) (fun u hu => by
      obtain ⟨y, _, rfl⟩ := List.mem_map.1 hu
      exact h1 y) (by unfold maxLen; omega) hfit hbase
    have hu : Upd (· ∈ blk sa) w w' := Upd.grown hg (fun k hk => by
      cases sa with
      | none => cases hk
      | some ad' => cases hk; exact List.mem_singleton.2 rfl)
    have hwp : ∀ a' c', v' = .slice a' (sn + xn) c' → o.wp P a w K Q := by
      intro a' c' hv
      subst hv
      have := h a' c' w' ⟨by simp; omega, by rw [← List.map_append] at hv'; exact hv'⟩ hu (fun k hk => by
        obtain ⟨y, rfl, rfl⟩ := mem_blk.1 hk
        rcases hat with hat | hat
        · left
          cases sa with
          | none => cases hat
          | some ad' => simp only [Value.ownBlock, Option.some.injEq] at hat; exact mem_blk.2 ⟨ad', rfl, hat.symm⟩
        · right
          simp only [Value.ownBlock, Option.some.injEq] at hat
          omega)
      unfold Oper.wp
      simp only [execOp, ho, resolve, invoke, builtin, Sem.run_bind, Sem.run_pure, Result.andThen_ok, List.map_toArray, List.map_cons, List.map_nil, hs, hx, hrun]
      exact this
    rcases hv'.2 with ⟨hv, h0⟩ | ⟨g', cap', cur, hv, rest'⟩
    · exact hwp none 0 (by rw [hv, h0])
    · exact hwp _ cap' hv

theorem wpList_appAt {enc : α → Value} (hgd : o.guard = none) {s x : Operand} {t : TypeId} (ho : o.op = .call { callee := .builtin .append, args := #[s, x], argTypes := #[t, t] })
    {base : Nat} {e : TypeId} {bytes : Nat} (hI : OneInfo P t e bytes) {sa xa : Option Addr} {sn sc xn xc : Nat} (hs : a.eval s = .slice sa sn sc) (hx : a.eval x = .slice xa xn xc)
    {l1 l2 : List α} (hown : Own enc e w base sa sn sc l1) (hr : Rd enc w xa xn xc l2) (h1 : ∀ y, (enc y).oneCell' = true)
    (hfit : (sn + xn) * bytes ≤ 140737488355328) (hfit2 : sn + xn ≤ 140737488355328) (hbase : base ≤ w.heap.size)
    (h : ∀ a' c' w', Own enc e w' base a' (sn + xn) c' (l1 ++ l2) → Upd (· ∈ blk sa) w w' → (∀ k ∈ blk a', k ∈ blk sa ∨ w.heap.size ≤ k) → wpList P ops Q rest (a.put o.dst (.slice a' (sn + xn) c')) w') : wpList P ops Q (o :: rest) a w :=
  wpList_plain hgd fun _ hK => wp_appAt ho hI hs hx hown hr h1 hfit hfit2 hbase fun a' c' w' h2 h3 h4 => hK _ _ (h a' c' w' h2 h3 h4)

/-- The same, as a step of a region that draws its order. -/
theorem step_appAt {enc : α → Value} {K : Act → World → Prop} {E : Prop} (hgd : o.guard = none) {s x : Operand} {t : TypeId} (ho : o.op = .call { callee := .builtin .append, args := #[s, x], argTypes := #[t, t] })
    {base : Nat} {e : TypeId} {bytes : Nat} (hI : OneInfo P t e bytes) {sa xa : Option Addr} {sn sc xn xc : Nat} (hs : a.eval s = .slice sa sn sc) (hx : a.eval x = .slice xa xn xc)
    {l1 l2 : List α} (hown : Own enc e w base sa sn sc l1) (hr : Rd enc w xa xn xc l2) (h1 : ∀ y, (enc y).oneCell' = true)
    (hfit : (sn + xn) * bytes ≤ 140737488355328) (hfit2 : sn + xn ≤ 140737488355328) (hbase : base ≤ w.heap.size)
    (h : ∀ a' c' w', Own enc e w' base a' (sn + xn) c' (l1 ++ l2) → Upd (· ∈ blk sa) w w' → (∀ k ∈ blk a', k ∈ blk sa ∨ w.heap.size ≤ k) → K (a.put o.dst (.slice a' (sn + xn) c')) w') :
    if Region.wanted o (yielded ops a.tmps) = true then Oper.wp P o a w K Q else E := by
  have hw : Region.wanted o (yielded ops a.tmps) = true := by simp [Region.wanted, hgd]
  rw [if_pos hw]
  exact wp_appAt ho hI hs hx hown hr h1 hfit hfit2 hbase h
end

theorem below_drew (w : World) : Below w.heap.size w w.drew := ⟨rfl, rfl, rfl, Nat.le_refl _, fun _ _ => rfl⟩
theorem RdB.drewd {w : World} {a : Option Addr} {len cap : Nat} {l : List Int} (h : RdB w a len cap l) : RdB w.drew a len cap l := h.mono (below_drew w)
/-- What was there is there behind new blocks. -/
theorem bcell {B : Nat} {W w1 : World} (hb : Below B W w1) {b o : Nat} {v : Value} (hlt : b < B) (h : W.cell? ⟨b, o, none⟩ = some v) : w1.cell? ⟨b, o, none⟩ = some v := (hb.cell (p := ⟨b, o, none⟩) hlt).trans h
theorem bfree {B : Nat} {W w1 : World} (hb : Below B W w1) {b o : Nat} {v : Bool} (hlt : b < B) (h : W.frozen? ⟨b, o, none⟩ = v) : w1.frozen? ⟨b, o, none⟩ = v := (hb.frozen (p := ⟨b, o, none⟩) hlt).trans h
theorem ucell {F : Nat → Prop} {W w1 : World} (hb : Upd F W w1) {b o : Nat} {v : Value} (hn : ¬ F b) (h : W.cell? ⟨b, o, none⟩ = some v) : w1.cell? ⟨b, o, none⟩ = some v := hb.cell (p := ⟨b, o, none⟩) h hn
theorem ufree {F : Nat → Prop} {W w1 : World} (hb : Upd F W w1) {b o : Nat} {v : Bool} (hlt : b < W.heap.size) (hn : ¬ F b) (h : W.frozen? ⟨b, o, none⟩ = v) : w1.frozen? ⟨b, o, none⟩ = v := (hb.frozen (p := ⟨b, o, none⟩) hlt hn).trans h
theorem below_alloc (w : World) (o : Obj) : Below w.heap.size w (w.alloc o) := (Below.refl _ _).alloc (Nat.le_refl _) o

end Go.Proofs.Ytiobhgemjbjipaa
