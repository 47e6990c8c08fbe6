/- A cut as a step of a region that draws its order. Conditions stand as premises. -/
import Derived.Test.YtfhpdhfhahbfnaaUpd
namespace Go.Proofs.Ytfhpdhfhahbfnaa
open Go.ChangeShapes Go.WideShapes Go.ChangeAt Go.RowKit
set_option linter.unusedVariables false

section
variable {α : Type} {P : Program} {w : World} {ops : Array Oper} {rest : List Oper} {o : Oper} {a : Act} {Q : Exit → Act → World → Prop}

/-- A cut from a place on, as a step of a region that draws its order. -/
theorem step_cutL {enc : α → Value} {K : Act → World → Prop} {E : Prop} (hgd : o.guard = none) {t : TypeId} {x lo : Operand} (ho : o.op = .slice t x (some lo) none none)
    {e : TypeId} {bytes : Nat} (hI : OneInfo P t e bytes) {xa : Option Addr} {xn xc : Nat} (hx : a.eval x = .slice xa xn xc) {kl : IntKind} {il : Int} (hlo : a.eval lo = .int kl il)
    {l : List α} (hr : Rd enc w xa xn xc l) (h0 : 0 ≤ il) (h1 : il ≤ xn)
    (h : ∀ a', Rd enc w a' (xn - il.toNat) (xc - il.toNat) (l.drop il.toNat) → (∀ w', Rd enc w' xa xn xc l → Rd enc w' a' (xn - il.toNat) (xc - il.toNat) (l.drop il.toNat)) →
      K (a.put o.dst (.slice a' (xn - il.toNat) (xc - il.toNat))) w) :
    if Region.wanted o (yielded ops a.tmps) = true then Oper.wp P o a w K Q else E := by
  have hw : Region.wanted o (yielded ops a.tmps) = true := by simp [Region.wanted, hgd]
  rw [if_pos hw]
  exact wp_cutL ho hI hx hlo hr h0 h1 h

/-- append, its slot named. -/
theorem step_appOwnD {enc : α → Value} {K : Act → World → Prop} {E : Prop} {d : Option Nat} (hd : o.dst = d) (hgd : o.guard = none) {s x : Operand} {t : TypeId} (ho : o.op = .call { callee := .builtin .append, args := #[s, x], argTypes := #[t, t] })
    {base : Nat} {e : TypeId} {bytes : Nat} (hI : OneInfo P t e bytes) {sa xa : Option Addr} {sn sc xn xc : Nat} (hs : a.eval s = .slice sa sn sc) (hx : a.eval x = .slice xa xn xc)
    {l1 l2 : List α} (hown : Own enc e w base sa sn sc l1) (hr : Rd enc w xa xn xc l2) (h1 : ∀ y, (enc y).oneCell' = true)
    (hfit : (sn + xn) * bytes ≤ 140737488355328) (hfit2 : sn + xn ≤ 140737488355328) (hbase : base ≤ w.heap.size)
    (h : ∀ a' c' w', Own enc e w' base a' (sn + xn) c' (l1 ++ l2) → Below base w w' → K (a.put d (.slice a' (sn + xn) c')) w') :
    if Region.wanted o (yielded ops a.tmps) = true then Oper.wp P o a w K Q else E := by
  subst hd
  exact step_appOwn hgd ho hI hs hx hown hr h1 hfit hfit2 hbase (fun a' c' w' h2 h3 _ _ => h a' c' w' h2 h3)

/-- make of n elements, as a step of a region that draws its order. -/
theorem step_makeOwn {enc : α → Value} (x0 : α) {K : Act → World → Prop} {E : Prop} (hgd : o.guard = none) {l c : Operand} {t : TypeId} (hop : o.op = Op.makeSlice t l c)
    {base : Nat} {e : TypeId} {bytes : Nat} (hI : OneInfo P t e bytes) (hz0 : (P.info? e).map (fun i => i.zero) = some (some (enc x0))) (h1 : (enc x0).cells = #[enc x0])
    {kl kc : IntKind} {L C : Int} {n : Nat} (hl : a.eval l = .int kl L) (hc : a.eval c = .int kc C) (hL : L = (n : Int)) (hC : C = (n : Int)) (b2 : bytes * n ≤ 281474976710656) (b3 : n ≤ 281474976710656) (b4 : base ≤ w.heap.size)
    (h : ∀ w', Own enc e w' base (some ⟨w.heap.size, 0, none⟩) n n (List.replicate n x0) → Below base w w' → w.grownBy w' none → K (a.put o.dst (.slice (some ⟨w.heap.size, 0, none⟩) n n)) w') :
    if Region.wanted o (yielded ops a.tmps) = true then Oper.wp P o a w K Q else E := by
  have hw : Region.wanted o (yielded ops a.tmps) = true := by simp [Region.wanted, hgd]
  rw [if_pos hw]
  obtain ⟨ht, i, z, hi, hz, hsize, hby, hzs⟩ := hI
  have hze : z = enc x0 := by
    rw [hi] at hz0
    simp only [Option.map_some, Option.some.injEq] at hz0
    rw [hz] at hz0
    exact Option.some.inj hz0
  subst hze
  obtain ⟨w', hrun, r1, r2⟩ := run_make_full (P := P) w base t e i (enc x0) 1 ht hi hz hsize kl kc n (by rw [hby]; exact b2) (by unfold maxLen; omega) b4
  subst hL
  subst hC
  rw [h1, Nat.mul_one, toList_madeCells_one] at r1
  unfold Oper.wp
  simp [execOp, hop, hl, hc, hrun, Result.andThen]
  exact h w' ⟨by simp, by rw [List.map_replicate]; exact r1⟩ ((Below.refl _ _).grown r2 b4 (fun k hk => by cases hk)) r2
/-- make of n elements, its slot named. -/
theorem step_makeOwnD {enc : α → Value} (x0 : α) {K : Act → World → Prop} {E : Prop} {d : Option Nat} (hd : o.dst = d) (hgd : o.guard = none) {l c : Operand} {t : TypeId} (hop : o.op = Op.makeSlice t l c)
    {base : Nat} {e : TypeId} {bytes : Nat} (hI : OneInfo P t e bytes) (hz0 : (P.info? e).map (fun i => i.zero) = some (some (enc x0))) (h1 : (enc x0).cells = #[enc x0])
    {kl kc : IntKind} {L C : Int} {n : Nat} (hl : a.eval l = .int kl L) (hc : a.eval c = .int kc C) (hL : L = (n : Int)) (hC : C = (n : Int)) (b2 : bytes * n ≤ 281474976710656) (b3 : n ≤ 281474976710656) (b4 : base ≤ w.heap.size)
    (h : ∀ w', Own enc e w' base (some ⟨w.heap.size, 0, none⟩) n n (List.replicate n x0) → Below base w w' → K (a.put d (.slice (some ⟨w.heap.size, 0, none⟩) n n)) w') :
    if Region.wanted o (yielded ops a.tmps) = true then Oper.wp P o a w K Q else E := by
  subst hd
  exact step_makeOwn x0 hgd hop hI hz0 h1 hl hc hL hC b2 b3 b4 (fun w' h2 h3 _ => h w' h2 h3)
end
end Go.Proofs.Ytfhpdhfhahbfnaa
