/- Cuts and texts as steps of a region that only reads. No program in sight; conditions stand as premises. -/
import Derived.Test.YtenikpbnggkmgaaSectR
namespace Go.Proofs.Ytenikpbnggkmgaa
open Go.ChangeShapes Go.WideShapes Go.ChangeAt Go.RowKit
set_option linter.unusedVariables false

section
variable {P : Program} {ops : Array Oper} {rest : List Oper} {o : Oper} {a : Act} {C : World → Prop} {Q : Act → Prop}

theorem quiet_cut (hw : Region.wanted o (yielded ops a.tmps) = true) {t : TypeId} {x lo hi : Operand} (ho : o.op = .slice t x (some lo) (some hi) none)
    {e : TypeId} {bytes : Nat} (hI : OneInfo P t e bytes) {xa : Option Addr} {xn xc : Nat} (hx : a.eval x = .slice xa xn xc) {kl kh : IntKind} {il ih : Int} (hlo : a.eval lo = .int kl il) (hhi : a.eval hi = .int kh ih)
    (h0 : 0 ≤ il) (h1 : il ≤ ih) (h2 : ih ≤ xc)
    (h : wpQuiet P ops C Q rest (a.put o.dst (.slice (cutA xa xc il.toNat) (ih.toNat - il.toNat) (xc - il.toNat)))) : wpQuiet P ops C Q (o :: rest) a := by
  have ht : P.underlying t = some (.slice (P.elem t)) := by rw [elem_of hI.1]; exact hI.1
  unfold wpQuiet
  rw [if_pos hw]
  refine ⟨_, fun w _ => ?_, h⟩
  have hrun := run_slice_lh (P := P) (w := w) t xa xn xc ht kl kh il ih h0 h1 (by omega)
  rw [sizeOf_one hI] at hrun
  have hat := run_sliceAt_slice (P := P) (w := w) t (.slice xa xn xc) (some (.int kl il)) (some (.int kh ih)) none ht
  unfold Oper.quietAt
  simp only [execOp, ho, hx, hlo, hhi, Option.map_some, Option.map_none, Sem.run_bind, hat, hrun, Result.andThen, Sem.run_pure, sliced, Nat.mul_one]
  exact ⟨rfl, rfl⟩

/-- The same, its address and what it reads as under names. -/
theorem quiet_cutE (hw : Region.wanted o (yielded ops a.tmps) = true) {t : TypeId} {x lo hi : Operand} (ho : o.op = .slice t x (some lo) (some hi) none)
    {e : TypeId} {bytes : Nat} (hI : OneInfo P t e bytes) {xa : Option Addr} {xn xc : Nat} (hx : a.eval x = .slice xa xn xc) {kl kh : IntKind} {il ih : Int} (hlo : a.eval lo = .int kl il) (hhi : a.eval hi = .int kh ih)
    (l L : List Int) (hl : l.length = xn) (hc : xn ≤ xc) (h0 : 0 ≤ il) (h1 : il ≤ ih) (h2 : ih ≤ xn) (hL : (l.drop il.toNat).take (ih.toNat - il.toNat) = L)
    (h : ∀ A c, (∀ w, RdB w xa xn xc l → RdB w A L.length c L) → wpQuiet P ops C Q rest (a.put o.dst (.slice A L.length c))) : wpQuiet P ops C Q (o :: rest) a := by
  refine quiet_cut hw ho hI hx hlo hhi h0 h1 (by omega) ?_
  have hn : ih.toNat - il.toNat = L.length := by rw [← hL]; simp; omega
  rw [hn]
  refine h _ _ (fun w hr => ?_)
  have := cutA_rd hr il.toNat ih.toNat (by omega) (by omega)
  rw [hn] at this
  rw [hn] at hL
  rwa [hL] at this

theorem quiet_str (hw : Region.wanted o (yielded ops a.tmps) = true) {src dst : TypeId} {x : Operand} (ho : o.op = .convert src dst x)
    {e : TypeId} (hs : P.underlying src = some (.slice e)) (he : P.underlying e = some (.int .u8)) (hd : P.underlying dst = some .string)
    {xa : Option Addr} {xn xc : Nat} (hx : a.eval x = .slice xa xn xc) {l : List Int} (hr : ∀ w, C w → RdB w xa xn xc l)
    (h : wpQuiet P ops C Q rest (a.put o.dst (.string (bstr l)))) : wpQuiet P ops C Q (o :: rest) a := by
  unfold wpQuiet
  rw [if_pos hw]
  refine ⟨_, fun w hC => ?_, h⟩
  have hc := run_bytesStr (P := P) (w := w) hs he hd (hr w hC)
  unfold Oper.quietAt
  simp only [execOp, ho, hx, Sem.run_bind, hc, Result.andThen, Sem.run_pure]
  exact ⟨rfl, rfl⟩
end
end Go.Proofs.Ytenikpbnggkmgaa
