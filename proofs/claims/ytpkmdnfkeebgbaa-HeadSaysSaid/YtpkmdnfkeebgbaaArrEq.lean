/- Arrays of bytes by value: loads out of the middle of a block, comparison. No program in sight; no condition. -/
import Derived.Test.YtpkmdnfkeebgbaaStruct
import Derived.Deep.MidRow
import Derived.Stop.BytesEq
namespace Go.Proofs.Ytpkmdnfkeebgbaa
open Go.ChangeShapes Go.WideShapes Go.ChangeAt Go.RowKit
open Extern.Stop (cell)
set_option linter.unusedVariables false
set_option linter.unusedSimpArgs false

def u8s (B : List Int) : List UInt8 := B.map fun b => UInt8.ofNat b.toNat
theorem u8s_cells {B : List Int} (h : IsB B) : B.map (Value.int .u8) = (u8s B).map cell := by
  unfold u8s
  rw [List.map_map]
  refine List.map_congr_left fun b hb => ?_
  obtain ⟨h1, h2⟩ := h b hb
  simp only [Function.comp, cell]
  congr 1
  rw [UInt8.toNat_ofNat']
  show b = ((b.toNat % 256 : Nat) : Int)
  omega
theorem u8s_beq {A B : List Int} (hA : IsB A) (hB : IsB B) : (u8s A == u8s B) = decide (A = B) := by
  by_cases h : A = B
  · subst h; simp
  · rw [decide_eq_false h, beq_eq_false_iff_ne]
    exact fun e => h (bytes_inj hA hB e)

/-- A type of so many bytes. -/
def BytesT (P : Program) (t : TypeId) (n : Nat) : Prop := ∃ e, P.underlying t = some (.array n e) ∧ P.underlying e = some (.int .u8) ∧ (∀ w, (sizeOf e).run P w = .ok 1 w) ∧ P.eqGuardType P.depth t = false ∧ (P.info? t).map (·.size) = some n

section
variable {P : Program} {w : World} {ops : Array Oper} {rest : List Oper} {o : Oper} {a : Act} {Q : Exit → Act → World → Prop}
theorem run_equalIn_B {t : TypeId} {n : Nat} (hT : BytesT P t n) (d : Nat) {A B : List Int} (hA : IsB A) (hB : IsB B) (la : A.length = n) (lb : B.length = n) (w : World) :
    (Op.equalIn (d + 2) t (.agg (A.map (Value.int .u8)).toArray) (.agg (B.map (Value.int .u8)).toArray)).run P w = .ok (decide (A = B)) w := by
  obtain ⟨e, ht, he, hsz, _, _⟩ := hT
  rw [u8s_cells hA, u8s_cells hB, run_equalIn_bytes w d t e n ht he hsz _ _ (by simp [u8s, la]) (by simp [u8s, lb]), u8s_beq hA hB]
theorem wp_neqB {K : Act → World → Prop} {t t2 : TypeId} {x y : Operand} (ho : o.op = .binOp .neq t x y t2) {n : Nat} (hT : BytesT P t n) {A B : List Int} (hA : IsB A) (hB : IsB B) (la : A.length = n) (lb : B.length = n)
    (hx : a.eval x = .agg (A.map (Value.int .u8)).toArray) (hy : a.eval y = .agg (B.map (Value.int .u8)).toArray) (h : K (a.put o.dst (.bool (!decide (A = B)))) w) : o.wp P a w K Q := by
  have h1 := run_equalIn_B hT 9998 hA hB la lb w
  obtain ⟨e, ht, he, hsz, hg, _⟩ := hT
  unfold Oper.wp execOp
  simp only [ho, hx, hy, Sem.run_bind, run_eqGuard_agg _ _ _ _ _ _ _ hg, Result.andThen_ok, run_neq_struct, h1, Sem.run_pure]
  exact h
theorem wp_eqlB {K : Act → World → Prop} {t t2 : TypeId} {x y : Operand} (ho : o.op = .binOp .eql t x y t2) {n : Nat} (hT : BytesT P t n) {A B : List Int} (hA : IsB A) (hB : IsB B) (la : A.length = n) (lb : B.length = n)
    (hx : a.eval x = .agg (A.map (Value.int .u8)).toArray) (hy : a.eval y = .agg (B.map (Value.int .u8)).toArray) (h : K (a.put o.dst (.bool (decide (A = B)))) w) : o.wp P a w K Q := by
  have h1 := run_equalIn_B hT 9998 hA hB la lb w
  obtain ⟨e, ht, he, hsz, hg, _⟩ := hT
  unfold Oper.wp execOp
  simp only [ho, hx, hy, Sem.run_bind, run_eqGuard_agg _ _ _ _ _ _ _ hg, Result.andThen_ok, run_eql_struct, h1, Sem.run_pure]
  exact h
theorem wpList_neqBG (hw : Region.wanted o (yielded ops a.tmps) = true) {t t2 : TypeId} {x y : Operand} (ho : o.op = .binOp .neq t x y t2) {n : Nat} (hT : BytesT P t n) {A B : List Int} (hA : IsB A) (hB : IsB B) (la : A.length = n) (lb : B.length = n)
    (hx : a.eval x = .agg (A.map (Value.int .u8)).toArray) (hy : a.eval y = .agg (B.map (Value.int .u8)).toArray) (h : wpList P ops Q rest (a.put o.dst (.bool (!decide (A = B)))) w) : wpList P ops Q (o :: rest) a w :=
  BigFrame.wpList_want hw fun _ hK => wp_neqB ho hT hA hB la lb hx hy (hK _ _ h)
theorem wpList_neqB (hgd : o.guard = none) {t t2 : TypeId} {x y : Operand} (ho : o.op = .binOp .neq t x y t2) {n : Nat} (hT : BytesT P t n) {A B : List Int} (hA : IsB A) (hB : IsB B) (la : A.length = n) (lb : B.length = n)
    (hx : a.eval x = .agg (A.map (Value.int .u8)).toArray) (hy : a.eval y = .agg (B.map (Value.int .u8)).toArray) (h : wpList P ops Q rest (a.put o.dst (.bool (!decide (A = B)))) w) : wpList P ops Q (o :: rest) a w :=
  wpList_plain hgd fun _ hK => wp_neqB ho hT hA hB la lb hx hy (hK _ _ h)
theorem wpList_eqlBG (hw : Region.wanted o (yielded ops a.tmps) = true) {t t2 : TypeId} {x y : Operand} (ho : o.op = .binOp .eql t x y t2) {n : Nat} (hT : BytesT P t n) {A B : List Int} (hA : IsB A) (hB : IsB B) (la : A.length = n) (lb : B.length = n)
    (hx : a.eval x = .agg (A.map (Value.int .u8)).toArray) (hy : a.eval y = .agg (B.map (Value.int .u8)).toArray) (h : wpList P ops Q rest (a.put o.dst (.bool (decide (A = B)))) w) : wpList P ops Q (o :: rest) a w :=
  BigFrame.wpList_want hw fun _ hK => wp_eqlB ho hT hA hB la lb hx hy (hK _ _ h)
theorem wpList_eqlB (hgd : o.guard = none) {t t2 : TypeId} {x y : Operand} (ho : o.op = .binOp .eql t x y t2) {n : Nat} (hT : BytesT P t n) {A B : List Int} (hA : IsB A) (hB : IsB B) (la : A.length = n) (lb : B.length = n)
    (hx : a.eval x = .agg (A.map (Value.int .u8)).toArray) (hy : a.eval y = .agg (B.map (Value.int .u8)).toArray) (h : wpList P ops Q rest (a.put o.dst (.bool (decide (A = B)))) w) : wpList P ops Q (o :: rest) a w :=
  wpList_plain hgd fun _ hK => wp_eqlB ho hT hA hB la lb hx hy (hK _ _ h)

theorem BytesT.row {t : TypeId} {n : Nat} (hT : BytesT P t n) : ∃ d, P.underlying t = some d ∧ d.isRow = true ∧ (P.info? t).map (·.size) = some n := by
  obtain ⟨e, ht, _, _, _, hi⟩ := hT
  exact ⟨_, ht, rfl, hi⟩
/-- The bytes lie there. -/
def AtB (w : World) (b o : Nat) (B : List Int) : Prop := w.rangeAt b o (B.map (Value.int .u8))
theorem wp_loadB {K : Act → World → Prop} {t : TypeId} {x : Operand} (ho : o.op = .load t x) {n : Nat} (hT : BytesT P t n) {b off : Nat} {B : List Int} (hx : a.eval x = .pointer (some ⟨b, off, none⟩)) (hc : AtB w b off B) (lb : B.length = n)
    (h : K (a.put o.dst (.agg (B.map (Value.int .u8)).toArray)) w) : o.wp P a w K Q := by
  obtain ⟨d, hu, hd, hi⟩ := hT.row
  exact wp_load_mid t x ho b off hx _ d hc hu hd (by rw [hi, List.length_map, lb]) h
theorem wpList_loadB (hgd : o.guard = none) {t : TypeId} {x : Operand} (ho : o.op = .load t x) {n : Nat} (hT : BytesT P t n) {b off : Nat} {B : List Int} (hx : a.eval x = .pointer (some ⟨b, off, none⟩)) (hc : AtB w b off B) (lb : B.length = n)
    (h : wpList P ops Q rest (a.put o.dst (.agg (B.map (Value.int .u8)).toArray)) w) : wpList P ops Q (o :: rest) a w :=
  wpList_plain hgd fun _ hK => wp_loadB ho hT hx hc lb (hK _ _ h)
theorem wpList_loadBG (hw : Region.wanted o (yielded ops a.tmps) = true) {t : TypeId} {x : Operand} (ho : o.op = .load t x) {n : Nat} (hT : BytesT P t n) {b off : Nat} {B : List Int} (hx : a.eval x = .pointer (some ⟨b, off, none⟩)) (hc : AtB w b off B) (lb : B.length = n)
    (h : wpList P ops Q rest (a.put o.dst (.agg (B.map (Value.int .u8)).toArray)) w) : wpList P ops Q (o :: rest) a w :=
  BigFrame.wpList_want hw fun _ hK => wp_loadB ho hT hx hc lb (hK _ _ h)
end
theorem row_range {w : World} {S o : Nat} {cs : Array Value} {T : TypeId} (h : w.heap[S]? = some (.cells cs T (0, 0))) (B : List Int) (hB : ∀ (j : Nat) (v : Value), (B.map (Value.int .u8))[j]? = some v → cs[o + j]? = some v) : AtB w S o B :=
  fun j v hv => cell_of_heap h (o + j) v (hB j v hv)
end Go.Proofs.Ytpkmdnfkeebgbaa
