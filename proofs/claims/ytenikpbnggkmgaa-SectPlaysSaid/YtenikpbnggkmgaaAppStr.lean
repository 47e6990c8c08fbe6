/- append of a text to what the call owns. No program in sight; conditions stand as premises. -/
import Derived.Test.YtenikpbnggkmgaaLib
import Derived.Lib.AppendStr
namespace Go.Proofs.Ytenikpbnggkmgaa
open Go.ChangeShapes Go.WideShapes Go.ChangeAt Go.RowKit
set_option linter.unusedVariables false

theorem strCells_bstr {l : List Int} (h : IsB l) : Lib.strCells (bstr l) = l.map (Value.int .u8) := by
  unfold Lib.strCells bstr
  rw [List.map_map]
  apply List.map_congr_left
  intro x hx
  have := h x hx
  simp only [Function.comp]
  congr 1
  simp only [UInt8.toNat_ofNat']
  omega
theorem bstr_size (l : List Int) : (bstr l).size = l.length := by
  unfold bstr; simp [ByteArray.size]

section
variable {P : Program} {w : World} {ops : Array Oper} {rest : List Oper} {o : Oper} {a : Act} {Q : Exit → Act → World → Prop}
theorem wpList_appStr (hgd : o.guard = none) {s x : Operand} {t u : TypeId} (ho : o.op = .call { callee := .builtin .append, args := #[s, x], argTypes := #[t, u] }) (hu : P.underlying u = some .string)
    {base : Nat} {e : TypeId} (hI : OneInfo P t e 1) (hz0 : (P.info? e).map (fun i => i.zero) = some (some (.int .u8 0)))
    {sa : Option Addr} {sn sc : Nat} (hs : a.eval s = .slice sa sn sc) {l1 l2 : List Int} (hx : a.eval x = .string (bstr l2)) (hB : IsB l2)
    (hown : Own (Value.int .u8) e w base sa sn sc l1) (hfit : sn + l2.length ≤ 140737488355328) (hbase : base ≤ w.heap.size)
    (h : ∀ a' c' w', Own (Value.int .u8) e w' base a' (sn + l2.length) c' (l1 ++ l2) → Below base w w' → wpList P ops Q rest (a.put o.dst (.slice a' (sn + l2.length) c')) w') : wpList P ops Q (o :: rest) a w := by
  obtain ⟨ht, i, z, hi, hz, hsize, hby, hzs⟩ := hI
  have hze : z = .int .u8 0 := by
    rw [hi] at hz0
    simp only [Option.map_some, Option.some.injEq] at hz0
    rw [hz] at hz0
    exact Option.some.inj hz0
  subst hze
  obtain ⟨hl1, how⟩ := hown
  have hlt := fun k hk => (how.lt k hk).1
  refine Lib.wpList_append_own_string w hgd s x t u ho base e i ht hu hi hz hsize hby _ sn _ hs how (bstr l2) hx (by rw [bstr_size]; unfold maxLen; omega) (by rw [bstr_size]; omega) hbase ?_
  intro v' w' hv' hg hn
  rw [bstr_size, strCells_bstr hB, ← List.map_append] at hv'
  rcases hv'.2 with ⟨rfl, h0⟩ | ⟨g', cap', cur, rfl, rest'⟩
  · have hh := h none 0 w' ⟨by simp; omega, by rw [h0] at hv' ⊢; exact hv'⟩ ((Below.refl _ _).grown hg hbase hlt)
    rw [h0] at hh
    exact hh
  · exact h _ cap' w' ⟨by simp; omega, hv'⟩ ((Below.refl _ _).grown hg hbase hlt)
end
end Go.Proofs.Ytenikpbnggkmgaa
