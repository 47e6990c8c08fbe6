/- What came in: a name of sixteen bytes, by value. Conditions stand as premises. -/
import Derived.Test.YtojjgagcpkjkaaaOpen
namespace Go.Proofs.Ytojjgagcpkjkaaa
open Go.ChangeShapes Go.WideShapes Go.ChangeAt Go.RowKit
set_option linter.unusedVariables false

theorem okWide_array {P : Program} {w : World} {r : Reach} {base n : Nat} {t e : TypeId} {v : Value} (ht : P.underlying t = some (.array n e)) (h : Value.okWide P w r base t v) : ∃ cs, v = .agg cs ∧ cs.size = P.cellsOf t := by
  simp only [Value.okWide, ht] at h
  obtain ⟨cs, h1, h2, _⟩ := h
  exact ⟨cs, h1, h2⟩
set_option maxRecDepth 100000 in
theorem idV_open {H : Type} {enc : TypeId × Value → H} {w : World} {base : Nat} {spare : Nat → Bool} {held : Bool} {r : Reach} {b0 : Nat} {v : Value} {d : DataW H} {p : List MemPlace}
    (hv : Value.okWide Try.prog w r b0 29 v) (h : DataW.Trod enc Try.prog w base spare held 29 v d p) : ∃ B : List Int, v = .agg (B.map (Value.int .u8)).toArray ∧ IsB B ∧ B.length = 16 := by
  obtain ⟨cs, rfl, hsz⟩ := okWide_array Try.underlying29 hv
  obtain ⟨fuel, hf⟩ := h
  obtain ⟨B, e, hB, hl⟩ := bytes_open Try.underlying29 Try.underlying5 (by kernel_rfl) (by kernel_rfl) hf
  refine ⟨B, ?_, hB, hl⟩
  obtain ⟨l⟩ := cs
  simp only [Value.cells] at e
  rw [e]
end Go.Proofs.Ytojjgagcpkjkaaa
