/- The document's own Read at any place of any bytes. Conditions stand as premises. -/
import Derived.Test.YtojjgagcpkjkaaaObjAny
import Derived.Test.YtojjgagcpkjkaaaRefRead
namespace Go.Proofs.Ytojjgagcpkjkaaa
open Go.ChangeShapes Go.WideShapes Go.ChangeAt Go.RowKit
set_option linter.unusedVariables false

theorem refread_any (p : Int) (a : Option Addr) (n c : Nat) (l : List Int) (w : World) (hr : RdB w a n c l) (hn : n ≤ 140737488351232) (h0 : 0 ≤ p) (h1 : p ≤ 18446744073709551615) :
    Calls Try.prog 49 #[.slice a n c, .int .u64 p] w fun e w' => e = .returned (.tuple #[readV l p, .int .i64 (readC l p)]) ∧ Below w.heap.size w w' := by
  have hl := hr.len
  cases h8 : (p % 8 != 0) with
  | true =>
    have e1 : readC l p = 3 := readC_align h8
    rw [readV_no (by rw [e1]; decide), e1]
    exact refread_align p (.bool true) a n c w h0 h8 hn
  | false =>
    by_cases hg : (n : Int) < p ∨ (n : Int) - p < 16
    · have e1 : readC l p = 2 := readC_range h8 (by rw [hl]; exact hg)
      rw [readV_no (by rw [e1]; decide), e1]
      exact refread_range p a n c w h0 h1 h8 hn hg
    · obtain ⟨q, rfl⟩ : ∃ q : Nat, p = q := ⟨p.toNat, by omega⟩
      exact refread_in q a n c l w hr h8 hn (by omega)
end Go.Proofs.Ytojjgagcpkjkaaa
