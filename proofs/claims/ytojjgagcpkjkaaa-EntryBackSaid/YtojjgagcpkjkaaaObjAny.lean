/- obj.Read at any place of any bytes. Conditions stand as premises. -/
import Derived.Test.YtojjgagcpkjkaaaObjRead
namespace Go.Proofs.Ytojjgagcpkjkaaa
open Go.ChangeShapes Go.WideShapes Go.ChangeAt Go.RowKit
set_option linter.unusedVariables false

theorem readC_align {l : List Int} {p : Int} (h : (p % 8 != 0) = true) : readC l p = 3 := by
  unfold readC; rw [if_pos (by simpa using h)]
theorem readC_range {l : List Int} {p : Int} (h : (p % 8 != 0) = false) (hr : (l.length : Int) < p ∨ (l.length : Int) - p < 16) : readC l p = 2 := by
  unfold readC; rw [if_neg (by simpa using h), if_pos hr]
theorem readV_no {l : List Int} {p : Int} (h : readC l p ≠ 0) : readV l p = frameV 0 0 := by
  unfold readV; rw [if_neg h]

theorem objread_any (p : Int) (a : Option Addr) (n c : Nat) (l : List Int) (w : World) (hr : RdB w a n c l) (hn : n ≤ 140737488351232) (h0 : 0 ≤ p) (h1 : p ≤ 18446744073709551615) :
    Calls Try.prog 47 #[.slice a n c, .int .u64 p] w fun e w' => e = .returned (.tuple #[readV l p, .int .i64 (readC l p)]) ∧ Below w.heap.size w w' := by
  have hl := hr.len
  cases h8 : (p % 8 != 0) with
  | true =>
    have e1 : readC l p = 3 := readC_align h8
    rw [readV_no (by rw [e1]; decide), e1]
    exact objread_align p (.bool true) a n c w h0 h8 hn
  | false =>
    by_cases hg : (n : Int) < p ∨ (n : Int) - p < 16
    · have e1 : readC l p = 2 := readC_range h8 (by rw [hl]; exact hg)
      rw [readV_no (by rw [e1]; decide), e1]
      exact objread_range p a n c w h0 h1 h8 hn hg
    · obtain ⟨q, rfl⟩ : ∃ q : Nat, p = q := ⟨p.toNat, by omega⟩
      exact objread_in q a n c l w hr h8 hn (by omega)
end Go.Proofs.Ytojjgagcpkjkaaa
