/- What le.size computes: which sizes a number may have. No condition. -/
import Derived.Test.YtpkmdnfkeebgbaaLib
namespace Go.Proofs.Ytpkmdnfkeebgbaa
open Go.ChangeShapes Go.WideShapes Go.ChangeAt Go.RowKit
set_option linter.unusedVariables false

/-! ### size -/
def okSize (n : Int) : Bool := n == 1 || n == 2 || n == 4 || n == 8
theorem okSize_cases {n : Int} (h : okSize n = true) : n = 1 ∨ n = 2 ∨ n = 4 ∨ n = 8 := by
  simpa [okSize, or_assoc] using h

theorem size_any (n : Int) (w : World) :
    Calls Try.prog 38 #[.int .i64 n] w fun e w' => e = .returned (.bool (okSize n)) ∧ w = w' := by
  go_enter Try.func38, Try.ntmps38
  go_wp2
  all_goals
    go_ret
    exact ⟨by simp [okSize, *], rfl⟩

theorem okSize_no {n : Int} (h : okSize n = false) : (n != 1) = true ∧ (n != 2) = true ∧ (n != 4) = true ∧ (n != 8) = true := by
  simp only [okSize, Bool.or_eq_false_iff] at h
  obtain ⟨⟨⟨h1, h2⟩, h3⟩, h4⟩ := h
  exact ⟨by rw [bne, h1]; rfl, by rw [bne, h2]; rfl, by rw [bne, h3]; rfl, by rw [bne, h4]; rfl⟩

end Go.Proofs.Ytpkmdnfkeebgbaa
