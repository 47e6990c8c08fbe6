/- What SameBytes computes: whether two slices read alike. Conditions stand as premises. -/
import Derived.Test.YtpkmdnfkeebgbaaLib
namespace Go.Proofs.Ytpkmdnfkeebgbaa
open Go.ChangeShapes Go.WideShapes Go.ChangeAt Go.RowKit
set_option linter.unusedVariables false

/-! ### SameBytes -/
theorem same_any (a1 a2 : Option Addr) (n1 c1 n2 c2 : Nat) (l1 l2 : List Int) (w : World) (h1 : RdB w a1 n1 c1 l1) (h2 : RdB w a2 n2 c2 l2) :
    Calls Try.prog 13 #[.slice a1 n1 c1, .slice a2 n2 c2] w fun e w' => e = .returned (.bool (decide (l1 = l2))) ∧ w = w' := by
  have H := Lib.hid (bstr_same h1.1 h2.1)
  go_enter Try.func13, Try.ntmps13
  go_wp2_with (first | (with_reducible refine wpList_bytesString rfl rfl Try.underlying22 Try.underlying5 Try.underlying9 rfl h1 ?_) | (with_reducible refine wpList_bytesString rfl rfl Try.underlying22 Try.underlying5 Try.underlying9 rfl h2 ?_))
  go_ret
  exact ⟨ret_bool H.out, rfl⟩

end Go.Proofs.Ytpkmdnfkeebgbaa
