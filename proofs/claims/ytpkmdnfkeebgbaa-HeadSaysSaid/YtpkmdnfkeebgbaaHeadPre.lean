/- What bytes.Equal and bytes.HasPrefix compute at a prefix of eight bytes. Conditions stand as premises. -/
import Derived.Test.YtpkmdnfkeebgbaaHeadParse
import Derived.Test.YtpkmdnfkeebgbaaRows2
namespace Go.Proofs.Ytpkmdnfkeebgbaa
open Go.ChangeShapes Go.WideShapes Go.ChangeAt Go.RowKit
set_option linter.unusedVariables false
set_option linter.unusedSimpArgs false

theorem equal_any (a1 a2 : Option Addr) (n1 c1 n2 c2 : Nat) (l1 l2 : List Int) (w : World) (h1 : RdB w a1 n1 c1 l1) (h2 : RdB w a2 n2 c2 l2) :
    Calls Try.prog 31 #[.slice a1 n1 c1, .slice a2 n2 c2] w fun e w' => e = .returned (.bool (decide (l1 = l2))) ∧ w = w' := by
  have H := Lib.hid (bstr_same h1.1 h2.1)
  go_enter Try.func31, Try.ntmps31
  go_wp2_with (first | (with_reducible refine wpList_bytesString rfl rfl Try.underlying22 Try.underlying5 Try.underlying9 rfl h1 ?_) | (with_reducible refine wpList_bytesString rfl rfl Try.underlying22 Try.underlying5 Try.underlying9 rfl h2 ?_))
  go_ret
  exact ⟨ret_bool H.out, rfl⟩
theorem prefix_any (a1 a2 : Option Addr) (n1 c1 c2 : Nat) (l1 l2 : List Int) (w : World) (h1 : RdB w a1 n1 c1 l1) (h2 : RdB w a2 8 c2 l2) (hn : 8 ≤ n1) (hm : n1 ≤ 1000000) :
    Calls Try.prog 19 #[.slice a1 n1 c1, .slice a2 8 c2] w fun e w' => e = .returned (.bool (decide (l1.take 8 = l2))) ∧ w = w' := by
  have hd : decide ((8 : Int) ≤ (n1 : Int)) = true := by simp; omega
  have hd2 : (8 : Int) ≤ (n1 : Int) := by omega
  have hd3 : ¬ ((c1 : Int) < 8) := by have := h1.2.2.1; omega
  go_enter Try.func19, Try.ntmps19
  go_wp2_with (go_at_call 31; go_must (refine (equal_any a1 a2 8 _ 8 c2 _ l2 w (h1.take 8 hn) h2).mono ?_); rintro e w' ⟨rfl, rfl⟩)
  go_ret
  exact ⟨rfl, rfl⟩
end Go.Proofs.Ytpkmdnfkeebgbaa
