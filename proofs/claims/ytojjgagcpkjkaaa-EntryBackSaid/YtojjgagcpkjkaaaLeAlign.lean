/- What le.Align computes. Conditions stand as premises. -/
import Derived.Test.YtojjgagcpkjkaaaLib
namespace Go.Proofs.Ytojjgagcpkjkaaa
open Go.ChangeShapes Go.WideShapes Go.ChangeAt Go.RowKit
set_option linter.unusedVariables false

/-! ### Align -/
theorem align_no (v : Int) (h0 : 0 ≤ v) (h1 : 18446744073709551608 < v) (w : World) :
    Calls Try.prog 45 #[.int .u64 v] w fun e w' => e = .returned (.tuple #[.int .u64 0, .bool false]) ∧ w = w' := by
  go_enter Try.func45, Try.ntmps45
  go_wp2
  go_ret2
  exact ⟨rfl, rfl⟩

theorem u64_up8 (v : Int) (h0 : 0 ≤ v) (h1 : v ≤ 18446744073709551608) : bits .andNot .u64 (v + 7) 7 = (v + 7) / 8 * 8 := by
  rw [u64_andNot _ _ (by omega) (by omega) (by omega) (by omega)]
  obtain ⟨n, rfl⟩ := Int.eq_ofNat_of_zero_le h0
  have e : ((n : Int) + 7).toNat = n + 7 := by omega
  have e2 : (18446744073709551615 - (7 : Int).toNat) = 18446744073709551608 := by decide
  rw [e, e2, nat_hi64_3]
  omega

theorem align_yes (v : Int) (h0 : 0 ≤ v) (h1 : v ≤ 18446744073709551608) (w : World) :
    Calls Try.prog 45 #[.int .u64 v] w fun e w' => e = .returned (.tuple #[.int .u64 ((v + 7) / 8 * 8), .bool true]) ∧ w = w' := by
  have H := Lib.hid (u64_up8 v h0 h1)
  go_enter Try.func45, Try.ntmps45
  go_wp2
  go_ret2
  rw [H.out]
  exact ⟨rfl, rfl⟩

def alignA (v : Int) : Int := if v ≤ 18446744073709551608 then (v + 7) / 8 * 8 else 0
def alignB (v : Int) : Bool := decide (v ≤ 18446744073709551608)

theorem align_any (v : Int) (h0 : 0 ≤ v) (w : World) :
    Calls Try.prog 45 #[.int .u64 v] w fun e w' => e = .returned (.tuple #[.int .u64 (alignA v), .bool (alignB v)]) ∧ w = w' := by
  unfold alignA alignB
  by_cases h : v ≤ 18446744073709551608
  · rw [if_pos h, decide_eq_true h]; exact align_yes v h0 h w
  · rw [if_neg h, decide_eq_false h]; exact align_no v h0 (by omega) w

end Go.Proofs.Ytojjgagcpkjkaaa
