/- What Number computes: a number brought below another one. Conditions stand as premises. -/
import Derived.Test.YtojjgagcpkjkaaaLib
namespace Go.Proofs.Ytojjgagcpkjkaaa
open Go.ChangeShapes Go.WideShapes Go.ChangeAt Go.RowKit
set_option linter.unusedVariables false

/-! ### Number -/
theorem number_low (n b : Int) (h : b < 1) (w : World) :
    Calls Try.prog 26 #[.int .i64 n, .int .i64 b] w fun e w' => e = .returned (.int .i64 0) ∧ w = w' := by
  go_enter Try.func26, Try.ntmps26
  go_wp2
  go_ret
  exact ⟨rfl, rfl⟩

theorem tmod_bd (n b : Int) (h : 1 ≤ b) : -b < n.tmod b ∧ n.tmod b < b := by
  have h1 := Int.tmod_lt_of_pos n (show 0 < b by omega)
  have h2 := Int.lt_tmod_of_pos n (show 0 < b by omega)
  omega
theorem tmod_fix (n b : Int) (h : 1 ≤ b) : (n.tmod b + b) % b = n % b := by
  rw [Int.add_emod_right]
  have h3 := Int.mul_tdiv_add_tmod n b
  conv => rhs; rw [← h3]
  rw [Int.mul_add_emod_self_left]

theorem number_yes (n b : Int) (h : 1 ≤ b) (h2 : b ≤ 4000000000000000000) (w : World) :
    Calls Try.prog 26 #[.int .i64 n, .int .i64 b] w fun e w' => e = .returned (.int .i64 (n % b)) ∧ w = w' := by
  have h3 := tmod_bd n b h
  have H := Lib.hid (tmod_fix n b h)
  go_enter Try.func26, Try.ntmps26
  go_wp2
  go_ret
  exact ⟨ret_int H.out, rfl⟩

theorem number_nat (n b : Int) (k : Nat) (hk : n % b = k) (h : 1 ≤ b) (h2 : b ≤ 4000000000000000000) (w : World) :
    Calls Try.prog 26 #[.int .i64 n, .int .i64 b] w fun e w' => e = .returned (.int .i64 k) ∧ w = w' := by
  have := number_yes n b h h2 w
  rwa [hk] at this

theorem number_int (n b k : Int) (hk : n % b = k) (h : 1 ≤ b) (h2 : b ≤ 4000000000000000000) (w : World) :
    Calls Try.prog 26 #[.int .i64 n, .int .i64 b] w fun e w' => e = .returned (.int .i64 k) ∧ w = w' := by
  have := number_yes n b h h2 w
  rwa [hk] at this

theorem mod_int (n b : Int) (h : 1 ≤ b) : ∃ k : Int, n % b = k ∧ 0 ≤ k ∧ k < b :=
  ⟨_, rfl, Int.emod_nonneg n (by omega), Int.emod_lt_of_pos n (by omega)⟩

theorem mod_nat (n b : Int) (h : 1 ≤ b) : ∃ k : Nat, n % b = k ∧ (k : Int) < b := by
  obtain ⟨k, hk⟩ := Int.eq_ofNat_of_zero_le (Int.emod_nonneg n (show b ≠ 0 by omega))
  exact ⟨k, hk, by have := Int.emod_lt_of_pos n (show 0 < b by omega); omega⟩

end Go.Proofs.Ytojjgagcpkjkaaa
