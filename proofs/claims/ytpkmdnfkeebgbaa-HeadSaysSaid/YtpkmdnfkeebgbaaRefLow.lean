/- What the document's own Low computes: the lowest bytes of a number. Conditions stand as premises. -/
import Derived.Test.YtpkmdnfkeebgbaaClone
namespace Go.Proofs.Ytpkmdnfkeebgbaa
open Go.ChangeShapes Go.WideShapes Go.ChangeAt Go.RowKit
set_option linter.unusedVariables false

/-! ### Low -/
theorem low_any (v : Int) (n : Nat) (w : World) (hv : 0 ≤ v ∧ v ≤ 18446744073709551615) (hn : n ≤ 1000) :
    Calls Try.prog 27 #[.int .u64 v, .int .i64 n] w (NewB w.heap.size w (digs n v)) := by
  go_enter Try.func27, Try.ntmps27
  go_wp2_with fail
  go_loopw [0, 5, 6] (fun x s i wr => ∃ (k : Nat) (a' : Option Addr) (c' : Nat) (y : Int), k ≤ n ∧ i = .int .i64 k ∧ x = .int .u64 y ∧ Hid (y = v / 256 ^ k) ∧ 0 ≤ y ∧ y ≤ 18446744073709551615 ∧ s = .slice a' k c' ∧ OwnB 5 wr w.heap.size a' k c' (digs k v) ∧ Below w.heap.size w wr) (fun _ _ i _ => n - (intOf i).toNat)
  case atStart => exact ⟨0, none, 0, v, Nat.zero_le _, rfl, rfl, Lib.hid (by simp), hv.1, hv.2, rfl, ⟨IsB.nil, Own.nil _ _ _ _⟩, Below.refl _ _⟩
  case round =>
    obtain ⟨k, a', c', y, hk, rfl, rfl, Hy, hy1, hy2, rfl, ho, hb⟩ := hrel
    by_cases hlt : k < n
    · have hsz := hb.size
      go_wp2_with (at_builtin; go_must (refine wpList_appOwn rfl rfl Try.oneB rfl rfl (ho.2.alloc _) (Rd.one _ _ _ _) (fun _ => rfl) (by omega) (by omega) (by simp; omega) ?_); intro a2 c2 w2 ho2 hb2 hn2 _)
      go_roundw
      case rel =>
        have hy := Hy.out
        subst hy
        have h5 : (v / 256 ^ k) / 256 = v / 256 ^ (k + 1) := by rw [Int.ediv_ediv_of_nonneg (Int.le_of_lt (Int.pow_pos (by decide))), Int.pow_succ]
        have h6 : v / 256 ^ (k + 1) ≤ v := Int.ediv_le_self _ hv.1
        have h7 : 0 ≤ v / 256 ^ (k + 1) := Int.ediv_nonneg hv.1 (Int.le_of_lt (Int.pow_pos (by decide)))
        refine ⟨k + 1, a2, c2, _, by omega, by go_num, rfl, Lib.hid h5, by omega, by omega, rfl, ⟨digs_isB _ _, ?_⟩, (hb.alloc hsz _).trans hb2⟩
        rw [digs_snoc]; exact ho2
      case measure => simp [intOf]; omega
    · have : k = n := by omega
      subst this
      have Hl := Lib.hid (digs_length k v)
      go_wp2
      go_ret
      exact ⟨a', c', by rw [Hl.out]; rfl, by rw [Hl.out]; exact ho, hb⟩

end Go.Proofs.Ytpkmdnfkeebgbaa
