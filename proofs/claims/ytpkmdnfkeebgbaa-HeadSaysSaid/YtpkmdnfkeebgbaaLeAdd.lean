/- What le.Add computes. Conditions stand as premises. -/
import Derived.Test.YtpkmdnfkeebgbaaLeSize
import Derived.Test.YtpkmdnfkeebgbaaClone
namespace Go.Proofs.Ytpkmdnfkeebgbaa
open Go.ChangeShapes Go.WideShapes Go.ChangeAt Go.RowKit
set_option linter.unusedVariables false

/-! ### Add -/
theorem digs_next (v : Int) (k : Nat) (l : List Int) : l ++ digs k v ++ [v / 2 ^ (8 * k) % 256] = l ++ digs (k + 1) v := by
  rw [digs_snoc, List.append_assoc, Int.pow_mul]
  rfl

theorem add_yes (a : Option Addr) (len cap : Nat) (l : List Int) (n : Nat) (v : Int) (w : World) (hr : RdB w a len cap l) (hlen : len ≤ 140737488351000) (hs : okSize n = true) (hv : 0 ≤ v ∧ v ≤ 18446744073709551615) :
    Calls Try.prog 24 #[.slice a len cap, .int .i64 n, .int .u64 v] w (NewB w.heap.size w (l ++ digs n v)) := by
  have hn : n ≤ 8 ∧ 1 ≤ n := by rcases okSize_cases hs with h | h | h | h <;> omega
  obtain rfl : l.length = len := hr.len
  go_enter Try.func24, Try.ntmps24
  go_wp2_with (first | (go_at_call 37; refine (clone_any _ _ _ l _ hr (by omega)).mono ?_; rintro e w1 ⟨a1, c1, rfl, ho1, hb1⟩) | (go_at_call 38; refine (size_any _ _).mono ?_; rintro e w' ⟨rfl, rfl⟩))
  go_loopw [7, 16] (fun s i wr => ∃ (k : Nat) (a' : Option Addr) (c' : Nat), k ≤ n ∧ i = .int .i64 k ∧ s = .slice a' (l.length + k) c' ∧ OwnB 5 wr w.heap.size a' (l.length + k) c' (l ++ digs k v) ∧ Below w.heap.size w wr) (fun _ i _ => n - (intOf i).toNat)
  case atStart => exact ⟨0, a1, c1, Nat.zero_le _, rfl, rfl, by simpa [digs] using ho1, hb1⟩
  case round =>
    obtain ⟨k, a', c', hk, rfl, rfl, ho, hb⟩ := hrel
    by_cases hlt : k < n
    · have hsz := hb.size
      go_wp2_with (at_builtin; go_must (refine wpList_appOwn rfl rfl Try.oneB rfl rfl (ho.2.alloc _) (Rd.one _ _ _ _) (fun _ => rfl) (by omega) (by omega) (by simp; omega) ?_); intro a2 c2 w2 ho2 hb2 hn2 _)
      go_roundw
      case rel =>
        rw [digs_next] at ho2
        exact ⟨k + 1, a2, c2, by omega, by go_num, rfl, ⟨hr.1.append (digs_isB _ _), ho2⟩, (hb.alloc hsz _).trans hb2⟩
      case measure => simp [intOf]; omega
    · have : k = n := by omega
      subst this
      have Hl := Lib.hid ho.len
      go_wp2
      go_ret
      exact ⟨a', c', by rw [Hl.out]; rfl, by rw [Hl.out]; exact ho, hb⟩

theorem add_no (a : Option Addr) (len cap : Nat) (l : List Int) (n v : Int) (w : World) (hr : RdB w a len cap l) (hlen : len ≤ 140737488351000) (hs : okSize n = false) :
    Calls Try.prog 24 #[.slice a len cap, .int .i64 n, .int .u64 v] w (NewB w.heap.size w l) := by
  obtain rfl : l.length = len := hr.len
  go_enter Try.func24, Try.ntmps24
  go_wp2_with (first | (go_at_call 37; refine (clone_any _ _ _ l _ hr (by omega)).mono ?_; rintro e w1 ⟨a1, c1, rfl, ho1, hb1⟩) | (go_at_call 38; refine (size_any _ _).mono ?_; rintro e w' ⟨rfl, rfl⟩))
  go_ret
  exact ⟨a1, c1, rfl, ho1, hb1⟩

def addV (l : List Int) (n v : Int) : List Int := if okSize n then l ++ digs n.toNat v else l

theorem add_any (a : Option Addr) (len cap : Nat) (l : List Int) (n v : Int) (w : World) (hr : RdB w a len cap l) (hlen : len ≤ 140737488351000) (hv : 0 ≤ v ∧ v ≤ 18446744073709551615) :
    Calls Try.prog 24 #[.slice a len cap, .int .i64 n, .int .u64 v] w (NewB w.heap.size w (addV l n v)) := by
  unfold addV
  cases hs : okSize n
  · simpa using add_no a len cap l n v w hr hlen hs
  · obtain ⟨m, rfl⟩ := Int.eq_ofNat_of_zero_le (show 0 ≤ n by rcases okSize_cases hs with h | h | h | h <;> omega)
    simpa using add_yes a len cap l m v w hr hlen hs hv

end Go.Proofs.Ytpkmdnfkeebgbaa
