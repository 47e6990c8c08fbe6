/- What the document's own Add computes. Conditions stand as premises. -/
import Derived.Test.YtellljaoagndkaaRefLow
import Derived.Test.YtellljaoagndkaaLeAdd
namespace Go.Proofs.Ytellljaoagndkaa
open Go.ChangeShapes Go.WideShapes Go.ChangeAt Go.RowKit
set_option linter.unusedVariables false

/-! ### Add -/
theorem refadd_yes (a : Option Addr) (len cap : Nat) (l : List Int) (n : Nat) (v : Int) (w : World) (hr : RdB w a len cap l) (hlen : len ≤ 140737488351000) (hs : okSize n = true) (hv : 0 ≤ v ∧ v ≤ 18446744073709551615) :
    Calls Try.prog 22 #[.slice a len cap, .int .i64 n, .int .u64 v] w (NewB w.heap.size w (l ++ digs n v)) := by
  have hn0 := okSize_cases hs
  have hn : n ≤ 8 ∧ 1 ≤ n := by omega
  obtain rfl : l.length = len := hr.len
  have hr1 := hr.2.alloc (.cells #[] 5)
  have ho1 : Own (Value.int .u8) 5 (w.alloc (.cells #[] 5)) w.heap.size (some ⟨w.heap.size, 0, none⟩) 0 0 [] := Own.lit [] _ 0 rfl rfl (Nat.le_refl _) (Nat.zero_le _)
  rcases hn0 with h | h | h | h
  all_goals
    first | have t1 : ((n : Int) != 1) = true := by rw [bne_iff_ne]; omega | have t1 : ((n : Int) != 1) = false := by simp [h]
    first | have t2 : ((n : Int) != 2) = true := by rw [bne_iff_ne]; omega | have t2 : ((n : Int) != 2) = false := by simp [h]
    first | have t3 : ((n : Int) != 4) = true := by rw [bne_iff_ne]; omega | have t3 : ((n : Int) != 4) = false := by simp [h]
    first | have t4 : ((n : Int) != 8) = true := by rw [bne_iff_ne]; omega | have t4 : ((n : Int) != 8) = false := by simp [h]
    clear h
    go_enter Try.func22, Try.ntmps22
    go_wp2_with (at_builtin; go_must (refine wpList_appOwn rfl rfl Try.oneB rfl rfl ho1 hr1 (fun _ => rfl) (by omega) (by omega) (by simp) ?_); intro a2 c2 w2 ho2 hb2 _ _)
    refine (low_any _ _ _ hv (by omega)).mono ?_
    rintro e w3 ⟨a3, c3, rfl, ho3, hb3⟩
    have Hd := Lib.hid (digs_length n v)
    have hsz := hb2.size
    have hsz3 := hb3.size
    simp only [World.size_alloc] at hsz
    simp only [Nat.zero_add, List.nil_append] at ho2
    go_wp2_with (at_builtin; go_must (refine wpList_appOwn rfl rfl Try.oneB rfl rfl (ho2.mono hb3) ho3.2.rd (fun _ => rfl) (by have := Hd.out; omega) (by have := Hd.out; omega) (by omega) ?_); intro a4 c4 w4 ho4 hb4 _ _)
    go_ret
    refine ⟨a4, c4, by simp, ⟨hr.1.append (digs_isB _ _), by simpa using ho4⟩, ?_⟩
    exact ((((Below.refl _ _).alloc (Nat.le_refl _) _).trans hb2).trans (hb3.mono (by omega))).trans hb4

theorem refadd_no (a : Option Addr) (len cap : Nat) (l : List Int) (n v : Int) (w : World) (hr : RdB w a len cap l) (hlen : len ≤ 140737488351000) (hs : okSize n = false) :
    Calls Try.prog 22 #[.slice a len cap, .int .i64 n, .int .u64 v] w (NewB w.heap.size w l) := by
  obtain rfl : l.length = len := hr.len
  obtain ⟨t1, t2, t3, t4⟩ := okSize_no hs
  have hr1 := hr.2.alloc (.cells #[] 5)
  have ho1 : Own (Value.int .u8) 5 (w.alloc (.cells #[] 5)) w.heap.size (some ⟨w.heap.size, 0, none⟩) 0 0 [] := Own.lit [] _ 0 rfl rfl (Nat.le_refl _) (Nat.zero_le _)
  go_enter Try.func22, Try.ntmps22
  go_wp2_with (at_builtin; go_must (refine wpList_appOwn rfl rfl Try.oneB rfl rfl ho1 hr1 (fun _ => rfl) (by omega) (by omega) (by simp) ?_); intro a2 c2 w2 ho2 hb2 _ _)
  go_ret
  exact ⟨a2, c2, by simp, ⟨hr.1, by simpa using ho2⟩, ((Below.refl _ _).alloc (Nat.le_refl _) _).trans hb2⟩

theorem refadd_any (a : Option Addr) (len cap : Nat) (l : List Int) (n v : Int) (w : World) (hr : RdB w a len cap l) (hlen : len ≤ 140737488351000) (hv : 0 ≤ v ∧ v ≤ 18446744073709551615) :
    Calls Try.prog 22 #[.slice a len cap, .int .i64 n, .int .u64 v] w (NewB w.heap.size w (addV l n v)) := by
  unfold addV
  cases hs : okSize n
  · simpa using refadd_no a len cap l n v w hr hlen hs
  · obtain ⟨m, rfl⟩ := Int.eq_ofNat_of_zero_le (show 0 ≤ n by rcases okSize_cases hs with h | h | h | h <;> omega)
    simpa using refadd_yes a len cap l m v w hr hlen hs hv

end Go.Proofs.Ytellljaoagndkaa
