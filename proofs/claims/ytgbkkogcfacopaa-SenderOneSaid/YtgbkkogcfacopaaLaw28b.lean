/- The walk of SenderOne: it comes to true and leaves what was there. No condition. -/
import Derived.Test.YtgbkkogcfacopaaLaw28
namespace Go.Proofs.Ytgbkkogcfacopaa
open Go.ChangeShapes Go.WideShapes Go.ChangeAt Go.RowKit
set_option linter.unusedVariables false

set_option maxRecDepth 100000 in
set_option maxHeartbeats 8000000 in
theorem law_one (x y cnt : Int) (a : Option Addr) (n c : Nat) (l : List Int) (a2 : Option Addr) (n2 c2 : Nat) (l2 : List Int) (w : World) (hr : RdB w a n c l) (hr2 : RdB w a2 n2 c2 l2) :
    Calls Try.prog 6 #[.int .i64 x, .int .i64 y, .int .i64 cnt, .slice a n c, .slice a2 n2 c2] w fun e w' => e = .returned (.bool true) ∧ Below w.heap.size w w' := by
  have hlen : n ≤ 9223372036854775807 := by have h1 := hr.2.2.1; have h2 := hr.2.2.2.1; unfold maxLen at h2; omega
  have hlen2 : n2 ≤ 9223372036854775807 := by have h1 := hr2.2.2.1; have h2 := hr2.2.2.2.1; unfold maxLen at h2; omega
  obtain ⟨N, hN, hN2⟩ := mod_nat cnt 9 (by omega)
  obtain ⟨m, hm, hm2⟩ := mod_nat y 1000 (by omega)
  obtain ⟨f, hf, hf2⟩ := mod_nat x ((m : Int) + 1) (by omega)
  have HN := Lib.hid hN
  have Hm := Lib.hid hm
  have Hf := Lib.hid hf
  clear hN hm hf
  by_cases hbig : 100 < n
  · go_enter Try.func6, Try.ntmps6
    go_wp2_with fail
    refine (first_any _).mono ?_
    rintro e w1 ⟨rfl, hb1⟩
    go_wp2_with fail
    go_ret
    exact ⟨rfl, hb1⟩
  by_cases hbig2 : 100 < n2
  · go_enter Try.func6, Try.ntmps6
    go_wp2_with fail
    refine (first_any _).mono ?_
    rintro e w1 ⟨rfl, hb1⟩
    go_wp2_with fail
    go_ret
    exact ⟨rfl, hb1⟩
  have hd1 : decide (100 < (n : Int)) = false := by simp; omega
  have hd2 : decide (100 < (n2 : Int)) = false := by simp; omega
  go_enter Try.func6, Try.ntmps6
  go_wp2_with fail
  refine (first_any _).mono ?_
  rintro e w1 ⟨rfl, hb1⟩
  have hr1 := hr.mono hb1
  have hs1 := hb1.size
  go_wp2_with fail
  refine (begun_any _ _ m f Hm.out Hf.out (by omega) (by omega) _ (by omega) (by omega) _ _ _ l _ hr1 (by omega)).mono ?_
  rintro e w2 ⟨S, rfl, hS, hs2, hb2⟩
  have hB2 := hb1.trans (hb2.mono hs1)
  go_wp2_with fail
  go_loopw [16, 17] (fun v16 v17 wr => ∃ (k : Nat) (now wait : Int), k ≤ N ∧ v17 = .int .i64 k ∧ v16 = .int .i64 now ∧ 1 ≤ wait ∧ wait ≤ (m : Int) + 1 ∧ 0 ≤ now ∧ now ≤ 1000 * (k : Int) ∧ Snd wr S ((f : Int) + 1) ((m : Int) + 1) l true now wait k ∧ Below w.heap.size w wr)
    (fun _ i _ => N - (intOf i).toNat)
  case atStart => exact ⟨0, 0, (f : Int) + 1, Nat.zero_le _, rfl, rfl, by omega, by omega, by omega, by omega, hs2, hB2⟩
  case round =>
    obtain ⟨k, now, wait, hk, rfl, rfl, hw1, hw2, hn1, hn2, hsr, hbr⟩ := hrel
    have hzr := hbr.size
    clear hs2 hB2 hb2 hr1 hb1
    have hll := hr.len
    have HLL := Lib.hid hll
    clear hll
    by_cases hlt : k < N
    · go_wp2_with fail
      refine (number_nat _ _ N HN.out (by omega) (by omega) _).mono ?_
      rintro e w3 ⟨rfl, rfl⟩
      go_wp2_with fail
      refine (due_yes _ _ _ _ _ _ _ _ (by omega) (by omega) (by omega) (by omega) (by omega) (by have := HLL.out; omega) _ hsr).mono ?_
      rintro e w4 ⟨a4, c4, rfl, ho4, hs4, hg4⟩
      have hB4 := hbr.trans (below_grown hg4 (by omega) hzr)
      have hwn : 1 ≤ nextW ((m : Int) + 1) wait ∧ nextW ((m : Int) + 1) wait ≤ (m : Int) + 1 := by unfold nextW; split <;> omega
      generalize nextW ((m : Int) + 1) wait = wn at hs4 hwn
      go_wp2_with fail
      refine (next_yes _ _ _ _ _ _ _ _ hs4).mono ?_
      rintro e w3 ⟨rfl, rfl⟩
      go_wp2
      go_roundw
      case rel => exact ⟨k + 1, now + wait, wn, by omega, by go_num, rfl, hwn.1, hwn.2, by omega, by omega, hs4, hB4⟩
      case measure => simp [intOf]; omega
    · have hk2 : k = N := by omega
      go_wp2_with fail
      refine (number_nat _ _ N HN.out (by omega) (by omega) _).mono ?_
      rintro e w3 ⟨rfl, rfl⟩
      go_wp2_with fail
      refine (tries_any _ _ _ _ _ _ _ _ _ hsr).mono ?_
      rintro e w3 ⟨rfl, rfl⟩
      go_wp2_with fail
      refine (send_busy _ _ _ _ _ _ _ _ _ _ _ _ hsr).mono ?_
      rintro e w3 ⟨rfl, rfl⟩
      go_wp2_with fail
      refine (tries_any _ _ _ _ _ _ _ _ _ hsr).mono ?_
      rintro e w3 ⟨rfl, rfl⟩
      go_wp2_with fail
      refine (busy_any _ _ _ _ _ _ _ _ _ hsr).mono ?_
      rintro e w3 ⟨rfl, rfl⟩
      go_wp2_with fail
      refine (due_yes _ _ _ _ _ _ _ _ (by omega) (by omega) (by omega) (by omega) (by omega) (by have := HLL.out; omega) _ hsr).mono ?_
      rintro e w4 ⟨a4, c4, rfl, ho4, hs4, hg4⟩
      have hB4 := hbr.trans (below_grown hg4 (by omega) hzr)
      have hz4 := hB4.size
      have hr4 : RdB w4 a n c l := ⟨hr.1, hr.2.mono hB4⟩
      go_wp2_with fail
      refine (same_any _ _ _ _ _ _ _ _ _ ho4.rd hr4).mono ?_
      rintro e w5 ⟨rfl, rfl⟩
      go_wp2_with fail
      refine (done_any _ _ _ _ _ _ _ _ _ hs4).mono ?_
      rintro e w5 ⟨rfl, hs5, hg5⟩
      have hB5 := hB4.trans (below_grown hg5 (by omega) hz4)
      have hz5 := hB5.size
      go_wp2_with fail
      refine (done_any _ _ _ _ _ _ _ _ _ hs5).mono ?_
      rintro e w6 ⟨rfl, hs6, hg6⟩
      have hB6 := hB5.trans (below_grown hg6 (by omega) hz5)
      have hz6 := hB6.size
      go_wp2_with fail
      refine (busy_any _ _ _ _ _ _ _ _ _ hs6).mono ?_
      rintro e w7 ⟨rfl, rfl⟩
      go_wp2_with fail
      refine (tries_any _ _ _ _ _ _ _ _ _ hs6).mono ?_
      rintro e w7 ⟨rfl, rfl⟩
      go_wp2_with fail
      refine (due_no _ _ _ _ _ _ _ _ _ (by omega) (.inl rfl) _ hs6).mono ?_
      rintro e w7 ⟨rfl, rfl⟩
      go_wp2_with fail
      refine (next_no _ _ _ _ _ _ _ _ hs6).mono ?_
      rintro e w7 ⟨rfl, rfl⟩
      have hr6 : RdB w6 a2 n2 c2 l2 := ⟨hr2.1, hr2.2.mono hB6⟩
      go_wp2_with fail
      refine (send_yes _ _ _ _ _ _ _ _ _ _ l2 _ (by omega) (by omega) _ hs6 hr6 (by omega)).mono ?_
      rintro e w7 ⟨rfl, hs7, hg7⟩
      have hB7 := hB6.trans (below_grown hg7 (by omega) hz6)
      have hz7 := hB7.size
      go_wp2_with fail
      refine (due_yes _ _ _ _ _ _ _ _ (by omega) (by omega) (by omega) (by omega) (by omega) (by have := hr2.len; omega) _ hs7).mono ?_
      rintro e w8 ⟨a8, c8, rfl, ho8, hs8, hg8⟩
      have hB8 := hB7.trans (below_grown hg8 (by omega) hz7)
      have hr8 : RdB w8 a2 n2 c2 l2 := ⟨hr2.1, hr2.2.mono hB8⟩
      go_wp2_with fail
      refine (next_yes _ _ _ _ _ _ _ _ hs8).mono ?_
      rintro e w9 ⟨rfl, rfl⟩
      go_wp2_with fail
      refine (same_any _ _ _ _ _ _ _ _ _ ho8.rd hr8).mono ?_
      rintro e w9 ⟨rfl, rfl⟩
      go_wp2_with fail
      refine (tries_any _ _ _ _ _ _ _ _ _ hs8).mono ?_
      rintro e w9 ⟨rfl, rfl⟩
      go_wp2
      go_ret
      exact ⟨ret_bool (by simp), hB8⟩

end Go.Proofs.Ytgbkkogcfacopaa
