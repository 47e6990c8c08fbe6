/- The walk of NetFull. Conditions stand as premises. -/
import Derived.Test.YtnbikaiejeclnaaNetF
import Derived.Deep.RegionHeld3
namespace Go.Proofs.Ytnbikaiejeclnaa
open Go.ChangeShapes Go.WideShapes Go.ChangeAt Go.RowKit
set_option linter.unusedVariables false

theorem isW_mk {k : Int} (h0 : 0 ≤ k) (h2 : k < 2) : isW k = true := by
  rcases (by omega : k = 0 ∨ k = 1) with rfl | rfl <;> rfl
theorem send_room {S : St} {k : Int} (hk : isW k = true) (h : (rowS S k).length < 32) (l : List Int) :
    sendC S k = 0 ∧ (rowS (sendS S k l) k).length = (rowS S k).length + 1 ∧ rowS (sendS S k l) (1 - k) = rowS S (1 - k) := by
  have hC : sendC S k = 0 := by unfold sendC; rw [if_pos hk, if_neg (by omega)]
  refine ⟨hC, ?_, ?_⟩
  · unfold sendS; rw [if_pos hC, rowS_setS, List.length_append]; rfl
  · unfold sendS; rw [if_pos hC, rowS_other S k hk]
theorem send_full {S : St} {k : Int} (hk : isW k = true) (h : 32 ≤ (rowS S k).length) (l : List Int) : sendC S k = 15 ∧ sendS S k l = S := by
  have hC : sendC S k = 15 := by unfold sendC; rw [if_pos hk, if_pos h]
  exact ⟨hC, by unfold sendS; rw [if_neg (by rw [hC]; decide)]⟩
theorem take_room {S : St} {k i : Int} (hk : isW k = true) (h0 : 0 ≤ i) (h : i < (rowS S k).length) :
    getC S k i = 0 ∧ (rowS (takeS S k i) k).length = (rowS S k).length - 1 := by
  have hC : getC S k i = 0 := by unfold getC; rw [if_pos hk, if_pos ⟨h0, h⟩]
  refine ⟨hC, ?_⟩
  unfold takeS
  rw [if_pos hC, rowS_setS, List.length_eraseIdx, if_pos (by omega)]

set_option maxRecDepth 100000 in
set_option maxHeartbeats 4000000 in
theorem netfull_law (way i : Int) (a : Option Addr) (n c : Nat) (l : List Int) (drop : Bool) (w : World) (hr : RdB w a n c l) :
    Calls Try.prog 4 #[.int .i64 way, .int .i64 i, .slice a n c, .bool drop] w fun e w' => e = .returned (.bool true) ∧ Below w.heap.size w w' := by
  obtain ⟨k, hk, hk0, hk2⟩ := mod_int way 2 (by omega)
  have HW := fun w' => number_int way 2 k hk (by omega) (by omega) w'
  obtain ⟨q, hq, hq0, hq2⟩ := mod_int i 32 (by omega)
  have HI := fun w' => number_int i 32 q hq (by omega) (by omega) w'
  have HW1 := Lib.hid HW
  have HI1 := Lib.hid HI
  clear hk hq HW HI
  by_cases h100 : (100 : Int) < (n : Int)
  · go_enter Try.func4, Try.ntmps4
    go_wp2_with fail
    refine (nfirst_any _).mono ?_
    rintro e w1 ⟨rfl, hb1⟩
    go_wp2_with fail
    refine (HW1.out _).mono ?_
    rintro e w2 ⟨rfl, rfl⟩
    go_wp2_with fail
    go_ret
    exact ⟨rfl, hb1⟩
  have h100' : (n : Int) ≤ 100 := by omega
  clear h100
  have hkW := Lib.hid (isW_mk hk0 hk2)
  go_enter Try.func4, Try.ntmps4
  go_wp2_with fail
  refine (nfirst_any _).mono ?_
  rintro e w1 ⟨rfl, hb1⟩
  go_wp2_with fail
  refine (HW1.out _).mono ?_
  rintro e w2 ⟨rfl, rfl⟩
  go_wp2_with fail
  refine (netnew _).mono ?_
  rintro e w2 ⟨rfl, hw2⟩
  have hL0 := Live.new w1 52
  rw [hw2] at hL0
  clear hw2
  generalize hp : w1.heap.size = p at hL0
  have HP := Lib.hid hp
  clear hp
  have hr1 := hr.mono hb1
  clear hr
  go_wp2_with fail
  go_loopw [11] (fun u wr => ∃ (j : Nat) (S : St) (F : Nat → Prop), j ≤ 32 ∧ u = .int .i64 j ∧ (rowS S k).length = j ∧ rowS S (1 - k) = [] ∧ Live w1 wr p S F) (fun u _ => 32 - (intOf u).toNat)
  case atStart => exact ⟨0, ([], []), _, by omega, rfl, by unfold rowS rowOf; split <;> rfl, by unfold rowS rowOf; split <;> rfl, hL0⟩
  case round =>
    obtain ⟨j, S, F, hj, rfl, hlen, hoth, hL⟩ := hrel
    have HL := Lib.hid hlen
    have HO := Lib.hid hoth
    clear hlen hoth
    by_cases hlt : j < 32
    · obtain ⟨s1, s2, s3⟩ := send_room hkW.out (S := S) (by rw [HL.out]; exact hlt) l
      have HT := s_send w1.heap.size p S F k a n c l wr hL.net (hr1.mono hL.bel) (by omega)
      rw [s1] at HT
      have HC := Lib.hid HT
      have H2 := Lib.hid s2
      have H3 := Lib.hid s3
      clear HT s1 s2 s3
      go_wp2_with fail
      refine HC.out.mono ?_
      rintro e w3 ⟨rfl, hst⟩
      obtain ⟨F', hL'⟩ := hL.step hst
      clear hst
      go_wp2_with fail
      go_roundw
      case rel => exact ⟨j + 1, _, F', by omega, by go_num, by rw [H2.out, HL.out], by rw [H3.out, HO.out], hL'⟩
      case measure => simp [intOf]; omega
    · obtain rfl : j = 32 := by omega
      obtain ⟨e1, e2⟩ := send_full hkW.out (S := S) (by rw [HL.out]; omega) l
      obtain ⟨f1, f2, f3⟩ := send_room (isW_other hkW.out) (S := S) (by rw [HO.out]; decide) l
      have f4 : rowS (sendS S (1 - k) l) k = rowS S k := by rw [show 1 - (1 - k) = k by omega] at f3; exact f3
      have T1 := Lib.hid e1
      have T2 := Lib.hid e2
      have T3 := Lib.hid f1
      have T4 := Lib.hid (show (rowS (sendS S (1 - k) l) k).length = 32 by rw [f4, HL.out])
      clear e1 e2 f1 f2 f3 f4
      go_wp2_with fail
      refine (s_send w1.heap.size p S F k a n c l _ hL.net (hr1.mono hL.bel) (by omega)).mono ?_
      rintro e w3 ⟨rfl, hst⟩
      rw [T1.out]
      rw [T2.out] at hst
      obtain ⟨F3, hL3⟩ := hL.step hst
      clear hst hL
      go_wp2_with fail
      refine (s_send w1.heap.size p S F3 (1 - k) a n c l _ hL3.net (hr1.mono hL3.bel) (by omega)).mono ?_
      rintro e w4 ⟨rfl, hst⟩
      rw [T3.out]
      obtain ⟨F4, hL4⟩ := hL3.step hst
      clear hst hL3
      generalize sendS S (1 - k) l = S4 at hL4 T4
      go_wp2_with fail
      refine (HI1.out _).mono ?_
      rintro e w5 ⟨rfl, rfl⟩
      obtain ⟨g1, g2⟩ := take_room hkW.out (S := S4) hq0 (by rw [T4.out]; omega)
      have T5 := Lib.hid (show (rowS (takeS S4 k q) k).length = 31 by rw [g2, T4.out])
      have T5a := Lib.hid g1
      clear g1 g2
      cases drop
      · go_wp2_with fail
        refine (s_take w1.heap.size p S4 F4 k q _ hL4.net).mono ?_
        rintro e w5 ⟨a5, n5, c5, rfl, hr5, hf5, hst⟩
        obtain ⟨F5, hL5⟩ := hL4.step hst
        clear hst hL4 hr5 hf5
        generalize takeS S4 k q = S5 at hL5 T5
        obtain ⟨s1, s2, s3⟩ := send_room hkW.out (S := S5) (by rw [T5.out]; decide) l
        have T6 := Lib.hid s1
        have T7 := Lib.hid (show (rowS (sendS S5 k l) k).length = 32 by rw [s2, T5.out])
        clear s1 s2 s3
        go_wp2_with fail
        refine (s_send w1.heap.size p S5 F5 k a n c l _ hL5.net (hr1.mono hL5.bel) (by omega)).mono ?_
        rintro e w6 ⟨rfl, hst⟩
        rw [T6.out]
        obtain ⟨F6, hL6⟩ := hL5.step hst
        clear hst hL5
        generalize sendS S5 k l = S6 at hL6 T7
        obtain ⟨e1, e2⟩ := send_full hkW.out (S := S6) (by rw [T7.out]; decide) l
        have T8 := Lib.hid e1
        have T9 := Lib.hid e2
        clear e1 e2
        go_wp2_with fail
        refine (s_send w1.heap.size p S6 F6 k a n c l _ hL6.net (hr1.mono hL6.bel) (by omega)).mono ?_
        rintro e w7 ⟨rfl, hst⟩
        rw [T8.out]
        rw [T9.out] at hst
        obtain ⟨F7, hL7⟩ := hL6.step hst
        clear hst hL6
        go_wp2_with fail
        refine (s_len w1.heap.size p S6 F7 k _ hL7.net).mono ?_
        rintro e w8 ⟨rfl, rfl⟩
        rw [if_pos hkW.out, T7.out]
        go_wp2_with fail
        go_ret
        exact ⟨rfl, hb1.trans (hL7.bel.mono hb1.size)⟩
      · go_wp2_with fail
        refine (s_drop w1.heap.size p S4 F4 k q _ hL4.net).mono ?_
        rintro e w5 ⟨rfl, hst⟩
        obtain ⟨F5, hL5⟩ := hL4.step hst
        clear hst hL4
        generalize takeS S4 k q = S5 at hL5 T5
        obtain ⟨s1, s2, s3⟩ := send_room hkW.out (S := S5) (by rw [T5.out]; decide) l
        have T6 := Lib.hid s1
        have T7 := Lib.hid (show (rowS (sendS S5 k l) k).length = 32 by rw [s2, T5.out])
        clear s1 s2 s3
        go_wp2_with fail
        refine (s_send w1.heap.size p S5 F5 k a n c l _ hL5.net (hr1.mono hL5.bel) (by omega)).mono ?_
        rintro e w6 ⟨rfl, hst⟩
        rw [T6.out]
        obtain ⟨F6, hL6⟩ := hL5.step hst
        clear hst hL5
        generalize sendS S5 k l = S6 at hL6 T7
        obtain ⟨e1, e2⟩ := send_full hkW.out (S := S6) (by rw [T7.out]; decide) l
        have T8 := Lib.hid e1
        have T9 := Lib.hid e2
        clear e1 e2
        go_wp2_with fail
        refine (s_send w1.heap.size p S6 F6 k a n c l _ hL6.net (hr1.mono hL6.bel) (by omega)).mono ?_
        rintro e w7 ⟨rfl, hst⟩
        rw [T8.out]
        rw [T9.out] at hst
        obtain ⟨F7, hL7⟩ := hL6.step hst
        clear hst hL6
        go_wp2_with fail
        refine (s_len w1.heap.size p S6 F7 k _ hL7.net).mono ?_
        rintro e w8 ⟨rfl, rfl⟩
        rw [if_pos hkW.out, T7.out]
        go_wp2_with fail
        go_ret
        exact ⟨rfl, hb1.trans (hL7.bel.mono hb1.size)⟩
end Go.Proofs.Ytnbikaiejeclnaa
