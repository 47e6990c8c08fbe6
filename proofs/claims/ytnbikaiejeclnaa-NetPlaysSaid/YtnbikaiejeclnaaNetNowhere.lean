/- The walk of NetNowhere. Conditions stand as premises. -/
import Derived.Test.YtnbikaiejeclnaaNetF
namespace Go.Proofs.Ytnbikaiejeclnaa
open Go.ChangeShapes Go.WideShapes Go.ChangeAt Go.RowKit
set_option linter.unusedVariables false

theorem sendC_no {S : St} {k : Int} (h : isW k = false) : sendC S k = 1 := by unfold sendC; rw [h]; rfl
theorem sendS_no {S : St} {k : Int} {l : List Int} (h : isW k = false) : sendS S k l = S := by unfold sendS; rw [sendC_no h]; rfl
theorem getC_no {S : St} {k i : Int} (h : isW k = false) : getC S k i = 1 := by unfold getC; rw [h]; rfl
theorem takeS_no {S : St} {k i : Int} (h : isW k = false) : takeS S k i = S := by unfold takeS; rw [getC_no h]; rfl
theorem dblC_no {S : St} {k i : Int} (h : isW k = false) : dblC S k i = 1 := by unfold dblC; rw [getC_no h]; rfl
theorem dblS_no {S : St} {k i : Int} (h : isW k = false) : dblS S k i = S := by unfold dblS; rw [getC_no h]; rfl
theorem spoC_no {S : St} {k i a : Int} (h : isW k = false) : spoC S k i a = 1 := by unfold spoC; rw [getC_no h]; rfl
theorem spoS_no {S : St} {k i a x : Int} (h : isW k = false) : spoS S k i a x = S := by unfold spoS; rw [spoC_no h]; rfl

/-- The first of a row is taken, message by message. -/
theorem take_first {ls : List (List Int)} {j : Nat} (k : Int) (hk : isW k = true) (hj : j < ls.length) :
    getC (setS ([], []) k (ls.drop j)) k 0 = 0 ∧ getL (setS ([], []) k (ls.drop j)) k 0 = ls[j]?.getD [] ∧ takeS (setS ([], []) k (ls.drop j)) k 0 = setS ([], []) k (ls.drop (j + 1)) := by
  have h0 : getC (setS ([], []) k (ls.drop j)) k 0 = 0 := by
    unfold getC
    rw [hk, if_pos rfl, rowS_setS, if_pos ⟨Int.le_refl _, by rw [List.length_drop]; omega⟩]
  refine ⟨h0, ?_, ?_⟩
  · unfold getL
    rw [rowS_setS]
    simp
  · unfold takeS
    rw [if_pos h0, rowS_setS, setS_setS]
    congr 1
    rw [List.drop_eq_getElem_cons hj]
    simp

set_option maxRecDepth 100000 in
set_option maxHeartbeats 4000000 in
theorem netnowhere_law (k i at_ x : Int) (a : Option Addr) (n c : Nat) (ls : List (List Int)) (w : World) (hr : RdBB w a n c ls) :
    Calls Try.prog 7 #[.int .i64 k, .int .i64 i, .int .i64 at_, .int .u8 x, .slice a n c] w fun e w' => e = .returned (.bool true) ∧ Below w.heap.size w w' := by
  obtain rfl : ls.length = n := hr.len
  have kc := fun (w : World) (C : Array Value) (n c : Nat) => Lib.run_convert_bytes_const (P := Try.prog) w 29 5 C n c Try.underlying29 Try.underlying5
  by_cases hk : isW k = true
  · rcases isW_yes hk with rfl | rfl
    all_goals
      clear hk
      go_enter Try.func7, Try.ntmps7
      go_wp2_with (go_at_call 8; refine (nfirst_any _).mono ?_; rintro e w1 ⟨rfl, hb1⟩)
      go_ret
      exact ⟨rfl, hb1⟩
  have hk' : isW k = false := by simpa using hk
  have hk0 : (k == 0) = false := by simpa using (isW_no hk).1
  have hk1 : (k == 1) = false := by simpa using (isW_no hk).2
  clear hk
  by_cases h10 : (10 : Int) < (ls.length : Int)
  · go_enter Try.func7, Try.ntmps7
    go_wp2_with (go_at_call 8; refine (nfirst_any _).mono ?_; rintro e w1 ⟨rfl, hb1⟩)
    go_ret
    exact ⟨rfl, hb1⟩
  have h10' : (ls.length : Int) ≤ 10 := by omega
  clear h10
  by_cases hl : LightP ls
  · have HL := Lib.hid hl
    have HK := Lib.hid hk'
    clear hl hk'
    go_enter Try.func7, Try.ntmps7
    go_wp2_with fail
    refine (nfirst_any _).mono ?_
    rintro e w1 ⟨rfl, hb1⟩
    go_wp2_with fail
    refine (light_yes _ _ _ ls _ (hr.mono hb1) HL.out).mono ?_
    rintro e w2 ⟨rfl, rfl⟩
    go_wp2_with fail
    refine (sent_yes 0 _ _ _ ls _ rfl (hr.mono hb1) HL.out).mono ?_
    rintro e w2 ⟨p, F2, rfl, hL2⟩
    go_wp2_with fail
    have hL3 := hL2.ahead ((Below.refl _ _).alloc (Nat.le_refl _) (.cells #[.int .u8 109] 5 (1, 2)))
    have hr3 := RdB.marked w2 [109] 5 (1, 2) #[.int .u8 109] 1 1 rfl rfl (by omega) (by unfold maxLen; omega) (by intro x hx; simp at hx; omega)
    refine (s_send w1.heap.size p _ F2 k _ _ _ [109] _ hL3.net hr3 (by omega)).mono ?_
    rintro e w4 ⟨rfl, hst⟩
    obtain ⟨F4, hL4⟩ := hL3.step hst
    clear hst hL3 hr3 hL2
    rw [sendC_no HK.out]
    rw [sendS_no HK.out] at hL4
    go_wp2_with fail
    refine (s_drop w1.heap.size p _ F4 k i _ hL4.net).mono ?_
    rintro e w5 ⟨rfl, hst⟩
    obtain ⟨F5, hL5⟩ := hL4.step hst
    clear hst hL4
    rw [getC_no HK.out]
    rw [takeS_no HK.out] at hL5
    go_wp2_with fail
    refine (s_double w1.heap.size p _ F5 k i _ hL5.net (fun l hl => ?_)).mono ?_
    · exact Nat.le_trans (HL.out.2 l (by unfold rowS rowOf setS setRow' at hl; split at hl <;> simp_all)) (by decide)
    rintro e w6 ⟨rfl, hst⟩
    obtain ⟨F6, hL6⟩ := hL5.step hst
    clear hst hL5
    rw [dblC_no HK.out]
    rw [dblS_no HK.out] at hL6
    go_wp2_with fail
    refine (s_spoil w1.heap.size p _ F6 k i at_ x _ hL6.net).mono ?_
    rintro e w7 ⟨rfl, hst⟩
    obtain ⟨F7, hL7⟩ := hL6.step hst
    clear hst hL6
    rw [spoC_no HK.out]
    rw [spoS_no HK.out] at hL7
    go_wp2_with fail
    refine (s_take w1.heap.size p _ F7 k i _ hL7.net).mono ?_
    rintro e w8 ⟨a8, n8, c8, rfl, hr8, hf8, hst⟩
    obtain ⟨F8, hL8⟩ := hL7.step hst
    clear hst hL7 hf8
    rw [getC_no HK.out] at hr8 ⊢
    rw [takeS_no HK.out] at hL8
    obtain rfl : n8 = 0 := by have := hr8.len; simpa using this.symm
    clear hr8
    go_wp2_with fail
    refine (s_len w1.heap.size p _ F8 k _ hL8.net).mono ?_
    rintro e w9 ⟨rfl, rfl⟩
    rw [HK.out, if_neg Bool.false_ne_true]
    go_wp2_with fail
    refine (s_len w1.heap.size p _ F8 1 _ hL8.net).mono ?_
    rintro e w9 ⟨rfl, rfl⟩
    rw [if_pos (show isW 1 = true from rfl), show rowS (setS ([], []) 0 ls) 1 = [] from rfl]
    go_wp2_with fail
    go_loopw [15, 17, 19] (fun u15 u17 u19 wr => ∃ (j : Nat) (F : Nat → Prop), j ≤ ls.length ∧ u19 = .int .i64 j ∧ Live w1 wr p (setS ([], []) 0 (ls.drop j)) F) (fun _ _ u19 _ => ls.length - (intOf u19).toNat)
    case atStart => exact ⟨0, F8, Nat.zero_le _, rfl, hL8⟩
    case round =>
      obtain ⟨j, F, hj, rfl, hL⟩ := hrel
      by_cases hlt : j < ls.length
      · obtain ⟨b, off, v, rfl, hv⟩ := hr.atB j hlt
        obtain ⟨t1, t2, t3⟩ := take_first 0 rfl hlt
        have HT := s_take w1.heap.size p _ F 0 0 wr hL.net
        unfold TakeS at HT
        rw [t1, t2, t3, if_pos rfl] at HT
        have HC := Lib.hid HT
        have HV := Lib.hid hv
        clear HT t1 t2 t3 hv
        go_wp2_with fail
        refine HC.out.mono ?_
        rintro e w2 ⟨a2, n2, c2, rfl, hr2, hf2, hst⟩
        obtain ⟨F', hL'⟩ := hL.step hst
        obtain ⟨hc, hv⟩ := HV.out w2 (hb1.trans (hL'.bel.mono hb1.size))
        clear hst hf2
        go_wp2_with fail
        refine (same_any _ _ _ _ _ _ _ _ _ hr2 hv).mono ?_
        rintro e w3 ⟨rfl, rfl⟩
        rw [decide_eq_true rfl]
        go_wp2_with fail
        go_roundw
        case rel => exact ⟨j + 1, F', by omega, by go_num, hL'⟩
        case measure => simp [intOf]; omega
      · go_wp2
        go_ret
        exact ⟨rfl, hb1.trans (hL.bel.mono hb1.size)⟩
  · go_enter Try.func7, Try.ntmps7
    go_wp2_with fail
    refine (nfirst_any _).mono ?_
    rintro e w1 ⟨rfl, hb1⟩
    go_wp2_with fail
    refine (light_no _ _ _ ls _ (hr.mono hb1) hl).mono ?_
    rintro e w2 ⟨rfl, rfl⟩
    go_wp2_with fail
    go_ret
    exact ⟨rfl, hb1⟩
end Go.Proofs.Ytnbikaiejeclnaa
