/- The walk of NetDoubles. Conditions stand as premises. -/
import Derived.Test.YtnbikaiejeclnaaNetFull
import Derived.Test.YtnbikaiejeclnaaNetNowhere
import Derived.Laws.BitsAllLaws
namespace Go.Proofs.Ytnbikaiejeclnaa
open Go.ChangeShapes Go.WideShapes Go.ChangeAt Go.RowKit
set_option linter.unusedVariables false

theorem xor_back (a x : Int) (ha : 0 ≤ a ∧ a ≤ 255) (hx : 0 ≤ x ∧ x ≤ 255) : bits .xor .u8 (bits .xor .u8 a x) x = a := by
  obtain ⟨A, rfl⟩ := Int.eq_ofNat_of_zero_le ha.1
  obtain ⟨X, rfl⟩ := Int.eq_ofNat_of_zero_le hx.1
  have hlt : A ^^^ X < 2 ^ 8 := Nat.xor_lt_two_pow (by omega) (by omega)
  rw [u8_xor_nat A X (by omega) (by omega), u8_xor_nat (A ^^^ X) X (by omega) (by omega), Nat.xor_assoc, Nat.xor_self, Nat.xor_zero]
theorem spoil_back {l : List Int} {j : Nat} {x : Int} (hb : IsB l) (hx : 0 ≤ x ∧ x ≤ 255) (hj : j < l.length) : spoilL (spoilL l j x) j x = l := by
  have hg := hb.getD j
  unfold spoilL
  rw [List.getElem?_set_self hj, List.set_set]
  simp only [Option.getD_some]
  rw [xor_back _ _ hg hx]
  apply List.ext_getElem
  · simp
  · intro i h1 h2
    rw [List.getElem_set]
    split
    · rename_i h; subst h; simp [h2]
    · rfl

/-- A number below another one, or 0 where that is none. -/
theorem number_ex (x : Int) (n : Nat) (hn : n ≤ 4000000000000000000) : ∃ q : Int, (∀ w, Calls Try.prog 9 #[.int .i64 x, .int .i64 n] w fun e w' => e = .returned (.int .i64 q) ∧ w = w') ∧ 0 ≤ q ∧ (0 < n → q < n) ∧ (n = 0 → q = 0) := by
  by_cases h : n = 0
  · subst h
    exact ⟨0, fun w => number_low x _ (by omega) w, Int.le_refl _, fun h => by omega, fun _ => rfl⟩
  · obtain ⟨q, hq, h0, h1⟩ := mod_int x n (by omega)
    exact ⟨q, fun w => number_int x n q hq (by omega) (by omega) w, h0, fun _ => h1, fun h' => absurd h' h⟩

/-- What the steps of the law make of the rows. -/
theorem dbl_steps {k : Int} (hk : isW k = true) {ls : List (List Int)} {i : Int} (hi0 : 0 ≤ i) (hi : i < ls.length) (hl : ls.length ≤ 32) :
    (ls.length = 32 → dblC (setS ([], []) k ls) k i = 15 ∧ dblS (setS ([], []) k ls) k i = setS ([], []) k ls) ∧
    (ls.length < 32 → dblC (setS ([], []) k ls) k i = 0 ∧ dblS (setS ([], []) k ls) k i = setS ([], []) k (ls ++ [ls[i.toNat]?.getD []])) := by
  have h0 : getC (setS ([], []) k ls) k i = 0 := by unfold getC; rw [hk, if_pos rfl, rowS_setS, if_pos ⟨hi0, hi⟩]
  have hL : getL (setS ([], []) k ls) k i = ls[i.toNat]?.getD [] := by unfold getL; rw [rowS_setS]
  constructor
  · intro h
    obtain ⟨h1, h2⟩ := send_full (S := setS ([], []) k ls) hk (by rw [rowS_setS]; omega) (ls[i.toNat]?.getD [])
    unfold dblC dblS
    rw [if_pos h0, if_pos h0, hL]
    exact ⟨h1, h2⟩
  · intro h
    have h1 : sendC (setS ([], []) k ls) k = 0 := by unfold sendC; rw [if_pos hk, rowS_setS, if_neg (by omega)]
    unfold dblC dblS
    rw [if_pos h0, if_pos h0, hL]
    refine ⟨h1, ?_⟩
    unfold sendS
    rw [if_pos h1, rowS_setS, setS_setS]

/-- A message of a row spoilt. -/
theorem spo_steps {k : Int} (hk : isW k = true) {ls : List (List Int)} {i q x : Int} (hi0 : 0 ≤ i) (hi : i < ls.length) (hq0 : 0 ≤ q) :
    (q < (ls[i.toNat]?.getD []).length → spoC (setS ([], []) k ls) k i q = 0 ∧ spoS (setS ([], []) k ls) k i q x = setS ([], []) k (ls.set i.toNat (spoilL (ls[i.toNat]?.getD []) q.toNat x))) ∧
    (¬ q < (ls[i.toNat]?.getD []).length → spoC (setS ([], []) k ls) k i q = 16 ∧ spoS (setS ([], []) k ls) k i q x = setS ([], []) k ls) := by
  have h0 : getC (setS ([], []) k ls) k i = 0 := by unfold getC; rw [hk, if_pos rfl, rowS_setS, if_pos ⟨hi0, hi⟩]
  have hL : getL (setS ([], []) k ls) k i = ls[i.toNat]?.getD [] := by unfold getL; rw [rowS_setS]
  constructor
  · intro h
    have h1 : spoC (setS ([], []) k ls) k i q = 0 := by unfold spoC; rw [if_pos h0, hL, if_pos ⟨hq0, h⟩]
    refine ⟨h1, ?_⟩
    unfold spoS
    rw [if_pos h1, hL, rowS_setS, setS_setS]
  · intro h
    have h1 : spoC (setS ([], []) k ls) k i q = 16 := by unfold spoC; rw [if_pos h0, hL, if_neg (fun h' => h h'.2)]
    refine ⟨h1, ?_⟩
    unfold spoS
    rw [if_neg (by rw [h1]; decide)]

/-- The last of a row taken. -/
theorem last_steps {k : Int} (hk : isW k = true) {ls : List (List Int)} {m : List Int} :
    getC (setS ([], []) k (ls ++ [m])) k ls.length = 0 ∧ getL (setS ([], []) k (ls ++ [m])) k ls.length = m ∧ takeS (setS ([], []) k (ls ++ [m])) k ls.length = setS ([], []) k ls := by
  have h0 : getC (setS ([], []) k (ls ++ [m])) k ls.length = 0 := by unfold getC; rw [hk, if_pos rfl, rowS_setS, if_pos ⟨by omega, by simp; omega⟩]
  refine ⟨h0, ?_, ?_⟩
  · unfold getL; rw [rowS_setS]; simp
  · unfold takeS
    rw [if_pos h0, rowS_setS, setS_setS]
    simp [List.eraseIdx_append_of_length_le]

theorem set_self_getD {ls : List (List Int)} {i : Nat} (hi : i < ls.length) : ls.set i (ls[i]?.getD []) = ls := by
  rw [List.getElem?_eq_getElem hi]; exact List.set_getElem_self hi

/-- What the law's calls tell, and make of the rows: a message with bytes. -/
theorem dbl_some {k : Int} (hk : isW k = true) {ls : List (List Int)} {i q x : Int} (hi0 : 0 ≤ i) (hi : i < ls.length) (hq0 : 0 ≤ q) (hq : q < (ls[i.toNat]?.getD []).length) (hb : IsB (ls[i.toNat]?.getD [])) (hx : 0 ≤ x ∧ x ≤ 255) :
    ∃ S2 S3, spoC (setS ([], []) k (ls ++ [ls[i.toNat]?.getD []])) k i q = 0 ∧ spoS (setS ([], []) k (ls ++ [ls[i.toNat]?.getD []])) k i q x = S2 ∧
      getC S2 k ls.length = 0 ∧ getL S2 k ls.length = ls[i.toNat]?.getD [] ∧ takeS S2 k ls.length = S3 ∧ spoC S3 k i q = 0 ∧ spoS S3 k i q x = setS ([], []) k ls := by
  have e1 : (ls ++ [ls[i.toNat]?.getD []])[i.toNat]?.getD [] = ls[i.toNat]?.getD [] := by rw [List.getElem?_append_left (by omega)]
  obtain ⟨a1, a2⟩ := (spo_steps hk (ls := ls ++ [ls[i.toNat]?.getD []]) (x := x) hi0 (by simp; omega) hq0).1 (by rw [e1]; exact hq)
  rw [e1, List.set_append_left _ _ (by omega)] at a2
  have hlen : (ls.set i.toNat (spoilL (ls[i.toNat]?.getD []) q.toNat x)).length = ls.length := by simp
  obtain ⟨b1, b2, b3⟩ := last_steps hk (ls := ls.set i.toNat (spoilL (ls[i.toNat]?.getD []) q.toNat x)) (m := ls[i.toNat]?.getD [])
  rw [hlen] at b1 b2 b3
  have e2 : (ls.set i.toNat (spoilL (ls[i.toNat]?.getD []) q.toNat x))[i.toNat]?.getD [] = spoilL (ls[i.toNat]?.getD []) q.toNat x := by rw [List.getElem?_set_self (by omega)]; rfl
  obtain ⟨c1, c2⟩ := (spo_steps hk (ls := ls.set i.toNat (spoilL (ls[i.toNat]?.getD []) q.toNat x)) (x := x) hi0 (by simp; omega) hq0).1 (by rw [e2]; simp [spoilL]; exact hq)
  rw [e2, spoil_back hb hx (by omega), List.set_set, set_self_getD (by omega)] at c2
  exact ⟨_, _, a1, a2, b1, b2, b3, c1, c2⟩
/-- The same: a message without bytes. -/
theorem dbl_none {k : Int} (hk : isW k = true) {ls : List (List Int)} {i q x : Int} (hi0 : 0 ≤ i) (hi : i < ls.length) (hq0 : 0 ≤ q) (hq : (ls[i.toNat]?.getD []).length = 0) :
    spoC (setS ([], []) k (ls ++ [ls[i.toNat]?.getD []])) k i q = 16 ∧ spoS (setS ([], []) k (ls ++ [ls[i.toNat]?.getD []])) k i q x = setS ([], []) k (ls ++ [ls[i.toNat]?.getD []]) ∧
      getC (setS ([], []) k (ls ++ [ls[i.toNat]?.getD []])) k ls.length = 0 ∧ getL (setS ([], []) k (ls ++ [ls[i.toNat]?.getD []])) k ls.length = ls[i.toNat]?.getD [] ∧ takeS (setS ([], []) k (ls ++ [ls[i.toNat]?.getD []])) k ls.length = setS ([], []) k ls ∧ spoC (setS ([], []) k ls) k i q = 16 ∧ spoS (setS ([], []) k ls) k i q x = setS ([], []) k ls := by
  have e1 : (ls ++ [ls[i.toNat]?.getD []])[i.toNat]?.getD [] = ls[i.toNat]?.getD [] := by rw [List.getElem?_append_left (by omega)]
  obtain ⟨a1, a2⟩ := (spo_steps hk (ls := ls ++ [ls[i.toNat]?.getD []]) (x := x) hi0 (by simp; omega) hq0).2 (by rw [e1, hq]; omega)
  obtain ⟨b1, b2, b3⟩ := last_steps hk (ls := ls) (m := ls[i.toNat]?.getD [])
  obtain ⟨c1, c2⟩ := (spo_steps hk (ls := ls) (x := x) hi0 hi hq0).2 (by rw [hq]; omega)
  exact ⟨a1, a2, b1, b2, b3, c1, c2⟩

set_option maxRecDepth 100000 in
set_option maxHeartbeats 4000000 in
theorem netdoubles_law (way ii at_ x : Int) (a : Option Addr) (n c : Nat) (ls : List (List Int)) (w : World) (hx : 0 ≤ x ∧ x ≤ 255) (hr : RdBB w a n c ls) :
    Calls Try.prog 5 #[.int .i64 way, .slice a n c, .int .i64 ii, .int .i64 at_, .int .u8 x] w fun e w' => e = .returned (.bool true) ∧ Below w.heap.size w w' := by
  obtain rfl : ls.length = n := hr.len
  have hcap := hr.caps
  obtain ⟨k, hk, hk0, hk2⟩ := mod_int way 2 (by omega)
  have HW1 := Lib.hid (fun w' => number_int way 2 k hk (by omega) (by omega) w')
  clear hk
  have hkW := Lib.hid (isW_mk hk0 hk2)
  have hxH := Lib.hid hx
  clear hx
  by_cases hl : LightP ls
  case neg =>
    go_enter Try.func5, Try.ntmps5
    go_wp2_with fail
    refine (nfirst_any _).mono ?_
    rintro e w1 ⟨rfl, hb1⟩
    go_wp2_with fail
    refine (HW1.out _).mono ?_
    rintro e w2 ⟨rfl, rfl⟩
    go_wp2_with fail
    refine (light_no _ _ _ ls _ (hr.mono hb1) hl).mono ?_
    rintro e w2 ⟨rfl, rfl⟩
    go_wp2_with fail
    go_ret
    exact ⟨rfl, hb1⟩
  have HL := Lib.hid hl
  clear hl
  by_cases hz : ls.length = 0
  · have hd : ((ls.length : Int) == 0) = true := by rw [hz]; rfl
    clear hz
    go_enter Try.func5, Try.ntmps5
    go_wp2_with fail
    refine (nfirst_any _).mono ?_
    rintro e w1 ⟨rfl, hb1⟩
    go_wp2_with fail
    refine (HW1.out _).mono ?_
    rintro e w2 ⟨rfl, rfl⟩
    go_wp2_with fail
    refine (light_yes _ _ _ ls _ (hr.mono hb1) HL.out).mono ?_
    rintro e w2 ⟨rfl, rfl⟩
    go_wp2_with fail
    go_ret
    exact ⟨rfl, hb1⟩
  have hd : ((ls.length : Int) == 0) = false := by simpa using hz
  have hpos : 0 < ls.length := by omega
  clear hz
  have hle32 : ls.length ≤ 32 := HL.out.1
  obtain ⟨i, hi, hi0, hi2⟩ := mod_int ii ls.length (by omega)
  have HI := Lib.hid (fun w' => number_int ii ls.length i hi (by omega) (by omega) w')
  clear hi
  obtain ⟨b, off, v, rfl, hv⟩ := hr.atB i.toNat (by omega)
  obtain ⟨va, vn, vc⟩ := v
  have hvl : Hid ((ls[i.toNat]?.getD []).length = vn) := (hv w (Below.refl _ _)).2.len
  have hvB : Hid (IsB (ls[i.toNat]?.getD [])) := (hv w (Below.refl _ _)).2.1
  simp only at hv
  have HV := Lib.hid hv
  clear hv
  have hv40 : vn ≤ 40 := by
    have := HL.out.2 (ls[i.toNat]?.getD []) (by rw [List.getElem?_eq_getElem (by omega)]; exact List.getElem_mem _)
    rw [hvl.out] at this
    exact this
  have D := dbl_steps hkW.out hi0 hi2 hle32
  have hsm : Hid (∀ l ∈ ls, l.length ≤ 140737488351232) := fun l hl => Nat.le_trans (HL.out.2 l hl) (by decide)
  by_cases h32 : ls.length = 32
  · obtain ⟨d1, d2⟩ := D.1 h32
    have D1 := Lib.hid d1
    have D2 := Lib.hid d2
    have hd32 : ((ls.length : Int) == 32) = true := by rw [h32]; rfl
    clear D d1 d2 h32
    go_enter Try.func5, Try.ntmps5
    go_wp2_with fail
    refine (nfirst_any _).mono ?_
    rintro e w1 ⟨rfl, hb1⟩
    go_wp2_with fail
    refine (HW1.out _).mono ?_
    rintro e w2 ⟨rfl, rfl⟩
    go_wp2_with fail
    refine (light_yes _ _ _ ls _ (hr.mono hb1) HL.out).mono ?_
    rintro e w2 ⟨rfl, rfl⟩
    go_wp2_with fail
    refine (sent_yes k _ _ _ ls _ hkW.out (hr.mono hb1) HL.out).mono ?_
    rintro e w2 ⟨p, F2, rfl, hL2⟩
    go_wp2_with fail
    refine (HI.out _).mono ?_
    rintro e w3 ⟨rfl, rfl⟩
    go_wp2_with fail
    refine (s_double w1.heap.size p _ F2 k i _ hL2.net (by rw [rowS_setS]; exact hsm.out)).mono ?_
    rintro e w3 ⟨rfl, hst⟩
    rw [D1.out]
    rw [D2.out] at hst
    obtain ⟨F3, hL3⟩ := hL2.step hst
    clear hst hL2
    go_wp2_with fail
    refine (s_len w1.heap.size p _ F3 k _ hL3.net).mono ?_
    rintro e w4 ⟨rfl, rfl⟩
    rw [if_pos hkW.out, rowS_setS]
    go_wp2_with fail
    go_ret
    exact ⟨rfl, hb1.trans (hL3.bel.mono hb1.size)⟩
  obtain ⟨d1, d2⟩ := D.2 (by omega)
  have D1 := Lib.hid d1
  have D2 := Lib.hid d2
  have hd32 : ((ls.length : Int) == 32) = false := by simpa using (show ¬ (ls.length : Int) = 32 by omega)
  clear D d1 d2 h32
  obtain ⟨q, hq, hq0, hq1, hq2⟩ := number_ex at_ vn (by omega)
  have HQ := Lib.hid hq
  clear hq
  by_cases hvn : 0 < vn
  · have hqlt := hq1 hvn
    have hvn0 : ((vn : Int) == 0) = false := by simpa using (show ¬ (vn : Int) = 0 by omega)
    obtain ⟨S2, S3, t1, t2, t3, t4, t5, t6, t7⟩ := dbl_some hkW.out (x := x) hi0 hi2 hq0 (by rw [hvl.out]; exact hqlt) hvB.out hxH.out
    have T1 := Lib.hid t1
    have T2 := Lib.hid t2
    have T3 := Lib.hid t3
    have T4 := Lib.hid t4
    have T5 := Lib.hid t5
    have T6 := Lib.hid t6
    have T7 := Lib.hid t7
    clear t1 t2 t3 t4 t5 t6 t7 hq1 hq2
    go_enter Try.func5, Try.ntmps5
    go_wp2_with fail
    refine (nfirst_any _).mono ?_
    rintro e w1 ⟨rfl, hb1⟩
    go_wp2_with fail
    refine (HW1.out _).mono ?_
    rintro e w2 ⟨rfl, rfl⟩
    go_wp2_with fail
    refine (light_yes _ _ _ ls _ (hr.mono hb1) HL.out).mono ?_
    rintro e w2 ⟨rfl, rfl⟩
    go_wp2_with fail
    refine (sent_yes k _ _ _ ls _ hkW.out (hr.mono hb1) HL.out).mono ?_
    rintro e w2 ⟨p, F2, rfl, hL2⟩
    go_wp2_with fail
    refine (HI.out _).mono ?_
    rintro e w3 ⟨rfl, rfl⟩
    go_wp2_with fail
    refine (s_double w1.heap.size p _ F2 k i _ hL2.net (by rw [rowS_setS]; exact hsm.out)).mono ?_
    rintro e w3 ⟨rfl, hst⟩
    rw [D1.out]
    rw [D2.out] at hst
    obtain ⟨F3, hL3⟩ := hL2.step hst
    clear hst hL2
    obtain ⟨hc3, hv3⟩ := HV.out _ (hb1.trans (hL3.bel.mono hb1.size))
    clear hv3
    go_wp2_with fail
    refine (HQ.out _).mono ?_
    rintro e w4 ⟨rfl, rfl⟩
    go_wp2_with fail
    refine (s_spoil w1.heap.size p _ F3 k i _ x _ hL3.net).mono ?_
    rintro e w4 ⟨rfl, hst⟩
    rw [T1.out]
    rw [T2.out] at hst
    obtain ⟨F4, hL4⟩ := hL3.step hst
    clear hst hL3 hc3
    obtain ⟨hc4, hv4⟩ := HV.out _ (hb1.trans (hL4.bel.mono hb1.size))
    clear hv4
    go_wp2_with fail
    refine (s_take w1.heap.size p _ F4 k _ _ hL4.net).mono ?_
    rintro e w5 ⟨a5, n5, c5, rfl, hr5, hf5, hst⟩
    rw [T3.out] at hr5 ⊢
    rw [if_pos rfl, T4.out] at hr5
    rw [T5.out] at hst
    obtain ⟨F5, hL5⟩ := hL4.step hst
    clear hst hL4 hf5 hc4
    obtain ⟨hc5, hv5⟩ := HV.out _ (hb1.trans (hL5.bel.mono hb1.size))
    go_wp2_with fail
    refine (same_any _ _ _ _ _ _ _ _ _ hr5 hv5).mono ?_
    rintro e w6 ⟨rfl, rfl⟩
    rw [decide_eq_true rfl]
    clear hr5 hv5
    go_wp2_with fail
    refine (HQ.out _).mono ?_
    rintro e w6 ⟨rfl, rfl⟩
    go_wp2_with fail
    refine (s_spoil w1.heap.size p _ F5 k i _ x _ hL5.net).mono ?_
    rintro e w6 ⟨rfl, hst⟩
    rw [T6.out]
    rw [T7.out] at hst
    obtain ⟨F6, hL6⟩ := hL5.step hst
    clear hst hL5 hc5
    go_wp2_with fail
    go_loopw [15, 16, 17] (fun u15 u16 u17 wr => ∃ (j : Nat) (F : Nat → Prop), j ≤ ls.length ∧ u17 = .int .i64 j ∧ Live w1 wr p (setS ([], []) k (ls.drop j)) F) (fun _ _ u17 _ => ls.length - (intOf u17).toNat)
    case atStart => exact ⟨0, F6, Nat.zero_le _, rfl, hL6⟩
    case round =>
      obtain ⟨j, F, hj, rfl, hL⟩ := hrel
      by_cases hlt : j < ls.length
      · obtain ⟨b', off', v', hab, hv⟩ := hr.atB j hlt
        cases hab
        obtain ⟨t1, t2, t3⟩ := take_first k hkW.out hlt
        have HT := s_take w1.heap.size p _ F k 0 wr hL.net
        unfold TakeS at HT
        rw [t1, t2, t3, if_pos rfl] at HT
        have HC := Lib.hid HT
        have HV := Lib.hid hv
        clear HT t1 t2 t3 hv
        go_wp2_with fail
        refine HC.out.mono ?_
        rintro e w2 ⟨a2, n2, c2, rfl, hr2, hf2, hst⟩
        obtain ⟨F', hL'⟩ := hL.step hst
        obtain ⟨hc, hv⟩ := HV.out w2 (hb1.trans (hL'.bel.mono hb1.size))
        clear hst hf2
        go_wp2_with fail
        refine (same_any _ _ _ _ _ _ _ _ _ hr2 hv).mono ?_
        rintro e w3 ⟨rfl, rfl⟩
        rw [decide_eq_true rfl]
        go_wp2_with fail
        go_roundw
        case rel => exact ⟨j + 1, F', by omega, by go_num, hL'⟩
        case measure => simp [intOf]; omega
      · obtain rfl : j = ls.length := by omega
        go_wp2_with fail
        refine (s_len w1.heap.size p _ F k _ hL.net).mono ?_
        rintro e w4 ⟨rfl, rfl⟩
        rw [if_pos hkW.out, rowS_setS, List.drop_length]
        go_wp2_with fail
        go_ret
        exact ⟨rfl, hb1.trans (hL.bel.mono hb1.size)⟩
  · have hvn0 : vn = 0 := by omega
    obtain rfl : q = 0 := hq2 hvn0
    subst hvn0
    obtain ⟨t1, t2, t3, t4, t5, t6, t7⟩ := dbl_none hkW.out (x := x) hi0 hi2 (Int.le_refl 0) hvl.out
    have T1 := Lib.hid t1
    have T2 := Lib.hid t2
    have T3 := Lib.hid t3
    have T4 := Lib.hid t4
    have T5 := Lib.hid t5
    have T6 := Lib.hid t6
    have T7 := Lib.hid t7
    clear t1 t2 t3 t4 t5 t6 t7 hq1 hq2
    go_enter Try.func5, Try.ntmps5
    go_wp2_with fail
    refine (nfirst_any _).mono ?_
    rintro e w1 ⟨rfl, hb1⟩
    go_wp2_with fail
    refine (HW1.out _).mono ?_
    rintro e w2 ⟨rfl, rfl⟩
    go_wp2_with fail
    refine (light_yes _ _ _ ls _ (hr.mono hb1) HL.out).mono ?_
    rintro e w2 ⟨rfl, rfl⟩
    go_wp2_with fail
    refine (sent_yes k _ _ _ ls _ hkW.out (hr.mono hb1) HL.out).mono ?_
    rintro e w2 ⟨p, F2, rfl, hL2⟩
    go_wp2_with fail
    refine (HI.out _).mono ?_
    rintro e w3 ⟨rfl, rfl⟩
    go_wp2_with fail
    refine (s_double w1.heap.size p _ F2 k i _ hL2.net (by rw [rowS_setS]; exact hsm.out)).mono ?_
    rintro e w3 ⟨rfl, hst⟩
    rw [D1.out]
    rw [D2.out] at hst
    obtain ⟨F3, hL3⟩ := hL2.step hst
    clear hst hL2
    obtain ⟨hc3, hv3⟩ := HV.out _ (hb1.trans (hL3.bel.mono hb1.size))
    clear hv3
    go_wp2_with fail
    refine (HQ.out _).mono ?_
    rintro e w4 ⟨rfl, rfl⟩
    go_wp2_with fail
    refine (s_spoil w1.heap.size p _ F3 k i _ x _ hL3.net).mono ?_
    rintro e w4 ⟨rfl, hst⟩
    rw [T1.out]
    rw [T2.out] at hst
    obtain ⟨F4, hL4⟩ := hL3.step hst
    clear hst hL3 hc3
    obtain ⟨hc4, hv4⟩ := HV.out _ (hb1.trans (hL4.bel.mono hb1.size))
    clear hv4
    go_wp2_with fail
    refine (s_take w1.heap.size p _ F4 k _ _ hL4.net).mono ?_
    rintro e w5 ⟨a5, n5, c5, rfl, hr5, hf5, hst⟩
    rw [T3.out] at hr5 ⊢
    rw [if_pos rfl, T4.out] at hr5
    rw [T5.out] at hst
    obtain ⟨F5, hL5⟩ := hL4.step hst
    clear hst hL4 hf5 hc4
    obtain ⟨hc5, hv5⟩ := HV.out _ (hb1.trans (hL5.bel.mono hb1.size))
    go_wp2_with fail
    refine (same_any _ _ _ _ _ _ _ _ _ hr5 hv5).mono ?_
    rintro e w6 ⟨rfl, rfl⟩
    rw [decide_eq_true rfl]
    clear hr5 hv5
    go_wp2_with fail
    refine (HQ.out _).mono ?_
    rintro e w6 ⟨rfl, rfl⟩
    go_wp2_with fail
    refine (s_spoil w1.heap.size p _ F5 k i _ x _ hL5.net).mono ?_
    rintro e w6 ⟨rfl, hst⟩
    rw [T6.out]
    rw [T7.out] at hst
    obtain ⟨F6, hL6⟩ := hL5.step hst
    clear hst hL5 hc5
    go_wp2_with fail
    go_loopw [15, 16, 17] (fun u15 u16 u17 wr => ∃ (j : Nat) (F : Nat → Prop), j ≤ ls.length ∧ u17 = .int .i64 j ∧ Live w1 wr p (setS ([], []) k (ls.drop j)) F) (fun _ _ u17 _ => ls.length - (intOf u17).toNat)
    case atStart => exact ⟨0, F6, Nat.zero_le _, rfl, hL6⟩
    case round =>
      obtain ⟨j, F, hj, rfl, hL⟩ := hrel
      by_cases hlt : j < ls.length
      · obtain ⟨b', off', v', hab, hv⟩ := hr.atB j hlt
        cases hab
        obtain ⟨t1, t2, t3⟩ := take_first k hkW.out hlt
        have HT := s_take w1.heap.size p _ F k 0 wr hL.net
        unfold TakeS at HT
        rw [t1, t2, t3, if_pos rfl] at HT
        have HC := Lib.hid HT
        have HV := Lib.hid hv
        clear HT t1 t2 t3 hv
        go_wp2_with fail
        refine HC.out.mono ?_
        rintro e w2 ⟨a2, n2, c2, rfl, hr2, hf2, hst⟩
        obtain ⟨F', hL'⟩ := hL.step hst
        obtain ⟨hc, hv⟩ := HV.out w2 (hb1.trans (hL'.bel.mono hb1.size))
        clear hst hf2
        go_wp2_with fail
        refine (same_any _ _ _ _ _ _ _ _ _ hr2 hv).mono ?_
        rintro e w3 ⟨rfl, rfl⟩
        rw [decide_eq_true rfl]
        go_wp2_with fail
        go_roundw
        case rel => exact ⟨j + 1, F', by omega, by go_num, hL'⟩
        case measure => simp [intOf]; omega
      · obtain rfl : j = ls.length := by omega
        go_wp2_with fail
        refine (s_len w1.heap.size p _ F k _ hL.net).mono ?_
        rintro e w4 ⟨rfl, rfl⟩
        rw [if_pos hkW.out, rowS_setS, List.drop_length]
        go_wp2_with fail
        go_ret
        exact ⟨rfl, hb1.trans (hL.bel.mono hb1.size)⟩
end Go.Proofs.Ytnbikaiejeclnaa
