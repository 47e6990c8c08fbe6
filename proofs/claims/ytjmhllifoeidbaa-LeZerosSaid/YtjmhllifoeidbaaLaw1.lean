/- The walks of the four statements of layer 1: each law comes to true and leaves what was there. -/
import Derived.Test.YtjmhllifoeidbaaRefa
namespace Go.Proofs.Ytjmhllifoeidbaa
open Go.ChangeShapes Go.WideShapes Go.ChangeAt Go.RowKit
set_option linter.unusedVariables false

theorem first_any (w : World) :
    Calls Try.prog 7 #[] w fun e w' => e = .returned (.bool true) ∧ Below w.heap.size w w' := by
  have ho : OwnB 5 (w.alloc (.cells #[.int .u8 1, .int .u8 2, .int .u8 3] 5)) w.heap.size (some ⟨w.heap.size, 0, none⟩) 3 3 [1, 2, 3] :=
    ⟨by intro x hx; simp at hx; omega, Own.lit [1, 2, 3] _ 3 rfl rfl (Nat.le_refl _) (by unfold maxLen; omega)⟩
  have e1 : getA [1, 2, 3] 1 2 = 770 := by decide
  have e2 : getB [1, 2, 3] 1 2 = true := by decide
  have e3 : alignA 9 = 16 := by decide
  have e4 : alignB 9 = true := by decide
  go_enter Try.func7, Try.ntmps7
  go_wp2_with (first | (go_at_call 11; go_must (refine (get_any _ _ _ [1, 2, 3] _ _ _ ho.rd (by omega)).mono ?_); rintro e w1 ⟨rfl, rfl⟩) | (go_at_call 8; refine (align_any _ (by omega) _).mono ?_; rintro e w2 ⟨rfl, rfl⟩))
  go_ret
  exact ⟨rfl, (Below.refl _ _).alloc (Nat.le_refl _) _⟩

theorem law_aligns (v : Int) (h0 : 0 ≤ v) (h1 : v ≤ 18446744073709551615) (w : World) :
    Calls Try.prog 3 #[.int .u64 v] w fun e w' => e = .returned (.bool true) ∧ Below w.heap.size w w' := by
  go_enter Try.func3, Try.ntmps3
  go_wp2_with (first | (go_at_call 7; refine (first_any _).mono ?_; rintro e w1 ⟨rfl, hb⟩))
  by_cases h : v ≤ 18446744073709551608
  · refine (align_yes v h0 h _).mono ?_
    rintro e w2 ⟨rfl, rfl⟩
    have hA : (v + 7) / 8 * 8 ≤ 18446744073709551608 := by omega
    go_wp2_with fail
    refine (align_yes _ (by omega) hA _).mono ?_
    rintro e w2 ⟨rfl, rfl⟩
    have f1 : (((v + 7) / 8 * 8) % 8 == 0) = true := by simp
    have f2 : v ≤ (v + 7) / 8 * 8 := by omega
    have f3 : (v + 7) / 8 * 8 - v < 8 := by omega
    have f4 : ((((v + 7) / 8 * 8) + 7) / 8 * 8 == (v + 7) / 8 * 8) = true := by rw [beq_iff_eq]; omega
    go_wp2
    go_ret
    exact ⟨rfl, hb⟩
  · refine (align_no v h0 (by omega) _).mono ?_
    rintro e w2 ⟨rfl, rfl⟩
    go_wp2
    go_ret
    exact ⟨rfl, hb⟩

theorem mod_nat (n b : Int) (h : 1 ≤ b) : ∃ k : Nat, n % b = k ∧ (k : Int) < b := by
  obtain ⟨k, hk⟩ := Int.eq_ofNat_of_zero_le (Int.emod_nonneg n (show b ≠ 0 by omega))
  exact ⟨k, hk, by have := Int.emod_lt_of_pos n (show 0 < b by omega); omega⟩

theorem zeros_rep (n : Nat) : zeros (List.replicate n 0) = true := by simp [zeros]
theorem zeros_set (n k : Nat) (v : Int) (h : k < n) : zeros ((List.replicate n 0).set k v) = (v == 0) := by
  by_cases hv : v = 0
  · subst hv
    have : (List.replicate n (0 : Int)).set k 0 = List.replicate n 0 := by
      apply List.ext_getElem?; intro i
      rw [List.getElem?_set]; split
      · subst_vars; simp [h]
      · rfl
    rw [this, zeros_rep]; simp
  · have h2 : (v == 0) = false := by simpa using hv
    rw [h2, zeros, List.all_eq_false]
    exact ⟨v, List.mem_iff_getElem?.2 ⟨k, by simp [h]⟩, by simpa using hv⟩

theorem law_zeros (n at_ by_ : Int) (h1 : 0 ≤ by_ ∧ by_ ≤ 255) (w : World) :
    Calls Try.prog 4 #[.int .i64 n, .int .i64 at_, .int .u8 by_] w fun e w' => e = .returned (.bool true) ∧ Below w.heap.size w w' := by
  obtain ⟨N, hN, hN2⟩ := mod_nat n 300 (by omega)
  obtain ⟨K, hK, hK2⟩ := mod_nat at_ ((N : Int) + 1) (by omega)
  have HN := Lib.hid hN
  have HK := Lib.hid hK
  clear hN hK
  go_enter Try.func4, Try.ntmps4
  go_wp2_with fail
  refine (first_any _).mono ?_
  rintro e w1 ⟨rfl, hb1⟩
  go_wp2_with fail
  refine (number_nat _ _ N HN.out (by omega) (by omega) _).mono ?_
  rintro e w1 ⟨rfl, rfl⟩
  have hs1 := hb1.size
  go_wp2_with (at_make; go_must (refine wpList_makeOwn (0 : Int) rfl rfl Try.oneB Try.zeroB rfl rfl rfl (n := N + 1) (by omega) (by omega) (by omega) (by omega) (Nat.le_refl _) ?_); intro w2 ho2 hb2 _ _)
  have hz2 : OwnB 5 w2 _ _ _ _ _ := ⟨IsB.replicate _, ho2⟩
  refine (zero_any _ _ _ _ _ hz2.rd (by omega)).mono ?_
  rintro e w3 ⟨rfl, rfl⟩
  rw [zeros_rep]
  go_wp2_with fail
  have hnil : ∀ w : World, RdB w none 0 0 [] := fun w => ⟨IsB.nil, rfl, Nat.le_refl _, Nat.zero_le _, fun _ => rfl, .inl rfl⟩
  refine (zero_any _ _ _ _ _ (hnil _) (by omega)).mono ?_
  rintro e w3 ⟨rfl, rfl⟩
  rw [show zeros [] = true from rfl]
  clear hnil
  go_wp2_with fail
  refine (number_nat _ _ K HK.out (by omega) (by omega) _).mono ?_
  rintro e w3 ⟨rfl, rfl⟩
  have hc := ho2.cell K 0 (by rw [List.getElem?_replicate, if_pos (by omega)])
  have hf := ho2.free K
  have ho4 := ho2.set K by_
  have hz4 : OwnB 5 (w2.setCell ⟨w1.heap.size, K, none⟩ (.int .u8 by_)) _ _ _ _ _ := ⟨fun x hx => by
    rcases List.mem_or_eq_of_mem_set hx with hx | hx
    · exact IsB.replicate _ x hx
    · rw [hx]; exact h1, ho4⟩
  have Hz := Lib.hid (zeros_set (N + 1) K by_ (by omega))
  go_wp2_with fail
  refine (zero_any _ _ _ _ _ hz4.rd (by omega)).mono ?_
  rintro e w5 ⟨rfl, rfl⟩
  rw [Hz.out]
  go_wp2
  go_ret
  exact ⟨ret_bool (by simp), (hb1.trans (hb2.mono hs1)).setCell hs1 _⟩

theorem law_says (a : Option Addr) (len cap : Nat) (l : List Int) (p n v : Int) (w : World) (hr : RdB w a len cap l)
    (hp : -9223372036854775808 ≤ p ∧ p ≤ 9223372036854775807) (hv : 0 ≤ v ∧ v ≤ 18446744073709551615) :
    Calls Try.prog 5 #[.slice a len cap, .int .i64 p, .int .i64 n, .int .u64 v] w fun e w' => e = .returned (.bool true) ∧ Below w.heap.size w w' := by
  have hlen : len ≤ 9223372036854775807 := by have h1 := hr.2.2.1; have h2 := hr.2.2.2.1; unfold maxLen at h2; omega
  by_cases hbig : 300 < len
  · go_enter Try.func5, Try.ntmps5
    go_wp2_with fail
    refine (first_any _).mono ?_
    rintro e w1 ⟨rfl, hb1⟩
    go_wp2_with fail
    go_ret
    exact ⟨rfl, hb1⟩
  · go_enter Try.func5, Try.ntmps5
    go_wp2_with fail
    refine (first_any _).mono ?_
    rintro e w1 ⟨rfl, hb1⟩
    have hr1 := hr.mono hb1
    have hs1 := hb1.size
    go_wp2_with (first | (go_at_call 11; refine (get_any _ _ _ l _ _ _ hr1 (by omega)).mono ?_; rintro e w2 ⟨rfl, rfl⟩) | (go_at_call 12; refine (refget_any _ _ _ l _ _ _ hr1 (by omega) hp.2).mono ?_; rintro e w2 ⟨rfl, rfl⟩))
    refine (put_any _ _ _ l _ _ _ _ hr1 (by omega) hv).mono ?_
    rintro e w2 ⟨a2, c2, rfl, ho2, hb2⟩
    have hr2 := hr1.mono hb2
    have hs2 := hb2.size
    go_wp2_with fail
    refine (refput_any _ _ _ l _ _ _ _ hr2 (by omega) hp.2 hv).mono ?_
    rintro e w3 ⟨a3, c3, rfl, ho3, hb3⟩
    have hr3 := hr2.mono hb3
    have hs3 := hb3.size
    have ho23 := ho2.mono hb3
    go_wp2_with (first | (go_at_call 8; refine (align_any _ hv.1 _).mono ?_; rintro e w2 ⟨rfl, rfl⟩) | (go_at_call 15; refine (refalign_any _ hv.1 hv.2 _).mono ?_; rintro e w2 ⟨rfl, rfl⟩) | (go_at_call 16; refine (same_any _ _ _ _ _ _ _ _ _ ho23.rd ho3.rd).mono ?_; rintro e w2 ⟨rfl, rfl⟩))
    refine (add_any _ _ _ l _ _ _ hr3 (by omega) hv).mono ?_
    rintro e w4 ⟨a4, c4, rfl, ho4, hb4⟩
    have hr4 := hr3.mono hb4
    have hs4 := hb4.size
    go_wp2_with fail
    refine (refadd_any _ _ _ l _ _ _ hr4 (by omega) hv).mono ?_
    rintro e w5 ⟨a5, c5, rfl, ho5, hb5⟩
    have ho45 := ho4.mono hb5
    go_wp2_with fail
    refine (same_any _ _ _ _ _ _ _ _ _ ho45.rd ho5.rd).mono ?_
    rintro e w6 ⟨rfl, rfl⟩
    go_wp2_with fail
    go_ret
    exact ⟨ret_bool (by simp), hb1.trans ((hb2.mono hs1).trans ((hb3.mono (by omega)).trans ((hb4.mono (by omega)).trans (hb5.mono (by omega)))))⟩

theorem low_and (v : Int) (n : Nat) (hs : okSize n = true) (hn : n < 8) (hv : 0 ≤ v ∧ v ≤ 18446744073709551615) :
    bits .and .u64 v (IntKind.u64.wrap (IntKind.u64.wrap (2 ^ (8 * n)) - 1)) = v % 256 ^ n := by
  obtain ⟨x, rfl⟩ := Int.eq_ofNat_of_zero_le hv.1
  have h : n = 1 ∨ n = 2 ∨ n = 4 := by rcases okSize_cases hs with h | h | h | h <;> omega
  rcases h with rfl | rfl | rfl
  · have e : IntKind.u64.wrap (IntKind.u64.wrap (2 ^ (8 * 1)) - 1) = 255 := by decide
    rw [e, u64_and _ _ (by omega) (by omega) (by omega) (by omega)]
    have : (x : Int).toNat &&& (255 : Int).toNat = x % 256 := by simpa using Nat.and_two_pow_sub_one_eq_mod x 8
    rw [this]; simp
  · have e : IntKind.u64.wrap (IntKind.u64.wrap (2 ^ (8 * 2)) - 1) = 65535 := by decide
    rw [e, u64_and _ _ (by omega) (by omega) (by omega) (by omega)]
    have : (x : Int).toNat &&& (65535 : Int).toNat = x % 65536 := by simpa using Nat.and_two_pow_sub_one_eq_mod x 16
    rw [this]; simp
  · have e : IntKind.u64.wrap (IntKind.u64.wrap (2 ^ (8 * 4)) - 1) = 4294967295 := by decide
    rw [e, u64_and _ _ (by omega) (by omega) (by omega) (by omega)]
    have : (x : Int).toNat &&& (4294967295 : Int).toNat = x % 4294967296 := by simpa using Nat.and_two_pow_sub_one_eq_mod x 32
    rw [this]; simp

theorem low_all (v : Int) (hv : 0 ≤ v ∧ v ≤ 18446744073709551615) : v % 256 ^ 8 = v := by
  have : (256 : Int) ^ 8 = 18446744073709551616 := by decide
  rw [this]; omega

set_option maxHeartbeats 1000000 in
theorem law_back (a : Option Addr) (len cap : Nat) (l : List Int) (p which v : Int) (w : World) (hr : RdB w a len cap l)
    (hp : -9223372036854775808 ≤ p ∧ p ≤ 9223372036854775807) (hv : 0 ≤ v ∧ v ≤ 18446744073709551615) :
    Calls Try.prog 6 #[.slice a len cap, .int .i64 p, .int .i64 which, .int .u64 v] w fun e w' => e = .returned (.bool true) ∧ Below w.heap.size w w' := by
  obtain ⟨K, hK, hK2⟩ := mod_nat which 4 (by omega)
  have HK := Lib.hid hK
  clear hK
  have hcase : K = 0 ∨ K = 1 ∨ K = 2 ∨ K = 3 := by omega
  obtain rfl : l.length = len := hr.len
  have hlen : l.length ≤ 9223372036854775807 := by have h1 := hr.2.2.1; have h2 := hr.2.2.2.1; unfold maxLen at h2; omega
  go_enter Try.func6, Try.ntmps6
  go_wp2_with fail
  refine (first_any _).mono ?_
  rintro e w1 ⟨rfl, hb1⟩
  have hs1 := hb1.size
  go_wp2_with fail
  refine (number_nat _ _ K HK.out (by omega) (by omega) _).mono ?_
  rintro e w2 ⟨rfl, rfl⟩
  obtain ⟨n, hn, hcn⟩ : ∃ n : Nat, okSize n = true ∧ (w1.alloc (.cells #[.int .i64 1, .int .i64 2, .int .i64 4, .int .i64 8] 3)).cell? ⟨w1.heap.size, K, none⟩ = some (.int .i64 n) := by
    rcases hcase with rfl | rfl | rfl | rfl
    · exact ⟨1, rfl, by simp⟩
    · exact ⟨2, rfl, by simp⟩
    · exact ⟨4, rfl, by simp⟩
    · exact ⟨8, rfl, by simp⟩
  have hn8 : n ≤ 8 ∧ 1 ≤ n := by rcases okSize_cases hn with h | h | h | h <;> omega
  by_cases hbig : 200 < l.length
  · go_wp2_with fail
    go_ret
    exact ⟨rfl, hb1.alloc hs1 _⟩
  by_cases hsmall : l.length < n
  · go_wp2_with fail
    go_ret
    exact ⟨rfl, hb1.alloc hs1 _⟩
  obtain ⟨q, hq, hq2⟩ := mod_nat p ((l.length : Int) - n + 1) (by omega)
  have HQ := Lib.hid hq
  clear hq
  have hr1 := (hr.mono hb1).mono ((Below.refl _ _).alloc (Nat.le_refl _) (.cells #[.int .i64 1, .int .i64 2, .int .i64 4, .int .i64 8] 3))
  go_wp2_with fail
  refine (number_nat _ _ q HQ.out (by omega) (by omega) _).mono ?_
  rintro e w2 ⟨rfl, rfl⟩
  by_cases hn7 : n < 8
  focus
    have HL := Lib.hid (low_and v n hn hn7 hv)
    go_wp2_with fail
    rw [HL.out]
    clear HL
  rotate_left
  focus
    have HV : Hid (v % 256 ^ n = v) := Lib.hid (by rw [show n = 8 by omega]; exact low_all v hv)
    go_wp2_with fail
  all_goals
    refine (put_yes _ _ _ l q n v _ hr1 (by omega) hn (by omega) hv).mono ?_
    rintro e w2 ⟨a2, c2, rfl, ho2, hb2⟩
    obtain ⟨g2, rfl, hg2, hg2'⟩ := ho2.2.at (by omega)
    have Hp := Lib.hid (putL_read l q n v (by omega))
    have Hl := Lib.hid (putL_length l q n v (by omega))
    go_wp2_with fail
    refine (get_nat _ _ _ _ (putL l q n v) q n _ Hl.out (by omega) ho2.1 (fun i hi => cellInt (off := 0) (fun j x hx => by rw [Nat.zero_add]; exact ho2.2.cell j x hx) i hi) hn (by omega)).mono ?_
    rintro e w3 ⟨rfl, rfl⟩
    rw [Hp.out, leN_digs]
    try rw [HV.out]
    go_wp2_with fail
    have hr2 := hr1.mono hb2
    refine (add_yes _ _ _ l n v _ hr2 (by omega) hn hv).mono ?_
    rintro e w4 ⟨a4, c4, rfl, ho4, hb4⟩
    have Hal := Lib.hid (digs_length n v)
    obtain ⟨g4, rfl, hg4, hg4'⟩ := ho4.2.at (by simp; omega)
    have Har := Lib.hid (add_read l n v)
    go_wp2_with fail
    refine (get_nat _ _ _ _ (l ++ digs n v) l.length n _ (by simp) (by have := Hal.out; omega) ho4.1 (fun i hi => cellInt (off := 0) (fun j x hx => by rw [Nat.zero_add]; exact ho4.2.cell j x hx) i hi) hn (by have := Hal.out; omega)).mono ?_
    rintro e w5 ⟨rfl, rfl⟩
    rw [Har.out, leN_digs]
    try rw [HV.out]
    obtain ⟨b, off, rfl, hbb, _⟩ := hr2.2.at (by omega)
    have hr4 := hr2.mono hb4
    have ho24 := ho2.rd.mono hb4
    have k1 := fun nq => run_bytesStr (P := Try.prog) (w := w4.drewN nq) Try.underlying28 Try.underlying5 Try.underlying9 ((hr4.drewN nq).take q (by omega))
    have k2 := fun nq => run_bytesStr (P := Try.prog) (w := w4.drewN nq) Try.underlying28 Try.underlying5 Try.underlying9 ((ho24.drewN nq).take q (by omega))
    have k3 := fun nq => run_bytesStr (P := Try.prog) (w := w4.drewN nq) Try.underlying28 Try.underlying5 Try.underlying9 ((hr4.drewN nq).sliced (q + n) l.length (by omega) (by omega))
    have k4 := fun nq => run_bytesStr (P := Try.prog) (w := w4.drewN nq) Try.underlying28 Try.underlying5 Try.underlying9 ((ho24.drewN nq).sliced (q + n) l.length (by omega) (by omega))
    rw [putL_left l q n v (by omega)] at k2
    simp only [Option.map_some, addr_add, Nat.zero_add] at k3 k4
    rw [putL_right l q n v (by omega)] at k4
    have f1 : IntKind.i64.wrap ((q : Int) + n) = (q : Int) + n := IntWalk.i64_in _ (by omega)
    have f2 : (0 : Int) ≤ (q : Int) + n := by omega
    have f3 : ((q : Int) + n) ≤ (l.length : Int) := by omega
    have f4 : ((q : Int) + n).toNat = q + n := by omega
    have f5 : (q : Int) ≤ (c2 : Int) := by have := ho24.2.2.1; omega
    have f6 : (q : Int) ≤ (cap : Int) := by have := hr4.2.2.1; omega
    go_wp2_with fail
    go_quiet (fail)
    clear k1 k2 k3 k4 f1 f2 f3 f4 f5 f6
    have hal := Hal.out
    have HAL := Lib.hid hal
    clear hal
    have hb2s := hb2.size
    simp only [World.size_alloc] at hb2s
    go_wp2
    all_goals
      go_ret
      have hal := HAL.out
      exact ⟨ret_bool (by simp [hal]), bel_drewN (((hb1.alloc hs1 _).trans (hb2.mono (by simp; omega))).trans (hb4.mono (by omega))) _⟩

end Go.Proofs.Ytjmhllifoeidbaa
