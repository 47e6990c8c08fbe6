/- The walks of three statements of layer 3: each law comes to true and leaves what was there. -/
import Derived.Test.YtellljaoagndkaaCrcOpen
import Derived.Test.YtellljaoagndkaaNum
import Derived.Test.YtellljaoagndkaaSame
namespace Go.Proofs.Ytellljaoagndkaa
open Go.ChangeShapes Go.WideShapes Go.ChangeAt Go.RowKit
set_option linter.unusedVariables false

theorem crc_example : sumI [[49, 50, 51, 52, 53, 54, 55, 56, 57]] = 3808858755 := by decide +kernel

theorem first_any (w : World) :
    Calls Try.prog 7 #[] w fun e w' => e = .returned (.bool true) ∧ Below w.heap.size w w' := by
  have kc := fun (w : World) (C : Array Value) (n c : Nat) => Lib.run_convert_bytes_const (P := Try.prog) w 22 5 C n c Try.underlying22 Try.underlying5
  have hr := RdB.marked w [49, 50, 51, 52, 53, 54, 55, 56, 57] 5 (9, 10) #[.int .u8 49, .int .u8 50, .int .u8 51, .int .u8 52, .int .u8 53, .int .u8 54, .int .u8 55, .int .u8 56, .int .u8 57] 9 9 rfl rfl (by omega) (by unfold maxLen; omega) (by intro x hx; simp at hx; omega)
  have h1 := RdBB.one 22 hr
  simp only [World.size_alloc] at h1
  have hE := Lib.hid crc_example
  go_enter Try.func7, Try.ntmps7
  go_wp2_with fail
  refine (sum_any _ _ _ [[49, 50, 51, 52, 53, 54, 55, 56, 57]] _ h1 (by omega) (by intro x hx; simp at hx; subst hx; simp)).mono ?_
  rintro e w1 ⟨rfl, rfl⟩
  rw [hE.out]
  go_wp2_with fail
  refine (sum_any _ _ _ [] _ (RdBB.nil _) (by omega) (by intro x hx; simp at hx)).mono ?_
  rintro e w1 ⟨rfl, rfl⟩
  rw [show sumI [] = 0 from rfl]
  go_wp2
  go_ret
  exact ⟨rfl, ((Below.refl _ _).alloc (Nat.le_refl _) _).alloc (by simp) _⟩

/-! ### CrcSays -/
set_option maxRecDepth 100000 in
set_option maxHeartbeats 4000000 in
theorem law_says (a : Option Addr) (n c : Nat) (ls : List (List Int)) (v : Int) (a2 : Option Addr) (n2 c2 : Nat) (l2 : List Int) (w : World) (hr : RdBB w a n c ls) (hv : 0 ≤ v ∧ v ≤ 4294967295) (hr2 : RdB w a2 n2 c2 l2) :
    Calls Try.prog 4 #[.slice a n c, .int .u32 v, .slice a2 n2 c2] w fun e w' => e = .returned (.bool true) ∧ Below w.heap.size w w' := by
  have hlen : n ≤ 9223372036854775807 := by obtain ⟨vs, hrd, _⟩ := hr; have h1 := hrd.2.1; have h2 := hrd.2.2.1; unfold maxLen at h2; omega
  have hlen2 : n2 ≤ 9223372036854775807 := by have h1 := hr2.2.2.1; have h2 := hr2.2.2.2.1; unfold maxLen at h2; omega
  by_cases hbig : 20 < n
  · go_enter Try.func4, Try.ntmps4
    go_wp2_with fail
    refine (first_any _).mono ?_
    rintro e w1 ⟨rfl, hb1⟩
    go_wp2_with fail
    go_ret
    exact ⟨rfl, hb1⟩
  by_cases hbig2 : 300 < n2
  · go_enter Try.func4, Try.ntmps4
    go_wp2_with fail
    refine (first_any _).mono ?_
    rintro e w1 ⟨rfl, hb1⟩
    go_wp2_with fail
    go_ret
    exact ⟨rfl, hb1⟩
  have hd1 : decide (20 < (n : Int)) = false := by simp; omega
  have hd2 : decide (300 < (n2 : Int)) = false := by simp; omega
  have hnl := hr.len
  have HNL := Lib.hid hnl
  clear hnl
  go_enter Try.func4, Try.ntmps4
  go_wp2_with fail
  refine (first_any _).mono ?_
  rintro e w1 ⟨rfl, hb1⟩
  go_wp2_with fail
  go_loopw [8, 9] (fun x i wr => ∃ (k : Nat) (a' : Option Addr) (n' c' : Nat), k ≤ n ∧ i = .int .i64 k ∧ x = .slice a' n' c' ∧ OwnB 5 wr w.heap.size a' n' c' (ls.take k).flatten ∧ n' ≤ 60 * k ∧ (∀ l ∈ ls.take k, l.length ≤ 60) ∧ Below w.heap.size w wr) (fun _ i _ => n - (intOf i).toNat)
  case atStart => exact ⟨0, none, 0, 0, Nat.zero_le _, rfl, rfl, ⟨IsB.nil, Own.nil _ _ _ _⟩, Nat.zero_le _, fun l hl => by simp at hl, hb1⟩
  case round =>
    obtain ⟨k, a', n', c', hk, rfl, rfl, ho, hn', h60, hB⟩ := hrel
    have hsz := hB.size
    by_cases hlt : k < n
    · obtain ⟨vs, hrd, hvl, hvs⟩ := hr.mono hB
      obtain ⟨b, off, rfl, hbk, hcell⟩ := hrd.at (by omega)
      have hkl : k < ls.length := by have := HNL.out; omega
      have hkv : k < vs.length := by omega
      have hc := hcell k vs[k] (List.getElem?_eq_getElem hkv)
      have hrk := hvs k vs[k] ls[k] (List.getElem?_eq_getElem hkv) (List.getElem?_eq_getElem hkl)
      have Hs : Hid ((ls.take (k + 1)).flatten = (ls.take k).flatten ++ ls[k]) := Lib.hid (by rw [List.take_succ_eq_append_getElem hkl, List.flatten_append, List.flatten_cons, List.flatten_nil, List.append_nil])
      have H6 : Hid (∀ l ∈ ls.take (k + 1), l ∈ ls.take k ∨ l = ls[k]) := Lib.hid (by
        intro l hl; rw [List.take_succ_eq_append_getElem hkl] at hl
        rcases List.mem_append.1 hl with h | h
        · exact .inl h
        · exact .inr (List.mem_singleton.1 h))
      obtain ⟨⟨va, vn, vc⟩, hv'⟩ : ∃ v, vs[k] = v := ⟨_, rfl⟩
      rw [hv'] at hc hrk
      obtain ⟨l, hl2⟩ : ∃ l, ls[k] = l := ⟨_, rfl⟩
      rw [hl2] at hrk Hs H6
      simp only [encS] at hc hrk
      have hvn : vn ≤ 9223372036854775807 := by have h1 := hrk.2.2.1; have h2 := hrk.2.2.2.1; unfold maxLen at h2; omega
      have Hrl := Lib.hid hrk.len
      have H60 := Lib.hid h60
      clear hcell hvs hv' hl2 h60 hrd hvl
      by_cases hlong : 60 < vn
      · go_wp2_with fail
        go_ret
        exact ⟨rfl, hB⟩
      · go_wp2_with (at_builtin; go_must (refine wpList_appOwn rfl rfl Try.oneB rfl rfl ho.2 hrk.2 (fun _ => rfl) (by omega) (by omega) (by omega) ?_); intro a3 c3 w3 ho3 hb3 _ _)
        go_roundw
        case rel => exact ⟨k + 1, a3, n' + vn, c3, by omega, by go_num, rfl, ⟨by rw [Hs.out]; exact ho.1.append hrk.1, by rw [Hs.out]; exact ho3⟩, by omega, fun x hx => by
            rcases H6.out x hx with h | h
            · exact H60.out x h
            · rw [h, Hrl.out]; omega, hB.trans hb3⟩
        case measure => simp [intOf]; omega
    · have Ht : Hid (ls.take k = ls) := Lib.hid (List.take_of_length_le (by have := HNL.out; omega))
      rw [Ht.out] at ho h60
      have HS := Lib.hid (sumI_flat ls hr.isB)
      have hr2k := hr2.mono hB
      have hrk := hr.mono hB
      have hfl := ho.len
      have HFL := Lib.hid hfl
      clear hfl
      have hB0 := Below.refl wr.heap.size wr
      go_wp2_with fail
      refine (open_any _ _ _ l2 _ hr2k (by omega)).mono ?_
      rintro e w4 ⟨a4, c4, rfl, hr4, hb4⟩
      have hz4 := hb4.size
      go_wp2_with fail
      refine (refopen_any _ _ _ l2 _ (hr2k.mono hb4) (by omega)).mono ?_
      rintro e w5 ⟨a5, c5, rfl, hr5, hb5⟩
      have hz5 := hb5.size
      have hb05 := hb4.trans (hb5.mono hz4)
      go_wp2_with fail
      refine (sum_any _ _ _ ls _ (hrk.mono hb05) (by omega) (fun l hl => by have := h60 l hl; omega)).mono ?_
      rintro e w6 ⟨rfl, rfl⟩
      rw [HS.out]
      go_wp2_with fail
      refine (refmore_any _ _ _ _ _ (by omega) _ (ho.rd.mono hb05) (by omega)).mono ?_
      rintro e w6 ⟨rfl, rfl⟩
      go_wp2_with fail
      refine (more_any _ _ _ _ l2 hv _ (hr2k.mono hb05) (by omega)).mono ?_
      rintro e w6 ⟨rfl, rfl⟩
      go_wp2_with fail
      refine (refmore_any _ _ _ _ l2 hv _ (hr2k.mono hb05) (by omega)).mono ?_
      rintro e w6 ⟨rfl, rfl⟩
      go_wp2_with fail
      refine (seal_any _ _ _ l2 _ (hr2k.mono hb05) (by omega)).mono ?_
      rintro e w6 ⟨a6, c6, rfl, ho6, hb6⟩
      have hz6 := hb6.size
      have hb06 := hb05.trans (hb6.mono (by omega))
      go_wp2_with fail
      refine (refseal_any _ _ _ l2 _ (hr2k.mono hb06) (by omega)).mono ?_
      rintro e w7 ⟨a7, c7, rfl, ho7, hb7⟩
      have hb07 := hb06.trans (hb7.mono (by omega))
      go_wp2_with fail
      refine (same_any _ _ _ _ _ _ _ _ _ (ho6.rd.mono hb7) ho7.rd).mono ?_
      rintro e w8 ⟨rfl, rfl⟩
      go_wp2_with fail
      refine (same_any _ _ _ _ _ _ _ _ _ ((hr4.mono hb5).mono ((hb6.mono (Nat.le_refl _)).trans (hb7.mono (by omega)))) (hr5.mono (hb6.trans (hb7.mono (by omega))))).mono ?_
      rintro e w8 ⟨rfl, rfl⟩
      go_wp2
      go_ret
      exact ⟨ret_bool (by simp), hB.trans (hb07.mono hsz)⟩

/-! ### CrcShort -/
theorem digs4 (v : Int) : (digs 4 v).length = 4 := digs_length 4 v

theorem open_codes (l : List Int) : (l.length < 4 ∧ openC l = 22) ∨ (4 ≤ l.length ∧ openC l = 0) ∨ (4 ≤ l.length ∧ openC l = 19) := by
  unfold openC
  by_cases h : l.length < 4
  · exact .inl ⟨h, if_pos h⟩
  · rw [if_neg h]
    split
    · exact .inr (.inl ⟨by omega, rfl⟩)
    · exact .inr (.inr ⟨by omega, rfl⟩)

theorem openL_le (s : List Int) (K : Nat) : (openL (s.take K)).length ≤ s.length := by
  unfold openL; split
  · simp; omega
  · simp
theorem openL_le2 (s : List Int) : (openL s).length ≤ s.length := by
  unfold openL; split
  · simp
  · simp
theorem seal_open (l : List Int) (hb : IsB l) (h : openC l = 0) : sealL (openL l) = l := by
  have h4 : ¬ l.length < 4 := fun hh => by rw [openC, if_pos hh] at h; omega
  have he : leN (l.drop (l.length - 4)) = moreI 0 (l.take (l.length - 4)) := by
    rw [openC, if_neg h4] at h
    split at h
    · assumption
    · omega
  rw [openL, if_pos h, sealL, ← he]
  have hd : (l.drop (l.length - 4)).length = 4 := by simp; omega
  have := digs_leN (l.drop (l.length - 4)) (hb.drop _)
  rw [hd] at this
  rw [this, List.take_append_drop]

set_option maxRecDepth 100000 in
set_option maxHeartbeats 8000000 in
theorem law_short (a : Option Addr) (n c : Nat) (l : List Int) (cut by_ : Int) (hby : 0 ≤ by_ ∧ by_ ≤ 255) (w : World) (hr : RdB w a n c l) :
    Calls Try.prog 6 #[.slice a n c, .int .i64 cut, .int .u8 by_] w fun e w' => e = .returned (.bool true) ∧ Below w.heap.size w w' := by
  have hlen : n ≤ 9223372036854775807 := by have h1 := hr.2.2.1; have h2 := hr.2.2.2.1; unfold maxLen at h2; omega
  obtain rfl : l.length = n := hr.len
  by_cases hbig : 300 < l.length
  · go_enter Try.func6, Try.ntmps6
    go_wp2_with fail
    refine (first_any _).mono ?_
    rintro e w1 ⟨rfl, hb1⟩
    go_wp2_with fail
    go_ret
    exact ⟨rfl, hb1⟩
  have hsl : (sealL l).length = l.length + 4 := by simp [sealL, digs_length]
  obtain ⟨K, hK, hK2⟩ := mod_nat cut ((sealL l).length + 1) (by omega)
  have HK := Lib.hid hK
  have HSL := Lib.hid hsl
  clear hK
  obtain ⟨s, hs⟩ : ∃ s, sealL l = s := ⟨_, rfl⟩
  rw [hs] at hK2 hsl HK HSL
  have HS := Lib.hid hs
  have hE : (K < 4 ∧ openC (s.take K) = 22) ∨ (4 ≤ K ∧ openC (s.take K) = 0) ∨ (4 ≤ K ∧ openC (s.take K) = 19) := by
    have := open_codes (s.take K)
    have hl : (s.take K).length = K := by simp; omega
    rwa [hl] at this
  have hF : openC (s ++ [by_]) = 0 ∨ openC (s ++ [by_]) = 19 := by
    have := open_codes (s ++ [by_])
    have hl : (s ++ [by_]).length = s.length + 1 := by simp
    omega
  have hsn : s.length ≤ 304 := by omega
  clear hs hsl
  rcases hE with ⟨hk4, hE1⟩ | ⟨hk4, hE1⟩ | ⟨hk4, hE1⟩
  all_goals
    have HE1 := Lib.hid hE1
    clear hE1
    rcases hF with hF1 | hF1
  all_goals
    have HF1 := Lib.hid hF1
    clear hF1
    go_enter Try.func6, Try.ntmps6
    go_wp2_with fail
    refine (first_any _).mono ?_
    rintro e w1 ⟨rfl, hb1⟩
    have hr1 := hr.mono hb1
    have hs1 := hb1.size
    go_wp2_with fail
    refine (seal_any _ _ _ l _ hr1 (by omega)).mono ?_
    rintro e w2 ⟨a2, c2, rfl, ho2, hb2⟩
    rw [HS.out] at ho2 ⊢
    have hB2 := hb1.trans (hb2.mono hs1)
    have hs2 := hB2.size
    have hrs := ho2.rd
    have hcs := hrs.2.2.1
    go_wp2_with fail
    refine (number_nat _ _ K HK.out (by omega) (by omega) _).mono ?_
    rintro e w3 ⟨rfl, rfl⟩
    have hrk := hrs.take K (by omega)
    go_wp2_with fail
    refine (open_any _ _ _ (s.take K) _ hrk (by omega)).mono ?_
    rintro e w3 ⟨a3, c3, rfl, hr3, hb3⟩
    rw [HE1.out]
    have hz3 := hb3.size
    have hrs3 := hrs.mono hb3
    have hrk3 := hrk.mono hb3
    go_wp2_with fail
    refine (bytes_any _ _ _ s _ hrs3 (by omega)).mono ?_
    rintro e w4 ⟨a4, c4, rfl, ho4, hb4⟩
    have hz4 := hb4.size
    go_wp2_with (at_builtin; go_must (refine wpList_appOwn rfl rfl Try.oneB rfl rfl (ho4.2.alloc _) (Rd.one _ _ _ _) (fun _ => rfl) (by omega) (by omega) (by simp; omega) ?_); intro a5 c5 w5 ho5 hb5 _ _)
    have hz5 := hb5.size
    simp only [World.size_alloc] at hz5
    have hb5 := (((Below.refl w4.heap.size w4).alloc (Nat.le_refl _) (.cells #[.int .u8 by_] 5)).mono hz4).trans hb5
    have hr5 : RdB w5 a5 (s.length + 1) c5 (s ++ [by_]) := ⟨ho4.1.append (IsB.cons hby IsB.nil), ho5.rd⟩
    refine (open_any _ _ _ (s ++ [by_]) _ hr5 (by omega)).mono ?_
    rintro e w6 ⟨a6, c6, rfl, hr6, hb6⟩
    rw [HF1.out]
    have hz6 := hb6.size
    have hB6 : Below w2.heap.size w2 w6 := hb3.trans ((hb4.mono hz3).trans ((hb5.mono hz3).trans (hb6.mono (by omega))))
    have hrk6 := hrk.mono hB6
    have hrs6 := hrs.mono hB6
    have hr36 := hr3.mono ((hb4.mono (Nat.le_refl _)).trans (hb5.trans (hb6.mono (by omega))))
    have hBB := hB2.trans (hB6.mono hs2)
    have hzz := hBB.size
    have hll := openL_le s K
    have hll2 := openL_le2 (s ++ [by_])
    simp only [List.length_append, List.length_cons, List.length_nil] at hll2
    go_wp2_with fail
    try
      have HSO := Lib.hid (seal_open (s.take K) (hrs.1.take K) HE1.out)
      refine (seal_any _ _ _ _ _ hr36 (by omega)).mono ?_
      rintro e w7 ⟨a7, c7, rfl, ho7, hb7⟩
      rw [HSO.out] at ho7 ⊢
      rw [show (s.take K).length = K by simp; omega] at ho7 ⊢
      go_wp2_with fail
      refine (same_any _ _ _ _ _ _ _ _ _ ho7.rd (hrk6.mono hb7)).mono ?_
      rintro e w8 ⟨rfl, rfl⟩
      have hr6 := hr6.mono hb7
      have hrs6 := hrs6.mono hb7
      have hBB := hBB.trans (hb7.mono hzz)
      have hzz := hBB.size
      go_wp2_with fail
    try
      have HSO2 := Lib.hid (seal_open (s ++ [by_]) (hrs.1.append (IsB.cons hby IsB.nil)) HF1.out)
      refine (seal_any _ _ _ _ _ hr6 (by omega)).mono ?_
      rintro e w9 ⟨a9, c9, rfl, ho9, hb9⟩
      rw [HSO2.out] at ho9 ⊢
      rw [show (s ++ [by_]).length = s.length + 1 by simp] at ho9 ⊢
      have hz9 := hb9.size
      have hrs9 := hrs6.mono hb9
      go_wp2_with fail
      refine (bytes_any _ _ _ s _ hrs9 (by omega)).mono ?_
      rintro e w10 ⟨a10, c10, rfl, ho10, hb10⟩
      have hz10 := hb10.size
      go_wp2_with (at_builtin; go_must (refine wpList_appOwnG rfl rfl Try.oneB rfl rfl (ho10.2.alloc _) (Rd.one _ _ _ _) (fun _ => rfl) (by omega) (by omega) (by simp; omega) ?_); intro a11 c11 w11 ho11 hb11 _ _)
      have hb11 := (((Below.refl w10.heap.size w10).alloc (Nat.le_refl _) (.cells #[.int .u8 by_] 5)).mono hz10).trans hb11
      have hr11 : RdB w11 a11 (s.length + 1) c11 (s ++ [by_]) := ⟨ho10.1.append (IsB.cons hby IsB.nil), ho11.rd⟩
      refine (same_any _ _ _ _ _ _ _ _ _ (ho9.rd.mono (hb10.trans hb11)) hr11).mono ?_
      rintro e w12 ⟨rfl, rfl⟩
      have hBB := hBB.trans (((hb9.trans (hb10.mono hz9)).trans (hb11.mono hz9)).mono hzz)
      go_wp2_with fail
    go_ret
    exact ⟨ret_bool (by simp), hBB⟩

end Go.Proofs.Ytellljaoagndkaa
