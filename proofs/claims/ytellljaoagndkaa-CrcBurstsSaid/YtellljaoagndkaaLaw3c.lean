/- The walk of CrcBursts: it comes to true and leaves what was there. No condition. -/
import Derived.Test.YtellljaoagndkaaLaw3
import Derived.Test.YtellljaoagndkaaBurstN
namespace Go.Proofs.Ytellljaoagndkaa
open Go.ChangeShapes Go.WideShapes Go.ChangeAt Go.RowKit
set_option linter.unusedVariables false

theorem u8_bit (m r : Nat) (hm : m < 256) (hr : r < 8) : bits .xor .u8 (m : Int) ((2 : Int) ^ r % 256) = ((m ^^^ 2 ^ r : Nat) : Int) := by
  have h : 2 ^ r < 2 ^ 8 := Nat.pow_lt_pow_right (by omega) hr
  have e : ((2 : Int) ^ r % 256) = ((2 ^ r : Nat) : Int) := by
    have h1 : ((2 ^ r : Nat) : Int) = (2 : Int) ^ r := by simp
    rw [← h1, Int.emod_eq_of_lt (Int.natCast_nonneg _) (show ((2 ^ r : Nat) : Int) < 256 from Int.ofNat_lt.2 h)]
  rw [e]
  exact u8_xor_nat m (2 ^ r) hm (by omega)
theorem u32_bit (U k : Nat) (hU : U < 4294967296) (b : Nat) (h : U / 2 ^ k % 2 = b) : bits .and .u32 ((U : Int) / (2 : Int) ^ k) 1 = (b : Int) := by
  have := u32_odd (U / 2 ^ k) (Nat.lt_of_le_of_lt (Nat.div_le_self _ _) hU)
  rw [h] at this
  simpa using this

set_option maxRecDepth 100000 in
set_option maxHeartbeats 8000000 in
theorem law_bursts (a : Option Addr) (n c : Nat) (l : List Int) (at_ u : Int) (hu : 0 ≤ u ∧ u ≤ 4294967295) (w : World) (hr : RdB w a n c l) :
    Calls Try.prog 5 #[.slice a n c, .int .i64 at_, .int .u32 u] w fun e w' => e = .returned (.bool true) ∧ Below w.heap.size w w' := by
  have hlen : n ≤ 9223372036854775807 := by have h1 := hr.2.2.1; have h2 := hr.2.2.2.1; unfold maxLen at h2; omega
  obtain rfl : l.length = n := hr.len
  by_cases hbig : 300 < l.length
  · go_enter Try.func5, Try.ntmps5
    go_wp2_with fail
    refine (first_any _).mono ?_
    rintro e w1 ⟨rfl, hb1⟩
    go_wp2_with fail
    go_ret
    exact ⟨rfl, hb1⟩
  have hd1 : decide (300 < (l.length : Int)) = false := by simp; omega
  have hsl : (sealL l).length = l.length + 4 := by simp [sealL, digs_length]
  obtain ⟨K, hK, hK2⟩ := mod_nat at_ (8 * ((sealL l).length : Int) - 31) (by omega)
  obtain ⟨U, rfl⟩ := Int.eq_ofNat_of_zero_le hu.1
  have hU : U < 4294967296 := by omega
  have HO0 := Lib.hid (openC_seal l)
  have HL0 := Lib.hid (openL_seal l)
  obtain ⟨s, hs⟩ : ∃ s, sealL l = s := ⟨_, rfl⟩
  rw [hs] at hK2 hsl HO0 HL0 hK
  have HK := Lib.hid hK
  have HS := Lib.hid hs
  clear hK hs
  have hne : ((s.length : Int) != (l.length : Int) + 4) = false := by rw [bne_eq_false_iff_eq]; omega
  have hsn : s.length ≤ 304 ∧ 4 ≤ s.length := by omega
  have HSL := Lib.hid hsl
  clear hsl
  go_enter Try.func5, Try.ntmps5
  go_wp2_with fail
  refine (first_any _).mono ?_
  rintro e w1 ⟨rfl, hb1⟩
  have hr1 := hr.mono hb1
  have hs1 := hb1.size
  go_wp2_with fail
  refine (seal_any _ _ _ l _ hr1 (by omega)).mono ?_
  rintro e w2 ⟨a2, c2, rfl, ho2, hb2⟩
  rw [HS.out] at ho2 ⊢
  have hB2 := hb1.trans (hb2.mono hs1)
  have hs2 := hB2.size
  have hrs := ho2.rd
  have hcs := hrs.2.2.1
  go_wp2_with fail
  refine (bytes_any _ _ _ s _ hrs (by omega)).mono ?_
  rintro e w3 ⟨a3, c3, rfl, ho3, hb3⟩
  obtain ⟨g, rfl, hg1, hg2⟩ := ho3.2.at (by omega)
  have hs3 := hb3.size
  go_wp2_with fail
  refine (number_nat _ _ K HK.out (by omega) (by omega) _).mono ?_
  rintro e w4 ⟨rfl, rfl⟩
  have HT0 := Lib.hid (Turned.start s hrs.1 K U)
  go_wp2_with fail
  go_loopw [11] (fun i wr => ∃ (k : Nat) (d : List Int), k ≤ 32 ∧ i = .int .i64 k ∧ Own (Value.int .u8) 5 wr w2.heap.size (some ⟨g, 0, none⟩) s.length c3 d ∧ Turned s K U k d ∧ Below w2.heap.size w2 wr) (fun i _ => 32 - (intOf i).toNat)
  case atStart => exact ⟨0, s, Nat.zero_le _, rfl, ho3.2, HT0.out, hb3⟩
  case round =>
    obtain ⟨k, d, hk, rfl, ho, hT, hB⟩ := hrel
    by_cases hlt : k < 32
    · have hdl := hT.1
      obtain ⟨x, hx⟩ : ∃ x, d[(K + k) / 8]? = some x := ⟨_, List.getElem?_eq_getElem (by omega)⟩
      have hc := ho.cell ((K + k) / 8) x hx
      have hf := ho.free ((K + k) / 8)
      have hxd : d[(K + k) / 8]?.getD 0 = x := by rw [hx]; rfl
      have hxb := hT.2.1.getD ((K + k) / 8)
      rw [hxd] at hxb
      obtain ⟨m, rfl⟩ := Int.eq_ofNat_of_zero_le hxb.1
      have HX := Lib.hid hxd
      have Hdl := Lib.hid hdl
      have hbd : (K + k) / 8 < s.length := by omega
      have HO := fun y => Lib.hid (ho.set ((K + k) / 8) y)
      have HT := Lib.hid hT
      clear hx hT hxd hdl
      by_cases hbit : U / 2 ^ k % 2 = 1
      · have hodd : bits .and .u32 ((U : Int) / (2 : Int) ^ k) 1 = 1 := u32_bit U k hU 1 hbit
        have Hb := Lib.hid hbit
        have HV := Lib.hid (u8_bit m ((K + k) % 8) (by omega) (by omega))
        clear hbit
        go_wp2_with fail
        go_roundw
        case rel =>
          have h1 := (HO ((m ^^^ 2 ^ ((K + k) % 8) : Nat) : Int)).out
          have h2 := HT.out.yes Hb.out hbd
          rw [HX.out, Int.toNat_natCast] at h2
          rw [HV.out]
          exact ⟨k + 1, _, by omega, by go_num, h1, h2, hB.setCell hg1 _⟩
        case measure => simp [intOf]; omega
      · have hbit : U / 2 ^ k % 2 = 0 := by omega
        have hodd : bits .and .u32 ((U : Int) / (2 : Int) ^ k) 1 = 0 := u32_bit U k hU 0 hbit
        have Hb := Lib.hid hbit
        clear hbit
        go_wp2_with fail
        go_roundw
        case rel => exact ⟨k + 1, d, by omega, by go_num, ho, HT.out.no Hb.out, hB⟩
        case measure => simp [intOf]; omega
    · obtain rfl : k = 32 := by omega
      have hro : RdB wr (some ⟨g, 0, none⟩) s.length c3 d := ⟨hT.2.1, ho.rd⟩
      have HC := Lib.hid (hT.told hrs.1 (by omega) (by omega) hU HO0.out)
      have hsz := hB.size
      have Hdl := Lib.hid hT.1
      clear hT
      go_wp2_with fail
      refine (open_any _ _ _ s _ (hrs.mono hB) (by omega)).mono ?_
      rintro e w5 ⟨a5, c5, rfl, hr5, hb5⟩
      rw [HO0.out, HL0.out]
      rw [HL0.out] at hr5
      have hsz5 := hb5.size
      go_wp2_with fail
      refine (open_any _ _ _ d _ (hro.mono hb5) (by omega)).mono ?_
      rintro e w6 ⟨a6, c6, rfl, hr6, hb6⟩
      rw [HC.out]
      have hsz6 := hb6.size
      have hrl : RdB w6 a l.length c l := (hr.mono hB2).mono (hB.trans ((hb5.mono hsz).trans (hb6.mono (by omega))))
      have hBB := hB2.trans (((hB.trans ((hb5.mono hsz).trans (hb6.mono (by omega))))).mono hs2)
      by_cases hU0 : U = 0
      · subst hU0
        rw [if_pos rfl]
        go_wp2_with fail
        refine (same_any _ _ _ _ _ _ _ _ _ (hr5.mono hb6) hrl).mono ?_
        rintro e w7 ⟨rfl, rfl⟩
        go_wp2_with fail
        go_ret
        exact ⟨ret_bool (by simp), hBB⟩
      · rw [if_neg hU0]
        have hU1 : ((U : Int) != 0) = true := by rw [bne_iff_ne]; omega
        go_wp2_with fail
        refine (same_any _ _ _ _ _ _ _ _ _ (hr5.mono hb6) hrl).mono ?_
        rintro e w7 ⟨rfl, rfl⟩
        go_wp2_with fail
        go_ret
        exact ⟨ret_bool (by simp), hBB⟩
end Go.Proofs.Ytellljaoagndkaa
