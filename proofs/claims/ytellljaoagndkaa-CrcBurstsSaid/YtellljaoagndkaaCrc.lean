/- What crc.More computes. Conditions stand as premises. -/
import Derived.Test.YtellljaoagndkaaCrcN
import Derived.Test.YtellljaoagndkaaLib
namespace Go.Proofs.Ytellljaoagndkaa
open Go.ChangeShapes Go.WideShapes Go.ChangeAt Go.RowKit
set_option linter.unusedVariables false

theorem nat_not32 (x : Nat) (h : x < 4294967296) : 4294967295 ^^^ x = 4294967295 - x := by
  have e : (BitVec.allOnes 32 ^^^ BitVec.ofNat 32 x) = ~~~ BitVec.ofNat 32 x := BitVec.allOnes_xor
  have := congrArg BitVec.toNat e
  rw [BitVec.toNat_xor, BitVec.toNat_not, BitVec.toNat_allOnes, BitVec.toNat_ofNat, Nat.mod_eq_of_lt (by omega)] at this
  simpa using this

theorem u32_not (v : Int) (hv : 0 ≤ v ∧ v ≤ 4294967295) : bits .xor .u32 IntKind.u32.max v = (not32 v.toNat : Nat) := by
  have e : IntKind.u32.max = 4294967295 := by decide
  rw [e, u32_xor _ _ (by omega) (by omega) (by omega) (by omega)]
  have : (4294967295 : Int).toNat = 4294967295 := by decide
  rw [this, nat_not32 _ (by omega)]; rfl
theorem u32_odd (n : Nat) (h : n < 4294967296) : bits .and .u32 (n : Int) 1 = (n % 2 : Nat) := by
  rw [u32_and _ _ (by omega) (by omega) (by omega) (by omega)]
  have : (1 : Int).toNat = 1 := rfl
  rw [this, Int.toNat_natCast, Nat.and_one_is_mod]
theorem u32_xorn (n m : Nat) (h : n < 4294967296) (hm : m < 4294967296) : bits .xor .u32 (n : Int) (m : Int) = (n ^^^ m : Nat) := u32_xor_nat n m h hm
theorem u32_poly (n : Nat) (h : n < 4294967296) : bits .xor .u32 ((n : Int) / 2) 2197175160 = (n / 2 ^^^ 2197175160 : Nat) := by
  rw [u32_xor _ _ (by omega) (by omega) (by omega) (by omega)]
  have e1 : (2197175160 : Int).toNat = 2197175160 := by decide
  have e2 : ((n : Int) / 2).toNat = n / 2 := by omega
  rw [e1, e2]
theorem crcBit_odd {n : Nat} (h : n % 2 = 1) : crcBit n = n / 2 ^^^ 2197175160 := if_pos h
theorem crcBit_even {n : Nat} (h : n % 2 = 0) : crcBit n = n / 2 := if_neg (by omega)

set_option maxHeartbeats 1000000 in
theorem more_any (v : Int) (a : Option Addr) (n c : Nat) (l : List Int) (hv : 0 ≤ v ∧ v ≤ 4294967295) (w : World) (hr : RdB w a n c l) (hlen : n ≤ 140737488351232) :
    Calls Try.prog 9 #[.int .u32 v, .slice a n c] w fun e w' => e = .returned (.int .u32 (moreI v l)) ∧ w = w' := by
  obtain rfl : l.length = n := hr.len
  have H0 := Lib.hid (u32_not v hv)
  go_enter Try.func9, Try.ntmps9
  go_wp2_with fail
  go_loop [0, 11] (fun x i => ∃ k : Nat, k ≤ l.length ∧ i = .int .i64 k ∧ x = .int .u32 (crcAll (not32 v.toNat) (l.take k) : Nat)) (fun _ i => l.length - (intOf i).toNat)
  case atStart => exact ⟨0, Nat.zero_le _, rfl, by rw [H0.out]; rfl⟩
  case round =>
    obtain ⟨k, hk, rfl, rfl⟩ := hrel
    by_cases hlt : k < l.length
    · obtain ⟨b, off, rfl, hbk, hcell⟩ := hr.2.at (by omega)
      have hc := cellInt hcell k hlt
      have hbb := hr.1.getD k
      obtain ⟨m, hm⟩ := Int.eq_ofNat_of_zero_le hbb.1
      have hx := crcAll_lt (l.take k) (hr.1.take k) (not32_lt v.toNat)
      have Hs := Lib.hid (crcAll_snoc (not32 v.toNat) l k hlt)
      rw [hm] at hc
      have hmlt : m < 4294967296 := by omega
      have Hm := Lib.hid hm
      clear hm hbb hcell
      generalize hgx : crcAll (not32 v.toNat) (l.take k) = x at hx
      have Hx := Lib.hid (u32_xorn x m hx hmlt)
      have Hgx := Lib.hid hgx
      clear hgx
      go_wp2_with fail
      rw [Hx.out]
      have hy : x ^^^ m < 4294967296 := Nat.xor_lt_two_pow (n := 32) hx hmlt
      go_loop [0, 19] (fun z i => ∃ j : Nat, j ≤ 8 ∧ i = .int .i64 j ∧ z = .int .u32 (crcBits j (x ^^^ m) : Nat)) (fun _ i => 8 - (intOf i).toNat)
      case atStart => exact ⟨0, Nat.zero_le _, rfl, rfl⟩
      case round =>
        obtain ⟨j, hj, rfl, rfl⟩ := hrel
        have hz := crcBits_lt j hy
        have Hn : Hid (crcBits (j + 1) (x ^^^ m) = crcBit (crcBits j (x ^^^ m))) := Lib.hid rfl
        by_cases hlj : j < 8
        · generalize hgz : crcBits j (x ^^^ m) = z at hz Hn
          have Hp := Lib.hid (u32_poly z hz)
          clear hgz
          have hodd := u32_odd z hz
          by_cases hzo : z % 2 = 1
          · rw [hzo] at hodd
            have Hb := Lib.hid (crcBit_odd hzo)
            clear hzo
            go_wp2
            go_round
            case rel => exact ⟨j + 1, by omega, by go_num, by rw [Hn.out, Hb.out, Hp.out]⟩
            case measure => simp [intOf]; omega
          · have hze : z % 2 = 0 := by omega
            rw [hze] at hodd
            have Hb := Lib.hid (crcBit_even hze)
            clear hzo hze
            go_wp2
            go_round
            case rel => exact ⟨j + 1, by omega, by go_num, by rw [Hn.out, Hb.out]; rfl⟩
            case measure => simp [intOf]; omega
        · obtain rfl : j = 8 := by omega
          go_wp2
          go_round
          case rel => exact ⟨k + 1, by omega, by go_num, by rw [Hs.out, Hm.out, Hgx.out]; rfl⟩
          case measure => simp [intOf]; omega
    · have : k = l.length := by omega
      subst this
      have hx := crcAll_lt l hr.1 (not32_lt v.toNat)
      have HN := Lib.hid (u32_not (crcAll (not32 v.toNat) l : Nat) (by omega))
      go_wp2
      go_ret
      exact ⟨ret_int (by rw [HN.out]; rfl), rfl⟩

end Go.Proofs.Ytellljaoagndkaa
