/- The walk of SectSafe. Conditions stand as premises. -/
import Derived.Test.YtenikpbnggkmgaaSectGaps
import Derived.Test.YtenikpbnggkmgaaKeep
namespace Go.Proofs.Ytenikpbnggkmgaa
open Go.ChangeShapes Go.WideShapes Go.ChangeAt Go.RowKit
set_option linter.unusedVariables false

theorem writeL_zero {l : List Int} (h : l.length ≤ 32768) : writeL [] 0 l = l := by
  by_cases hl : l = []
  · subst hl; rfl
  · rw [writeL_ok (writeC_fit (by omega) (by omega)) hl, show (0 : Int).toNat = 0 from rfl, putIn_nil]; rfl
theorem writeL_pre {b l : List Int} {q : Nat} (h : b.length ≤ q) : ∃ x, writeL b (q : Int) l = b ++ x := by
  unfold writeL
  split
  · rw [Int.toNat_natCast, putIn_behind _ _ _ h]; exact ⟨_, rfl⟩
  · exact ⟨[], by simp⟩
theorem writeL_max {b l : List Int} {q : Nat} : (writeL b (q : Int) l).length ≤ max b.length (q + l.length) := by
  unfold writeL
  split
  · rw [Int.toNat_natCast, putIn_len]; omega
  · omega

set_option maxRecDepth 100000 in
set_option maxHeartbeats 4000000 in
theorem sectsafe_law (a : Option Addr) (n c : Nat) (l : List Int) (at_ : Int) (ma : Option Addr) (mn mc : Nat) (ml : List Int) (U : Nat) (hU : U < 18446744073709551616) (w : World) (hr : RdB w a n c l) (hm : RdB w ma mn mc ml) :
    Calls Try.prog 5 #[.slice a n c, .int .i64 at_, .slice ma mn mc, .int .u64 U] w fun e w' => e = .returned (.bool true) ∧ Below w.heap.size w w' := by
  obtain rfl : l.length = n := hr.len
  obtain rfl : ml.length = mn := hm.len
  by_cases h1 : (2000 : Int) < l.length
  · go_enter Try.func5, Try.ntmps5
    go_wp2_with fail
    refine (sfirst_any _).mono ?_
    rintro e w1 ⟨rfl, hb1⟩
    go_wp2_with fail
    go_ret
    exact ⟨rfl, hb1⟩
  have h1' : (l.length : Int) ≤ 2000 := by omega
  by_cases h2 : (2000 : Int) < ml.length
  · clear h1
    go_enter Try.func5, Try.ntmps5
    go_wp2_with fail
    refine (sfirst_any _).mono ?_
    rintro e w1 ⟨rfl, hb1⟩
    go_wp2_with fail
    go_ret
    exact ⟨rfl, hb1⟩
  have h2' : (ml.length : Int) ≤ 2000 := by omega
  obtain ⟨r, hrr, hr2⟩ := mod_nat at_ 3000 (by decide)
  have HR2 := Lib.hid hrr
  have HR := Lib.hid hr
  have HM := Lib.hid hm
  have HU := Lib.hid hU
  clear h1 h2 hrr hr hm hU
  go_enter Try.func5, Try.ntmps5
  go_wp2_with fail
  refine (sfirst_any _).mono ?_
  rintro e w1 ⟨rfl, hb1⟩
  go_wp2_with fail
  refine (sectnew _).mono ?_
  rintro e w2 ⟨rfl, hs2, hb2⟩
  have hs2 := hs2.base hb1.size
  have hb2 := hb1.trans (hb2.mono hb1.size)
  obtain ⟨p, hp⟩ : ∃ p, w1.heap.size = p := ⟨_, rfl⟩
  rw [hp] at hs2 ⊢
  clear hp
  go_wp2_with fail
  have hwc : writeC 0 l.length = 0 := writeC_fit (by omega) (by omega)
  refine (sectwrite_any _ _ _ _ _ 0 _ _ _ l _ hs2 (HR.out.mono hb2) (hs2.apart HR.out) (by omega) (by omega)).mono ?_
  rintro e w3 ⟨rfl, hst⟩
  obtain ⟨F3, hs3, hb3, _⟩ := hs2.go hb2 hst
  rw [writeL_zero (by omega)] at hs3
  rw [hwc]
  clear hst hwc hs2 hb2 hb1
  go_wp2_with fail
  refine (sectsync _ _ _ _ _ _ hs3).mono ?_
  rintro e w4 ⟨rfl, hst⟩
  obtain ⟨F4, hs4, hb4, _⟩ := hs3.go hb3 hst
  clear hst hs3 hb3
  go_wp2_with fail
  refine (number_nat at_ 3000 r HR2.out (by decide) (by decide) _).mono ?_
  rintro e w' ⟨rfl, rfl⟩
  go_wp2_with fail
  obtain ⟨q, hq⟩ : ∃ q : Nat, (l.length : Int) + (r : Int) = q := ⟨l.length + r, by omega⟩
  have hq1 : l.length ≤ q := by omega
  have hq2 : q ≤ 5000 := by omega
  rw [hq]
  have hwc : writeC (q : Int) ml.length = 0 := writeC_fit (by omega) (by omega)
  refine (sectwrite_any _ _ _ _ _ _ _ _ _ ml _ hs4 (HM.out.mono hb4) (hs4.apart HM.out) (by omega) (by omega)).mono ?_
  rintro e w5 ⟨rfl, hst⟩
  obtain ⟨F5, hs5, hb5, _⟩ := hs4.go hb4 hst
  obtain ⟨x, hx⟩ := writeL_pre (b := l) (l := ml) hq1
  have hmax := writeL_max (b := l) (l := ml) (q := q)
  rw [hx] at hs5 hmax
  rw [hwc]
  clear hst hwc hs4 hb4 hx hq
  go_wp2_with fail
  refine (keep_any U HU.out _).mono ?_
  rintro e w6 ⟨ka, kc, rfl, hk6, hb6⟩
  have hs6 := hs5.below hb6
  have hb6 := hb5.trans (hb6.mono hb5.size)
  have hkl : (keepL U).length = 64 := keepTo_length U 64
  have HKL := Lib.hid hkl
  clear hkl hs5 hb5
  rw [HKL.out] at hk6 ⊢
  go_wp2_with fail
  refine (sectcrash _ _ _ _ _ _ _ _ (keepL U) _ hs6 hk6.rd (by omega)).mono ?_
  rintro e w7 ⟨rfl, hst⟩
  obtain ⟨F7, hs7, hb7, _⟩ := hs6.go hb6 hst
  obtain ⟨y, hy⟩ := crashI_pre l x (keepL U)
  have hmax2 := crashI_max (l ++ x) l (keepL U)
  rw [hy] at hs7 hmax2
  have hml : (l ++ y).length ≤ max l.length (q + ml.length) := by rw [List.length_append] at hmax2 hmax ⊢; rw [List.length_append] at hmax2; omega
  have hge : l.length ≤ (l ++ y).length := by simp
  have hfc : freadC (l ++ y) 0 l.length = 0 := by
    unfold freadC
    rw [if_neg (by omega), if_neg (by omega)]
  have hfr : freadL (l ++ y) 0 l.length = l := by
    unfold freadL
    rw [hfc, if_pos rfl]
    simp
  obtain ⟨X, hX⟩ : ∃ X, l ++ y = X := ⟨_, rfl⟩
  rw [hX] at hs7 hml hge hfr hfc
  have HFR := Lib.hid hfr
  have HFC := Lib.hid hfc
  clear hst hs6 hb6 hy hmax hmax2 hX hfr hfc hk6
  go_wp2_with fail
  refine (sectread_any _ _ _ _ _ 0 l.length _ hs7 (by omega) (by omega)).mono ?_
  rintro e w8 ⟨ya, yc, rfl, ho8, hb8⟩
  rw [HFR.out] at ho8 ⊢
  rw [HFC.out]
  have hb9 := hb7.trans (hb8.mono hb7.size)
  have hsame := same_any _ _ _ _ _ _ l l _ ho8.rd (HR.out.mono hb9)
  rw [decide_eq_true rfl] at hsame
  have HSm := Lib.hid hsame
  have HLn := Lib.hid (sectlen _ _ _ _ _ _ (hs7.below hb8))
  have HB9 := Lib.hid hb9
  clear hsame hs7 hb7 ho8 hb8 hb9
  have k1 : (l.length : Int) ≤ (X.length : Int) := by omega
  by_cases hmx : (l.length : Int) < (q : Int) + (ml.length : Int)
  · have k2 : (X.length : Int) ≤ (q : Int) + (ml.length : Int) := by omega
    go_wp2_with fail
    refine HSm.out.mono ?_
    rintro e w9 ⟨rfl, rfl⟩
    go_wp2_with fail
    refine HLn.out.mono ?_
    rintro e w9 ⟨rfl, rfl⟩
    go_wp2_with fail
    refine HLn.out.mono ?_
    rintro e w9 ⟨rfl, rfl⟩
    go_wp2_with fail
    go_ret
    exact ⟨rfl, HB9.out⟩
  · have k2 : (X.length : Int) ≤ (l.length : Int) := by omega
    have k3 : (q : Int) + (ml.length : Int) ≤ (l.length : Int) := by omega
    clear hmx
    go_wp2_with fail
    refine HSm.out.mono ?_
    rintro e w9 ⟨rfl, rfl⟩
    go_wp2_with fail
    refine HLn.out.mono ?_
    rintro e w9 ⟨rfl, rfl⟩
    go_wp2_with fail
    refine HLn.out.mono ?_
    rintro e w9 ⟨rfl, rfl⟩
    go_wp2_with fail
    go_ret
    exact ⟨rfl, HB9.out⟩
end Go.Proofs.Ytenikpbnggkmgaa
