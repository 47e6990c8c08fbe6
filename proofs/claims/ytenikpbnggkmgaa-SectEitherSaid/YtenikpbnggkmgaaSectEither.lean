/- The walk of SectEither. Conditions stand as premises. -/
import Derived.Test.YtenikpbnggkmgaaSectSafe
import Derived.Test.YtenikpbnggkmgaaSectCopy
import Derived.Test.YtenikpbnggkmgaaSectEitherN
import Derived.Test.YtenikpbnggkmgaaRows2
import Derived.Test.YtenikpbnggkmgaaQuietCut
import Derived.Deep.RegionHeld3
namespace Go.Proofs.Ytenikpbnggkmgaa
open Go.ChangeShapes Go.WideShapes Go.ChangeAt Go.RowKit
set_option linter.unusedVariables false

theorem writeL_ge {b l : List Int} {q : Int} : b.length ≤ (writeL b q l).length := by
  unfold writeL
  split
  · rw [putIn_len]; omega
  · omega

theorem rd_cutmap {w : World} {a : Option Addr} {n c : Nat} {l : List Int} (h : RdB w a n c l) (lo hi : Nat) (h1 : lo ≤ hi) (h2 : hi ≤ n) (h3 : lo < c) : RdB w (Option.map (fun x => x.add lo) a) (hi - lo) (c - lo) ((l.drop lo).take (hi - lo)) := by
  have := cutA_rd h lo hi h1 h2
  unfold cutA at this
  rwa [if_neg (by omega)] at this

theorem keepL_all (i : Nat) (h : i < 64) : (keepL 18446744073709551615)[i]?.getD false = true := by
  rw [keepL_get]
  have : ∀ i < 64, (decide (i < 64) && decide (18446744073709551615 / 2 ^ i % 2 = 1)) = true := by decide +kernel
  exact this i h
theorem keep_all (w : World) : Calls Try.prog 19 #[.int .u64 18446744073709551615] w (NewBo w.heap.size w (keepL 18446744073709551615)) := keep_any 18446744073709551615 (by decide) w

set_option maxRecDepth 100000 in
set_option maxHeartbeats 8000000 in
theorem secteither_law (a : Option Addr) (n c : Nat) (ks : List Int) (a' : Option Addr) (n' c' : Nat) (bs : List (List Int)) (synced : Int) (U : Nat) (hU : U < 18446744073709551616) (w : World) (hk : Rd (Value.int .i64) w a n c ks) (hb : RdBB w a' n' c' bs) :
    Calls Try.prog 4 #[.slice a n c, .slice a' n' c', .int .i64 synced, .int .u64 U] w fun e w' => e = .returned (.bool true) ∧ Below w.heap.size w w' := by
  obtain rfl : ks.length = n := hk.1
  obtain rfl : bs.length = n' := hb.len
  have HU := Lib.hid hU
  clear hU
  by_cases h1 : (10 : Int) < bs.length
  · go_enter Try.func4, Try.ntmps4
    go_wp2_with fail
    refine (sfirst_any _).mono ?_
    rintro e w1 ⟨rfl, hb1⟩
    go_wp2_with fail
    go_ret
    exact ⟨rfl, hb1⟩
  have h1' : (bs.length : Int) ≤ 10 := by omega
  by_cases h2 : (ks.length : Int) < bs.length
  · clear h1
    go_enter Try.func4, Try.ntmps4
    go_wp2_with fail
    refine (sfirst_any _).mono ?_
    rintro e w1 ⟨rfl, hb1⟩
    go_wp2_with fail
    go_ret
    exact ⟨rfl, hb1⟩
  have h2' : (bs.length : Int) ≤ ks.length := by omega
  have hd1 : decide (ks.length < bs.length) = false := by simp; omega
  have hd2 : decide ((ks.length : Int) < (bs.length : Int)) = false := by simp; omega
  have hd3 : decide ((10 : Int) < (bs.length : Int)) = false := by simp; omega
  have hkcap := hk.2.1
  have hkm := hk.2.2.1
  unfold maxLen at hkm
  have Hk := Lib.hid hk
  have Hb := Lib.hid hb
  clear h1 h2 hk hb
  go_enter Try.func4, Try.ntmps4
  go_wp2_with fail
  refine (sfirst_any _).mono ?_
  rintro e w1 ⟨rfl, hb1⟩
  go_wp2_with fail
  refine (sectnew _).mono ?_
  rintro e w2 ⟨rfl, hs2, hb2⟩
  have hs2 := hs2.base hb1.size
  have hb2 := hb1.trans (hb2.mono hb1.size)
  obtain ⟨p, hp⟩ : ∃ p, w1.heap.size = p := ⟨_, rfl⟩
  rw [hp] at hs2 ⊢
  have HS2 := Lib.hid hs2
  have HB2 := Lib.hid hb2
  clear hp hs2 hb2 hb1
  go_wp2_with fail
  go_loopw [11] (fun i wr => ∃ (j : Nat) (B S : List Int) (F : Nat → Prop), j ≤ bs.length ∧ i = .int .i64 j ∧ FileS wr w.heap.size p B S F ∧ Below w.heap.size w wr ∧ S.length ≤ B.length ∧ B.length ≤ 5700) (fun i _ => bs.length - (intOf i).toNat)
  case atStart => exact ⟨0, [], [], _, Nat.zero_le _, rfl, HS2.out, HB2.out, Nat.le_refl _, Nat.zero_le _⟩
  case round =>
    obtain ⟨j, B, S, F, hj, rfl, hF, hB, hSB, hB5⟩ := hrel
    have hsz := hB.size
    by_cases hlt : j < bs.length
    · have hkB := Hk.out.mono hB
      obtain ⟨vs, hvs, hvl, hvr⟩ := Hb.out
      obtain ⟨kb, ko, rfl, hkl0, _⟩ := Hk.out.at (by omega)
      obtain ⟨_, _, e1, hkl, hkc⟩ := hkB.at (by omega)
      cases e1
      obtain ⟨bb, bo, rfl, hbl0, hbc0⟩ := hvs.at (by omega)
      have cK := cellInt hkc j (by omega)
      have hjv : j < vs.length := by omega
      have cB := bcell hB hbl0 (hbc0 j vs[j] (List.getElem?_eq_getElem hjv))
      have hr0 := hvr j vs[j] (bs[j]) (List.getElem?_eq_getElem hjv) (List.getElem?_eq_getElem hlt)
      obtain ⟨⟨va, vn, vc⟩, hv⟩ : ∃ v, vs[j] = v := ⟨_, rfl⟩
      rw [hv] at cB hr0
      generalize ks[j]?.getD 0 = kv at *
      generalize bs[j] = bl at *
      have hcell : encS (va, vn, vc) = .slice va vn vc := rfl
      rw [hcell] at cB
      have Hr0 := Lib.hid (show RdB w va vn vc bl from hr0)
      obtain rfl : bl.length = vn := hr0.len
      clear hr0 hcell hvr hvl hvs hbc0 hjv hkc hkB hv
      by_cases h700 : (700 : Int) < bl.length
      · go_wp2_with fail
        go_ret
        exact ⟨rfl, hB⟩
      have h700' : bl.length ≤ 700 := by omega
      obtain ⟨m, hm, hm5⟩ := mod_nat kv 5000 (by decide)
      have HM := Lib.hid hm
      obtain ⟨y, hy, hy1, hy2⟩ := mod_int synced bs.length (by omega)
      have HY := Lib.hid hy
      have kd := bcell (below_drew wr) (Nat.lt_of_lt_of_le hkl0 hsz) cK
      have bd := bcell (below_drew wr) (Nat.lt_of_lt_of_le hbl0 hsz) cB
      have ij0 : (0 : Int) ≤ (j : Int) := by omega
      have ijk : (j : Int) < (ks.length : Int) := by omega
      have ijb : (j : Int) < (bs.length : Int) := by omega
      have hwc : writeC (m : Int) bl.length = 0 := writeC_fit (by omega) (by omega)
      have hFd := hF.below (below_drew wr)
      have hBd : Below w.heap.size w wr.drew := hB.trans ((below_drew wr).mono hsz)
      have HW := Lib.hid (sectwrite_any _ _ _ _ _ (m : Int) va _ vc bl wr.drew hFd (Hr0.out.mono hBd) (hFd.apart Hr0.out) (by omega) (by omega))
      rw [hwc] at HW
      have HF := Lib.hid hF
      have HFd := Lib.hid hFd
      have HBd := Lib.hid hBd
      have HWL := Lib.hid (writeL_max (b := B) (l := bl) (q := m))
      have HWG := Lib.hid (writeL_ge (b := B) (l := bl) (q := m))
      have hkl1 : ¬ F kb := fun hh => by have := (hF.mem hh).1; omega
      have hbl1 : ¬ F bb := fun hh => by have := (hF.mem hh).1; omega
      clear hm hy h700 hwc hF hFd hBd
      go_wp2_with fail
      go_region_held3 (fun w' : World => w'.cell? ⟨kb, ko + j, none⟩ = some (.int .i64 kv) ∧ w'.cell? ⟨bb, bo + j, none⟩ = some (.slice va bl.length vc)) (first | exact ⟨kd, bd⟩ | exact ⟨kd2, bd2⟩) ((first | (go_at_call 9; refine (number_nat kv 5000 m HM.out (by decide) (by decide) _).mono ?_; rintro e w' ⟨rfl, rfl⟩) | ((with_reducible refine HW.out.mono ?_); rintro e w3 ⟨rfl, hst⟩; obtain ⟨F3, hs3, hb3, hu3⟩ := HFd.out.go HBd.out hst; have kd2 := hu3.cell kd hkl1; have bd2 := hu3.cell bd hbl1)))
      have HS3 := Lib.hid hs3
      have HB3 := Lib.hid hb3
      clear hst hs3 hu3 kd bd kd2 bd2 cK cB HW hkl1 hbl1
      have e5 : (writeL B (m : Int) bl).length ≤ 5700 := by have := HWL.out; omega
      have e6 : S.length ≤ (writeL B (m : Int) bl).length := by have := HWG.out; omega
      clear hb3
      go_wp2_with fail
      refine (number_int synced bs.length y HY.out (by omega) (by omega) _).mono ?_
      rintro e w' ⟨rfl, rfl⟩
      by_cases hjy : (j : Int) = y
      · have q : ((j : Int) == y) = true := by simpa using hjy
        clear hjy
        go_wp2_with fail
        refine (sectsync _ _ _ _ _ _ HS3.out).mono ?_
        rintro e w4 ⟨rfl, hst⟩
        obtain ⟨F4, hs4, hb4, hu4⟩ := HS3.out.go HB3.out hst
        go_wp2_with fail
        go_roundw
        case rel => exact ⟨j + 1, _, _, F4, by omega, by go_num, hs4, hb4, Nat.le_refl _, e5⟩
        case measure => simp [intOf]; omega
      · have q : ((j : Int) == y) = false := by simpa using hjy
        clear hjy
        go_wp2_with fail
        go_roundw
        case rel => exact ⟨j + 1, _, _, F3, by omega, by go_num, HS3.out, HB3.out, e6, e5⟩
        case measure => simp [intOf]; omega
    · have hjm : (bs.length : Int) ≤ (j : Int) := by omega
      have HF := Lib.hid hF
      have hz0 := hB.size
      clear hj hlt
      go_wp2_with fail
      refine (sectall _ _ _ _ _ _ HF.out).mono ?_
      rintro e w4 ⟨xa, xc, rfl, ho4, hb4⟩
      have hF4 := HF.out.below hb4
      have hz4 := hb4.size
      go_wp2_with fail
      refine (sectsafe _ _ _ _ _ _ hF4).mono ?_
      rintro e w5 ⟨sa, sc, rfl, ho5, hb5⟩
      have hF5 := hF4.below hb5
      have hz5 := hb5.size
      go_wp2_with fail
      refine (sectdirty _ _ _ _ _ _ hF5).mono ?_
      rintro e w6 ⟨da, dc, rfl, ho6, hb6⟩
      have hF6 := hF5.below hb6
      have hz6 := hb6.size
      go_wp2_with fail
      refine (sectcopy _ _ _ _ _ _ hF6).mono ?_
      rintro e w7 ⟨pa, Fa, rfl, hA, hb7⟩
      have hF7 := hF6.below hb7
      have hz7 := hb7.size
      go_wp2_with fail
      refine (sectcopy _ _ _ _ _ _ hF7).mono ?_
      rintro e w8 ⟨pb, Fb, rfl, hBf, hb8⟩
      have hF8 := hF7.below hb8
      have hz8 := hb8.size
      go_wp2_with fail
      refine (sectcopy _ _ _ _ _ _ hF8).mono ?_
      rintro e w9 ⟨pc, Fc, rfl, hC, hb9⟩
      have hz9 := hb9.size
      have hb69 : Below w6.heap.size w6 w9 := hb7.trans ((hb8.mono hz7).trans (hb9.mono (Nat.le_trans hz7 hz8)))
      have hN9 := ho4.mono (hb5.trans ((hb6.mono hz5).trans (hb69.mono (Nat.le_trans hz5 hz6))))
      have hS9 := ho5.mono (hb6.trans (hb69.mono hz6))
      have hD9 := ho6.mono hb69
      have hA9 := (hA.below hb8).below hb9
      have hBf9 := hBf.below hb9
      have hFa : ∀ j, Fa j → w6.heap.size ≤ j ∧ j < w7.heap.size := fun j hj => hA.mem hj
      have hFb : ∀ j, Fb j → w7.heap.size ≤ j ∧ j < w8.heap.size := fun j hj => hBf.mem hj
      have hFc : ∀ j, Fc j → w8.heap.size ≤ j ∧ j < w9.heap.size := fun j hj => hC.mem hj
      have hB9 : Below w.heap.size w w9 := hB.trans ((hb4.mono hz0).trans ((hb5.mono (Nat.le_trans hz0 hz4)).trans ((hb6.mono (Nat.le_trans hz0 (Nat.le_trans hz4 hz5))).trans (hb69.mono (Nat.le_trans hz0 (Nat.le_trans hz4 (Nat.le_trans hz5 hz6)))))))
      have hxN := Lib.hid (fun x (hx : xa = some x) => show x.block < w6.heap.size from Nat.lt_of_lt_of_le (ho4.2.lt x hx).2 (Nat.le_trans hz5 hz6))
      have hxD := Lib.hid (fun x (hx : da = some x) => show x.block < w6.heap.size from (ho6.lt x hx).2)
      have hxS := Lib.hid (fun x (hx : sa = some x) => show x.block < w6.heap.size from Nat.lt_of_lt_of_le (ho5.2.lt x hx).2 hz6)
      have HN9 := Lib.hid hN9
      have HS9 := Lib.hid hS9
      have HD9 := Lib.hid hD9
      have HA9 := Lib.hid hA9
      have HBf9 := Lib.hid hBf9
      have HC9 := Lib.hid hC
      have HFa := Lib.hid hFa
      have HFb := Lib.hid hFb
      have HFc := Lib.hid hFc
      have HB9 := Lib.hid hB9
      clear ho4 hb4 hF4 ho5 hb5 hF5 ho6 hb6 hF6 hA hb7 hF7 hBf hb8 hF8 hC hb9 hb69 hN9 hS9 hD9 hA9 hBf9 hFa hFb hFc hB9 HF hF hB
      have hs6 : w.heap.size ≤ w6.heap.size := by omega
      have hs69 : w6.heap.size ≤ w9.heap.size := by omega
      go_wp2_with fail
      refine (sectcrash _ _ _ _ _ none 0 0 [] _ HA9.out ⟨rfl, Nat.le_refl _, Nat.zero_le _, fun _ => rfl, .inl rfl⟩ (by omega)).mono ?_
      rintro e w10 ⟨rfl, hst⟩
      obtain ⟨Fa', hA10, huA, hFa'⟩ := hst
      rw [crashI_none] at hA10
      have hb10 : Below w6.heap.size w9 w10 := huA.below hs69 (fun k hk => (HFa.out k hk).1)
      have hBf10 := HBf9.out.upd huA (fun j hj hj2 => by have := HFb.out j hj; have := HFa.out j hj2; omega)
      have hC10 := HC9.out.upd huA (fun j hj hj2 => by have := HFc.out j hj; have := HFa.out j hj2; omega)
      have hz10 := huA.size
      have HB10 := Lib.hid hb10
      have HA10 := Lib.hid hA10
      have HBf10 := Lib.hid hBf10
      have HC10 := Lib.hid hC10
      have HFa' := Lib.hid hFa'
      clear hA10 huA hFa' hb10 hBf10 hC10
      go_wp2_with fail
      refine (keep_all _).mono ?_
      rintro e w11 ⟨ka, kc, rfl, hk11, hb11⟩
      have hkl : (keepL 18446744073709551615).length = 64 := keepTo_length _ 64
      rw [hkl] at hk11 ⊢
      have hz11 := hb11.size
      have hBf11 := HBf10.out.below hb11
      have hA11 := HA10.out.below hb11
      have hC11 := HC10.out.below hb11
      clear hkl
      go_wp2_with fail
      refine (sectcrash _ _ _ _ _ _ _ _ _ _ hBf11 hk11.rd (by omega)).mono ?_
      rintro e w12 ⟨rfl, hst⟩
      obtain ⟨Fb', hBf12, huB, hFb'⟩ := hst
      rw [crashI_all B S _ (fun i hi => keepL_all i (by have := nsec_12 (b := B) (s := S) (by omega) hSB; omega))] at hBf12
      have hb12 : Below w6.heap.size w9 w12 := (HB10.out.trans (hb11.mono (Nat.le_trans hs69 hz10))).trans (huB.below (by omega) (fun k hk => by have := HFb.out k hk; omega))
      have hA12 := hA11.upd huB (fun j hj hj2 => by
        have h1 := HFb.out j hj2
        rcases HFa'.out j hj with h2 | h2
        · have := HFa.out j h2; omega
        · omega)
      have hC12 := hC11.upd huB (fun j hj hj2 => by have := HFc.out j hj; have := HFb.out j hj2; omega)
      have hz12 := huB.size
      have HB12 := Lib.hid hb12
      have HA12 := Lib.hid hA12
      have HBf12 := Lib.hid hBf12
      have HC12 := Lib.hid hC12
      have HFb' := Lib.hid (fun j (hj : Fb' j) => show Fb j ∨ w9.heap.size ≤ j from (hFb' j hj).imp id (fun h => by omega))
      clear hBf11 hA11 hC11 hk11 hb11 hBf12 huB hFb' hb12 hA12 hC12
      go_wp2_with fail
      refine (keep_any U HU.out _).mono ?_
      rintro e w13 ⟨ka2, kc2, rfl, hk13, hb13⟩
      have hkl : (keepL U).length = 64 := keepTo_length _ 64
      rw [hkl] at hk13 ⊢
      have hz13 := hb13.size
      have hBf13 := HBf12.out.below hb13
      have hA13 := HA12.out.below hb13
      have hC13 := HC12.out.below hb13
      clear hkl
      go_wp2_with fail
      refine (sectcrash _ _ _ _ _ _ _ _ _ _ hC13 hk13.rd (by omega)).mono ?_
      rintro e w14 ⟨rfl, hst⟩
      obtain ⟨Fc', hC14, huC, hFc'⟩ := hst
      have hb14 : Below w6.heap.size w9 w14 := (HB12.out.trans (hb13.mono (by omega))).trans (huC.below (by omega) (fun k hk => by have := HFc.out k hk; omega))
      have hA14 := hA13.upd huC (fun j hj hj2 => by
        have h1 := HFc.out j hj2
        rcases HFa'.out j hj with h2 | h2
        · have := HFa.out j h2; omega
        · omega)
      have hBf14 := hBf13.upd huC (fun j hj hj2 => by
        have h1 := HFc.out j hj2
        rcases HFb'.out j hj with h2 | h2
        · have := HFb.out j h2; omega
        · omega)
      have HB14 := Lib.hid hb14
      have HA14 := Lib.hid hA14
      have HBf14 := Lib.hid hBf14
      have HC14 := Lib.hid hC14
      clear hBf13 hA13 hC13 hk13 hb13 huC hFc' hb14 hA14 hBf14 hC14
      have HKS := Lib.hid (kept_sector B S (keepL U) hSB)
      have hXm := crashI_max B S (keepL U)
      have HD12 := Lib.hid (nsec_12 (b := B) (s := S) (by omega) hSB)
      obtain ⟨X, hX⟩ : ∃ X, crashI B S (keepL U) = X := ⟨_, rfl⟩
      rw [hX] at HC14 HKS hXm
      have hXm2 : X.length ≤ B.length := by omega
      clear hX hXm
      obtain ⟨D, hD⟩ : ∃ D, dirtyL B S = D := ⟨_, rfl⟩
      have HDL := Lib.hid (fun i (hi : i < D.length) => show D[i]?.getD 0 < nsec B S by rw [← hD] at hi ⊢; exact (dirty_lt hi).1)
      rw [hD] at HD9 HKS HD12 ⊢
      clear hD
      clear HA12 HBf12 HC12 HA10 HBf10 HC10 HA9 HBf9 HC9 HB10 HB12 HFa HFb HFc HFa' HFb'
      go_wp2_with fail
      refine (sectall _ _ _ _ _ _ HA14.out).mono ?_
      rintro e w15 ⟨ya, yc, rfl, ho15, hb15⟩
      have hb15' : Below w6.heap.size w9 w15 := HB14.out.trans (hb15.mono (Nat.le_trans hs69 HB14.out.size))
      go_wp2_with fail
      refine (same_any _ _ _ _ _ _ S S _ ho15.rd ⟨HS9.out.1, HS9.out.2.rd.below hb15' hxS.out⟩).mono ?_
      rintro e w16 ⟨rfl, rfl⟩
      rw [decide_eq_true rfl]
      have HBf15 := Lib.hid (HBf14.out.below hb15)
      have HC15 := Lib.hid (HC14.out.below hb15)
      have HB15 := Lib.hid hb15'
      clear ho15 hb15 hb15' HA14 HBf14 HC14 HB14
      go_wp2_with fail
      refine (sectall _ _ _ _ _ _ HBf15.out).mono ?_
      rintro e w17 ⟨za, zc, rfl, ho17, hb17⟩
      have hb17' : Below w6.heap.size w9 w17 := HB15.out.trans (hb17.mono (Nat.le_trans hs69 HB15.out.size))
      go_wp2_with fail
      refine (same_any _ _ _ _ _ _ B B _ ho17.rd ⟨HN9.out.1, HN9.out.2.rd.below hb17' hxN.out⟩).mono ?_
      rintro e w18 ⟨rfl, rfl⟩
      rw [decide_eq_true rfl]
      have HC17 := Lib.hid (HC15.out.below hb17)
      have HB17 := Lib.hid hb17'
      clear ho17 hb17 hb17' HBf15 HC15 HB15
      have hdc := sectdirty _ _ _ _ _ _ HC17.out
      rw [dirty_self] at hdc
      go_wp2_with fail
      refine hdc.mono ?_
      rintro e w19 ⟨ua, uc, rfl, ho19, hb19⟩
      have HC19 := Lib.hid (HC17.out.below hb19)
      have HB19 := Lib.hid (show Below w6.heap.size w9 w19 from HB17.out.trans (hb19.mono (Nat.le_trans hs69 HB17.out.size)))
      clear hdc ho19 hb19 HC17 HB17
      rw [show ([] : List Nat).length = 0 from rfl]
      go_wp2_with fail
      refine (sectall _ _ _ _ _ _ HC19.out).mono ?_
      rintro e w20 ⟨va, vc, rfl, ho20, hb20⟩
      have HC20 := Lib.hid (HC19.out.below hb20)
      have HB20 := Lib.hid (show Below w6.heap.size w9 w20 from HB19.out.trans (hb20.mono (Nat.le_trans hs69 HB19.out.size)))
      have HO20 := Lib.hid ho20
      clear hb20 HC19 HB19 ho20
      go_wp2_with fail
      refine (sectsafe _ _ _ _ _ _ HC20.out).mono ?_
      rintro e w21 ⟨ta, tc, rfl, ho21, hb21⟩
      have HC21 := Lib.hid (HC20.out.below hb21)
      have HB21 := Lib.hid (show Below w6.heap.size w9 w21 from HB20.out.trans (hb21.mono (Nat.le_trans hs69 HB20.out.size)))
      have hsame := same_any _ _ _ _ _ _ X X _ (HO20.out.mono hb21).rd ho21.rd
      rw [decide_eq_true rfl] at hsame
      have HSm := Lib.hid hsame
      clear hsame hb21 HC20 HB20 HO20 ho21
      go_wp2_with fail
      refine HSm.out.mono ?_
      rintro e w22 ⟨rfl, rfl⟩
      go_wp2_with fail
      refine (sectall _ _ _ _ _ _ HC21.out).mono ?_
      rintro e w23 ⟨qa, qc, rfl, ho23, hb23⟩
      have hB23 : Below w6.heap.size w9 w23 := HB21.out.trans (hb23.mono (Nat.le_trans hs69 HB21.out.size))
      have HN23 := Lib.hid (HN9.out.2.rd.below hB23 hxN.out)
      have HD23 := Lib.hid (HD9.out.rd.below hB23 hxD.out)
      have HX23 := Lib.hid ho23
      have HBL := Lib.hid (HB9.out.trans (hB23.mono hs6))
      have HNB := Lib.hid HN9.out.1
      clear ho23 hb23 hB23 HC21 HB21 HSm
      have hns := nsec_small (b := B) (s := S) (by omega) (by omega)
      have hqc := HX23.out.2.rd.2.1
      have hxc2 := HN23.out.2.1
      clear hs6 hs69 hz10 hz11 hz12 hz13 hz4 hz5 hz6 hz7 hz8 hz9 hz0 hsz
      go_wp2_with fail
      go_loopw [19] (fun i wr => ∃ (k : Nat), k ≤ D.length ∧ i = .int .i64 k ∧ Below w23.heap.size w23 wr) (fun i _ => D.length - (intOf i).toNat)
      case atStart => exact ⟨0, Nat.zero_le _, rfl, Below.refl _ _⟩
      case round =>
        obtain ⟨k, hk, rfl, hBk⟩ := hrel
        by_cases hlt : k < D.length
        · obtain ⟨db, doff, hda, hcell⟩ := cellAt (HD23.out.mono hBk) k hlt
          obtain ⟨y, hy⟩ : ∃ y, D[k]?.getD 0 = y := ⟨_, rfl⟩
          have hyd : D[k] = y := by rw [← hy, List.getElem?_eq_getElem hlt]; rfl
          have hyn := HDL.out k hlt
          rw [hyd] at hcell
          rw [hy] at hyn
          unfold encN at hcell
          have HY := Lib.hid hy
          have hlt2 : (k : Int) < D.length := by omega
          have hk64 : k < 64 := by have := HD12.out; omega
          have hk64' : (k : Int) < 64 := by omega
          subst hda
          clear hy hyd
          have hmod : U / 2 ^ k % 2 = 1 ∨ U / 2 ^ k % 2 = 0 := by omega
          by_cases hC : (X.length : Int) < (y : Int) * 512 + 512
          · rcases hmod with hb | hb
            · have hx : bits .and .u64 ((U : Int) / (2 : Int) ^ k) 1 = 1 := u64_bit U k 1 HU.out hb
              have hkeep := Lib.hid (show (keepL U)[k]?.getD false = true by rw [keepL_get, hb]; simp [hk64])
              clear hb
              by_cases hge : (X.length : Int) ≤ (y : Int) * 512
              · go_wp2_with fail
                go_roundw
                case rel => exact ⟨k + 1, by omega, by go_num, hBk⟩
                case measure => simp [intOf]; omega
              · have hlt3 : (y : Int) * 512 < X.length := by omega
                obtain ⟨g1, g2, g3⟩ := HKS.out k hlt hkeep.out y HY.out (by omega)
                have g3 := g3 X.length (by omega) (by omega) (Nat.le_refl _)
                have q1 : (y : Int) * 512 < B.length := by omega
                have q2 : (X.length : Int) ≤ B.length := by omega
                have q3 : decide ((B.length : Int) ≤ (y : Int) * 512) = false := by simp; omega
                have q4 : decide ((B.length : Int) < (X.length : Int)) = false := by simp; omega
                have q5 : decide (B.length < X.length) = false := by simp; omega
                clear hge g1 g2
                obtain ⟨L, hL⟩ : ∃ L, (B.drop (512 * y)).take (X.length - 512 * y) = L := ⟨_, rfl⟩
                rw [hL, Nat.mul_comm 512 y] at g3
                rw [Nat.mul_comm 512 y] at hL
                have HQX := Lib.hid (fun w' (h : ∃ q, w' = wr.drewN q) => show RdB w' (Option.map (fun x => x.add (y * 512)) qa) (X.length - y * 512) (qc - y * 512) L by obtain ⟨q, rfl⟩ := h; rw [← g3]; exact rd_cutmap (HX23.out.rd.mono (bel_drewN hBk q)) _ _ (by omega) (by omega) (by omega))
                have HQN := Lib.hid (fun w' (h : ∃ q, w' = wr.drewN q) => show RdB w' (Option.map (fun x => x.add (y * 512)) xa) (X.length - y * 512) (xc - y * 512) L by obtain ⟨q, rfl⟩ := h; rw [← hL]; exact rd_cutmap (RdB.mono ⟨HNB.out, HN23.out⟩ (bel_drewN hBk q)) _ _ (by omega) (by omega) (by omega))
                have hs1 : ((bstr L).toList != (bstr L).toList) = false := by simp
                have HBk := Lib.hid hBk
                clear hL g3 hBk
                go_wp2_with fail
                refine wp_region_quiet_lit (by kernel_rfl) (by kernel_rfl) ?_
                repeat go_big_quiet_step (fail)
                (with_reducible refine quiet_str (by kernel_rfl) rfl Try.underlying22 Try.underlying5 Try.underlying9 rfl (l := L) HQX.out ?_)
                simp only [Act.put, List.setIfInBounds_toArray, List.set_cons_zero, List.set_cons_succ]
                repeat go_big_quiet_step (fail)
                (with_reducible refine quiet_str (by kernel_rfl) rfl Try.underlying22 Try.underlying5 Try.underlying9 rfl (l := L) HQN.out ?_)
                simp only [Act.put, List.setIfInBounds_toArray, List.set_cons_zero, List.set_cons_succ]
                repeat go_big_quiet_step (fail)
                refine wpQuiet_nil ?_
                intro _ hw'
                obtain ⟨nq, hw''⟩ := hw'
                subst hw''
                go_wp2_with fail
                go_roundw
                case rel => exact ⟨k + 1, by omega, by go_num, bel_drewN HBk.out nq⟩
                case measure => simp [intOf]; omega
            · have hx : bits .and .u64 ((U : Int) / (2 : Int) ^ k) 1 = 0 := u64_bit U k 0 HU.out hb
              clear hb
              go_wp2_with fail
              go_roundw
              case rel => exact ⟨k + 1, by omega, by go_num, hBk⟩
              case measure => simp [intOf]; omega
          · have hD : (y : Int) * 512 + 512 ≤ X.length := by omega
            clear hC
            rcases hmod with hb | hb
            · have hx : bits .and .u64 ((U : Int) / (2 : Int) ^ k) 1 = 1 := u64_bit U k 1 HU.out hb
              have hkeep := Lib.hid (show (keepL U)[k]?.getD false = true by rw [keepL_get, hb]; simp [hk64])
              clear hb
              have hlt3 : (y : Int) * 512 < X.length := by omega
              obtain ⟨g1, g2, g3⟩ := HKS.out k hlt hkeep.out y HY.out (by omega)
              have g3 := g3 (512 * y + 512) (by omega) (by omega) (by omega)
              have q1 : (y : Int) * 512 < B.length := by omega
              have q2 : (y : Int) * 512 + 512 ≤ B.length := by omega
              have q3 : decide ((B.length : Int) ≤ (y : Int) * 512) = false := by simp; omega
              have q4 : decide ((B.length : Int) < (y : Int) * 512 + 512) = false := by simp; omega
              clear g1 g2
              obtain ⟨L, hL⟩ : ∃ L, (B.drop (512 * y)).take (512 * y + 512 - 512 * y) = L := ⟨_, rfl⟩
              rw [hL, Nat.mul_comm 512 y] at g3
              rw [Nat.mul_comm 512 y] at hL
              have HQX := Lib.hid (fun w' (h : ∃ q, w' = wr.drewN q) => show RdB w' (Option.map (fun x => x.add (y * 512)) qa) (y * 512 + 512 - y * 512) (qc - y * 512) L by obtain ⟨q, rfl⟩ := h; rw [← g3]; exact rd_cutmap (HX23.out.rd.mono (bel_drewN hBk q)) _ _ (by omega) (by omega) (by omega))
              have HQN := Lib.hid (fun w' (h : ∃ q, w' = wr.drewN q) => show RdB w' (Option.map (fun x => x.add (y * 512)) xa) (y * 512 + 512 - y * 512) (xc - y * 512) L by obtain ⟨q, rfl⟩ := h; rw [← hL]; exact rd_cutmap (RdB.mono ⟨HNB.out, HN23.out⟩ (bel_drewN hBk q)) _ _ (by omega) (by omega) (by omega))
              have hs1 : ((bstr L).toList != (bstr L).toList) = false := by simp
              have HBk := Lib.hid hBk
              clear hL g3 hBk
              go_wp2_with fail
              refine wp_region_quiet_lit (by kernel_rfl) (by kernel_rfl) ?_
              repeat go_big_quiet_step (fail)
              (with_reducible refine quiet_str (by kernel_rfl) rfl Try.underlying22 Try.underlying5 Try.underlying9 rfl (l := L) HQX.out ?_)
              simp only [Act.put, List.setIfInBounds_toArray, List.set_cons_zero, List.set_cons_succ]
              repeat go_big_quiet_step (fail)
              (with_reducible refine quiet_str (by kernel_rfl) rfl Try.underlying22 Try.underlying5 Try.underlying9 rfl (l := L) HQN.out ?_)
              simp only [Act.put, List.setIfInBounds_toArray, List.set_cons_zero, List.set_cons_succ]
              repeat go_big_quiet_step (fail)
              refine wpQuiet_nil ?_
              intro _ hw'
              obtain ⟨nq, hw''⟩ := hw'
              subst hw''
              go_wp2_with fail
              go_roundw
              case rel => exact ⟨k + 1, by omega, by go_num, bel_drewN HBk.out nq⟩
              case measure => simp [intOf]; omega
            · have hx : bits .and .u64 ((U : Int) / (2 : Int) ^ k) 1 = 0 := u64_bit U k 0 HU.out hb
              clear hb
              go_wp2_with fail
              go_roundw
              case rel => exact ⟨k + 1, by omega, by go_num, hBk⟩
              case measure => simp [intOf]; omega
        · have hkD : (D.length : Int) ≤ (k : Int) := by omega
          have hXB : (X.length : Int) ≤ B.length := by omega
          have hSB2 : (S.length : Int) ≤ B.length := by omega
          have HBk := Lib.hid (HBL.out.trans (hBk.mono HBL.out.size))
          clear hBk
          go_wp2_with fail
          go_ret
          exact ⟨rfl, HBk.out⟩
end Go.Proofs.Ytenikpbnggkmgaa
