/- The walk of SectGaps. Conditions stand as premises. -/
import Derived.Test.YtenikpbnggkmgaaSectL
namespace Go.Proofs.Ytenikpbnggkmgaa
open Go.ChangeShapes Go.WideShapes Go.ChangeAt Go.RowKit
set_option linter.unusedVariables false

theorem FileS.apart {w0 w : World} {p : Nat} {b s : List Int} {F : Nat → Prop} {a : Option Addr} {n c : Nat} {l : List Int} (hs : FileS w w0.heap.size p b s F) (hr : RdB w0 a n c l) : 0 < n → ∀ x, a = some x → ¬ F x.block := by
  intro hp x hx hF
  obtain ⟨bk, off, ha, hlt, _⟩ := hr.2.at hp
  have h1 := (hs.mem hF).1
  rw [ha] at hx
  cases hx
  simp only at h1
  omega
theorem putIn_nil (q : Nat) (x : List Int) : putIn [] q x = List.replicate q 0 ++ x := by
  rw [putIn_behind _ _ _ (by simp)]; simp
theorem writeL_ok {b x : List Int} {p : Int} (h : writeC p x.length = 0) (hx : x ≠ []) : writeL b p x = putIn b p.toNat x := by unfold writeL; rw [if_pos ⟨h, hx⟩]
theorem writeL_no {b x : List Int} {p : Int} (h : writeC p x.length ≠ 0) : writeL b p x = b := by unfold writeL; rw [if_neg (fun hh => h hh.1)]
theorem writeC_fit {p : Int} {m : Nat} (h0 : 0 ≤ p) (h1 : p + m ≤ 32768) : writeC p m = 0 := by unfold writeC; rw [if_neg (by omega), if_neg (by omega)]

set_option maxRecDepth 100000 in
set_option maxHeartbeats 4000000 in
theorem sectgaps_law (at_ to : Int) (a : Option Addr) (n c : Nat) (l : List Int) (w : World) (hr : RdB w a n c l) :
    Calls Try.prog 3 #[.int .i64 at_, .int .i64 to, .slice a n c] w fun e w' => e = .returned (.bool true) ∧ Below w.heap.size w w' := by
  obtain rfl : l.length = n := hr.len
  by_cases h1 : (1000 : Int) < l.length
  · go_enter Try.func3, Try.ntmps3
    go_wp2_with fail
    refine (sfirst_any _).mono ?_
    rintro e w1 ⟨rfl, hb1⟩
    go_wp2_with fail
    go_ret
    exact ⟨rfl, hb1⟩
  have h1' : (l.length : Int) ≤ 1000 := by omega
  by_cases h0 : l.length = 0
  · have q0 : ((l.length : Int) == 0) = true := by rw [h0]; rfl
    clear h1 h0
    go_enter Try.func3, Try.ntmps3
    go_wp2_with fail
    refine (sfirst_any _).mono ?_
    rintro e w1 ⟨rfl, hb1⟩
    go_wp2_with fail
    go_ret
    exact ⟨rfl, hb1⟩
  have q0 : ((l.length : Int) == 0) = false := by rw [beq_eq_false_iff_ne]; omega
  have hpos : 0 < l.length := by omega
  have hne : l ≠ [] := List.length_pos_iff.1 hpos
  obtain ⟨q, hq, hq2⟩ := mod_nat at_ 4000 (by decide)
  obtain ⟨r, hrr, hr2⟩ := mod_nat to 50 (by decide)
  have HQ := Lib.hid hq
  have HR2 := Lib.hid hrr
  have HR := Lib.hid hr
  have HNE := Lib.hid hne
  clear h1 h0 hq hrr hr hne
  go_enter Try.func3, Try.ntmps3
  go_wp2_with fail
  refine (sfirst_any _).mono ?_
  rintro e w1 ⟨rfl, hb1⟩
  go_wp2_with fail
  refine (sectnew _).mono ?_
  rintro e w2 ⟨rfl, hs2, hb2⟩
  have hs2 := hs2.base hb1.size
  have hb2 := hb1.trans (hb2.mono hb1.size)
  obtain ⟨p, hp⟩ : ∃ p, w1.heap.size = p := ⟨_, rfl⟩
  rw [hp] at hs2 ⊢
  clear hp
  go_wp2_with fail
  refine (number_nat at_ 4000 q HQ.out (by decide) (by decide) _).mono ?_
  rintro e w' ⟨rfl, rfl⟩
  go_wp2_with fail
  have hwc : writeC (q : Int) l.length = 0 := writeC_fit (by omega) (by omega)
  refine (sectwrite_any _ _ _ _ _ _ _ _ _ l _ hs2 (HR.out.mono hb2) (hs2.apart HR.out) (by omega) (by omega)).mono ?_
  rintro e w3 ⟨rfl, hst⟩
  obtain ⟨F3, hs3, hb3, _⟩ := hs2.go hb2 hst
  rw [writeL_ok hwc HNE.out, Int.toNat_natCast, putIn_nil] at hs3
  rw [hwc]
  clear hst hwc hs2 hb2 hb1
  obtain ⟨X, hX⟩ : ∃ X : List Int, List.replicate q 0 ++ l = X := ⟨_, rfl⟩
  rw [hX] at hs3
  have hxl : X.length = q + l.length := by rw [← hX, List.length_append, List.length_replicate]
  have HX0 := Lib.hid (fun k (hk : k < q) => show X[k]? = some 0 by rw [← hX, List.getElem?_append_left (by rw [List.length_replicate]; omega), List.getElem?_replicate, if_pos hk])
  have HXD := Lib.hid (show X.drop q = l by rw [← hX]; exact List.drop_left' (by simp))
  have HXL := Lib.hid hxl
  clear hX hxl
  have hl := sectlen _ _ _ _ _ _ hs3
  rw [HXL.out] at hl
  have HL := Lib.hid hl
  have qe : ((q : Int) + (l.length : Int) != ((q + l.length : Nat) : Int)) = false := by simp
  clear hl
  go_wp2_with fail
  refine HL.out.mono ?_
  rintro e w' ⟨rfl, rfl⟩
  go_wp2_with fail
  refine (sectall _ _ _ _ _ _ hs3).mono ?_
  rintro e w4 ⟨xa, xc, rfl, ho4, hb4⟩
  rw [HXL.out] at ho4 ⊢
  have hs4 := hs3.below hb4
  have hb4' := hb3.trans (hb4.mono hb3.size)
  have HO := Lib.hid ho4
  have HS := Lib.hid hs4
  have HB := Lib.hid hb4'
  have HF3 := Lib.hid (fun j (hj : F3 j) => (hs3.mem hj).2)
  clear ho4 hs4 hb4' hs3 hb3 hb4 HL
  go_wp2_with fail
  go_loop [10] (fun i => ∃ k : Nat, k ≤ q ∧ i = .int .i64 k) (fun i => q - (intOf i).toNat)
  case atStart => exact ⟨0, Nat.zero_le _, rfl⟩
  case round =>
    obtain ⟨k, hk, rfl⟩ := hrel
    by_cases hlt : k < q
    · obtain ⟨g, rfl, _, _⟩ := HO.out.2.at (by omega)
      have hc := HO.out.2.cell k 0 (HX0.out k hlt)
      have hcap := HO.out.2.rd.2.1
      have k1 : (k : Int) < (q : Int) := by omega
      have k2 : (k : Int) < (q : Int) + (l.length : Int) := by omega
      go_wp2_with fail
      go_round
      case rel => exact ⟨k + 1, by omega, by go_num⟩
      case measure => simp [intOf]; omega
    · obtain rfl : k = q := by omega
      go_wp2_with fail
      refine (number_nat to 50 r HR2.out (by decide) (by decide) _).mono ?_
      rintro e w' ⟨rfl, rfl⟩
      go_wp2_with fail
      have hwc : writeC (32768 - (l.length : Int) + 1 + (r : Int)) l.length = 15 := by unfold writeC; rw [if_neg (by omega), if_pos (by omega)]
      refine (sectwrite_any _ _ _ _ _ _ _ _ _ l _ HS.out (HR.out.mono HB.out) (HS.out.apart HR.out) (by omega) (by omega)).mono ?_
      rintro e w5 ⟨rfl, hst⟩
      obtain ⟨F5, hs5, hb5, hu5⟩ := HS.out.go HB.out hst
      rw [writeL_no (by rw [hwc]; decide)] at hs5
      rw [hwc]
      have HO5 := Lib.hid (HO.out.upd hu5 (fun x hx hF => by have := (HO.out.2.lt x hx).1; have := HF3.out _ hF; omega))
      have HF5 := Lib.hid (fun j (hj : F5 j) => (hs5.mem hj).2)
      have HK := Lib.hid hst
      clear hst hwc hu5
      go_wp2_with fail
      refine (number_nat to 50 r HR2.out (by decide) (by decide) _).mono ?_
      rintro e w' ⟨rfl, rfl⟩
      go_wp2_with fail
      have hwc : writeC (-1 - (r : Int)) l.length = 1 := by unfold writeC; rw [if_pos (by omega)]
      obtain ⟨F6, hF6⟩ : ∃ F6, FileS w5 w.heap.size p X [] F6 ∧ ∀ x, xa = some x → ¬ F6 x.block := by
        obtain ⟨G, g1, g2, g3⟩ := HK.out
        rw [writeL_no (by unfold writeC; rw [if_neg (by omega), if_pos (by omega)]; decide)] at g1
        exact ⟨G, g1, fun x hx hG => by
          have h1 := HO.out.2.lt x hx
          rcases g3 _ hG with h2 | h2
          · have := HF3.out _ h2; omega
          · omega⟩
      refine (sectwrite_any _ _ _ _ _ _ _ _ _ l _ hF6.1 (HR.out.mono hb5) (hF6.1.apart HR.out) (by omega) (by omega)).mono ?_
      rintro e w6 ⟨rfl, hst⟩
      obtain ⟨F7, hs6, hb6, hu6⟩ := hF6.1.go hb5 hst
      rw [writeL_no (by rw [hwc]; decide)] at hs6
      rw [hwc]
      have HO6 := Lib.hid (HO5.out.upd hu6 hF6.2)
      clear hst hwc hu6 HK hs5
      go_wp2_with fail
      refine (sectall _ _ _ _ _ _ hs6).mono ?_
      rintro e w7 ⟨ya, yc, rfl, ho7, hb7⟩
      have hx7 := HO6.out.rd.mono hb7
      have hsame := same_any _ _ _ _ _ _ X X _ ho7.rd hx7
      rw [HXL.out, decide_eq_true rfl] at hsame
      rw [HXL.out]
      have HSm := Lib.hid hsame
      have hx8 := hx7.2
      have HX7 := Lib.hid hx7
      clear hsame hx7
      go_wp2_with fail
      refine HSm.out.mono ?_
      rintro e w8 ⟨rfl, rfl⟩
      go_wp2_with (with_reducible refine wpList_cutLG rfl rfl Try.oneB rfl rfl hx8 (by omega) (by omega) ?_; intro a9 hr9 hs9)
      rw [Int.toNat_natCast, HXD.out, Nat.add_sub_cancel_left] at hr9
      have hB7 := hb6.trans (hb7.mono hb6.size)
      have hsame := same_any _ _ _ _ _ _ l l w7 ⟨HR.out.1, hr9⟩ (HR.out.mono hB7)
      rw [decide_eq_true rfl] at hsame
      refine hsame.mono ?_
      rintro e w8 ⟨rfl, rfl⟩
      clear hsame hr9 hs9
      go_wp2_with fail
      go_ret
      exact ⟨rfl, hB7⟩
end Go.Proofs.Ytenikpbnggkmgaa
