/- The walk of EntrySays. Conditions stand as premises. -/
import Derived.Test.YtojjgagcpkjkaaaSameE
import Derived.Test.YtojjgagcpkjkaaaEntXor
namespace Go.Proofs.Ytojjgagcpkjkaaa
open Go.ChangeShapes Go.WideShapes Go.ChangeAt Go.RowKit
set_option linter.unusedVariables false
set_option linter.unusedSimpArgs false

theorem RdP.nil (w : World) : RdP w none 0 0 [] := ⟨rfl, Nat.le_refl _, Nat.zero_le _, fun _ => rfl, .inl rfl⟩
theorem Rd.nil0 {α : Type} (enc : α → Value) (w : World) : Rd enc w none 0 0 [] := ⟨rfl, Nat.le_refl _, Nat.zero_le _, fun _ => rfl, .inl rfl⟩

/-! What is told of an entry, an array, a table at a place: both answers in one form. -/
def eN (l : List Int) (p : Int) (i : Nat) : Int := if entRC l p = 0 then (numsOf l p).getD i 0 else 0
def eB (l : List Int) (p : Int) : List Int := if entRC l p = 0 then bootOf l p else zero16
def eP (l : List Int) (p : Int) : List PR := if entRC l p = 0 then itemsOf l p else []
def aX (l : List Int) (p : Int) : Int := if entC l p 6 8 8 = 0 then (numsOf l p).headD 0 else 0
def aT (l : List Int) (p : Int) : List Int := if entC l p 6 8 8 = 0 then (numsOf l p).tail else []
def tP (l : List Int) (p k : Int) : List PR := if tabC l p k = 0 then pairsOf l p else []
def SayE (w : World) (l : List Int) (p : Int) (e : Ending) (w' : World) : Prop :=
  ∃ a n c, e = .returned (.tuple #[.agg (entL (eN l p 0) (eN l p 1) (eN l p 2) (eB l p) (eN l p 5) a n c).toArray, .int .i64 (entRC l p)]) ∧ RdP w' a n c (eP l p) ∧ Below w.heap.size w w'
def SayA (w : World) (l : List Int) (p : Int) (e : Ending) (w' : World) : Prop :=
  ∃ a n c, e = .returned (.tuple #[.agg #[.int .u64 (aX l p), .slice a n c], .int .i64 (entC l p 6 8 8)]) ∧ Rd (Value.int .u64) w' a n c (aT l p) ∧ Below w.heap.size w w'
def SayT (w : World) (l : List Int) (p k : Int) (e : Ending) (w' : World) : Prop :=
  ∃ a n c, e = .returned (.tuple #[.slice a n c, .int .i64 (tabC l p k)]) ∧ RdP w' a n c (tP l p k) ∧ Below w.heap.size w w'
theorem sayE_of (w : World) (l : List Int) (p : Int) (e : Ending) (w' : World) (h : RefEE w (numsOf l p) (bootOf l p) (itemsOf l p) (entRC l p) e w') : SayE w l p e w' := by
  obtain ⟨s, r, m, B, x, a, n, c, rfl, h1, h2, hb⟩ := h
  refine ⟨a, n, c, ?_, ?_, hb⟩
  all_goals
    by_cases hC : entRC l p = 0
    · obtain ⟨rfl, rfl, rfl, rfl, rfl, hp⟩ := h1 hC
      first
        | (rw [entV_eq]; unfold eN eB; rw [if_pos hC, if_pos hC, if_pos hC, if_pos hC, if_pos hC])
        | (unfold eP; rw [if_pos hC]; exact hp)
    · obtain ⟨rfl, rfl, rfl, rfl, rfl, rfl, rfl, rfl⟩ := h2 hC
      first
        | (rw [entV_eq]; unfold eN eB; simp only [if_neg hC])
        | (unfold eP; rw [if_neg hC]; exact RdP.nil _)
theorem sayE_pkg (w : World) (l : List Int) (p : Int) (e : Ending) (w' : World) (h : ReadEE w l p (entRC l p) e w') : SayE w l p e w' := by
  obtain ⟨s, r, m, B, x, a, n, c, rfl, h1, h2, hb⟩ := h
  exact sayE_of w l p _ w' ⟨s, r, m, B, x, a, n, c, rfl, fun hC => by obtain ⟨g1, g2, g3, g4, g5, g6⟩ := h1 hC; exact ⟨g1, g2, g3, g4, g5, g6.rd⟩, h2, hb⟩
theorem sayA_of (w : World) (l : List Int) (p : Int) (e : Ending) (w' : World) (h : RefAE w (numsOf l p) (entC l p 6 8 8) e w') : SayA w l p e w' := by
  obtain ⟨x, a, n, c, rfl, h1, h2, hb⟩ := h
  refine ⟨a, n, c, ?_, ?_, hb⟩
  all_goals
    by_cases hC : entC l p 6 8 8 = 0
    · obtain ⟨t, ht, hr⟩ := h1 hC
      first
        | (unfold aX; rw [if_pos hC, ht]; rfl)
        | (unfold aT; rw [if_pos hC, ht]; exact hr)
    · obtain ⟨rfl, rfl, rfl, rfl⟩ := h2 hC
      first
        | (unfold aX; rw [if_neg hC])
        | (unfold aT; rw [if_neg hC]; exact Rd.nil0 _ _)
theorem sayT_of (w : World) (l : List Int) (p k : Int) (e : Ending) (w' : World) (h : RefTE w (pairsOf l p) (tabC l p k) e w') : SayT w l p k e w' := by
  obtain ⟨a, n, c, rfl, h1, h2, hb⟩ := h
  refine ⟨a, n, c, rfl, ?_, hb⟩
  by_cases hC : tabC l p k = 0
  · unfold tP; rw [if_pos hC]; exact (h1 hC).rd
  · obtain ⟨rfl, rfl, rfl⟩ := h2 hC
    unfold tP; rw [if_neg hC]; exact RdP.nil _
theorem sayT_pkg (w : World) (l : List Int) (p k : Int) (e : Ending) (w' : World) (h : ReadTE w l p (tabC l p k) e w') : SayT w l p k e w' := by
  obtain ⟨a, n, c, rfl, h1, h2, hb⟩ := h
  refine ⟨a, n, c, rfl, ?_, hb⟩
  by_cases hC : tabC l p k = 0
  · unfold tP; rw [if_pos hC]; exact (h1 hC).rd
  · obtain ⟨rfl, rfl, rfl⟩ := h2 hC
    unfold tP; rw [if_neg hC]; exact RdP.nil _

theorem body_short {l : List Int} {p : Int} (hl : l.length ≤ 900) : (numsOf l p).length ≤ 200 := by
  unfold numsOf bodyL; rw [allF_length]; simp; omega
theorem eB_length {l : List Int} {p : Int} (hp : 0 ≤ p) : (eB l p).length = 16 := by
  unfold eB
  by_cases hC : entRC l p = 0
  · rw [if_pos hC]
    have h1 : entC l p 3 48 16 = 0 := by
      unfold entRC at hC
      by_cases h : entC l p 3 48 16 ≠ 0
      · rw [if_pos h] at hC; exact absurd hC h
      · simpa using h
    obtain ⟨k0, k1, k2, k3⟩ := entC_ok hp (by omega) h1
    have := bodyL_length hp k0
    unfold bootOf; simp; omega
  · rw [if_neg hC]; rfl
theorem eB_isB {l : List Int} {p : Int} (h : IsB l) : IsB (eB l p) := by
  unfold eB
  by_cases hC : entRC l p = 0
  · rw [if_pos hC]; exact ((((h.drop _).take _).drop _).take _)
  · rw [if_neg hC]; exact IsB.replicate 16
theorem eP_short {l : List Int} {p : Int} (hl : l.length ≤ 900) : (eP l p).length ≤ 200 := by
  unfold eP itemsOf
  have := body_short (p := p) hl
  split
  · rw [pairI_length]; omega
  · simp
theorem aT_short {l : List Int} {p : Int} (hl : l.length ≤ 900) : (aT l p).length ≤ 200 := by
  unfold aT
  have := body_short (p := p) hl
  split
  · simp; omega
  · simp
theorem aT_bd {l : List Int} {p : Int} (h : IsB l) : ∀ v ∈ aT l p, 0 ≤ v ∧ v ≤ 18446744073709551615 := by
  unfold aT
  split
  · exact fun v hv => allI_bd ((h.drop _).take _) _ v (List.mem_of_mem_tail hv)
  · intro v hv; cases hv
theorem tP_short {l : List Int} {p k : Int} (hl : l.length ≤ 900) : (tP l p k).length ≤ 200 := by
  unfold tP pairsOf
  have := body_short (p := p) hl
  split
  · rw [pairI_length]; omega
  · simp

set_option maxRecDepth 100000 in
set_option maxHeartbeats 1000000 in
theorem entrysays_law (p k : Int) (a : Option Addr) (n c : Nat) (l : List Int) (w0 : World) (hr0 : RdB w0 a n c l) (h0 : 0 ≤ p) (h1 : p ≤ 18446744073709551615) :
    Calls Try.prog 5 #[.slice a n c, .int .u64 p, .int .i64 k] w0 fun e w' => e = .returned (.bool true) ∧ Below w0.heap.size w0 w' := by
  obtain rfl : l.length = n := hr0.len
  have hlen : l.length ≤ 9223372036854775807 := by have h1 := hr0.2.2.1; have h2 := hr0.2.2.2.1; unfold maxLen at h2; omega
  by_cases hbig : 900 < l.length
  · have hbig' : decide (900 < (l.length : Int)) = true := by simp; omega
    clear hr0
    go_enter Try.func5, Try.ntmps5
    go_wp2_with fail
    refine (first_any _).mono ?_
    rintro e w1 ⟨rfl, hb1⟩
    go_wp2_with fail
    go_ret
    exact ⟨rfl, hb1⟩
  have hd1 : decide (900 < (l.length : Int)) = false := by simp; omega
  have hl9 : l.length ≤ 900 := by omega
  have HBl := Lib.hid (eB_length (l := l) h0)
  have HBB := Lib.hid (eB_isB (p := p) hr0.1)
  have hPs := eP_short (p := p) hl9
  have hTs := aT_short (p := p) hl9
  have hTPs := tP_short (p := p) (k := k) hl9
  have HTb := Lib.hid (aT_bd (p := p) hr0.1)
  have HR0 := Lib.hid hr0
  have HE := Lib.hid (fun (w : World) (h : RdB w a l.length c l) => (entread_any p a l.length c l w h (by omega) h0 h1).mono (fun e w' h => sayE_pkg w l p e w' h))
  have HE2 := Lib.hid (fun (w : World) (h : RdB w a l.length c l) => (refreade_any p a l.length c l w h (by omega) h0 h1).mono (fun e w' h => sayE_of w l p e w' h))
  have HA := Lib.hid (fun (w : World) (h : RdB w a l.length c l) => (readarray_any p a l.length c l w h (by omega) h0 h1).mono (fun e w' h => sayA_of w l p e w' h))
  have HA2 := Lib.hid (fun (w : World) (h : RdB w a l.length c l) => (refreadarray_any p a l.length c l w h (by omega) h0 h1).mono (fun e w' h => sayA_of w l p e w' h))
  have HT := Lib.hid (fun (w : World) (h : RdB w a l.length c l) => (readtab_any p k a l.length c l w h (by omega) h0 h1).mono (fun e w' h => sayT_pkg w l p k e w' h))
  have HT2 := Lib.hid (fun (w : World) (h : RdB w a l.length c l) => (refreadtab_any p k a l.length c l w h (by omega) h0 h1).mono (fun e w' h => sayT_of w l p k e w' h))
  unfold SayE at HE HE2
  unfold SayA at HA HA2
  unfold SayT at HT HT2
  generalize entRC l p = C1 at *
  generalize entC l p 6 8 8 = C2 at *
  generalize tabC l p k = C3 at *
  generalize eN l p 0 = s at *
  generalize eN l p 1 = r at *
  generalize eN l p 2 = mo at *
  generalize eN l p 5 = x at *
  generalize eB l p = B at *
  generalize eP l p = ps at *
  generalize aX l p = ax at *
  generalize aT l p = at_ at *
  generalize tP l p k = tp at *
  clear hr0 hbig
  go_enter Try.func5, Try.ntmps5
  go_wp2_with fail
  refine (first_any _).mono ?_
  rintro e w ⟨rfl, hb1⟩
  have HR := Lib.hid (HR0.out.mono hb1)
  have HB0 := Lib.hid hb1
  clear hb1 HR0
  go_wp2_with fail
  refine (HE.out w HR.out).mono ?_
  rintro e w1 ⟨a1, n1, c1, rfl, hp1, hb1⟩
  obtain rfl : ps.length = n1 := hp1.1
  have HB1 := Lib.hid hb1
  have HP1 := Lib.hid hp1
  have HZ1 := Lib.hid (heap_alloc_new w1 (.cells #[Value.int .u64 0, Value.int .u64 0, Value.int .u64 0, Value.int .u8 0, Value.int .u8 0, Value.int .u8 0, Value.int .u8 0, Value.int .u8 0, Value.int .u8 0, Value.int .u8 0, Value.int .u8 0, Value.int .u8 0, Value.int .u8 0, Value.int .u8 0, Value.int .u8 0, Value.int .u8 0, Value.int .u8 0, Value.int .u8 0, Value.int .u8 0, Value.int .u64 0, Value.slice none 0 0] 32))
  have HZB := Lib.hid (below_alloc w1 (.cells #[Value.int .u64 0, Value.int .u64 0, Value.int .u64 0, Value.int .u8 0, Value.int .u8 0, Value.int .u8 0, Value.int .u8 0, Value.int .u8 0, Value.int .u8 0, Value.int .u8 0, Value.int .u8 0, Value.int .u8 0, Value.int .u8 0, Value.int .u8 0, Value.int .u8 0, Value.int .u8 0, Value.int .u8 0, Value.int .u8 0, Value.int .u8 0, Value.int .u64 0, Value.slice none 0 0] 32))
  clear hp1 hb1
  go_upto_region 7 with (with_reducible refine wpList_storeS rfl rfl Try.rowE rfl rfl HZ1.out (by with_unfolding_all rfl) (entL_size HBl.out) entL_one ?_; intro w2 HX2 hu2)
  have hB12 : Below w1.heap.size w1 w2 := HZB.out.trans (hu2.below HZB.out.size (fun k hk => by subst hk; exact Nat.le_refl _))
  have HB2 := Lib.hid (HB1.out.trans (hB12.mono HB1.out.size))
  have HP2 := Lib.hid (HP1.out.below hB12)
  obtain ⟨S1, hS1⟩ : ∃ S1, w1.heap.size = S1 := ⟨_, rfl⟩
  rw [hS1] at HX2 ⊢
  clear hu2 hB12 HZ1 HZB HB1 HP1 hS1
  go_wp2_with fail
  refine (HE2.out w2 (HR.out.mono HB2.out)).mono ?_
  rintro e w3 ⟨a2, n2, c2, rfl, hp3, hb3⟩
  obtain rfl : ps.length = n2 := hp3.1
  have HB3 := Lib.hid (HB2.out.trans (hb3.mono HB2.out.size))
  have HP3 := Lib.hid hp3
  have HX3 := Lib.hid (row_below hb3 (lt_of_heap HX2.out) HX2.out)
  have HP23 := Lib.hid (HP2.out.below hb3)
  have HZ3 := Lib.hid (heap_alloc_new w3 (.cells #[Value.int .u64 0, Value.int .u64 0, Value.int .u64 0, Value.int .u8 0, Value.int .u8 0, Value.int .u8 0, Value.int .u8 0, Value.int .u8 0, Value.int .u8 0, Value.int .u8 0, Value.int .u8 0, Value.int .u8 0, Value.int .u8 0, Value.int .u8 0, Value.int .u8 0, Value.int .u8 0, Value.int .u8 0, Value.int .u8 0, Value.int .u8 0, Value.int .u64 0, Value.slice none 0 0] 39))
  have HZB := Lib.hid (below_alloc w3 (.cells #[Value.int .u64 0, Value.int .u64 0, Value.int .u64 0, Value.int .u8 0, Value.int .u8 0, Value.int .u8 0, Value.int .u8 0, Value.int .u8 0, Value.int .u8 0, Value.int .u8 0, Value.int .u8 0, Value.int .u8 0, Value.int .u8 0, Value.int .u8 0, Value.int .u8 0, Value.int .u8 0, Value.int .u8 0, Value.int .u8 0, Value.int .u8 0, Value.int .u64 0, Value.slice none 0 0] 39))
  clear hp3 hb3
  go_upto_region 8 with (with_reducible refine wpList_storeS rfl rfl Try.rowRE rfl rfl HZ3.out (by with_unfolding_all rfl) (entL_size HBl.out) entL_one ?_; intro w4 HX4 hu4)
  have hB34 : Below w3.heap.size w3 w4 := HZB.out.trans (hu4.below HZB.out.size (fun k hk => by subst hk; exact Nat.le_refl _))
  have HB4 := Lib.hid (HB3.out.trans (hB34.mono HB3.out.size))
  have HP4 := Lib.hid (HP3.out.below hB34)
  have HP14 := Lib.hid (HP23.out.below hB34)
  have HX14 := Lib.hid (row_below hB34 (lt_of_heap HX3.out) HX3.out)
  obtain ⟨S2, hS2⟩ : ∃ S2, w3.heap.size = S2 := ⟨_, rfl⟩
  rw [hS2] at HX4 ⊢
  clear hu4 hB34 HZ3 HZB HB3 HP3 HP23 HX3 HX2 HP2 hS2 HB2
  go_wp2_with fail
  refine (HA.out w4 (HR.out.mono HB4.out)).mono ?_
  rintro e w5 ⟨a3, n3, c3, rfl, hp5, hb5⟩
  obtain rfl : at_.length = n3 := hp5.1
  have hb5 := hb5.alloc hb5.size (.cells #[.int .u64 ax, .slice a3 at_.length c3] 35)
  have hX5 := heap_alloc_new w5 (.cells #[.int .u64 ax, .slice a3 at_.length c3] 35)
  have HP5 := Lib.hid (hp5.mono (below_alloc w5 (.cells #[.int .u64 ax, .slice a3 at_.length c3] 35)))
  have HB5 := Lib.hid (HB4.out.trans (hb5.mono HB4.out.size))
  have HP15 := Lib.hid (HP14.out.below hb5)
  have HP25 := Lib.hid (HP4.out.below hb5)
  have HX15 := Lib.hid (row_below hb5 (lt_of_heap HX14.out) HX14.out)
  have HX25 := Lib.hid (row_below hb5 (lt_of_heap HX4.out) HX4.out)
  have HX5 := Lib.hid hX5
  clear hp5 hb5 hX5 HP14 HP4 HX14 HX4
  go_upto_region 9 with fail
  generalize w5.alloc (.cells #[.int .u64 ax, .slice a3 at_.length c3] 35) = w6 at HB5 HP15 HP25 HX15 HX25 HX5 HP5 ⊢
  obtain ⟨S3, hS3⟩ : ∃ S3, w5.heap.size = S3 := ⟨_, rfl⟩
  rw [hS3] at HX5 ⊢
  clear hS3
  go_wp2_with fail
  refine (HA2.out w6 (HR.out.mono HB5.out)).mono ?_
  rintro e w7 ⟨a4, n4, c4, rfl, hp7, hb7⟩
  obtain rfl : at_.length = n4 := hp7.1
  have hb7 := hb7.alloc hb7.size (.cells #[.int .u64 ax, .slice a4 at_.length c4] 52)
  have hX7 := heap_alloc_new w7 (.cells #[.int .u64 ax, .slice a4 at_.length c4] 52)
  have HP7 := Lib.hid (hp7.mono (below_alloc w7 (.cells #[.int .u64 ax, .slice a4 at_.length c4] 52)))
  have HB7 := Lib.hid (HB5.out.trans (hb7.mono HB5.out.size))
  have HP17 := Lib.hid (HP15.out.below hb7)
  have HP27 := Lib.hid (HP25.out.below hb7)
  have HP57 := Lib.hid (HP5.out.mono hb7)
  have HX17 := Lib.hid (row_below hb7 (lt_of_heap HX15.out) HX15.out)
  have HX27 := Lib.hid (row_below hb7 (lt_of_heap HX25.out) HX25.out)
  have HX57 := Lib.hid (row_below hb7 (lt_of_heap HX5.out) HX5.out)
  have HX7 := Lib.hid hX7
  clear hp7 hb7 hX7 HP15 HP25 HX15 HX25 HX5 HP5 HB5
  go_upto_region 10 with fail
  generalize w7.alloc (.cells #[.int .u64 ax, .slice a4 at_.length c4] 52) = w8 at HB7 HP17 HP27 HP57 HX17 HX27 HX57 HX7 HP7 ⊢
  obtain ⟨S4, hS4⟩ : ∃ S4, w7.heap.size = S4 := ⟨_, rfl⟩
  rw [hS4] at HX7 ⊢
  clear hS4
  go_wp2_with fail
  refine (HT.out w8 (HR.out.mono HB7.out)).mono ?_
  rintro e w9 ⟨a5, n5, c5, rfl, hp9, hb9⟩
  obtain rfl : tp.length = n5 := hp9.1
  have HB9 := Lib.hid (HB7.out.trans (hb9.mono HB7.out.size))
  have HP9 := Lib.hid hp9
  have HP19 := Lib.hid (HP17.out.below hb9)
  have HP29 := Lib.hid (HP27.out.below hb9)
  have HP59 := Lib.hid (HP57.out.mono hb9)
  have HP79 := Lib.hid (HP7.out.mono hb9)
  have HX19 := Lib.hid (row_below hb9 (lt_of_heap HX17.out) HX17.out)
  have HX29 := Lib.hid (row_below hb9 (lt_of_heap HX27.out) HX27.out)
  have HX59 := Lib.hid (row_below hb9 (lt_of_heap HX57.out) HX57.out)
  have HX79 := Lib.hid (row_below hb9 (lt_of_heap HX7.out) HX7.out)
  clear hp9 hb9 HP17 HP27 HP57 HX17 HX27 HX57 HX7 HP7 HB7
  go_wp2_with fail
  refine (HT2.out w9 (HR.out.mono HB9.out)).mono ?_
  rintro e wA ⟨a6, n6, c6, rfl, hpA, hbA⟩
  obtain rfl : tp.length = n6 := hpA.1
  have HBA := Lib.hid (HB9.out.trans (hbA.mono HB9.out.size))
  have HPA := Lib.hid hpA
  have HP9A := Lib.hid (HP9.out.below hbA)
  have HP1A := Lib.hid (HP19.out.below hbA)
  have HP2A := Lib.hid (HP29.out.below hbA)
  have HP5A := Lib.hid (HP59.out.mono hbA)
  have HP7A := Lib.hid (HP79.out.mono hbA)
  have HX1A := Lib.hid (row_below hbA (lt_of_heap HX19.out) HX19.out)
  have HX2A := Lib.hid (row_below hbA (lt_of_heap HX29.out) HX29.out)
  have HX5A := Lib.hid (row_below hbA (lt_of_heap HX59.out) HX59.out)
  have HX7A := Lib.hid (row_below hbA (lt_of_heap HX79.out) HX79.out)
  clear hpA hbA HP19 HP29 HP59 HX19 HX29 HX59 HX79 HP79 HB9 HP9
  go_upto_region 12 with fail
  go_wp2_with (first | (with_reducible refine wpList_loadSG rfl rfl Try.rowE rfl HX1A.out (entL_size HBl.out) ?_) | (with_reducible refine wpList_loadSG rfl rfl Try.rowRE rfl HX2A.out (entL_size HBl.out) ?_))
  rw [← entV_eq, ← entV_eq]
  refine (samee_any s r mo x B a1 a2 ps.length c1 c2 ps wA HBB.out HBl.out (by omega) HP1A.out HP2A.out).mono ?_
  rintro e wB ⟨rfl, hbB⟩
  have HBB2 := Lib.hid (HBA.out.trans (hbB.mono HBA.out.size))
  have HPAB := Lib.hid (HPA.out.below hbB)
  have HP9B := Lib.hid (HP9A.out.below hbB)
  have HP5B := Lib.hid (HP5A.out.mono hbB)
  have HP7B := Lib.hid (HP7A.out.mono hbB)
  have hX5 := row_below hbB (lt_of_heap HX5A.out) HX5A.out
  have hX7 := row_below hbB (lt_of_heap HX7A.out) HX7A.out
  have i0 : wB.cell? ⟨S3, 0, none⟩ = some (.int .u64 ax) := cell_of_heap hX5 0 _ rfl
  have i1 : wB.cell? ⟨S3, 1, none⟩ = some (.slice a3 at_.length c3) := cell_of_heap hX5 1 _ rfl
  have j0 : wB.cell? ⟨S4, 0, none⟩ = some (.int .u64 ax) := cell_of_heap hX7 0 _ rfl
  have j1 : wB.cell? ⟨S4, 1, none⟩ = some (.slice a4 at_.length c4) := cell_of_heap hX7 1 _ rfl
  clear hbB hX5 hX7 HX1A HX2A HX5A HX7A HP1A HP2A HP5A HP7A HPA HP9A HBA
  go_wp2_with fail
  refine (samea_any ax a3 a4 at_.length c3 c4 at_ wB (by omega) HTb.out HP5B.out HP7B.out).mono ?_
  rintro e wC ⟨rfl, hbC⟩
  have HBC := Lib.hid (HBB2.out.trans (hbC.mono HBB2.out.size))
  have HPAC := Lib.hid (HPAB.out.below hbC)
  have HP9C := Lib.hid (HP9B.out.below hbC)
  clear hbC i0 i1 j0 j1 HPAB HP9B HP5B HP7B HBB2
  go_wp2_with fail
  refine (sames_any a5 a6 tp.length c5 c6 tp wC (by omega) HP9C.out HPAC.out).mono ?_
  rintro e wD ⟨rfl, hbD⟩
  have HBD := Lib.hid (HBC.out.trans (hbD.mono HBC.out.size))
  clear hbD
  go_wp2_with fail
  go_ret
  exact ⟨by simp, HB0.out.trans (HBD.out.mono HB0.out.size)⟩
end Go.Proofs.Ytojjgagcpkjkaaa
