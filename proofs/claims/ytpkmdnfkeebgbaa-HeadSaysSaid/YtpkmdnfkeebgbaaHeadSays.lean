/- The law HeadSays answers yes. Conditions stand as premises. -/
import Derived.Test.YtpkmdnfkeebgbaaReadHead
import Derived.Test.YtpkmdnfkeebgbaaHeadEq
namespace Go.Proofs.Ytpkmdnfkeebgbaa
open Go.ChangeShapes Go.WideShapes Go.ChangeAt Go.RowKit
set_option linter.unusedVariables false
set_option linter.unusedSimpArgs false

theorem headC_short {l : List Int} (h : l.length < 272) : headC l = 22 := if_pos h
theorem headC_magic {l : List Int} (h : 272 ≤ l.length) (hs : l.take 8 ≠ signL) : headC l = 6 := by unfold headC; rw [if_neg (by omega), if_pos hs]
theorem headread_any (a : Option Addr) (n c : Nat) (l : List Int) (w : World) (hr : RdB w a n c l) (hn : n ≤ 1000000) :
    Calls Try.prog 8 #[.slice a n c] w (HeadE (headR l) (headC l) w) := by
  have hl := hr.len
  by_cases h1 : n < 272
  · have hc := headC_short (l := l) (by omega)
    rw [show headR l = zeroH from if_neg (by rw [hc]; decide), hc]
    exact headread_short a n c w h1
  · by_cases h2 : l.take 8 = signL
    · exact headread_sign a n c l w hr hn (by omega) h2
    · have hc := headC_magic (l := l) (by omega) h2
      rw [show headR l = zeroH from if_neg (by rw [hc]; decide), hc]
      exact headread_magic a n c l w hr hn (by omega) h2
theorem readhead_any (a : Option Addr) (n c : Nat) (l : List Int) (w : World) (hr : RdB w a n c l) (hn : n ≤ 1000000) :
    Calls Try.prog 9 #[.slice a n c] w (HeadRE (headRR l) (headRD l) (headC l) w) := by
  have hl := hr.len
  by_cases h1 : n < 272
  · have hc := headC_short (l := l) (by omega)
    rw [show headRR l = zeroR from if_neg (by rw [hc]; decide), show headRD l = 0 from if_neg (by rw [hc]; decide), hc]
    exact readhead_short a n c w h1
  · by_cases h2 : l.take 8 = signL
    · exact readhead_sign a n c l w hr hn (by omega) h2
    · have hc := headC_magic (l := l) (by omega) h2
      rw [show headRR l = zeroR from if_neg (by rw [hc]; decide), show headRD l = 0 from if_neg (by rw [hc]; decide), hc]
      exact readhead_magic a n c l w hr hn (by omega) h2
theorem headC_0 {l : List Int} (h : headC l = 0) : 272 ≤ l.length := by
  by_cases h1 : l.length < 272
  · rw [headC_short h1] at h; exact absurd h (by decide)
  · omega
theorem zeroH_ok : HeadOK zeroH := ⟨0, 0, 0, List.replicate 64 0, List.replicate 21 0, 0, 0, 0, rfl, rfl, IsB.replicate 64, rfl⟩
theorem parseL_ok {l : List Int} (hb : IsB l) (h : 272 ≤ l.length) : HeadOK (parseL l) := ⟨_, _, _, idsP l, numsP l 21, _, _, _, rfl, idsP_length h, (hb.drop _).take _, numsP_length l 21⟩
theorem ofraw_any {l : List Int} (hl : 272 ≤ l.length) (w : World) :
    Calls Try.prog 10 #[.agg (rawL l).toArray, .int .u64 (gN l 248 8)] w fun e w' => e = .returned (.agg (parseL l).toArray) ∧ Below w.heap.size w w' := by
  have h := of_any (gN l 8 4) (gN l 12 4) (l[16]?.getD 0) (idsP l) (numsP l 20) (gN l 256 4) (gN l 260 4) (gN l 264 8) (gN l 248 8) w (idsP_length hl) (numsP_length l 20)
  have e : numsP l 20 ++ [gN l 248 8] = numsP l 21 := (numsP_snoc l 20).symm
  rw [e] at h
  exact h

set_option maxRecDepth 100000 in
set_option maxHeartbeats 8000000 in
theorem headsays_yes (a : Option Addr) (n c : Nat) (l : List Int) (w : World) (hr : RdB w a n c l) :
    Calls Try.prog 3 #[.slice a n c] w fun e w' => e = .returned (.bool true) ∧ Below w.heap.size w w' := by
  obtain rfl : l.length = n := hr.len
  by_cases hbig : 2000 < l.length
  · have hd : decide ((2000 : Int) < (l.length : Int)) = true := by simp; omega
    go_enter Try.func3, Try.ntmps3
    go_wp2_with (go_at_call 7; refine (first_any _).mono ?_; rintro e w2 ⟨rfl, hb2⟩)
    go_ret
    exact ⟨rfl, hb2⟩
  have hd : decide ((2000 : Int) < (l.length : Int)) = false := by simp; omega
  have HRd := Lib.hid (fun w' (h : RdB w' a l.length c l) => headread_any a l.length c l w' h (by omega))
  have HRf := Lib.hid (fun w' (h : RdB w' a l.length c l) => readhead_any a l.length c l w' h (by omega))
  have HR := Lib.hid hr
  have HIs := Lib.hid hr.1
  clear hr
  go_enter Try.func3, Try.ntmps3
  have HSZ := Lib.hid (show (headR l).toArray.size = 91 from by
    unfold headR
    split
    · next h => exact parseL_size (headC_0 h)
    · exact zeroH_size)
  have HS1 := Lib.hid (show (headR l).toArray.all (·.oneCell') = true from by
    unfold headR
    split
    · exact parseL_one
    · exact zeroH_one)
  have HRZ := Lib.hid (show (headRR l).toArray.size = 90 from by
    unfold headRR
    split
    · next h => exact rawL_size (headC_0 h)
    · exact zeroR_size)
  have HR1 := Lib.hid (show (headRR l).toArray.all (·.oneCell') = true from by
    unfold headRR
    split
    · exact rawL_one
    · exact zeroR_one)
  have HD0 := Lib.hid (show headC l = 0 → headR l = parseL l ∧ headRR l = rawL l ∧ headRD l = gN l 248 8 ∧ 272 ≤ l.length from fun h => ⟨if_pos h, if_pos h, if_pos h, headC_0 h⟩)
  have HD1 := Lib.hid (show headC l ≠ 0 → headR l = zeroH from fun h => if_neg h)
  generalize headC l = C at *
  generalize headR l = X at *
  generalize headRR l = Y at *
  generalize headRD l = D at *
  go_upto_region 6 with (go_at_call 7; refine (first_any _).mono ?_; rintro e w2 ⟨rfl, hb2⟩; have HB2 := Lib.hid hb2; clear hb2)
  go_upto_region 7 with (first
    | (go_at_call 8; refine (HRd.out _ (HR.out.mono HB2.out)).mono ?_; rintro e w3 ⟨rfl, hb3⟩; have HB3 := Lib.hid (HB2.out.trans (hb3.mono HB2.out.size)); clear hb3)
    | (with_reducible refine wpList_storeS (cells := X.toArray) rfl rfl Try.headI rfl rfl (heap_alloc_new w3 _) (by with_unfolding_all rfl) HSZ.out HS1.out ?_; intro w4 hX4 hu4))
  have HU4 := Lib.hid ((Upd.ofBelow (F := (· = w3.heap.size)) (below_alloc w3 _)).trans hu4 (fun _ _ h => h))
  have HB4 := Lib.hid (HB3.out.trans (HU4.out.below (B := w.heap.size) HB3.out.size (fun j hj => by have := HB3.out.size; omega)))
  obtain ⟨A, hA⟩ : ∃ A, w3.heap.size = A := ⟨_, rfl⟩
  rw [hA] at hX4 ⊢
  have HX4 := Lib.hid hX4.out
  clear hX4 hu4 HU4 hA
  go_upto_region 8 with (first
    | (go_at_call 9; refine (HRf.out _ (HR.out.mono HB4.out)).mono ?_; rintro e w5 ⟨rfl, hb5⟩; have HB5 := Lib.hid (HB4.out.trans (hb5.mono HB4.out.size)); have HX5 := Lib.hid (row_below hb5 (lt_of_heap HX4.out) HX4.out); clear hb5)
    | (with_reducible refine wpList_storeS (cells := Y.toArray) rfl rfl Try.refheadI rfl rfl (heap_alloc_new w5 _) (by with_unfolding_all rfl) HRZ.out HR1.out ?_; intro w6 hX6 hu6))
  have HU6 := Lib.hid ((Upd.ofBelow (F := (· = w5.heap.size)) (below_alloc w5 _)).trans hu6 (fun _ _ h => h))
  have HB6 := Lib.hid (HB5.out.trans (HU6.out.below (B := w.heap.size) HB5.out.size (fun j hj => by have := HB5.out.size; omega)))
  have hX6a := row_upd HU6.out (by have := lt_of_heap HX5.out; omega) HX5.out
  obtain ⟨G, hG⟩ : ∃ G, w5.heap.size = G := ⟨_, rfl⟩
  rw [hG] at hX6 ⊢
  have hC : w6.drew.heap[A]? = some (.cells X.toArray 29 (0, 0)) ∧ w6.drew.heap[G]? = some (.cells Y.toArray 34 (0, 0)) := ⟨hX6a, hX6.out⟩
  clear hX6 hu6 HU6 hG hX6a HX4 HX5 HB4 HB5 HB3
  refine wp_region_held (S := fun w' => w'.heap[A]? = some (.cells X.toArray 29 (0, 0)) ∧ w'.heap[G]? = some (.cells Y.toArray 34 (0, 0))) (by kernel_rfl) ?_
  change wpAnyH _ _ _ _ _ _ _ _ w6.drew
  by_cases hc0 : C = 0
  · obtain ⟨rfl, rfl, rfl, hlo⟩ := HD0.out hc0
    subst hc0
    have HOK := Lib.hid (parseL_ok HIs.out hlo)
    have HOf := Lib.hid (fun w => ofraw_any hlo w)
    generalize parseL l = X at *
    generalize rawL l = Y at *
    generalize gN l 248 8 = D at *
    refine held_take 0 (d := some 27) (v := (.bool true)) rfl rfl (by kernel_rfl) (by kernel_rfl) (by kernel_rfl) (fun _ _ _ h => h) hC (by kernel_rfl) (fun w hSw => by obtain ⟨x0, x1⟩ := hSw; go_simp) ?_
    try simp only [Act.put, List.setIfInBounds_toArray, List.set_cons_zero, List.set_cons_succ]
    refine held_take 1 (d := some 28) (v := (.bool true)) rfl rfl (by kernel_rfl) (by kernel_rfl) (by kernel_rfl) (fun _ _ _ h => h) hC (by kernel_rfl) (fun w hSw => by obtain ⟨x0, x1⟩ := hSw; go_simp) ?_
    try simp only [Act.put, List.setIfInBounds_toArray, List.set_cons_zero, List.set_cons_succ]
    refine held_take 2 (d := some 29) (v := (.int .i64 0)) rfl rfl (by kernel_rfl) (by kernel_rfl) (by kernel_rfl) (fun _ _ _ h => h) hC (by kernel_rfl) (fun w hSw => by obtain ⟨x0, x1⟩ := hSw; go_simp) ?_
    try simp only [Act.put, List.setIfInBounds_toArray, List.set_cons_zero, List.set_cons_succ]
    refine held_take 3 (d := some 30) (v := (.int .i64 0)) rfl rfl (by kernel_rfl) (by kernel_rfl) (by kernel_rfl) (fun _ _ _ h => h) hC (by kernel_rfl) (fun w hSw => by obtain ⟨x0, x1⟩ := hSw; go_simp) ?_
    try simp only [Act.put, List.setIfInBounds_toArray, List.set_cons_zero, List.set_cons_succ]
    refine held_take 4 (d := some 31) (v := (.bool true)) rfl rfl (by kernel_rfl) (by kernel_rfl) (by kernel_rfl) (fun _ _ _ h => h) hC (by kernel_rfl) (fun w hSw => by obtain ⟨x0, x1⟩ := hSw; go_simp) ?_
    try simp only [Act.put, List.setIfInBounds_toArray, List.set_cons_zero, List.set_cons_succ]
    refine held_take 5 (d := some 32) (v := (.bool true)) rfl rfl (by kernel_rfl) (by kernel_rfl) (by kernel_rfl) (fun _ _ _ h => h) hC (by kernel_rfl) (fun w hSw => by obtain ⟨x0, x1⟩ := hSw; go_simp) ?_
    try simp only [Act.put, List.setIfInBounds_toArray, List.set_cons_zero, List.set_cons_succ]
    refine held_take 6 (d := some 33) (v := (.bool true)) rfl rfl (by kernel_rfl) (by kernel_rfl) (by kernel_rfl) (fun _ _ _ h => h) hC (by kernel_rfl) (fun w hSw => by obtain ⟨x0, x1⟩ := hSw; go_simp) ?_
    try simp only [Act.put, List.setIfInBounds_toArray, List.set_cons_zero, List.set_cons_succ]
    refine held_take 7 (d := some 34) (v := (.int .i64 0)) rfl rfl (by kernel_rfl) (by kernel_rfl) (by kernel_rfl) (fun _ _ _ h => h) hC (by kernel_rfl) (fun w hSw => by obtain ⟨x0, x1⟩ := hSw; go_simp) ?_
    try simp only [Act.put, List.setIfInBounds_toArray, List.set_cons_zero, List.set_cons_succ]
    refine held_take 8 (d := some 35) (v := (.bool false)) rfl rfl (by kernel_rfl) (by kernel_rfl) (by kernel_rfl) (fun _ _ _ h => h) hC (by kernel_rfl) (fun w hSw => by obtain ⟨x0, x1⟩ := hSw; go_simp) ?_
    try simp only [Act.put, List.setIfInBounds_toArray, List.set_cons_zero, List.set_cons_succ]
    refine held_take 9 (d := some 36) (v := (.bool false)) rfl rfl (by kernel_rfl) (by kernel_rfl) (by kernel_rfl) (fun _ _ _ h => h) hC (by kernel_rfl) (fun w hSw => by obtain ⟨x0, x1⟩ := hSw; go_simp) ?_
    try simp only [Act.put, List.setIfInBounds_toArray, List.set_cons_zero, List.set_cons_succ]
    refine held_skip 10 (d := some 37) rfl rfl (by kernel_rfl) (by kernel_rfl) (by kernel_rfl) (fun _ _ _ h => h) hC (by kernel_rfl) ?_
    try simp only [Act.put, List.setIfInBounds_toArray, List.set_cons_zero, List.set_cons_succ]
    refine held_skip 11 (d := some 38) rfl rfl (by kernel_rfl) (by kernel_rfl) (by kernel_rfl) (fun _ _ _ h => h) hC (by kernel_rfl) ?_
    try simp only [Act.put, List.setIfInBounds_toArray, List.set_cons_zero, List.set_cons_succ]
    refine held_skip 12 (d := some 39) rfl rfl (by kernel_rfl) (by kernel_rfl) (by kernel_rfl) (fun _ _ _ h => h) hC (by kernel_rfl) ?_
    try simp only [Act.put, List.setIfInBounds_toArray, List.set_cons_zero, List.set_cons_succ]
    refine held_take 13 (d := some 40) (v := (.bool false)) rfl rfl (by kernel_rfl) (by kernel_rfl) (by kernel_rfl) (fun _ _ _ h => h) hC (by kernel_rfl) (fun w hSw => by obtain ⟨x0, x1⟩ := hSw; go_simp) ?_
    try simp only [Act.put, List.setIfInBounds_toArray, List.set_cons_zero, List.set_cons_succ]
    refine held_take 14 (d := some 41) (v := (.bool false)) rfl rfl (by kernel_rfl) (by kernel_rfl) (by kernel_rfl) (fun _ _ _ h => h) hC (by kernel_rfl) (fun w hSw => by obtain ⟨x0, x1⟩ := hSw; go_simp) ?_
    try simp only [Act.put, List.setIfInBounds_toArray, List.set_cons_zero, List.set_cons_succ]
    refine held_take 15 (d := some 42) (v := (.int .i64 0)) rfl rfl (by kernel_rfl) (by kernel_rfl) (by kernel_rfl) (fun _ _ _ h => h) hC (by kernel_rfl) (fun w hSw => by obtain ⟨x0, x1⟩ := hSw; go_simp) ?_
    try simp only [Act.put, List.setIfInBounds_toArray, List.set_cons_zero, List.set_cons_succ]
    refine held_take 16 (d := some 43) (v := (.bool true)) rfl rfl (by kernel_rfl) (by kernel_rfl) (by kernel_rfl) (fun _ _ _ h => h) hC (by kernel_rfl) (fun w hSw => by obtain ⟨x0, x1⟩ := hSw; go_simp) ?_
    try simp only [Act.put, List.setIfInBounds_toArray, List.set_cons_zero, List.set_cons_succ]
    refine held_take 17 (d := some 44) (v := (.bool true)) rfl rfl (by kernel_rfl) (by kernel_rfl) (by kernel_rfl) (fun _ _ _ h => h) hC (by kernel_rfl) (fun w hSw => by obtain ⟨x0, x1⟩ := hSw; go_simp) ?_
    try simp only [Act.put, List.setIfInBounds_toArray, List.set_cons_zero, List.set_cons_succ]
    refine held_take 18 (d := some 45) (v := (.agg X.toArray)) rfl rfl (by kernel_rfl) (by kernel_rfl) (by kernel_rfl) (fun _ _ _ h => h) hC (by kernel_rfl) (fun w hSw => by exact exec_loadS rfl Try.headI rfl hSw.1 HSZ.out) ?_
    try simp only [Act.put, List.setIfInBounds_toArray, List.set_cons_zero, List.set_cons_succ]
    refine held_take 19 (d := some 46) (v := (.agg Y.toArray)) rfl rfl (by kernel_rfl) (by kernel_rfl) (by kernel_rfl) (fun _ _ _ h => h) hC (by kernel_rfl) (fun w hSw => by exact exec_loadS rfl Try.refheadI rfl hSw.2 HRZ.out) ?_
    try simp only [Act.put, List.setIfInBounds_toArray, List.set_cons_zero, List.set_cons_succ]
    refine held_take 20 (d := some 47) (v := (.int .u64 D)) rfl rfl (by kernel_rfl) (by kernel_rfl) (by kernel_rfl) (fun _ _ _ h => h) hC (by kernel_rfl) (fun w hSw => by obtain ⟨x0, x1⟩ := hSw; go_simp) ?_
    try simp only [Act.put, List.setIfInBounds_toArray, List.set_cons_zero, List.set_cons_succ]
    refine held_one 21 rfl (by kernel_rfl) (fun K hK => ?_)
    go_simp
    go_at_call 10
    refine (HOf.out _).mono ?_
    rintro e w7 ⟨rfl, hb7⟩
    have hC7 : w7.heap[A]? = some (.cells X.toArray 29 (0, 0)) ∧ w7.heap[G]? = some (.cells Y.toArray 34 (0, 0)) := ⟨row_below hb7 (lt_of_heap hC.1) hC.1, row_below hb7 (lt_of_heap hC.2) hC.2⟩
    have HB7 := Lib.hid (HB6.out.drew.trans (hb7.mono HB6.out.drew.size))
    clear hC hb7
    go_simp
    refine hK _ _ hC7 ?_
    clear hK K
    try simp only [Act.put, List.setIfInBounds_toArray, List.set_cons_zero, List.set_cons_succ]
    refine held_take 22 (d := some 49) (v := (.bool true)) rfl rfl (by kernel_rfl) (by kernel_rfl) (by kernel_rfl) (fun _ _ _ h => h) hC7 (by kernel_rfl) (fun w hSw => by exact exec_headEql rfl HOK.out rfl rfl) ?_
    try simp only [Act.put, List.setIfInBounds_toArray, List.set_cons_zero, List.set_cons_succ]
    refine held_take 23 (d := some 50) (v := (.bool true)) rfl rfl (by kernel_rfl) (by kernel_rfl) (by kernel_rfl) (fun _ _ _ h => h) hC7 (by kernel_rfl) (fun w hSw => by obtain ⟨x0, x1⟩ := hSw; go_simp) ?_
    try simp only [Act.put, List.setIfInBounds_toArray, List.set_cons_zero, List.set_cons_succ]
    refine held_take 24 (d := some 51) (v := (.bool true)) rfl rfl (by kernel_rfl) (by kernel_rfl) (by kernel_rfl) (fun _ _ _ h => h) hC7 (by kernel_rfl) (fun w hSw => by obtain ⟨x0, x1⟩ := hSw; go_simp) ?_
    try simp only [Act.put, List.setIfInBounds_toArray, List.set_cons_zero, List.set_cons_succ]
    refine held_take 25 (d := some 52) (v := (.bool true)) rfl rfl (by kernel_rfl) (by kernel_rfl) (by kernel_rfl) (fun _ _ _ h => h) hC7 (by kernel_rfl) (fun w hSw => by obtain ⟨x0, x1⟩ := hSw; go_simp) ?_
    try simp only [Act.put, List.setIfInBounds_toArray, List.set_cons_zero, List.set_cons_succ]
    refine held_take 26 (d := some 2) (v := (.bool true)) rfl rfl (by kernel_rfl) (by kernel_rfl) (by kernel_rfl) (fun _ _ _ h => h) hC7 (by kernel_rfl) (fun w hSw => by obtain ⟨x0, x1⟩ := hSw; go_simp) ?_
    try simp only [Act.put, List.setIfInBounds_toArray, List.set_cons_zero, List.set_cons_succ]
    refine wpAnyH_done (by kernel_rfl) ?_ _
    go_wp2_with fail
    go_ret
    exact ⟨rfl, HB7.out⟩
  · have hX := HD1.out hc0
    subst hX
    have hc1 : (C == 0) = false := by simpa using hc0
    have hc2 : (C != 0) = true := by simpa using hc0
    refine held_take 0 (d := some 27) (v := (.bool true)) rfl rfl (by kernel_rfl) (by kernel_rfl) (by kernel_rfl) (fun _ _ _ h => h) hC (by kernel_rfl) (fun w hSw => by obtain ⟨x0, x1⟩ := hSw; go_simp) ?_
    try simp only [Act.put, List.setIfInBounds_toArray, List.set_cons_zero, List.set_cons_succ]
    refine held_take 1 (d := some 28) (v := (.bool true)) rfl rfl (by kernel_rfl) (by kernel_rfl) (by kernel_rfl) (fun _ _ _ h => h) hC (by kernel_rfl) (fun w hSw => by obtain ⟨x0, x1⟩ := hSw; go_simp) ?_
    try simp only [Act.put, List.setIfInBounds_toArray, List.set_cons_zero, List.set_cons_succ]
    refine held_take 2 (d := some 29) (v := (.int .i64 C)) rfl rfl (by kernel_rfl) (by kernel_rfl) (by kernel_rfl) (fun _ _ _ h => h) hC (by kernel_rfl) (fun w hSw => by obtain ⟨x0, x1⟩ := hSw; go_simp) ?_
    try simp only [Act.put, List.setIfInBounds_toArray, List.set_cons_zero, List.set_cons_succ]
    refine held_take 3 (d := some 30) (v := (.int .i64 C)) rfl rfl (by kernel_rfl) (by kernel_rfl) (by kernel_rfl) (fun _ _ _ h => h) hC (by kernel_rfl) (fun w hSw => by obtain ⟨x0, x1⟩ := hSw; go_simp) ?_
    try simp only [Act.put, List.setIfInBounds_toArray, List.set_cons_zero, List.set_cons_succ]
    refine held_take 4 (d := some 31) (v := (.bool true)) rfl rfl (by kernel_rfl) (by kernel_rfl) (by kernel_rfl) (fun _ _ _ h => h) hC (by kernel_rfl) (fun w hSw => by obtain ⟨x0, x1⟩ := hSw; go_simp) ?_
    try simp only [Act.put, List.setIfInBounds_toArray, List.set_cons_zero, List.set_cons_succ]
    refine held_take 5 (d := some 32) (v := (.bool true)) rfl rfl (by kernel_rfl) (by kernel_rfl) (by kernel_rfl) (fun _ _ _ h => h) hC (by kernel_rfl) (fun w hSw => by obtain ⟨x0, x1⟩ := hSw; go_simp) ?_
    try simp only [Act.put, List.setIfInBounds_toArray, List.set_cons_zero, List.set_cons_succ]
    refine held_take 6 (d := some 33) (v := (.bool true)) rfl rfl (by kernel_rfl) (by kernel_rfl) (by kernel_rfl) (fun _ _ _ h => h) hC (by kernel_rfl) (fun w hSw => by obtain ⟨x0, x1⟩ := hSw; go_simp) ?_
    try simp only [Act.put, List.setIfInBounds_toArray, List.set_cons_zero, List.set_cons_succ]
    refine held_take 7 (d := some 34) (v := (.int .i64 C)) rfl rfl (by kernel_rfl) (by kernel_rfl) (by kernel_rfl) (fun _ _ _ h => h) hC (by kernel_rfl) (fun w hSw => by obtain ⟨x0, x1⟩ := hSw; go_simp) ?_
    try simp only [Act.put, List.setIfInBounds_toArray, List.set_cons_zero, List.set_cons_succ]
    refine held_take 8 (d := some 35) (v := (.bool true)) rfl rfl (by kernel_rfl) (by kernel_rfl) (by kernel_rfl) (fun _ _ _ h => h) hC (by kernel_rfl) (fun w hSw => by obtain ⟨x0, x1⟩ := hSw; go_simp) ?_
    try simp only [Act.put, List.setIfInBounds_toArray, List.set_cons_zero, List.set_cons_succ]
    refine held_take 9 (d := some 36) (v := (.bool true)) rfl rfl (by kernel_rfl) (by kernel_rfl) (by kernel_rfl) (fun _ _ _ h => h) hC (by kernel_rfl) (fun w hSw => by obtain ⟨x0, x1⟩ := hSw; go_simp) ?_
    try simp only [Act.put, List.setIfInBounds_toArray, List.set_cons_zero, List.set_cons_succ]
    refine held_take 10 (d := some 37) (v := (.agg zeroH.toArray)) rfl rfl (by kernel_rfl) (by kernel_rfl) (by kernel_rfl) (fun _ _ _ h => h) hC (by kernel_rfl) (fun w hSw => by exact exec_loadS rfl Try.headI rfl hSw.1 HSZ.out) ?_
    try simp only [Act.put, List.setIfInBounds_toArray, List.set_cons_zero, List.set_cons_succ]
    refine held_take 11 (d := some 38) (v := (.agg zeroH.toArray)) rfl rfl (by kernel_rfl) (by kernel_rfl) (by kernel_rfl) (fun _ _ _ h => h) hC (by kernel_rfl) (fun w hSw => by exact exec_buildS rfl (by kernel_rfl)) ?_
    try simp only [Act.put, List.setIfInBounds_toArray, List.set_cons_zero, List.set_cons_succ]
    refine held_take 12 (d := some 39) (v := (.bool true)) rfl rfl (by kernel_rfl) (by kernel_rfl) (by kernel_rfl) (fun _ _ _ h => h) hC (by kernel_rfl) (fun w hSw => by exact exec_headEql rfl zeroH_ok rfl rfl) ?_
    try simp only [Act.put, List.setIfInBounds_toArray, List.set_cons_zero, List.set_cons_succ]
    refine held_take 13 (d := some 40) (v := (.bool true)) rfl rfl (by kernel_rfl) (by kernel_rfl) (by kernel_rfl) (fun _ _ _ h => h) hC (by kernel_rfl) (fun w hSw => by obtain ⟨x0, x1⟩ := hSw; go_simp) ?_
    try simp only [Act.put, List.setIfInBounds_toArray, List.set_cons_zero, List.set_cons_succ]
    refine held_take 14 (d := some 41) (v := (.bool true)) rfl rfl (by kernel_rfl) (by kernel_rfl) (by kernel_rfl) (fun _ _ _ h => h) hC (by kernel_rfl) (fun w hSw => by obtain ⟨x0, x1⟩ := hSw; go_simp) ?_
    try simp only [Act.put, List.setIfInBounds_toArray, List.set_cons_zero, List.set_cons_succ]
    refine held_skip 15 (d := some 42) rfl rfl (by kernel_rfl) (by kernel_rfl) (by kernel_rfl) (fun _ _ _ h => h) hC (by kernel_rfl) ?_
    try simp only [Act.put, List.setIfInBounds_toArray, List.set_cons_zero, List.set_cons_succ]
    refine held_skip 16 (d := some 43) rfl rfl (by kernel_rfl) (by kernel_rfl) (by kernel_rfl) (fun _ _ _ h => h) hC (by kernel_rfl) ?_
    try simp only [Act.put, List.setIfInBounds_toArray, List.set_cons_zero, List.set_cons_succ]
    refine held_skip 17 (d := some 44) rfl rfl (by kernel_rfl) (by kernel_rfl) (by kernel_rfl) (fun _ _ _ h => h) hC (by kernel_rfl) ?_
    try simp only [Act.put, List.setIfInBounds_toArray, List.set_cons_zero, List.set_cons_succ]
    refine held_skip 18 (d := some 45) rfl rfl (by kernel_rfl) (by kernel_rfl) (by kernel_rfl) (fun _ _ _ h => h) hC (by kernel_rfl) ?_
    try simp only [Act.put, List.setIfInBounds_toArray, List.set_cons_zero, List.set_cons_succ]
    refine held_skip 19 (d := some 46) rfl rfl (by kernel_rfl) (by kernel_rfl) (by kernel_rfl) (fun _ _ _ h => h) hC (by kernel_rfl) ?_
    try simp only [Act.put, List.setIfInBounds_toArray, List.set_cons_zero, List.set_cons_succ]
    refine held_skip 20 (d := some 47) rfl rfl (by kernel_rfl) (by kernel_rfl) (by kernel_rfl) (fun _ _ _ h => h) hC (by kernel_rfl) ?_
    try simp only [Act.put, List.setIfInBounds_toArray, List.set_cons_zero, List.set_cons_succ]
    refine held_skip 21 (d := some 48) rfl rfl (by kernel_rfl) (by kernel_rfl) (by kernel_rfl) (fun _ _ _ h => h) hC (by kernel_rfl) ?_
    try simp only [Act.put, List.setIfInBounds_toArray, List.set_cons_zero, List.set_cons_succ]
    refine held_skip 22 (d := some 49) rfl rfl (by kernel_rfl) (by kernel_rfl) (by kernel_rfl) (fun _ _ _ h => h) hC (by kernel_rfl) ?_
    try simp only [Act.put, List.setIfInBounds_toArray, List.set_cons_zero, List.set_cons_succ]
    refine held_skip 23 (d := some 50) rfl rfl (by kernel_rfl) (by kernel_rfl) (by kernel_rfl) (fun _ _ _ h => h) hC (by kernel_rfl) ?_
    try simp only [Act.put, List.setIfInBounds_toArray, List.set_cons_zero, List.set_cons_succ]
    refine held_take 24 (d := some 51) (v := (.bool true)) rfl rfl (by kernel_rfl) (by kernel_rfl) (by kernel_rfl) (fun _ _ _ h => h) hC (by kernel_rfl) (fun w hSw => by obtain ⟨x0, x1⟩ := hSw; go_simp) ?_
    try simp only [Act.put, List.setIfInBounds_toArray, List.set_cons_zero, List.set_cons_succ]
    refine held_take 25 (d := some 52) (v := (.bool true)) rfl rfl (by kernel_rfl) (by kernel_rfl) (by kernel_rfl) (fun _ _ _ h => h) hC (by kernel_rfl) (fun w hSw => by obtain ⟨x0, x1⟩ := hSw; go_simp) ?_
    try simp only [Act.put, List.setIfInBounds_toArray, List.set_cons_zero, List.set_cons_succ]
    refine held_take 26 (d := some 2) (v := (.bool true)) rfl rfl (by kernel_rfl) (by kernel_rfl) (by kernel_rfl) (fun _ _ _ h => h) hC (by kernel_rfl) (fun w hSw => by obtain ⟨x0, x1⟩ := hSw; go_simp) ?_
    try simp only [Act.put, List.setIfInBounds_toArray, List.set_cons_zero, List.set_cons_succ]
    refine wpAnyH_done (by kernel_rfl) ?_ _
    go_wp2_with fail
    go_ret
    exact ⟨rfl, HB6.out.drew⟩
end Go.Proofs.Ytpkmdnfkeebgbaa
