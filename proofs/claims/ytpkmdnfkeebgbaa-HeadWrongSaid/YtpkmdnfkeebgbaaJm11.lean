/- Contracts and plain laws that this claim uses, each with its conditions as premises. -/
import Derived.Test.YtpkmdnfkeebgbaaJm9
import Derived.Test.YtpkmdnfkeebgbaaJm10
import Derived.Test.YtpkmdnfkeebgbaaJm1
/- The law HeadSays answers yes. Conditions stand as premises. -/
namespace Go.Proofs.Ytpkmdnfkeebgbaa
open Go.ChangeShapes Go.WideShapes Go.ChangeAt Go.RowKit
set_option linter.unusedVariables false
set_option linter.unusedSimpArgs false

theorem headC_short {l : List Int} (h : l.length < 272) : headC l = 22 := if_pos h
theorem headC_magic {l : List Int} (h : 272 ≤ l.length) (hs : l.take 8 ≠ signL) : headC l = 6 := by unfold headC; rw [if_neg (by omega), if_pos hs]
theorem headread_any (a : Option Addr) (n c : Nat) (l : List Int) (w : World) (hr : RdB w a n c l) (hn : n ≤ 1000000) :
    Calls Try.prog 8 #[.slice a n c] w (HeadE (headR l) (headC l) w) := by
  have hl := hr.len
  by_cases h1 : n < 272
  · have hc := headC_short (l := l) (by omega)
    rw [show headR l = zeroH from if_neg (by rw [hc]; decide), hc]
    exact headread_short a n c w h1
  · by_cases h2 : l.take 8 = signL
    · exact headread_sign a n c l w hr hn (by omega) h2
    · have hc := headC_magic (l := l) (by omega) h2
      rw [show headR l = zeroH from if_neg (by rw [hc]; decide), hc]
      exact headread_magic a n c l w hr hn (by omega) h2
theorem readhead_any (a : Option Addr) (n c : Nat) (l : List Int) (w : World) (hr : RdB w a n c l) (hn : n ≤ 1000000) :
    Calls Try.prog 9 #[.slice a n c] w (HeadRE (headRR l) (headRD l) (headC l) w) := by
  have hl := hr.len
  by_cases h1 : n < 272
  · have hc := headC_short (l := l) (by omega)
    rw [show headRR l = zeroR from if_neg (by rw [hc]; decide), show headRD l = 0 from if_neg (by rw [hc]; decide), hc]
    exact readhead_short a n c w h1
  · by_cases h2 : l.take 8 = signL
    · exact readhead_sign a n c l w hr hn (by omega) h2
    · have hc := headC_magic (l := l) (by omega) h2
      rw [show headRR l = zeroR from if_neg (by rw [hc]; decide), show headRD l = 0 from if_neg (by rw [hc]; decide), hc]
      exact readhead_magic a n c l w hr hn (by omega) h2
theorem headC_0 {l : List Int} (h : headC l = 0) : 272 ≤ l.length := by
  by_cases h1 : l.length < 272
  · rw [headC_short h1] at h; exact absurd h (by decide)
  · omega
theorem zeroH_ok : HeadOK zeroH := ⟨0, 0, 0, List.replicate 64 0, List.replicate 21 0, 0, 0, 0, rfl, rfl, IsB.replicate 64, rfl⟩
theorem parseL_ok {l : List Int} (hb : IsB l) (h : 272 ≤ l.length) : HeadOK (parseL l) := ⟨_, _, _, idsP l, numsP l 21, _, _, _, rfl, idsP_length h, (hb.drop _).take _, numsP_length l 21⟩
theorem ofraw_any {l : List Int} (hl : 272 ≤ l.length) (w : World) :
    Calls Try.prog 10 #[.agg (rawL l).toArray, .int .u64 (gN l 248 8)] w fun e w' => e = .returned (.agg (parseL l).toArray) ∧ Below w.heap.size w w' := by
  have h := of_any (gN l 8 4) (gN l 12 4) (l[16]?.getD 0) (idsP l) (numsP l 20) (gN l 256 4) (gN l 260 4) (gN l 264 8) (gN l 248 8) w (idsP_length hl) (numsP_length l 20)
  have e : numsP l 20 ++ [gN l 248 8] = numsP l 21 := (numsP_snoc l 20).symm
  rw [e] at h
  exact h

set_option maxRecDepth 100000 in
set_option maxHeartbeats 8000000 in
theorem headsays_yes (a : Option Addr) (n c : Nat) (l : List Int) (w : World) (hr : RdB w a n c l) :
    Calls Try.prog 3 #[.slice a n c] w fun e w' => e = .returned (.bool true) ∧ Below w.heap.size w w' := by
  obtain rfl : l.length = n := hr.len
  by_cases hbig : 2000 < l.length
  · have hd : decide ((2000 : Int) < (l.length : Int)) = true := by simp; omega
    go_enter Try.func3, Try.ntmps3
    go_wp2_with (go_at_call 7; refine (first_any _).mono ?_; rintro e w2 ⟨rfl, hb2⟩)
    go_ret
    exact ⟨rfl, hb2⟩
  have hd : decide ((2000 : Int) < (l.length : Int)) = false := by simp; omega
  have HRd := Lib.hid (fun w' (h : RdB w' a l.length c l) => headread_any a l.length c l w' h (by omega))
  have HRf := Lib.hid (fun w' (h : RdB w' a l.length c l) => readhead_any a l.length c l w' h (by omega))
  have HR := Lib.hid hr
  have HIs := Lib.hid hr.1
  clear hr
  go_enter Try.func3, Try.ntmps3
  have HSZ := Lib.hid (show (headR l).toArray.size = 91 from by
    unfold headR
    split
    · next h => exact parseL_size (headC_0 h)
    · exact zeroH_size)
  have HS1 := Lib.hid (show (headR l).toArray.all (·.oneCell') = true from by
    unfold headR
    split
    · exact parseL_one
    · exact zeroH_one)
  have HRZ := Lib.hid (show (headRR l).toArray.size = 90 from by
    unfold headRR
    split
    · next h => exact rawL_size (headC_0 h)
    · exact zeroR_size)
  have HR1 := Lib.hid (show (headRR l).toArray.all (·.oneCell') = true from by
    unfold headRR
    split
    · exact rawL_one
    · exact zeroR_one)
  have HD0 := Lib.hid (show headC l = 0 → headR l = parseL l ∧ headRR l = rawL l ∧ headRD l = gN l 248 8 ∧ 272 ≤ l.length from fun h => ⟨if_pos h, if_pos h, if_pos h, headC_0 h⟩)
  have HD1 := Lib.hid (show headC l ≠ 0 → headR l = zeroH from fun h => if_neg h)
  generalize headC l = C at *
  generalize headR l = X at *
  generalize headRR l = Y at *
  generalize headRD l = D at *
  go_upto_region 6 with (go_at_call 7; refine (first_any _).mono ?_; rintro e w2 ⟨rfl, hb2⟩; have HB2 := Lib.hid hb2; clear hb2)
  go_upto_region 7 with (first
    | (go_at_call 8; refine (HRd.out _ (HR.out.mono HB2.out)).mono ?_; rintro e w3 ⟨rfl, hb3⟩; have HB3 := Lib.hid (HB2.out.trans (hb3.mono HB2.out.size)); clear hb3)
    | (with_reducible refine wpList_storeS (cells := X.toArray) rfl rfl Try.headI rfl rfl (heap_alloc_new w3 _) (by with_unfolding_all rfl) HSZ.out HS1.out ?_; intro w4 hX4 hu4))
  have HU4 := Lib.hid ((Upd.ofBelow (F := (· = w3.heap.size)) (below_alloc w3 _)).trans hu4 (fun _ _ h => h))
  have HB4 := Lib.hid (HB3.out.trans (HU4.out.below (B := w.heap.size) HB3.out.size (fun j hj => by have := HB3.out.size; omega)))
  obtain ⟨A, hA⟩ : ∃ A, w3.heap.size = A := ⟨_, rfl⟩
  rw [hA] at hX4 ⊢
  have HX4 := Lib.hid hX4.out
  clear hX4 hu4 HU4 hA
  go_upto_region 8 with (first
    | (go_at_call 9; refine (HRf.out _ (HR.out.mono HB4.out)).mono ?_; rintro e w5 ⟨rfl, hb5⟩; have HB5 := Lib.hid (HB4.out.trans (hb5.mono HB4.out.size)); have HX5 := Lib.hid (row_below hb5 (lt_of_heap HX4.out) HX4.out); clear hb5)
    | (with_reducible refine wpList_storeS (cells := Y.toArray) rfl rfl Try.refheadI rfl rfl (heap_alloc_new w5 _) (by with_unfolding_all rfl) HRZ.out HR1.out ?_; intro w6 hX6 hu6))
  have HU6 := Lib.hid ((Upd.ofBelow (F := (· = w5.heap.size)) (below_alloc w5 _)).trans hu6 (fun _ _ h => h))
  have HB6 := Lib.hid (HB5.out.trans (HU6.out.below (B := w.heap.size) HB5.out.size (fun j hj => by have := HB5.out.size; omega)))
  have hX6a := row_upd HU6.out (by have := lt_of_heap HX5.out; omega) HX5.out
  obtain ⟨G, hG⟩ : ∃ G, w5.heap.size = G := ⟨_, rfl⟩
  rw [hG] at hX6 ⊢
  have hC : w6.drew.heap[A]? = some (.cells X.toArray 29 (0, 0)) ∧ w6.drew.heap[G]? = some (.cells Y.toArray 34 (0, 0)) := ⟨hX6a, hX6.out⟩
  clear hX6 hu6 HU6 hG hX6a HX4 HX5 HB4 HB5 HB3
  refine wp_region_held (S := fun w' => w'.heap[A]? = some (.cells X.toArray 29 (0, 0)) ∧ w'.heap[G]? = some (.cells Y.toArray 34 (0, 0))) (by kernel_rfl) ?_
  change wpAnyH _ _ _ _ _ _ _ _ w6.drew
  by_cases hc0 : C = 0
  · obtain ⟨rfl, rfl, rfl, hlo⟩ := HD0.out hc0
    subst hc0
    have HOK := Lib.hid (parseL_ok HIs.out hlo)
    have HOf := Lib.hid (fun w => ofraw_any hlo w)
    generalize parseL l = X at *
    generalize rawL l = Y at *
    generalize gN l 248 8 = D at *
    refine held_take 0 (d := some 27) (v := (.bool true)) rfl rfl (by kernel_rfl) (by kernel_rfl) (by kernel_rfl) (fun _ _ _ h => h) hC (by kernel_rfl) (fun w hSw => by obtain ⟨x0, x1⟩ := hSw; go_simp) ?_
    try simp only [Act.put, List.setIfInBounds_toArray, List.set_cons_zero, List.set_cons_succ]
    refine held_take 1 (d := some 28) (v := (.bool true)) rfl rfl (by kernel_rfl) (by kernel_rfl) (by kernel_rfl) (fun _ _ _ h => h) hC (by kernel_rfl) (fun w hSw => by obtain ⟨x0, x1⟩ := hSw; go_simp) ?_
    try simp only [Act.put, List.setIfInBounds_toArray, List.set_cons_zero, List.set_cons_succ]
    refine held_take 2 (d := some 29) (v := (.int .i64 0)) rfl rfl (by kernel_rfl) (by kernel_rfl) (by kernel_rfl) (fun _ _ _ h => h) hC (by kernel_rfl) (fun w hSw => by obtain ⟨x0, x1⟩ := hSw; go_simp) ?_
    try simp only [Act.put, List.setIfInBounds_toArray, List.set_cons_zero, List.set_cons_succ]
    refine held_take 3 (d := some 30) (v := (.int .i64 0)) rfl rfl (by kernel_rfl) (by kernel_rfl) (by kernel_rfl) (fun _ _ _ h => h) hC (by kernel_rfl) (fun w hSw => by obtain ⟨x0, x1⟩ := hSw; go_simp) ?_
    try simp only [Act.put, List.setIfInBounds_toArray, List.set_cons_zero, List.set_cons_succ]
    refine held_take 4 (d := some 31) (v := (.bool true)) rfl rfl (by kernel_rfl) (by kernel_rfl) (by kernel_rfl) (fun _ _ _ h => h) hC (by kernel_rfl) (fun w hSw => by obtain ⟨x0, x1⟩ := hSw; go_simp) ?_
    try simp only [Act.put, List.setIfInBounds_toArray, List.set_cons_zero, List.set_cons_succ]
    refine held_take 5 (d := some 32) (v := (.bool true)) rfl rfl (by kernel_rfl) (by kernel_rfl) (by kernel_rfl) (fun _ _ _ h => h) hC (by kernel_rfl) (fun w hSw => by obtain ⟨x0, x1⟩ := hSw; go_simp) ?_
    try simp only [Act.put, List.setIfInBounds_toArray, List.set_cons_zero, List.set_cons_succ]
    refine held_take 6 (d := some 33) (v := (.bool true)) rfl rfl (by kernel_rfl) (by kernel_rfl) (by kernel_rfl) (fun _ _ _ h => h) hC (by kernel_rfl) (fun w hSw => by obtain ⟨x0, x1⟩ := hSw; go_simp) ?_
    try simp only [Act.put, List.setIfInBounds_toArray, List.set_cons_zero, List.set_cons_succ]
    refine held_take 7 (d := some 34) (v := (.int .i64 0)) rfl rfl (by kernel_rfl) (by kernel_rfl) (by kernel_rfl) (fun _ _ _ h => h) hC (by kernel_rfl) (fun w hSw => by obtain ⟨x0, x1⟩ := hSw; go_simp) ?_
    try simp only [Act.put, List.setIfInBounds_toArray, List.set_cons_zero, List.set_cons_succ]
    refine held_take 8 (d := some 35) (v := (.bool false)) rfl rfl (by kernel_rfl) (by kernel_rfl) (by kernel_rfl) (fun _ _ _ h => h) hC (by kernel_rfl) (fun w hSw => by obtain ⟨x0, x1⟩ := hSw; go_simp) ?_
    try simp only [Act.put, List.setIfInBounds_toArray, List.set_cons_zero, List.set_cons_succ]
    refine held_take 9 (d := some 36) (v := (.bool false)) rfl rfl (by kernel_rfl) (by kernel_rfl) (by kernel_rfl) (fun _ _ _ h => h) hC (by kernel_rfl) (fun w hSw => by obtain ⟨x0, x1⟩ := hSw; go_simp) ?_
    try simp only [Act.put, List.setIfInBounds_toArray, List.set_cons_zero, List.set_cons_succ]
    refine held_skip 10 (d := some 37) rfl rfl (by kernel_rfl) (by kernel_rfl) (by kernel_rfl) (fun _ _ _ h => h) hC (by kernel_rfl) ?_
    try simp only [Act.put, List.setIfInBounds_toArray, List.set_cons_zero, List.set_cons_succ]
    refine held_skip 11 (d := some 38) rfl rfl (by kernel_rfl) (by kernel_rfl) (by kernel_rfl) (fun _ _ _ h => h) hC (by kernel_rfl) ?_
    try simp only [Act.put, List.setIfInBounds_toArray, List.set_cons_zero, List.set_cons_succ]
    refine held_skip 12 (d := some 39) rfl rfl (by kernel_rfl) (by kernel_rfl) (by kernel_rfl) (fun _ _ _ h => h) hC (by kernel_rfl) ?_
    try simp only [Act.put, List.setIfInBounds_toArray, List.set_cons_zero, List.set_cons_succ]
    refine held_take 13 (d := some 40) (v := (.bool false)) rfl rfl (by kernel_rfl) (by kernel_rfl) (by kernel_rfl) (fun _ _ _ h => h) hC (by kernel_rfl) (fun w hSw => by obtain ⟨x0, x1⟩ := hSw; go_simp) ?_
    try simp only [Act.put, List.setIfInBounds_toArray, List.set_cons_zero, List.set_cons_succ]
    refine held_take 14 (d := some 41) (v := (.bool false)) rfl rfl (by kernel_rfl) (by kernel_rfl) (by kernel_rfl) (fun _ _ _ h => h) hC (by kernel_rfl) (fun w hSw => by obtain ⟨x0, x1⟩ := hSw; go_simp) ?_
    try simp only [Act.put, List.setIfInBounds_toArray, List.set_cons_zero, List.set_cons_succ]
    refine held_take 15 (d := some 42) (v := (.int .i64 0)) rfl rfl (by kernel_rfl) (by kernel_rfl) (by kernel_rfl) (fun _ _ _ h => h) hC (by kernel_rfl) (fun w hSw => by obtain ⟨x0, x1⟩ := hSw; go_simp) ?_
    try simp only [Act.put, List.setIfInBounds_toArray, List.set_cons_zero, List.set_cons_succ]
    refine held_take 16 (d := some 43) (v := (.bool true)) rfl rfl (by kernel_rfl) (by kernel_rfl) (by kernel_rfl) (fun _ _ _ h => h) hC (by kernel_rfl) (fun w hSw => by obtain ⟨x0, x1⟩ := hSw; go_simp) ?_
    try simp only [Act.put, List.setIfInBounds_toArray, List.set_cons_zero, List.set_cons_succ]
    refine held_take 17 (d := some 44) (v := (.bool true)) rfl rfl (by kernel_rfl) (by kernel_rfl) (by kernel_rfl) (fun _ _ _ h => h) hC (by kernel_rfl) (fun w hSw => by obtain ⟨x0, x1⟩ := hSw; go_simp) ?_
    try simp only [Act.put, List.setIfInBounds_toArray, List.set_cons_zero, List.set_cons_succ]
    refine held_take 18 (d := some 45) (v := (.agg X.toArray)) rfl rfl (by kernel_rfl) (by kernel_rfl) (by kernel_rfl) (fun _ _ _ h => h) hC (by kernel_rfl) (fun w hSw => by exact exec_loadS rfl Try.headI rfl hSw.1 HSZ.out) ?_
    try simp only [Act.put, List.setIfInBounds_toArray, List.set_cons_zero, List.set_cons_succ]
    refine held_take 19 (d := some 46) (v := (.agg Y.toArray)) rfl rfl (by kernel_rfl) (by kernel_rfl) (by kernel_rfl) (fun _ _ _ h => h) hC (by kernel_rfl) (fun w hSw => by exact exec_loadS rfl Try.refheadI rfl hSw.2 HRZ.out) ?_
    try simp only [Act.put, List.setIfInBounds_toArray, List.set_cons_zero, List.set_cons_succ]
    refine held_take 20 (d := some 47) (v := (.int .u64 D)) rfl rfl (by kernel_rfl) (by kernel_rfl) (by kernel_rfl) (fun _ _ _ h => h) hC (by kernel_rfl) (fun w hSw => by obtain ⟨x0, x1⟩ := hSw; go_simp) ?_
    try simp only [Act.put, List.setIfInBounds_toArray, List.set_cons_zero, List.set_cons_succ]
    refine held_one 21 rfl (by kernel_rfl) (fun K hK => ?_)
    go_simp
    go_at_call 10
    refine (HOf.out _).mono ?_
    rintro e w7 ⟨rfl, hb7⟩
    have hC7 : w7.heap[A]? = some (.cells X.toArray 29 (0, 0)) ∧ w7.heap[G]? = some (.cells Y.toArray 34 (0, 0)) := ⟨row_below hb7 (lt_of_heap hC.1) hC.1, row_below hb7 (lt_of_heap hC.2) hC.2⟩
    have HB7 := Lib.hid (HB6.out.drew.trans (hb7.mono HB6.out.drew.size))
    clear hC hb7
    go_simp
    refine hK _ _ hC7 ?_
    clear hK K
    try simp only [Act.put, List.setIfInBounds_toArray, List.set_cons_zero, List.set_cons_succ]
    refine held_take 22 (d := some 49) (v := (.bool true)) rfl rfl (by kernel_rfl) (by kernel_rfl) (by kernel_rfl) (fun _ _ _ h => h) hC7 (by kernel_rfl) (fun w hSw => by exact exec_headEql rfl HOK.out rfl rfl) ?_
    try simp only [Act.put, List.setIfInBounds_toArray, List.set_cons_zero, List.set_cons_succ]
    refine held_take 23 (d := some 50) (v := (.bool true)) rfl rfl (by kernel_rfl) (by kernel_rfl) (by kernel_rfl) (fun _ _ _ h => h) hC7 (by kernel_rfl) (fun w hSw => by obtain ⟨x0, x1⟩ := hSw; go_simp) ?_
    try simp only [Act.put, List.setIfInBounds_toArray, List.set_cons_zero, List.set_cons_succ]
    refine held_take 24 (d := some 51) (v := (.bool true)) rfl rfl (by kernel_rfl) (by kernel_rfl) (by kernel_rfl) (fun _ _ _ h => h) hC7 (by kernel_rfl) (fun w hSw => by obtain ⟨x0, x1⟩ := hSw; go_simp) ?_
    try simp only [Act.put, List.setIfInBounds_toArray, List.set_cons_zero, List.set_cons_succ]
    refine held_take 25 (d := some 52) (v := (.bool true)) rfl rfl (by kernel_rfl) (by kernel_rfl) (by kernel_rfl) (fun _ _ _ h => h) hC7 (by kernel_rfl) (fun w hSw => by obtain ⟨x0, x1⟩ := hSw; go_simp) ?_
    try simp only [Act.put, List.setIfInBounds_toArray, List.set_cons_zero, List.set_cons_succ]
    refine held_take 26 (d := some 2) (v := (.bool true)) rfl rfl (by kernel_rfl) (by kernel_rfl) (by kernel_rfl) (fun _ _ _ h => h) hC7 (by kernel_rfl) (fun w hSw => by obtain ⟨x0, x1⟩ := hSw; go_simp) ?_
    try simp only [Act.put, List.setIfInBounds_toArray, List.set_cons_zero, List.set_cons_succ]
    refine wpAnyH_done (by kernel_rfl) ?_ _
    go_wp2_with fail
    go_ret
    exact ⟨rfl, HB7.out⟩
  · have hX := HD1.out hc0
    subst hX
    have hc1 : (C == 0) = false := by simpa using hc0
    have hc2 : (C != 0) = true := by simpa using hc0
    refine held_take 0 (d := some 27) (v := (.bool true)) rfl rfl (by kernel_rfl) (by kernel_rfl) (by kernel_rfl) (fun _ _ _ h => h) hC (by kernel_rfl) (fun w hSw => by obtain ⟨x0, x1⟩ := hSw; go_simp) ?_
    try simp only [Act.put, List.setIfInBounds_toArray, List.set_cons_zero, List.set_cons_succ]
    refine held_take 1 (d := some 28) (v := (.bool true)) rfl rfl (by kernel_rfl) (by kernel_rfl) (by kernel_rfl) (fun _ _ _ h => h) hC (by kernel_rfl) (fun w hSw => by obtain ⟨x0, x1⟩ := hSw; go_simp) ?_
    try simp only [Act.put, List.setIfInBounds_toArray, List.set_cons_zero, List.set_cons_succ]
    refine held_take 2 (d := some 29) (v := (.int .i64 C)) rfl rfl (by kernel_rfl) (by kernel_rfl) (by kernel_rfl) (fun _ _ _ h => h) hC (by kernel_rfl) (fun w hSw => by obtain ⟨x0, x1⟩ := hSw; go_simp) ?_
    try simp only [Act.put, List.setIfInBounds_toArray, List.set_cons_zero, List.set_cons_succ]
    refine held_take 3 (d := some 30) (v := (.int .i64 C)) rfl rfl (by kernel_rfl) (by kernel_rfl) (by kernel_rfl) (fun _ _ _ h => h) hC (by kernel_rfl) (fun w hSw => by obtain ⟨x0, x1⟩ := hSw; go_simp) ?_
    try simp only [Act.put, List.setIfInBounds_toArray, List.set_cons_zero, List.set_cons_succ]
    refine held_take 4 (d := some 31) (v := (.bool true)) rfl rfl (by kernel_rfl) (by kernel_rfl) (by kernel_rfl) (fun _ _ _ h => h) hC (by kernel_rfl) (fun w hSw => by obtain ⟨x0, x1⟩ := hSw; go_simp) ?_
    try simp only [Act.put, List.setIfInBounds_toArray, List.set_cons_zero, List.set_cons_succ]
    refine held_take 5 (d := some 32) (v := (.bool true)) rfl rfl (by kernel_rfl) (by kernel_rfl) (by kernel_rfl) (fun _ _ _ h => h) hC (by kernel_rfl) (fun w hSw => by obtain ⟨x0, x1⟩ := hSw; go_simp) ?_
    try simp only [Act.put, List.setIfInBounds_toArray, List.set_cons_zero, List.set_cons_succ]
    refine held_take 6 (d := some 33) (v := (.bool true)) rfl rfl (by kernel_rfl) (by kernel_rfl) (by kernel_rfl) (fun _ _ _ h => h) hC (by kernel_rfl) (fun w hSw => by obtain ⟨x0, x1⟩ := hSw; go_simp) ?_
    try simp only [Act.put, List.setIfInBounds_toArray, List.set_cons_zero, List.set_cons_succ]
    refine held_take 7 (d := some 34) (v := (.int .i64 C)) rfl rfl (by kernel_rfl) (by kernel_rfl) (by kernel_rfl) (fun _ _ _ h => h) hC (by kernel_rfl) (fun w hSw => by obtain ⟨x0, x1⟩ := hSw; go_simp) ?_
    try simp only [Act.put, List.setIfInBounds_toArray, List.set_cons_zero, List.set_cons_succ]
    refine held_take 8 (d := some 35) (v := (.bool true)) rfl rfl (by kernel_rfl) (by kernel_rfl) (by kernel_rfl) (fun _ _ _ h => h) hC (by kernel_rfl) (fun w hSw => by obtain ⟨x0, x1⟩ := hSw; go_simp) ?_
    try simp only [Act.put, List.setIfInBounds_toArray, List.set_cons_zero, List.set_cons_succ]
    refine held_take 9 (d := some 36) (v := (.bool true)) rfl rfl (by kernel_rfl) (by kernel_rfl) (by kernel_rfl) (fun _ _ _ h => h) hC (by kernel_rfl) (fun w hSw => by obtain ⟨x0, x1⟩ := hSw; go_simp) ?_
    try simp only [Act.put, List.setIfInBounds_toArray, List.set_cons_zero, List.set_cons_succ]
    refine held_take 10 (d := some 37) (v := (.agg zeroH.toArray)) rfl rfl (by kernel_rfl) (by kernel_rfl) (by kernel_rfl) (fun _ _ _ h => h) hC (by kernel_rfl) (fun w hSw => by exact exec_loadS rfl Try.headI rfl hSw.1 HSZ.out) ?_
    try simp only [Act.put, List.setIfInBounds_toArray, List.set_cons_zero, List.set_cons_succ]
    refine held_take 11 (d := some 38) (v := (.agg zeroH.toArray)) rfl rfl (by kernel_rfl) (by kernel_rfl) (by kernel_rfl) (fun _ _ _ h => h) hC (by kernel_rfl) (fun w hSw => by exact exec_buildS rfl (by kernel_rfl)) ?_
    try simp only [Act.put, List.setIfInBounds_toArray, List.set_cons_zero, List.set_cons_succ]
    refine held_take 12 (d := some 39) (v := (.bool true)) rfl rfl (by kernel_rfl) (by kernel_rfl) (by kernel_rfl) (fun _ _ _ h => h) hC (by kernel_rfl) (fun w hSw => by exact exec_headEql rfl zeroH_ok rfl rfl) ?_
    try simp only [Act.put, List.setIfInBounds_toArray, List.set_cons_zero, List.set_cons_succ]
    refine held_take 13 (d := some 40) (v := (.bool true)) rfl rfl (by kernel_rfl) (by kernel_rfl) (by kernel_rfl) (fun _ _ _ h => h) hC (by kernel_rfl) (fun w hSw => by obtain ⟨x0, x1⟩ := hSw; go_simp) ?_
    try simp only [Act.put, List.setIfInBounds_toArray, List.set_cons_zero, List.set_cons_succ]
    refine held_take 14 (d := some 41) (v := (.bool true)) rfl rfl (by kernel_rfl) (by kernel_rfl) (by kernel_rfl) (fun _ _ _ h => h) hC (by kernel_rfl) (fun w hSw => by obtain ⟨x0, x1⟩ := hSw; go_simp) ?_
    try simp only [Act.put, List.setIfInBounds_toArray, List.set_cons_zero, List.set_cons_succ]
    refine held_skip 15 (d := some 42) rfl rfl (by kernel_rfl) (by kernel_rfl) (by kernel_rfl) (fun _ _ _ h => h) hC (by kernel_rfl) ?_
    try simp only [Act.put, List.setIfInBounds_toArray, List.set_cons_zero, List.set_cons_succ]
    refine held_skip 16 (d := some 43) rfl rfl (by kernel_rfl) (by kernel_rfl) (by kernel_rfl) (fun _ _ _ h => h) hC (by kernel_rfl) ?_
    try simp only [Act.put, List.setIfInBounds_toArray, List.set_cons_zero, List.set_cons_succ]
    refine held_skip 17 (d := some 44) rfl rfl (by kernel_rfl) (by kernel_rfl) (by kernel_rfl) (fun _ _ _ h => h) hC (by kernel_rfl) ?_
    try simp only [Act.put, List.setIfInBounds_toArray, List.set_cons_zero, List.set_cons_succ]
    refine held_skip 18 (d := some 45) rfl rfl (by kernel_rfl) (by kernel_rfl) (by kernel_rfl) (fun _ _ _ h => h) hC (by kernel_rfl) ?_
    try simp only [Act.put, List.setIfInBounds_toArray, List.set_cons_zero, List.set_cons_succ]
    refine held_skip 19 (d := some 46) rfl rfl (by kernel_rfl) (by kernel_rfl) (by kernel_rfl) (fun _ _ _ h => h) hC (by kernel_rfl) ?_
    try simp only [Act.put, List.setIfInBounds_toArray, List.set_cons_zero, List.set_cons_succ]
    refine held_skip 20 (d := some 47) rfl rfl (by kernel_rfl) (by kernel_rfl) (by kernel_rfl) (fun _ _ _ h => h) hC (by kernel_rfl) ?_
    try simp only [Act.put, List.setIfInBounds_toArray, List.set_cons_zero, List.set_cons_succ]
    refine held_skip 21 (d := some 48) rfl rfl (by kernel_rfl) (by kernel_rfl) (by kernel_rfl) (fun _ _ _ h => h) hC (by kernel_rfl) ?_
    try simp only [Act.put, List.setIfInBounds_toArray, List.set_cons_zero, List.set_cons_succ]
    refine held_skip 22 (d := some 49) rfl rfl (by kernel_rfl) (by kernel_rfl) (by kernel_rfl) (fun _ _ _ h => h) hC (by kernel_rfl) ?_
    try simp only [Act.put, List.setIfInBounds_toArray, List.set_cons_zero, List.set_cons_succ]
    refine held_skip 23 (d := some 50) rfl rfl (by kernel_rfl) (by kernel_rfl) (by kernel_rfl) (fun _ _ _ h => h) hC (by kernel_rfl) ?_
    try simp only [Act.put, List.setIfInBounds_toArray, List.set_cons_zero, List.set_cons_succ]
    refine held_take 24 (d := some 51) (v := (.bool true)) rfl rfl (by kernel_rfl) (by kernel_rfl) (by kernel_rfl) (fun _ _ _ h => h) hC (by kernel_rfl) (fun w hSw => by obtain ⟨x0, x1⟩ := hSw; go_simp) ?_
    try simp only [Act.put, List.setIfInBounds_toArray, List.set_cons_zero, List.set_cons_succ]
    refine held_take 25 (d := some 52) (v := (.bool true)) rfl rfl (by kernel_rfl) (by kernel_rfl) (by kernel_rfl) (fun _ _ _ h => h) hC (by kernel_rfl) (fun w hSw => by obtain ⟨x0, x1⟩ := hSw; go_simp) ?_
    try simp only [Act.put, List.setIfInBounds_toArray, List.set_cons_zero, List.set_cons_succ]
    refine held_take 26 (d := some 2) (v := (.bool true)) rfl rfl (by kernel_rfl) (by kernel_rfl) (by kernel_rfl) (fun _ _ _ h => h) hC (by kernel_rfl) (fun w hSw => by obtain ⟨x0, x1⟩ := hSw; go_simp) ?_
    try simp only [Act.put, List.setIfInBounds_toArray, List.set_cons_zero, List.set_cons_succ]
    refine wpAnyH_done (by kernel_rfl) ?_ _
    go_wp2_with fail
    go_ret
    exact ⟨rfl, HB6.out.drew⟩
end Go.Proofs.Ytpkmdnfkeebgbaa

/- Plain law: a head's bytes are read as the head; which code a head has. No program in sight; conditions stand as premises. -/
namespace Go.Proofs.Ytpkmdnfkeebgbaa
set_option linter.unusedVariables false
set_option linter.unusedSimpArgs false
theorem mid {A B C : List Int} {p n : Nat} (hA : A.length = p) (hB : B.length = n) : ((A ++ (B ++ C)).drop p).take n = B := by
  subst hA; subst hB
  rw [List.drop_left', List.take_left']
  rfl
  rfl
theorem gN_mid {A B C : List Int} {p n : Nat} (hA : A.length = p) (hB : B.length = n) : gN (A ++ (B ++ C)) p n = leN B := by unfold gN; rw [mid hA hB]
structure HBo (l : List Int) (co inc st : Int) (I Ns : List Int) (ta ti te : Int) (body : List Int) : Prop where
  eq : l = headB co inc st I Ns ta ti te ++ body
  co : U32 co
  inc : U32 inc
  st : 0 ≤ st ∧ st ≤ 255
  il : I.length = 64
  ib : IsB I
  nl : Ns.length = 21
  nu : ∀ v ∈ Ns, U64 v
  ta : U32 ta
  ti : U32 ti
  te : U64 te
  bb : IsB body
theorem d4 {v : Int} (h : U32 v) : leN (digs 4 v) = v := by rw [leN_digs]; obtain ⟨h1, h2⟩ := h; omega
theorem d8 {v : Int} (h : U64 v) : leN (digs 8 v) = v := by rw [leN_digs]; obtain ⟨h1, h2⟩ := h; omega
theorem numsL_app (a b : List Int) : numsL (a ++ b) = numsL a ++ numsL b := by simp [numsL]
section
variable {l : List Int} {co inc st : Int} {I Ns : List Int} {ta ti te : Int} {body : List Int}
theorem HBo.len (h : HBo l co inc st I Ns ta ti te body) : l.length = 272 + body.length := by rw [h.eq, List.length_append, headB_length h.il, h.nl]
theorem HBo.isB (h : HBo l co inc st I Ns ta ti te body) : IsB l := by rw [h.eq]; exact (headB_isB h.ib).append h.bb
theorem HBo.take8 (h : HBo l co inc st I Ns ta ti te body) : l.take 8 = signL := by
  rw [h.eq]; unfold headB headA
  simp only [List.append_assoc]
  exact List.take_left' rfl
theorem HBo.gco (h : HBo l co inc st I Ns ta ti te body) : gN l 8 4 = co := by
  rw [h.eq]; unfold headB headA
  simp only [List.append_assoc]
  rw [gN_mid (show signL.length = 8 from rfl) (digs_length _ _), d4 h.co]
theorem HBo.ginc (h : HBo l co inc st I Ns ta ti te body) : gN l 12 4 = inc := by
  rw [h.eq]; unfold headB headA
  simp only [List.append_assoc]
  rw [← List.append_assoc signL, gN_mid (by rw [List.length_append, digs_length]; rfl) (digs_length _ _), d4 h.inc]
theorem HBo.gst (h : HBo l co inc st I Ns ta ti te body) : l[16]?.getD 0 = st := by
  rw [h.eq]; unfold headB headA
  simp only [List.append_assoc]
  rw [← List.append_assoc signL, ← List.append_assoc (signL ++ _), List.getElem?_append_right (by simp [digs_length, signL])]
  have := h.st
  simp [digs_length, signL]
  omega
theorem HBo.ids (h : HBo l co inc st I Ns ta ti te body) : idsP l = I := by
  rw [h.eq]; unfold headB idsP
  rw [List.append_assoc, List.append_assoc, List.append_assoc, List.append_assoc, List.append_assoc]
  exact mid (headA_length _ _ _) h.il
theorem HBo.num (h : HBo l co inc st I Ns ta ti te body) (k : Nat) (v : Int) (hv : Ns[k]? = some v) : gN l (88 + 8 * k) 8 = v := by
  have hk := (List.getElem?_eq_some_iff.1 hv).1
  have hN : Ns = Ns.take k ++ (v :: Ns.drop (k + 1)) := by
    have e : Ns[k] = v := (List.getElem?_eq_some_iff.1 hv).2
    rw [← e, ← List.drop_eq_getElem_cons hk, List.take_append_drop]
  have hnl : numsL Ns = numsL (Ns.take k) ++ (digs 8 v ++ numsL (Ns.drop (k + 1))) := by
    conv => lhs; rw [hN]
    rw [numsL_app]; rfl
  have hl : (headA co inc st ++ I ++ numsL (Ns.take k)).length = 88 + 8 * k := by
    rw [List.length_append, List.length_append, headA_length, h.il, numsL_length, List.length_take]; omega
  rw [h.eq]; unfold headB
  rw [hnl, show headA co inc st ++ I ++ (numsL (Ns.take k) ++ (digs 8 v ++ numsL (Ns.drop (k + 1)))) ++ digs 4 ta ++ digs 4 ti ++ digs 8 te ++ body = (headA co inc st ++ I ++ numsL (Ns.take k)) ++ (digs 8 v ++ (numsL (Ns.drop (k + 1)) ++ digs 4 ta ++ digs 4 ti ++ digs 8 te ++ body)) by simp only [List.append_assoc]]
  rw [gN_mid hl (digs_length _ _), d8 (h.nu v (List.mem_of_getElem? hv))]
theorem HBo.nums (h : HBo l co inc st I Ns ta ti te body) : numsP l 21 = Ns := by
  apply List.ext_getElem?
  intro k
  by_cases hk : k < 21
  · obtain ⟨v, hv⟩ : ∃ v, Ns[k]? = some v := ⟨_, List.getElem?_eq_getElem (by rw [h.nl]; exact hk)⟩
    rw [numsP_at l 21 k hk, h.num k v hv, hv]
  · rw [List.getElem?_eq_none (by rw [numsP_length]; omega), List.getElem?_eq_none (by rw [h.nl]; omega)]
theorem HBo.gta (h : HBo l co inc st I Ns ta ti te body) : gN l 256 4 = ta := by
  rw [h.eq]; unfold headB
  rw [show headA co inc st ++ I ++ numsL Ns ++ digs 4 ta ++ digs 4 ti ++ digs 8 te ++ body = (headA co inc st ++ I ++ numsL Ns) ++ (digs 4 ta ++ (digs 4 ti ++ digs 8 te ++ body)) by simp only [List.append_assoc]]
  rw [gN_mid (by rw [List.length_append, List.length_append, headA_length, h.il, numsL_length, h.nl]) (digs_length _ _), d4 h.ta]
theorem HBo.gti (h : HBo l co inc st I Ns ta ti te body) : gN l 260 4 = ti := by
  rw [h.eq]; unfold headB
  rw [show headA co inc st ++ I ++ numsL Ns ++ digs 4 ta ++ digs 4 ti ++ digs 8 te ++ body = (headA co inc st ++ I ++ numsL Ns ++ digs 4 ta) ++ (digs 4 ti ++ (digs 8 te ++ body)) by simp only [List.append_assoc]]
  rw [gN_mid (by rw [List.length_append, List.length_append, List.length_append, headA_length, h.il, numsL_length, h.nl, digs_length]) (digs_length _ _), d4 h.ti]
theorem HBo.gte (h : HBo l co inc st I Ns ta ti te body) : gN l 264 8 = te := by
  rw [h.eq]; unfold headB
  rw [show headA co inc st ++ I ++ numsL Ns ++ digs 4 ta ++ digs 4 ti ++ digs 8 te ++ body = (headA co inc st ++ I ++ numsL Ns ++ digs 4 ta ++ digs 4 ti) ++ (digs 8 te ++ body) by simp only [List.append_assoc]]
  rw [gN_mid (by rw [List.length_append, List.length_append, List.length_append, List.length_append, headA_length, h.il, numsL_length, h.nl, digs_length, digs_length]) (digs_length _ _), d8 h.te]
theorem HBo.parse (h : HBo l co inc st I Ns ta ti te body) : parseL l = headL co inc st I Ns ta ti te := by
  unfold parseL
  rw [h.gco, h.ginc, h.gst, h.ids, h.nums, h.gta, h.gti, h.gte]
/-- The code of a head's numbers. -/
def headF (inc st z r d ds f fs n : Int) : Int :=
  if flI inc ≠ 0 then 7 else if (2 : Int) < st then 8 else if z < 272 then 5 else if z % 8 ≠ 0 then 5 else if r % 8 ≠ 0 then 5 else
  if endB z r = false then 2 else if n < endV z r then 2 else if tabV d ds z (endV z r) ≠ 0 then tabV d ds z (endV z r) else tabV f fs z (endV z r)
theorem HBo.code (h : HBo l co inc st I Ns ta ti te body) {z r d ds f fs : Int} (h0 : Ns[0]? = some z) (h1 : Ns[1]? = some r) (h2 : Ns[2]? = some d) (h3 : Ns[3]? = some ds) (h4 : Ns[4]? = some f) (h5 : Ns[5]? = some fs) : headC l = headF inc st z r d ds f fs (272 + (body.length : Int)) := by
  have hl := h.len
  unfold headC headF endH
  rw [if_neg (by omega), if_neg (by simpa using h.take8), h.ginc, h.gst, show (88 : Nat) = 88 + 8 * 0 from rfl, h.num 0 z h0, show (96 : Nat) = 88 + 8 * 1 from rfl, h.num 1 r h1, show (104 : Nat) = 88 + 8 * 2 from rfl, h.num 2 d h2, show (112 : Nat) = 88 + 8 * 3 from rfl, h.num 3 ds h3, show (120 : Nat) = 88 + 8 * 4 from rfl, h.num 4 f h4, show (128 : Nat) = 88 + 8 * 5 from rfl, h.num 5 fs h5, show (l.length : Int) = 272 + (body.length : Int) by omega]
end
theorem flI_0 {inc : Int} (h : inc = 0 ∨ inc = 4) : flI inc = 0 := by rcases h with rfl | rfl <;> decide +kernel
theorem headF_ok {inc r n : Int} {D F : Nat} (hi : inc = 0 ∨ inc = 4) (hD : 1 ≤ D ∧ D ≤ 7) (hF : 1 ≤ F ∧ F ≤ 4) (hr : 32 + 16 * (D : Int) + 16 * (F : Int) ≤ r) (hr2 : r ≤ 100000) (hm : r % 8 = 0) (hn : 272 + r ≤ n) :
    headF inc 1 272 r 288 (16 * (D : Int)) (304 + 16 * (D : Int)) (16 * (F : Int)) n = 0 := by
  have e1 : endB 272 r = true := by unfold endB; simp; omega
  have e2 : endV 272 r = 272 + r := by unfold endV; rw [if_neg (by omega)]
  have t1 : tabV 288 (16 * (D : Int)) 272 (272 + r) = 0 := by unfold tabV; rw [if_neg (by omega), if_neg (by omega), if_neg (by omega)]
  have t2 : tabV (304 + 16 * (D : Int)) (16 * (F : Int)) 272 (272 + r) = 0 := by unfold tabV; rw [if_neg (by omega), if_neg (by omega), if_neg (by omega)]
  unfold headF
  rw [e1, e2, t1, t2, flI_0 hi]
  simp
  omega
theorem headF_short {inc r n : Int} {D F : Nat} (hi : inc = 0 ∨ inc = 4) (hr : 0 ≤ r) (hr2 : r ≤ 100000) (hm : r % 8 = 0) (hn : n < 272 + r) (d ds f fs : Int) : headF inc 1 272 r d ds f fs n = 2 := by
  have e1 : endB 272 r = true := by unfold endB; simp; omega
  have e2 : endV 272 r = 272 + r := by unfold endV; rw [if_neg (by omega)]
  unfold headF
  rw [e1, e2, flI_0 hi, if_neg (by decide), if_neg (by decide), if_neg (by decide), if_neg (by decide), if_neg (by omega), if_neg (by decide), if_pos hn]
end Go.Proofs.Ytpkmdnfkeebgbaa

/- What SameBytes computes: whether two slices read alike. Conditions stand as premises. -/
namespace Go.Proofs.Ytpkmdnfkeebgbaa
open Go.ChangeShapes Go.WideShapes Go.ChangeAt Go.RowKit
set_option linter.unusedVariables false

/-! ### SameBytes -/
theorem same_any (a1 a2 : Option Addr) (n1 c1 n2 c2 : Nat) (l1 l2 : List Int) (w : World) (h1 : RdB w a1 n1 c1 l1) (h2 : RdB w a2 n2 c2 l2) :
    Calls Try.prog 13 #[.slice a1 n1 c1, .slice a2 n2 c2] w fun e w' => e = .returned (.bool (decide (l1 = l2))) ∧ w = w' := by
  have H := Lib.hid (bstr_same h1.1 h2.1)
  go_enter Try.func13, Try.ntmps13
  go_wp2_with (first | (with_reducible refine wpList_bytesString rfl rfl Try.underlying22 Try.underlying5 Try.underlying9 rfl h1 ?_) | (with_reducible refine wpList_bytesString rfl rfl Try.underlying22 Try.underlying5 Try.underlying9 rfl h2 ?_))
  go_ret
  exact ⟨ret_bool H.out, rfl⟩

end Go.Proofs.Ytpkmdnfkeebgbaa

/- The law HeadJournals answers yes. Conditions stand as premises. -/
namespace Go.Proofs.Ytpkmdnfkeebgbaa
open Go.ChangeShapes Go.WideShapes Go.ChangeAt Go.RowKit
set_option linter.unusedVariables false
set_option linter.unusedSimpArgs false
section
variable {l : List Int} {co inc : Int} {I Ns : List Int} {ta ti te : Int} {D F : Nat} {body : List Int}
theorem JB.hb (h : JB l co inc I Ns ta ti te D F body) : HBo l co inc 1 I Ns ta ti te body :=
  ⟨h.eq, h.co, by rcases h.inc with e | e <;> rw [e] <;> exact ⟨by omega, by omega⟩, ⟨by omega, by omega⟩, h.il, h.ib, h.nl, h.nu, h.ta, h.ti, h.te, h.bb⟩
theorem JB.more (h : JB l co inc I Ns ta ti te D F body) {m : List Int} (hm : IsB m) : HBo (l ++ m) co inc 1 I Ns ta ti te (body ++ m) :=
  { h.hb with eq := by rw [h.eq, List.append_assoc], bb := h.bb.append hm }
theorem JB.cut (h : JB l co inc I Ns ta ti te D F body) {k : Nat} (hk : 272 ≤ k) : HBo (l.take k) co inc 1 I Ns ta ti te (body.take (k - 272)) := by
  have hl : (headB co inc 1 I Ns ta ti te).length = 272 := by rw [headB_length h.il, h.nl]
  exact { h.hb with eq := by rw [h.eq, List.take_append, List.take_of_length_le (by omega), hl], bb := h.bb.take _ }
theorem JB.code (h : JB l co inc I Ns ta ti te D F body) : headC l = 0 := by
  rw [h.hb.code h.n0 h.n1 h.n2 h.n3 h.n4 h.n5]
  have := h.lo
  have := h.hi
  have := h.md
  exact headF_ok h.inc h.dr h.fr (by omega) (by omega) (by omega) (by omega)
theorem JB.codeM (h : JB l co inc I Ns ta ti te D F body) {m : List Int} (hm : IsB m) : headC (l ++ m) = 0 := by
  rw [(h.more hm).code h.n0 h.n1 h.n2 h.n3 h.n4 h.n5]
  have := h.lo
  have := h.hi
  have := h.md
  exact headF_ok h.inc h.dr h.fr (by omega) (by omega) (by omega) (by rw [List.length_append]; omega)
theorem JB.codeK (h : JB l co inc I Ns ta ti te D F body) {k : Nat} (hk : k < l.length) : headC (l.take k) = if k < 272 then 22 else 2 := by
  have hl := h.hb.len
  have := h.hi
  have := h.md
  by_cases hk2 : k < 272
  · rw [if_pos hk2, headC_short (by rw [List.length_take]; omega)]
  · rw [if_neg hk2, (h.cut (k := k) (by omega)).code h.n0 h.n1 h.n2 h.n3 h.n4 h.n5]
    exact headF_short (D := D) (F := F) h.inc (by omega) (by omega) (by omega) (by rw [List.length_take]; omega) _ _ _ _
theorem JB.head (h : JB l co inc I Ns ta ti te D F body) : headR l = headL co inc 1 I Ns ta ti te := by unfold headR; rw [if_pos h.code, h.hb.parse]
theorem JB.headM (h : JB l co inc I Ns ta ti te D F body) {m : List Int} (hm : IsB m) : headR (l ++ m) = headL co inc 1 I Ns ta ti te := by unfold headR; rw [if_pos (h.codeM hm), (h.more hm).parse]
theorem JB.headK (h : JB l co inc I Ns ta ti te D F body) {k : Nat} (hk : k < l.length) : headR (l.take k) = zeroH := by
  unfold headR
  rw [h.codeK hk, if_neg (by split <;> omega)]
theorem JB.top (h : JB l co inc I Ns ta ti te D F body) : l.take 272 = headB co inc 1 I Ns ta ti te := by
  have hl : (headB co inc 1 I Ns ta ti te).length = 272 := by rw [headB_length h.il, h.nl]
  rw [h.eq, List.take_left' hl]
end
set_option maxRecDepth 100000 in
set_option maxHeartbeats 8000000 in
theorem headjournals_yes (a0 : Option Addr) (n0 c0 : Nat) (L : List Int) (a1 : Option Addr) (n1 c1 : Nat) (m : List Int) (cut : Int) (w : World) (hr0 : Rd (Value.int .i64) w a0 n0 c0 L) (hL : ∀ x ∈ L, I64 x) (hr1 : RdB w a1 n1 c1 m) (hc : I64 cut) :
    Calls Try.prog 5 #[.slice a0 n0 c0, .slice a1 n1 c1, .int .i64 cut] w fun e w' => e = .returned (.bool true) ∧ Below w.heap.size w w' := by
  have H0 := Lib.hid hr0
  have HL := Lib.hid hL
  have H1 := Lib.hid hr1
  have HCut := Lib.hid hc
  clear hr0 hL hr1 hc
  go_enter Try.func5, Try.ntmps5
  by_cases hn0 : 120 < n0
  · have hd0 : decide ((120 : Int) < (n0 : Int)) = true := decide_eq_true (by omega)
    have hd0' : decide (120 < n0) = true := decide_eq_true hn0
    go_wp2_with (go_at_call 7; refine (first_any _).mono ?_; rintro e w2 ⟨rfl, hb2⟩)
    go_ret
    exact ⟨rfl, hb2⟩
  have hd0 : decide ((120 : Int) < (n0 : Int)) = false := decide_eq_false (by omega)
  have hd0' : decide (120 < n0) = false := decide_eq_false hn0
  by_cases hn1 : 300 < n1
  · have hd1 : decide ((300 : Int) < (n1 : Int)) = true := decide_eq_true (by omega)
    have hd1' : decide (300 < n1) = true := decide_eq_true hn1
    go_wp2_with (go_at_call 7; refine (first_any _).mono ?_; rintro e w2 ⟨rfl, hb2⟩)
    go_ret
    exact ⟨rfl, hb2⟩
  have hd1 : decide ((300 : Int) < (n1 : Int)) = false := decide_eq_false (by omega)
  have hd1' : decide (300 < n1) = false := decide_eq_false hn1
  go_wp2_with (go_at_call 7; refine (first_any _).mono ?_; rintro e w2 ⟨rfl, hb2⟩)
  refine (journal_lo a0 n0 c0 12 L _ (H0.out.mono hb2) HL.out (by omega) (by omega)).mono ?_
  rintro e w3 ⟨ai, ci, l, rfl, ho3, hb3, co, inc, I, Ns, ta, ti, te, D, F, body, hjb⟩
  have HJ := Lib.hid hjb
  have hlen := hjb.hb.len
  have hhi := hjb.hi
  have hlo := hjb.lo
  have HO3 := Lib.hid ho3
  have HB3 := Lib.hid (hb2.trans (hb3.mono hb2.size))
  have HM3 := Lib.hid (H1.out.mono HB3.out)
  have HLen := Lib.hid hlen
  have hln : l.length ≤ 41000 := by omega
  have hl272 : 272 < l.length := by omega
  have HHd := Lib.hid (show (headL co inc 1 I Ns ta ti te).toArray.size = 91 from headL_length (n := 21) hjb.il hjb.nl)
  have HOk := Lib.hid (show HeadOK (headL co inc 1 I Ns ta ti te) from ⟨_, _, _, I, Ns, _, _, _, rfl, hjb.il, hjb.ib, hjb.nl⟩)
  have HOne := Lib.hid (headL_one (co := co) (inc := inc) (st := 1) (I := I) (Ns := Ns) (ta := ta) (ti := ti) (te := te))
  clear hb2 ho3 hb3 hjb hlen hhi hlo H0 HL H1
  have HRd := Lib.hid (fun (aq : Option Addr) (cq : Nat) (w' : World) (h : RdB w' aq l.length cq l) => headread_any aq l.length cq l w' h (by omega))
  rw [HJ.out.code, HJ.out.head] at HRd
  go_wp2_with fail
  refine (HRd.out _ _ _ HO3.out.rd).mono ?_
  rintro e w4 ⟨rfl, hb4⟩
  have HB4 := Lib.hid (HB3.out.trans (hb4.mono HB3.out.size))
  have HL4 := Lib.hid (HO3.out.rd.mono hb4)
  have HM4 := Lib.hid (HM3.out.mono hb4)
  have hZ := heap_alloc_new w4 (.cells Try.zeroCells29 29)
  have hBz := below_alloc w4 (.cells Try.zeroCells29 29)
  clear hb4 HB3 HM3 HRd
  go_upto_region 8 with (with_reducible refine wpList_storeS rfl rfl Try.headI rfl rfl hZ (by with_unfolding_all rfl) HHd.out HOne.out ?_; intro w5 hX5 hu5)
  have hb5 := hBz.trans (hu5.below (B := w4.heap.size) hBz.size (fun k hk => by rw [hk]; exact Nat.le_refl _))
  obtain ⟨R1, hR1⟩ : ∃ R1, w4.heap.size = R1 := ⟨_, rfl⟩
  have HB5 := Lib.hid (HB4.out.trans (hb5.mono HB4.out.size))
  have HL5 := Lib.hid (HL4.out.mono hb5)
  have HM5 := Lib.hid (HM4.out.mono hb5)
  rw [hR1] at hX5 ⊢
  have HX5 := Lib.hid hX5.out
  clear hZ hBz hu5 hb5 hX5 hR1 HB4 HL4 HM4
  go_wp2_with fail
  refine (bytes_any _ _ _ l _ HL5.out (by omega)).mono ?_
  rintro e w6 ⟨a6, c6, rfl, ho6, hb6⟩
  have HB6 := Lib.hid (HB5.out.trans (hb6.mono HB5.out.size))
  have HL6 := Lib.hid (HL5.out.mono hb6)
  have HM6 := Lib.hid (HM5.out.mono hb6)
  have HX6 := Lib.hid (row_below hb6 (lt_of_heap HX5.out) HX5.out)
  have HO6 := Lib.hid ho6
  have hs6 : w5.heap.size ≤ w6.heap.size := hb6.size
  have hR16 : R1 < w5.heap.size := lt_of_heap HX5.out
  have HBl6 := Lib.hid hb6
  clear hb6 ho6
  have HRm := Lib.hid (fun (aq : Option Addr) (cq : Nat) (w' : World) (h : RdB w' aq (l.length + n1) cq (l ++ m)) => headread_any aq (l.length + n1) cq (l ++ m) w' h (by omega))
  rw [HJ.out.codeM HM6.out.1, HJ.out.headM HM6.out.1] at HRm
  go_wp2_with (at_builtin; go_must (refine wpList_appOwn rfl rfl Try.oneB rfl rfl HO6.out.2 HM6.out.2 (fun _ => rfl) (by omega) (by omega) hs6 ?_); intro a7 c7 w7 ho7 hb7 _ _)
  have HL7 := Lib.hid (HL5.out.mono ((HBl6.out).trans hb7))
  have HB7 := Lib.hid (HB5.out.trans ((HBl6.out.trans hb7).mono HB5.out.size))
  have HX7 := Lib.hid (row_below (HBl6.out.trans hb7) hR16 HX5.out)
  have hrm7 : RdB w7 a7 (l.length + n1) c7 (l ++ m) := ⟨HO6.out.1.append HM6.out.1, ho7.rd⟩
  refine (HRm.out _ _ _ hrm7).mono ?_
  rintro e w8 ⟨rfl, hb8⟩
  have HB8 := Lib.hid (HB7.out.trans (hb8.mono HB7.out.size))
  have HL8 := Lib.hid (HL7.out.mono hb8)
  have HX8 := Lib.hid (row_below hb8 (lt_of_heap HX7.out) HX7.out)
  have hZ := heap_alloc_new w8 (.cells Try.zeroCells29 29)
  have hBz := below_alloc w8 (.cells Try.zeroCells29 29)
  clear hb8 ho7 hb7 hrm7 HB5 HL5 HM5 HX5 HL6 HM6 HX6 HO6 HBl6 HL7 HB7 HX7 HRm HB6 hs6 hR16
  go_upto_region 9 with (with_reducible refine wpList_storeS rfl rfl Try.headI rfl rfl hZ (by with_unfolding_all rfl) HHd.out HOne.out ?_; intro w9 hX9 hu9)
  have hb9 := hBz.trans (hu9.below (B := w8.heap.size) hBz.size (fun k hk => by rw [hk]; exact Nat.le_refl _))
  have HB9 := Lib.hid (HB8.out.trans (hb9.mono HB8.out.size))
  have HL9 := Lib.hid (HL8.out.mono hb9)
  have HX9 := Lib.hid (row_below hb9 (lt_of_heap HX8.out) HX8.out)
  obtain ⟨R2, hR2⟩ : ∃ R2, w8.heap.size = R2 := ⟨_, rfl⟩
  rw [hR2] at hX9 ⊢
  have HY9 := Lib.hid hX9.out
  clear hZ hBz hu9 hb9 hX9 hR2 HB8 HL8 HX8
  have hev : endV 272 (body.length : Int) = (l.length : Int) := by unfold endV; have := HLen.out; have := HJ.out.hi; rw [if_neg (by omega)]; omega
  have heb : endB 272 (body.length : Int) = true := by unfold endB; have := HJ.out.hi; simp; omega
  have HEnd := Lib.hid (fun w => headend_any co inc 1 I Ns ta ti te 272 (body.length : Int) w HJ.out.il HJ.out.n0 HJ.out.n1 ⟨by omega, by omega⟩ ⟨by omega, by have := HJ.out.hi; omega⟩)
  rw [hev, heb] at HEnd
  clear hev heb
  go_wp2_with (with_reducible refine wpList_loadS rfl rfl Try.headI rfl HX9.out HHd.out ?_)
  refine (HEnd.out _).mono ?_
  rintro e w10 ⟨rfl, hb10⟩
  have HB10 := Lib.hid (HB9.out.trans (hb10.mono HB9.out.size))
  have HL10 := Lib.hid (HL9.out.mono hb10)
  have HX10 := Lib.hid (row_below hb10 (lt_of_heap HX9.out) HX9.out)
  have HY10 := Lib.hid (row_below hb10 (lt_of_heap HY9.out) HY9.out)
  clear hb10 HB9 HL9 HX9 HY9 HEnd
  obtain ⟨k, hk, hkl⟩ := mod_nat cut (l.length : Int) (by omega)
  have HNum := Lib.hid (fun w => number_nat cut (l.length : Int) k hk (by omega) (by omega) w)
  have hkn : k < l.length := by omega
  have hk0 : (0 : Int) ≤ (k : Int) := by omega
  have hkl' : (k : Int) ≤ (l.length : Int) := by omega
  clear hk
  go_wp2_with fail
  refine (HNum.out _).mono ?_
  rintro e w10' ⟨rfl, hww⟩
  subst hww
  have HRk := Lib.hid (fun (aq : Option Addr) (cq : Nat) (w' : World) (h : RdB w' aq k cq (l.take k)) => headread_any aq k cq (l.take k) w' h (by omega))
  rw [HJ.out.codeK hkn, HJ.out.headK hkn] at HRk
  obtain ⟨cc, hcc⟩ : ∃ cc : Int, (if k < 272 then (22 : Int) else 2) = cc := ⟨_, rfl⟩
  rw [hcc] at HRk
  have HCC := Lib.hid hcc
  clear hcc
  go_wp2_with (refine wpList_cutH rfl rfl Try.oneB rfl rfl HL10.out.2 hk0 hkl' ?_; intro a11 hr11 _; rw [Int.toNat_natCast] at hr11 ⊢)
  refine (HRk.out _ _ _ ⟨HL10.out.1.take _, hr11⟩).mono ?_
  rintro e w11 ⟨rfl, hb11⟩
  have HB11 := Lib.hid (HB10.out.trans (hb11.mono HB10.out.size))
  have HL11 := Lib.hid (HL10.out.mono hb11)
  have HX11 := Lib.hid (row_below hb11 (lt_of_heap HX10.out) HX10.out)
  have HY11 := Lib.hid (row_below hb11 (lt_of_heap HY10.out) HY10.out)
  have hZ := heap_alloc_new w11 (.cells Try.zeroCells29 29)
  have hBz := below_alloc w11 (.cells Try.zeroCells29 29)
  clear hb11 hr11 HB10 HL10 HX10 HY10 HRk HNum
  go_upto_region 12 with (with_reducible refine wpList_storeS rfl rfl Try.headI rfl rfl hZ (by with_unfolding_all rfl) zeroH_size zeroH_one ?_; intro w12 hX12 hu12)
  have hb12 := hBz.trans (hu12.below (B := w11.heap.size) hBz.size (fun k hk => by rw [hk]; exact Nat.le_refl _))
  have HB12 := Lib.hid (HB11.out.trans ((hb12.trans ((below_drew w12).mono hb12.size)).mono HB11.out.size))
  have HL12 := Lib.hid (HL11.out.mono (hb12.trans ((below_drew w12).mono hb12.size)))
  have hC : w12.drew.heap[R1]? = some (.cells (headL co inc 1 I Ns ta ti te).toArray 29 (0, 0)) ∧ w12.drew.heap[R2]? = some (.cells (headL co inc 1 I Ns ta ti te).toArray 29 (0, 0)) := by
    have q1 := row_below hb12 (lt_of_heap HX11.out) HX11.out
    have q2 := row_below hb12 (lt_of_heap HY11.out) HY11.out
    exact ⟨q1, q2⟩
  clear hZ hBz hu12 hb12 hX12 HB11 HL11 HX11 HY11
  refine wp_region_held (S := fun w' => w'.heap[R1]? = some (.cells (headL co inc 1 I Ns ta ti te).toArray 29 (0, 0)) ∧ w'.heap[R2]? = some (.cells (headL co inc 1 I Ns ta ti te).toArray 29 (0, 0))) (by kernel_rfl) ?_
  change wpAnyH _ _ _ _ _ _ _ _ w12.drew
  generalize w12.drew = wd at hC HB12 HL12 ⊢
  have hwl : IntKind.u64.wrap (l.length : Int) = (l.length : Int) := by rw [IntKind.wrap_u64]; omega
  have hcap : l.length ≤ ci := HL12.out.2.2.1
  obtain ⟨aH, xH, rH⟩ := cutH_ex (enc := Value.int .u8) Try.oneB ai l.length ci 272 (by omega) hcap
  have HXH := Lib.hid xH
  have HRH := Lib.hid rH
  clear xH rH
  refine held_take 0 (d := some 61) (v := (.bool true)) rfl rfl (by kernel_rfl) (by kernel_rfl) (by kernel_rfl) (fun _ _ _ h => h) hC (by kernel_rfl) (fun w hSw => by clear hSw; go_simp) ?_
  try simp only [Act.put, List.setIfInBounds_toArray, List.set_cons_zero, List.set_cons_succ]
  refine held_take 1 (d := some 62) (v := (.bool true)) rfl rfl (by kernel_rfl) (by kernel_rfl) (by kernel_rfl) (fun _ _ _ h => h) hC (by kernel_rfl) (fun w hSw => by clear hSw; go_simp) ?_
  try simp only [Act.put, List.setIfInBounds_toArray, List.set_cons_zero, List.set_cons_succ]
  refine held_take 2 (d := some 63) (v := (.int .i64 0)) rfl rfl (by kernel_rfl) (by kernel_rfl) (by kernel_rfl) (fun _ _ _ h => h) hC (by kernel_rfl) (fun w hSw => by clear hSw; go_simp) ?_
  try simp only [Act.put, List.setIfInBounds_toArray, List.set_cons_zero, List.set_cons_succ]
  refine held_take 3 (d := some 64) (v := (.bool true)) rfl rfl (by kernel_rfl) (by kernel_rfl) (by kernel_rfl) (fun _ _ _ h => h) hC (by kernel_rfl) (fun w hSw => by clear hSw; go_simp) ?_
  try simp only [Act.put, List.setIfInBounds_toArray, List.set_cons_zero, List.set_cons_succ]
  refine held_take 4 (d := some 65) (v := (.bool true)) rfl rfl (by kernel_rfl) (by kernel_rfl) (by kernel_rfl) (fun _ _ _ h => h) hC (by kernel_rfl) (fun w hSw => by clear hSw; go_simp) ?_
  try simp only [Act.put, List.setIfInBounds_toArray, List.set_cons_zero, List.set_cons_succ]
  refine held_take 5 (d := some 66) (v := (.bool true)) rfl rfl (by kernel_rfl) (by kernel_rfl) (by kernel_rfl) (fun _ _ _ h => h) hC (by kernel_rfl) (fun w hSw => by clear hSw; go_simp) ?_
  try simp only [Act.put, List.setIfInBounds_toArray, List.set_cons_zero, List.set_cons_succ]
  refine held_take 6 (d := some 67) (v := (.int .i64 0)) rfl rfl (by kernel_rfl) (by kernel_rfl) (by kernel_rfl) (fun _ _ _ h => h) hC (by kernel_rfl) (fun w hSw => by clear hSw; go_simp) ?_
  try simp only [Act.put, List.setIfInBounds_toArray, List.set_cons_zero, List.set_cons_succ]
  refine held_take 7 (d := some 68) (v := (.bool true)) rfl rfl (by kernel_rfl) (by kernel_rfl) (by kernel_rfl) (fun _ _ _ h => h) hC (by kernel_rfl) (fun w hSw => by clear hSw; go_simp) ?_
  try simp only [Act.put, List.setIfInBounds_toArray, List.set_cons_zero, List.set_cons_succ]
  refine held_take 8 (d := some 69) (v := (.bool true)) rfl rfl (by kernel_rfl) (by kernel_rfl) (by kernel_rfl) (fun _ _ _ h => h) hC (by kernel_rfl) (fun w hSw => by clear hSw; go_simp) ?_
  try simp only [Act.put, List.setIfInBounds_toArray, List.set_cons_zero, List.set_cons_succ]
  refine held_take 9 (d := some 70) (v := (.bool true)) rfl rfl (by kernel_rfl) (by kernel_rfl) (by kernel_rfl) (fun _ _ _ h => h) hC (by kernel_rfl) (fun w hSw => by clear hSw; go_simp) ?_
  try simp only [Act.put, List.setIfInBounds_toArray, List.set_cons_zero, List.set_cons_succ]
  refine held_take 10 (d := some 71) (v := (.agg (headL co inc 1 I Ns ta ti te).toArray)) rfl rfl (by kernel_rfl) (by kernel_rfl) (by kernel_rfl) (fun _ _ _ h => h) hC (by kernel_rfl) (fun w hSw => by exact exec_loadS rfl Try.headI (by go_simp) hSw.1 HHd.out) ?_
  try simp only [Act.put, List.setIfInBounds_toArray, List.set_cons_zero, List.set_cons_succ]
  refine held_take 11 (d := some 72) (v := (.agg (headL co inc 1 I Ns ta ti te).toArray)) rfl rfl (by kernel_rfl) (by kernel_rfl) (by kernel_rfl) (fun _ _ _ h => h) hC (by kernel_rfl) (fun w hSw => by exact exec_loadS rfl Try.headI (by go_simp) hSw.2 HHd.out) ?_
  try simp only [Act.put, List.setIfInBounds_toArray, List.set_cons_zero, List.set_cons_succ]
  refine held_take 12 (d := some 73) (v := (.bool true)) rfl rfl (by kernel_rfl) (by kernel_rfl) (by kernel_rfl) (fun _ _ _ h => h) hC (by kernel_rfl) (fun w hSw => by exact exec_headEql rfl HOk.out (by go_simp) (by go_simp)) ?_
  try simp only [Act.put, List.setIfInBounds_toArray, List.set_cons_zero, List.set_cons_succ]
  refine held_take 13 (d := some 74) (v := (.bool true)) rfl rfl (by kernel_rfl) (by kernel_rfl) (by kernel_rfl) (fun _ _ _ h => h) hC (by kernel_rfl) (fun w hSw => by clear hSw; go_simp) ?_
  try simp only [Act.put, List.setIfInBounds_toArray, List.set_cons_zero, List.set_cons_succ]
  refine held_take 14 (d := some 75) (v := (.bool true)) rfl rfl (by kernel_rfl) (by kernel_rfl) (by kernel_rfl) (fun _ _ _ h => h) hC (by kernel_rfl) (fun w hSw => by clear hSw; go_simp) ?_
  try simp only [Act.put, List.setIfInBounds_toArray, List.set_cons_zero, List.set_cons_succ]
  refine held_take 15 (d := some 76) (v := (.bool true)) rfl rfl (by kernel_rfl) (by kernel_rfl) (by kernel_rfl) (fun _ _ _ h => h) hC (by kernel_rfl) (fun w hSw => by clear hSw; go_simp) ?_
  try simp only [Act.put, List.setIfInBounds_toArray, List.set_cons_zero, List.set_cons_succ]
  refine held_take 16 (d := some 77) (v := (.bool true)) rfl rfl (by kernel_rfl) (by kernel_rfl) (by kernel_rfl) (fun _ _ _ h => h) hC (by kernel_rfl) (fun w hSw => by clear hSw; go_simp) ?_
  try simp only [Act.put, List.setIfInBounds_toArray, List.set_cons_zero, List.set_cons_succ]
  refine held_take 17 (d := some 78) (v := (.bool true)) rfl rfl (by kernel_rfl) (by kernel_rfl) (by kernel_rfl) (fun _ _ _ h => h) hC (by kernel_rfl) (fun w hSw => by clear hSw; go_simp) ?_
  try simp only [Act.put, List.setIfInBounds_toArray, List.set_cons_zero, List.set_cons_succ]
  refine held_take 18 (d := some 79) (v := (.int .u64 (l.length : Int))) rfl rfl (by kernel_rfl) (by kernel_rfl) (by kernel_rfl) (fun _ _ _ h => h) hC (by kernel_rfl) (fun w hSw => by clear hSw; go_simp) ?_
  try simp only [Act.put, List.setIfInBounds_toArray, List.set_cons_zero, List.set_cons_succ]
  refine held_take 19 (d := some 80) (v := (.slice ai l.length ci)) rfl rfl (by kernel_rfl) (by kernel_rfl) (by kernel_rfl) (fun _ _ _ h => h) hC (by kernel_rfl) (fun w hSw => by clear hSw; go_simp) ?_
  try simp only [Act.put, List.setIfInBounds_toArray, List.set_cons_zero, List.set_cons_succ]
  refine held_take 20 (d := some 81) (v := (.int .i64 (l.length : Int))) rfl rfl (by kernel_rfl) (by kernel_rfl) (by kernel_rfl) (fun _ _ _ h => h) hC (by kernel_rfl) (fun w hSw => by clear hSw; go_simp) ?_
  try simp only [Act.put, List.setIfInBounds_toArray, List.set_cons_zero, List.set_cons_succ]
  refine held_take 21 (d := some 82) (v := (.int .u64 (l.length : Int))) rfl rfl (by kernel_rfl) (by kernel_rfl) (by kernel_rfl) (fun _ _ _ h => h) hC (by kernel_rfl) (fun w hSw => by clear hSw; go_simp) ?_
  try simp only [Act.put, List.setIfInBounds_toArray, List.set_cons_zero, List.set_cons_succ]
  refine held_take 22 (d := some 83) (v := (.bool true)) rfl rfl (by kernel_rfl) (by kernel_rfl) (by kernel_rfl) (fun _ _ _ h => h) hC (by kernel_rfl) (fun w hSw => by clear hSw; go_simp) ?_
  try simp only [Act.put, List.setIfInBounds_toArray, List.set_cons_zero, List.set_cons_succ]
  refine held_take 23 (d := some 84) (v := (.bool true)) rfl rfl (by kernel_rfl) (by kernel_rfl) (by kernel_rfl) (fun _ _ _ h => h) hC (by kernel_rfl) (fun w hSw => by clear hSw; go_simp) ?_
  try simp only [Act.put, List.setIfInBounds_toArray, List.set_cons_zero, List.set_cons_succ]
  refine held_take 24 (d := some 85) (v := (.bool true)) rfl rfl (by kernel_rfl) (by kernel_rfl) (by kernel_rfl) (fun _ _ _ h => h) hC (by kernel_rfl) (fun w hSw => by clear hSw; go_simp) ?_
  try simp only [Act.put, List.setIfInBounds_toArray, List.set_cons_zero, List.set_cons_succ]
  refine held_take 25 (d := some 86) (v := (.agg (headL co inc 1 I Ns ta ti te).toArray)) rfl rfl (by kernel_rfl) (by kernel_rfl) (by kernel_rfl) (fun _ _ _ h => h) hC (by kernel_rfl) (fun w hSw => by exact exec_loadS rfl Try.headI (by go_simp) hSw.1 HHd.out) ?_
  try simp only [Act.put, List.setIfInBounds_toArray, List.set_cons_zero, List.set_cons_succ]
  refine held_take 27 (d := some 88) (v := (.slice ai l.length ci)) rfl rfl (by kernel_rfl) (by kernel_rfl) (by kernel_rfl) (fun _ _ _ h => h) hC (by kernel_rfl) (fun w hSw => by clear hSw; go_simp) ?_
  try simp only [Act.put, List.setIfInBounds_toArray, List.set_cons_zero, List.set_cons_succ]
  refine held_take 28 (d := some 89) (v := (.slice aH 272 ci)) rfl rfl (by kernel_rfl) (by kernel_rfl) (by kernel_rfl) (fun _ _ _ h => h) hC (by kernel_rfl) (fun w hSw => by exact HXH.out w _ _ rfl (by go_simp) (by go_simp)) ?_
  try simp only [Act.put, List.setIfInBounds_toArray, List.set_cons_zero, List.set_cons_succ]
  refine held_one 26 rfl (by kernel_rfl) (fun K hK => ?_)
  go_simp
  go_at_call 14
  have hP := headput_any co inc 1 I Ns ta ti te wd HJ.out.il HJ.out.nl HJ.out.ib HJ.out.co (by rcases HJ.out.inc with h | h <;> rw [h] <;> exact ⟨by omega, by omega⟩) HJ.out.nu HJ.out.ta HJ.out.ti HJ.out.te
  unfold NewB at hP
  have hpl : (headB co inc 1 I Ns ta ti te).length = 272 := by rw [headB_length HJ.out.il, HJ.out.nl]
  rw [hpl] at hP
  refine hP.mono ?_
  rintro e w13 ⟨a13, c13, rfl, ho13, hb13⟩
  have hC13 := And.intro (row_below hb13 (lt_of_heap hC.1) hC.1) (row_below hb13 (lt_of_heap hC.2) hC.2)
  have HB13 := Lib.hid (HB12.out.trans (hb13.mono HB12.out.size))
  have HL13 := Lib.hid (HL12.out.mono hb13)
  have HO13 := Lib.hid ho13.rd
  clear hP hpl hb13 ho13
  go_simp
  refine hK _ _ hC13 ?_
  clear hK K hC
  try simp only [Act.put, List.setIfInBounds_toArray, List.set_cons_zero, List.set_cons_succ]
  refine held_one 29 rfl (by kernel_rfl) (fun K hK => ?_)
  go_simp
  go_at_call 13
  refine (same_any a13 aH 272 c13 272 ci _ _ _ HO13.out ⟨HL13.out.1.take _, HRH.out _ _ HL13.out.2⟩).mono ?_
  rw [HJ.out.top, decide_eq_true rfl]
  rintro e w14 ⟨rfl, hww⟩
  subst hww
  go_simp
  refine hK _ _ hC13 ?_
  clear hK K
  try simp only [Act.put, List.setIfInBounds_toArray, List.set_cons_zero, List.set_cons_succ]
  refine held_take 30 (d := some 91) (v := (.bool true)) rfl rfl (by kernel_rfl) (by kernel_rfl) (by kernel_rfl) (fun _ _ _ h => h) hC13 (by kernel_rfl) (fun w hSw => by clear hSw; go_simp) ?_
  try simp only [Act.put, List.setIfInBounds_toArray, List.set_cons_zero, List.set_cons_succ]
  refine held_take 31 (d := some 92) (v := (.bool true)) rfl rfl (by kernel_rfl) (by kernel_rfl) (by kernel_rfl) (fun _ _ _ h => h) hC13 (by kernel_rfl) (fun w hSw => by clear hSw; go_simp) ?_
  try simp only [Act.put, List.setIfInBounds_toArray, List.set_cons_zero, List.set_cons_succ]
  refine held_take 32 (d := some 93) (v := (.int .i64 (k : Int))) rfl rfl (by kernel_rfl) (by kernel_rfl) (by kernel_rfl) (fun _ _ _ h => h) hC13 (by kernel_rfl) (fun w hSw => by clear hSw; go_simp) ?_
  try simp only [Act.put, List.setIfInBounds_toArray, List.set_cons_zero, List.set_cons_succ]
  by_cases hk2 : k < 272
  · have hkd : decide ((k : Int) < 272) = true := decide_eq_true (by omega)
    have hkd2 : decide (k < 272) = true := decide_eq_true hk2
    obtain rfl : (22 : Int) = cc := by rw [← HCC.out, if_pos hk2]
    refine held_take 33 (d := some 94) (v := (.bool true)) rfl rfl (by kernel_rfl) (by kernel_rfl) (by kernel_rfl) (fun _ _ _ h => h) hC13 (by kernel_rfl) (fun w hSw => by clear hSw; go_simp) ?_
    try simp only [Act.put, List.setIfInBounds_toArray, List.set_cons_zero, List.set_cons_succ]
    refine held_take 34 (d := some 95) (v := (.bool true)) rfl rfl (by kernel_rfl) (by kernel_rfl) (by kernel_rfl) (fun _ _ _ h => h) hC13 (by kernel_rfl) (fun w hSw => by clear hSw; go_simp) ?_
    try simp only [Act.put, List.setIfInBounds_toArray, List.set_cons_zero, List.set_cons_succ]
    refine held_take 35 (d := some 96) (v := (.int .i64 22)) rfl rfl (by kernel_rfl) (by kernel_rfl) (by kernel_rfl) (fun _ _ _ h => h) hC13 (by kernel_rfl) (fun w hSw => by clear hSw; go_simp) ?_
    try simp only [Act.put, List.setIfInBounds_toArray, List.set_cons_zero, List.set_cons_succ]
    refine held_take 36 (d := some 97) (v := (.bool true)) rfl rfl (by kernel_rfl) (by kernel_rfl) (by kernel_rfl) (fun _ _ _ h => h) hC13 (by kernel_rfl) (fun w hSw => by clear hSw; go_simp) ?_
    try simp only [Act.put, List.setIfInBounds_toArray, List.set_cons_zero, List.set_cons_succ]
    refine held_take 37 (d := some 98) (v := (.bool true)) rfl rfl (by kernel_rfl) (by kernel_rfl) (by kernel_rfl) (fun _ _ _ h => h) hC13 (by kernel_rfl) (fun w hSw => by clear hSw; go_simp) ?_
    try simp only [Act.put, List.setIfInBounds_toArray, List.set_cons_zero, List.set_cons_succ]
    refine held_take 38 (d := some 99) (v := (.bool true)) rfl rfl (by kernel_rfl) (by kernel_rfl) (by kernel_rfl) (fun _ _ _ h => h) hC13 (by kernel_rfl) (fun w hSw => by clear hSw; go_simp) ?_
    try simp only [Act.put, List.setIfInBounds_toArray, List.set_cons_zero, List.set_cons_succ]
    refine held_skip 39 (d := some 100) rfl rfl (by kernel_rfl) (by kernel_rfl) (by kernel_rfl) (fun _ _ _ h => h) hC13 (by kernel_rfl) ?_
    try simp only [Act.put, List.setIfInBounds_toArray, List.set_cons_zero, List.set_cons_succ]
    refine held_skip 40 (d := some 101) rfl rfl (by kernel_rfl) (by kernel_rfl) (by kernel_rfl) (fun _ _ _ h => h) hC13 (by kernel_rfl) ?_
    try simp only [Act.put, List.setIfInBounds_toArray, List.set_cons_zero, List.set_cons_succ]
    refine held_skip 41 (d := some 102) rfl rfl (by kernel_rfl) (by kernel_rfl) (by kernel_rfl) (fun _ _ _ h => h) hC13 (by kernel_rfl) ?_
    try simp only [Act.put, List.setIfInBounds_toArray, List.set_cons_zero, List.set_cons_succ]
    refine held_skip 42 (d := some 103) rfl rfl (by kernel_rfl) (by kernel_rfl) (by kernel_rfl) (fun _ _ _ h => h) hC13 (by kernel_rfl) ?_
    try simp only [Act.put, List.setIfInBounds_toArray, List.set_cons_zero, List.set_cons_succ]
    refine held_skip 43 (d := some 104) rfl rfl (by kernel_rfl) (by kernel_rfl) (by kernel_rfl) (fun _ _ _ h => h) hC13 (by kernel_rfl) ?_
    try simp only [Act.put, List.setIfInBounds_toArray, List.set_cons_zero, List.set_cons_succ]
    refine held_skip 44 (d := some 105) rfl rfl (by kernel_rfl) (by kernel_rfl) (by kernel_rfl) (fun _ _ _ h => h) hC13 (by kernel_rfl) ?_
    try simp only [Act.put, List.setIfInBounds_toArray, List.set_cons_zero, List.set_cons_succ]
    refine held_take 45 (d := some 106) (v := (.bool true)) rfl rfl (by kernel_rfl) (by kernel_rfl) (by kernel_rfl) (fun _ _ _ h => h) hC13 (by kernel_rfl) (fun w hSw => by clear hSw; go_simp) ?_
    try simp only [Act.put, List.setIfInBounds_toArray, List.set_cons_zero, List.set_cons_succ]
    refine held_take 46 (d := some 107) (v := (.bool true)) rfl rfl (by kernel_rfl) (by kernel_rfl) (by kernel_rfl) (fun _ _ _ h => h) hC13 (by kernel_rfl) (fun w hSw => by clear hSw; go_simp) ?_
    try simp only [Act.put, List.setIfInBounds_toArray, List.set_cons_zero, List.set_cons_succ]
    refine held_take 47 (d := some 6) (v := (.bool true)) rfl rfl (by kernel_rfl) (by kernel_rfl) (by kernel_rfl) (fun _ _ _ h => h) hC13 (by kernel_rfl) (fun w hSw => by clear hSw; go_simp) ?_
    try simp only [Act.put, List.setIfInBounds_toArray, List.set_cons_zero, List.set_cons_succ]
    refine wpAnyH_done (by kernel_rfl) ?_ _
    go_wp2_with fail
    go_ret
    exact ⟨rfl, HB13.out⟩
  · have hkd : decide ((k : Int) < 272) = false := decide_eq_false (by omega)
    have hkd2 : decide (k < 272) = false := decide_eq_false hk2
    have hkd3 : decide ((272 : Int) ≤ (k : Int)) = true := decide_eq_true (by omega)
    have hkd4 : decide (272 ≤ k) = true := decide_eq_true (by omega)
    obtain rfl : (2 : Int) = cc := by rw [← HCC.out, if_neg hk2]
    refine held_take 33 (d := some 94) (v := (.bool false)) rfl rfl (by kernel_rfl) (by kernel_rfl) (by kernel_rfl) (fun _ _ _ h => h) hC13 (by kernel_rfl) (fun w hSw => by clear hSw; go_simp) ?_
    try simp only [Act.put, List.setIfInBounds_toArray, List.set_cons_zero, List.set_cons_succ]
    refine held_take 34 (d := some 95) (v := (.bool false)) rfl rfl (by kernel_rfl) (by kernel_rfl) (by kernel_rfl) (fun _ _ _ h => h) hC13 (by kernel_rfl) (fun w hSw => by clear hSw; go_simp) ?_
    try simp only [Act.put, List.setIfInBounds_toArray, List.set_cons_zero, List.set_cons_succ]
    refine held_skip 35 (d := some 96) rfl rfl (by kernel_rfl) (by kernel_rfl) (by kernel_rfl) (fun _ _ _ h => h) hC13 (by kernel_rfl) ?_
    try simp only [Act.put, List.setIfInBounds_toArray, List.set_cons_zero, List.set_cons_succ]
    refine held_skip 36 (d := some 97) rfl rfl (by kernel_rfl) (by kernel_rfl) (by kernel_rfl) (fun _ _ _ h => h) hC13 (by kernel_rfl) ?_
    try simp only [Act.put, List.setIfInBounds_toArray, List.set_cons_zero, List.set_cons_succ]
    refine held_take 37 (d := some 98) (v := (.bool false)) rfl rfl (by kernel_rfl) (by kernel_rfl) (by kernel_rfl) (fun _ _ _ h => h) hC13 (by kernel_rfl) (fun w hSw => by clear hSw; go_simp) ?_
    try simp only [Act.put, List.setIfInBounds_toArray, List.set_cons_zero, List.set_cons_succ]
    refine held_take 38 (d := some 99) (v := (.bool false)) rfl rfl (by kernel_rfl) (by kernel_rfl) (by kernel_rfl) (fun _ _ _ h => h) hC13 (by kernel_rfl) (fun w hSw => by clear hSw; go_simp) ?_
    try simp only [Act.put, List.setIfInBounds_toArray, List.set_cons_zero, List.set_cons_succ]
    refine held_take 39 (d := some 100) (v := (.int .i64 (k : Int))) rfl rfl (by kernel_rfl) (by kernel_rfl) (by kernel_rfl) (fun _ _ _ h => h) hC13 (by kernel_rfl) (fun w hSw => by clear hSw; go_simp) ?_
    try simp only [Act.put, List.setIfInBounds_toArray, List.set_cons_zero, List.set_cons_succ]
    refine held_take 40 (d := some 101) (v := (.bool true)) rfl rfl (by kernel_rfl) (by kernel_rfl) (by kernel_rfl) (fun _ _ _ h => h) hC13 (by kernel_rfl) (fun w hSw => by clear hSw; go_simp) ?_
    try simp only [Act.put, List.setIfInBounds_toArray, List.set_cons_zero, List.set_cons_succ]
    refine held_take 41 (d := some 102) (v := (.bool true)) rfl rfl (by kernel_rfl) (by kernel_rfl) (by kernel_rfl) (fun _ _ _ h => h) hC13 (by kernel_rfl) (fun w hSw => by clear hSw; go_simp) ?_
    try simp only [Act.put, List.setIfInBounds_toArray, List.set_cons_zero, List.set_cons_succ]
    refine held_take 42 (d := some 103) (v := (.int .i64 2)) rfl rfl (by kernel_rfl) (by kernel_rfl) (by kernel_rfl) (fun _ _ _ h => h) hC13 (by kernel_rfl) (fun w hSw => by clear hSw; go_simp) ?_
    try simp only [Act.put, List.setIfInBounds_toArray, List.set_cons_zero, List.set_cons_succ]
    refine held_take 43 (d := some 104) (v := (.bool true)) rfl rfl (by kernel_rfl) (by kernel_rfl) (by kernel_rfl) (fun _ _ _ h => h) hC13 (by kernel_rfl) (fun w hSw => by clear hSw; go_simp) ?_
    try simp only [Act.put, List.setIfInBounds_toArray, List.set_cons_zero, List.set_cons_succ]
    refine held_take 44 (d := some 105) (v := (.bool true)) rfl rfl (by kernel_rfl) (by kernel_rfl) (by kernel_rfl) (fun _ _ _ h => h) hC13 (by kernel_rfl) (fun w hSw => by clear hSw; go_simp) ?_
    try simp only [Act.put, List.setIfInBounds_toArray, List.set_cons_zero, List.set_cons_succ]
    refine held_take 45 (d := some 106) (v := (.bool true)) rfl rfl (by kernel_rfl) (by kernel_rfl) (by kernel_rfl) (fun _ _ _ h => h) hC13 (by kernel_rfl) (fun w hSw => by clear hSw; go_simp) ?_
    try simp only [Act.put, List.setIfInBounds_toArray, List.set_cons_zero, List.set_cons_succ]
    refine held_take 46 (d := some 107) (v := (.bool true)) rfl rfl (by kernel_rfl) (by kernel_rfl) (by kernel_rfl) (fun _ _ _ h => h) hC13 (by kernel_rfl) (fun w hSw => by clear hSw; go_simp) ?_
    try simp only [Act.put, List.setIfInBounds_toArray, List.set_cons_zero, List.set_cons_succ]
    refine held_take 47 (d := some 6) (v := (.bool true)) rfl rfl (by kernel_rfl) (by kernel_rfl) (by kernel_rfl) (fun _ _ _ h => h) hC13 (by kernel_rfl) (fun w hSw => by clear hSw; go_simp) ?_
    try simp only [Act.put, List.setIfInBounds_toArray, List.set_cons_zero, List.set_cons_succ]
    refine wpAnyH_done (by kernel_rfl) ?_ _
    go_wp2_with fail
    go_ret
    exact ⟨rfl, HB13.out⟩
end Go.Proofs.Ytpkmdnfkeebgbaa
