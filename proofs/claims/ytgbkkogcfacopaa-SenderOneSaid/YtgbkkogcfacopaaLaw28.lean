/- The walks of the four statements of layer 28: each law comes to true and leaves what was there. -/
import Derived.Test.YtgbkkogcfacopaaSender
import Derived.Test.YtgbkkogcfacopaaNum
import Derived.Test.YtgbkkogcfacopaaSame
namespace Go.Proofs.Ytgbkkogcfacopaa
open Go.ChangeShapes Go.WideShapes Go.ChangeAt Go.RowKit
set_option linter.unusedVariables false

theorem RdB.keep {w w' : World} {a : Option Addr} {len cap : Nat} {l : List Int} {S : Nat} (h : RdB w a len cap l) (hg : w.grownBy w' (some S)) (hne : ∀ x, a = some x → some x.block ≠ some S) : RdB w' a len cap l := h.grown hg hne

set_option maxHeartbeats 1000000 in
theorem first_any (w : World) :
    Calls Try.prog 7 #[] w fun e w' => e = .returned (.bool true) ∧ Below w.heap.size w w' := by
  have kc := fun (w : World) (C : Array Value) (n c : Nat) => Lib.run_convert_bytes_const (P := Try.prog) w 27 5 C n c Try.underlying27 Try.underlying5
  go_enter Try.func7, Try.ntmps7
  go_wp2_with fail
  refine (snew_yes 2 5 (by omega) (by omega) (by omega) _).mono ?_
  rintro e w1 ⟨rfl, hs1, hb1⟩
  go_wp2_with fail
  have hlt := hs1.lt
  have hs2 := hs1.mono ((Below.refl _ _).alloc (Nat.le_refl _) (.cells #[.int .u8 120] 5 (1, 2)))
  have hb2 := hb1.alloc hb1.size (.cells #[.int .u8 120] 5 (1, 2))
  have hr2 := RdB.marked w1 [120] 5 (1, 2) #[.int .u8 120] 1 1 rfl rfl (by omega) (by unfold maxLen; omega) (by intro x hx; simp at hx; omega)
  refine (send_yes _ _ _ _ _ _ _ _ _ _ [120] _ (by omega) (by omega) _ hs2 hr2 (by omega)).mono ?_
  rintro e w3 ⟨rfl, hs3, hg3⟩
  have hb3 := hb2.trans (below_grown hg3 (Nat.le_refl _) (by simp; omega))
  go_wp2_with fail
  refine (due_yes _ _ _ _ _ _ _ _ (by omega) (by omega) (by omega) (by omega) (by omega) (by simp) _ hs3).mono ?_
  rintro e w4 ⟨a4, c4, rfl, ho4, hs4, hg4⟩
  have hb4 := hb3.trans (below_grown hg4 (Nat.le_refl _) hb3.size)
  go_wp2_with fail
  refine (next_yes _ _ _ _ _ _ _ _ hs4).mono ?_
  rintro e w5 ⟨rfl, rfl⟩
  have kx : (convert 27 9 (.slice a4 1 c4)).run Try.prog w4 = .ok (.string ⟨#[120]⟩) w4 := run_bytesStr (P := Try.prog) (w := w4) Try.underlying27 Try.underlying5 Try.underlying9 ho4.rd
  go_wp2
  go_ret
  exact ⟨rfl, hb4⟩

/-- What begun hands back: a sender at S, with the message m, due at now. -/
def Begun (base : Nat) (w : World) (f m : Int) (l : List Int) (now : Int) (e : Ending) (w' : World) : Prop :=
  ∃ S, e = .returned (.tuple #[.pointer (some ⟨S, 0, none⟩), .int .i64 f, .int .i64 m, .bool true]) ∧ base ≤ S ∧ Snd w' S f m l true now f 0 ∧ Below base w w'

set_option maxHeartbeats 1000000 in
theorem begun_any (x y : Int) (m f : Nat) (hm : y % 1000 = m) (hf : x % ((m : Int) + 1) = f) (hm2 : m < 1000) (hf2 : f ≤ m) (now : Int) (hn : 0 ≤ now) (hn2 : now ≤ 1099511627776) (a : Option Addr) (n c : Nat) (l : List Int) (w : World)
    (hr : RdB w a n c l) (hlen : n ≤ 140737488351000) :
    Calls Try.prog 9 #[.int .i64 x, .int .i64 y, .int .i64 now, .slice a n c] w (Begun w.heap.size w ((f : Int) + 1) ((m : Int) + 1) l now) := by
  have Hm := Lib.hid hm
  have Hf := Lib.hid hf
  clear hm hf
  go_enter Try.func9, Try.ntmps9
  go_wp2_with fail
  refine (number_nat _ _ m Hm.out (by omega) (by omega) _).mono ?_
  rintro e w1 ⟨rfl, rfl⟩
  go_wp2_with fail
  refine (number_nat _ _ f Hf.out (by omega) (by omega) _).mono ?_
  rintro e w1 ⟨rfl, rfl⟩
  go_wp2_with fail
  refine (snew_yes _ _ (by omega) (by omega) (by omega) _).mono ?_
  rintro e w1 ⟨rfl, hs1, hb1⟩
  have hr1 := hr.mono hb1
  go_wp2_with fail
  refine (send_yes _ _ _ _ _ _ _ _ _ _ l _ hn hn2 _ hs1 hr1 hlen).mono ?_
  rintro e w3 ⟨rfl, hs3, hg3⟩
  go_wp2
  exact bodyPost_ret (v := .tuple #[.pointer (some ⟨w.heap.size, 0, none⟩), .int .i64 ((f : Int) + 1), .int .i64 ((m : Int) + 1), .bool true]) (by simp [results, Try.results9, go_sem]) rfl ⟨w.heap.size, rfl, Nat.le_refl _, hs3, hb1.trans (below_grown hg3 (Nat.le_refl _) hb1.size)⟩

/-! ### SenderArgs -/
set_option maxHeartbeats 1000000 in
theorem law_args (x y now : Int) (hx : -9223372036854775808 ≤ x ∧ x ≤ 9223372036854775807) (w : World) :
    Calls Try.prog 5 #[.int .i64 x, .int .i64 y, .int .i64 now] w fun e w' => e = .returned (.bool true) ∧ Below w.heap.size w w' := by
  have kc := fun (w : World) (C : Array Value) (n c : Nat) => Lib.run_convert_bytes_const (P := Try.prog) w 27 5 C n c Try.underlying27 Try.underlying5
  by_cases hno : x < 1 ∨ 1000 < y ∨ y < x
  · go_enter Try.func5, Try.ntmps5
    go_wp2_with fail
    refine (first_any _).mono ?_
    rintro e w1 ⟨rfl, hb1⟩
    go_wp2_with fail
    refine (snew_no x y hno _).mono ?_
    rintro e w2 ⟨rfl, rfl⟩
    by_cases h1 : x < 1
    · clear hno
      go_wp2
      go_ret
      exact ⟨rfl, hb1⟩
    · by_cases h2 : 1000 < y
      · clear hno
        go_wp2
        go_ret
        exact ⟨rfl, hb1⟩
      · have h3 : y < x := by omega
        clear hno
        go_wp2
        go_ret
        exact ⟨rfl, hb1⟩
  · have h1 : 1 ≤ x := by omega
    have h2 : y ≤ 1000 := by omega
    have h3 : x ≤ y := by omega
    clear hno
    go_enter Try.func5, Try.ntmps5
    go_wp2_with fail
    refine (first_any _).mono ?_
    rintro e w1 ⟨rfl, hb1⟩
    have hs1 := hb1.size
    go_wp2_with fail
    refine (snew_yes x y h1 h2 h3 _).mono ?_
    rintro e w2 ⟨rfl, hs2, hb2⟩
    have hz2 := hb2.size
    have hs2b := hs2.mono ((Below.refl _ _).alloc (Nat.le_refl _) (.cells #[.int .u8 109] 5 (1, 2)))
    have hb2b := (hb1.trans (hb2.mono hs1)).alloc (by omega) (.cells #[.int .u8 109] 5 (1, 2))
    have hr2 := RdB.marked w2 [109] 5 (1, 2) #[.int .u8 109] 1 1 rfl rfl (by omega) (by unfold maxLen; omega) (by intro x hx; simp at hx; omega)
    have hnil : ∀ w : World, RdB w none 0 0 [] := fun w => ⟨IsB.nil, rfl, Nat.le_refl _, Nat.zero_le _, fun _ => rfl, .inl rfl⟩
    by_cases hl : now < 0 ∨ 1099511627776 < now
    · go_wp2_with fail
      refine (send_late _ _ _ _ _ _ _ _ _ _ _ hl _ hs2b).mono ?_
      rintro e w3 ⟨rfl, rfl⟩
      by_cases hl1 : now < 0
      all_goals
        first | (have hl2 : 1099511627776 < now := by omega) | skip
        have HL := Lib.hid hl
        clear hl
        go_wp2_with fail
        refine (busy_any _ _ _ _ _ _ _ _ _ hs2b).mono ?_
        rintro e w4 ⟨rfl, rfl⟩
        go_wp2_with fail
        refine (send_late _ _ _ _ _ _ _ _ _ _ _ HL.out _ hs2b).mono ?_
        rintro e w5 ⟨rfl, rfl⟩
        go_wp2_with fail
        refine (done_any _ _ _ _ _ _ _ _ _ hs2b).mono ?_
        rintro e w6 ⟨rfl, hs6, hg6⟩
        go_wp2
        go_ret
        exact ⟨rfl, hb2b.trans (below_grown hg6 hs1 (by simp; omega))⟩
    · go_wp2_with fail
      refine (send_yes _ _ _ _ _ _ _ _ _ _ [109] _ (by omega) (by omega) _ hs2b hr2 (by omega)).mono ?_
      rintro e w3 ⟨rfl, hs3, hg3⟩
      have hb3 := hb2b.trans (below_grown hg3 hs1 (by simp; omega))
      have l1 : 0 ≤ now := by omega
      have l2 : now ≤ 1099511627776 := by omega
      clear hl
      go_wp2_with fail
      refine (busy_any _ _ _ _ _ _ _ _ _ hs3).mono ?_
      rintro e w4 ⟨rfl, rfl⟩
      go_wp2_with fail
      refine (send_busy _ _ _ _ _ _ _ _ _ _ _ _ hs3).mono ?_
      rintro e w5 ⟨rfl, rfl⟩
      go_wp2
      go_ret
      exact ⟨rfl, hb3⟩

/-! ### SenderWaits -/
set_option maxRecDepth 100000 in
set_option maxHeartbeats 4000000 in
theorem law_waits (x y from_ cnt : Int) (a : Option Addr) (n c : Nat) (l : List Int) (w : World) (hr : RdB w a n c l) :
    Calls Try.prog 4 #[.int .i64 x, .int .i64 y, .int .i64 from_, .int .i64 cnt, .slice a n c] w fun e w' => e = .returned (.bool true) ∧ Below w.heap.size w w' := by
  have hlen : n ≤ 9223372036854775807 := by have h1 := hr.2.2.1; have h2 := hr.2.2.2.1; unfold maxLen at h2; omega
  obtain ⟨F, hF, hF1, hF2⟩ := mod_int from_ 1073741824 (by omega)
  obtain ⟨N, hN, hN2⟩ := mod_nat cnt 30 (by omega)
  obtain ⟨m, hm, hm2⟩ := mod_nat y 1000 (by omega)
  obtain ⟨f, hf, hf2⟩ := mod_nat x ((m : Int) + 1) (by omega)
  have HF := Lib.hid hF
  have HN := Lib.hid hN
  have Hm := Lib.hid hm
  have Hf := Lib.hid hf
  clear hF hN hm hf
  by_cases hbig : 100 < n
  · go_enter Try.func4, Try.ntmps4
    go_wp2_with fail
    refine (first_any _).mono ?_
    rintro e w1 ⟨rfl, hb1⟩
    go_wp2_with fail
    go_ret
    exact ⟨rfl, hb1⟩
  go_enter Try.func4, Try.ntmps4
  go_wp2_with fail
  refine (first_any _).mono ?_
  rintro e w1 ⟨rfl, hb1⟩
  have hr1 := hr.mono hb1
  go_wp2_with fail
  refine (number_int _ _ F HF.out (by omega) (by omega) _).mono ?_
  rintro e w2 ⟨rfl, rfl⟩
  go_wp2_with fail
  refine (begun_any _ _ m f Hm.out Hf.out (by omega) (by omega) _ (by omega) (by omega) _ _ _ l _ hr1 (by omega)).mono ?_
  rintro e w2 ⟨S, rfl, hS, hs2, hb2⟩
  have hs1 := hb1.size
  have hB2 := hb1.trans (hb2.mono hs1)
  go_wp2_with fail
  have hsz2 := hb2.size
  go_loopw [13, 16, 17] (fun v13 v16 v17 wr => ∃ (k : Nat) (now wait : Int), k ≤ N ∧ v17 = .int .i64 k ∧ v16 = .int .i64 now ∧ v13 = .int .i64 wait ∧ 1 ≤ wait ∧ wait ≤ (m : Int) + 1 ∧ 0 ≤ now ∧ now ≤ 1073741824 + 1000 * (k : Int) ∧ Snd wr S ((f : Int) + 1) ((m : Int) + 1) l true now wait k ∧ Below w.heap.size w wr)
    (fun _ _ i _ => N - (intOf i).toNat)
  case atStart => exact ⟨0, F, (f : Int) + 1, Nat.zero_le _, rfl, rfl, rfl, by omega, by omega, by omega, by omega, hs2, hB2⟩
  case round =>
    obtain ⟨k, now, wait, hk, rfl, rfl, rfl, hw1, hw2, hn1, hn2, hsr, hbr⟩ := hrel
    have hzr := hbr.size
    clear hs2 hB2 hb2 hr1 hb1
    by_cases hlt : k < N
    · go_wp2_with fail
      refine (number_nat _ _ N HN.out (by omega) (by omega) _).mono ?_
      rintro e w3 ⟨rfl, rfl⟩
      go_wp2_with fail
      refine (next_yes _ _ _ _ _ _ _ _ hsr).mono ?_
      rintro e w3 ⟨rfl, rfl⟩
      go_wp2_with fail
      refine (due_yes _ _ _ _ _ _ _ _ (by omega) (by omega) (by omega) (by omega) (by omega) (by have := hr.len; omega) _ hsr).mono ?_
      rintro e w4 ⟨a4, c4, rfl, ho4, hs4, hg4⟩
      have hB4 := hbr.trans (below_grown hg4 (by omega) hzr)
      have hr4 : RdB w4 a n c l := ⟨hr.1, hr.2.mono hB4⟩
      go_wp2_with fail
      refine (same_any _ _ _ _ _ _ _ _ _ ho4.rd hr4).mono ?_
      rintro e w5 ⟨rfl, rfl⟩
      go_wp2_with fail
      refine (tries_any _ _ _ _ _ _ _ _ _ hs4).mono ?_
      rintro e w5 ⟨rfl, rfl⟩
      go_wp2_with fail
      refine (due_no _ _ _ _ _ _ _ _ _ (by omega) (.inr (by omega)) _ hs4).mono ?_
      rintro e w5 ⟨rfl, rfl⟩
      by_cases hm3 : (m : Int) + 1 < 2 * wait
      · rw [nextW_lt hm3] at hs4
        have hs5 := Lib.hid hs4
        clear hs4
        go_wp2
        go_roundw
        case rel => exact ⟨k + 1, now + wait, (m : Int) + 1, by omega, by go_num, rfl, rfl, by omega, by omega, by omega, by omega, by simpa using hs5.out, hB4⟩
        case measure => simp [intOf]; omega
      · rw [nextW_ge (by omega)] at hs4
        have hs5 := Lib.hid hs4
        clear hs4
        go_wp2
        go_roundw
        case rel => exact ⟨k + 1, now + wait, 2 * wait, by omega, by go_num, rfl, rfl, by omega, by omega, by omega, by omega, by simpa using hs5.out, hB4⟩
        case measure => simp [intOf]; omega
    · have hk2 : k = N := by omega
      go_wp2_with fail
      refine (number_nat _ _ N HN.out (by omega) (by omega) _).mono ?_
      rintro e w3 ⟨rfl, rfl⟩
      go_wp2_with fail
      refine (busy_any _ _ _ _ _ _ _ _ _ hsr).mono ?_
      rintro e w3 ⟨rfl, rfl⟩
      go_wp2
      go_ret
      exact ⟨rfl, hbr⟩

/-! ### SenderOften -/
set_option maxRecDepth 100000 in
set_option maxHeartbeats 4000000 in
theorem law_often (x y from_ cnt : Int) (w : World) :
    Calls Try.prog 3 #[.int .i64 x, .int .i64 y, .int .i64 from_, .int .i64 cnt] w fun e w' => e = .returned (.bool true) ∧ Below w.heap.size w w' := by
  obtain ⟨F, hF, hF1, hF2⟩ := mod_int from_ 1073741824 (by omega)
  obtain ⟨N, hN, hN2⟩ := mod_nat cnt 300 (by omega)
  obtain ⟨m, hm, hm2⟩ := mod_nat (y.tmod 40) 1000 (by omega)
  obtain ⟨f, hf, hf2⟩ := mod_nat x ((m : Int) + 1) (by omega)
  have HF := Lib.hid hF
  have HN := Lib.hid hN
  have Hm := Lib.hid hm
  have Hf := Lib.hid hf
  clear hF hN hm hf
  have hmf : ¬ m < f := by omega
  have kc := fun (w : World) (C : Array Value) (n c : Nat) => Lib.run_convert_bytes_const (P := Try.prog) w 27 5 C n c Try.underlying27 Try.underlying5
  go_enter Try.func3, Try.ntmps3
  go_wp2_with fail
  refine (first_any _).mono ?_
  rintro e w1 ⟨rfl, hb1⟩
  have hs1 := hb1.size
  go_wp2_with fail
  refine (number_int _ _ F HF.out (by omega) (by omega) _).mono ?_
  rintro e w2 ⟨rfl, rfl⟩
  have hr2 := RdB.marked w1 [109] 5 (1, 2) #[.int .u8 109] 1 1 rfl rfl (by omega) (by unfold maxLen; omega) (by intro x hx; simp at hx; omega)
  go_wp2_with fail
  refine (begun_any _ _ m f Hm.out Hf.out (by omega) (by omega) _ (by omega) (by omega) _ _ _ [109] _ hr2 (by omega)).mono ?_
  rintro e w2 ⟨S, rfl, hS, hs2, hb2⟩
  simp only [World.size_alloc] at hS
  have hB2 := (hb1.alloc hs1 _).trans (hb2.mono (by simp; omega))
  clear kc
  go_wp2_with fail
  go_loopw [14, 15, 16] (fun v14 v15 v16 wr => ∃ (k : Nat) (last tr due wait : Int), k ≤ N + 1 ∧ v16 = .int .i64 k ∧ v14 = .int .i64 last ∧ v15 = .int .i64 tr ∧ 1 ≤ wait ∧ wait ≤ (m : Int) + 1 ∧ F ≤ last ∧ last ≤ F + k ∧ 0 ≤ tr ∧ tr ≤ k ∧ (k = 0 → due = F) ∧ (1 ≤ k → 1 ≤ tr) ∧ due ≤ last + ((m : Int) + 1) ∧
      Snd wr S ((f : Int) + 1) ((m : Int) + 1) [109] true due wait tr ∧ Below w.heap.size w wr)
    (fun _ _ i _ => N + 1 - (intOf i).toNat)
  case atStart => exact ⟨0, F, 0, F, (f : Int) + 1, Nat.zero_le _, rfl, rfl, rfl, by omega, by omega, by omega, by omega, by omega, by omega, fun _ => rfl, by omega, by omega, hs2, hB2⟩
  case round =>
    obtain ⟨k, last, tr, due, wait, hk, rfl, rfl, rfl, hw1, hw2, hl1, hl2, ht1, ht2, hd0, ht3, hd, hsr, hbr⟩ := hrel
    have hzr := hbr.size
    clear hs2 hB2 hb2 hb1 hr2
    by_cases hlt : k < N + 1
    · have Hd0 := Lib.hid hd0
      have Ht3 := Lib.hid ht3
      clear hd0 ht3
      go_wp2_with fail
      refine (number_nat _ _ N HN.out (by omega) (by omega) _).mono ?_
      rintro e w3 ⟨rfl, rfl⟩
      go_wp2_with fail
      refine (next_yes _ _ _ _ _ _ _ _ hsr).mono ?_
      rintro e w3 ⟨rfl, rfl⟩
      by_cases hdue : due ≤ F + k
      · go_wp2_with fail
        refine (due_yes _ _ _ _ _ _ _ _ (by omega) (by omega) (by omega) (by omega) (by omega) (by simp) _ hsr).mono ?_
        rintro e w4 ⟨a4, c4, rfl, ho4, hs4, hg4⟩
        have hB4 := hbr.trans (below_grown hg4 (by omega) hzr)
        have hwn : 1 ≤ nextW ((m : Int) + 1) wait ∧ nextW ((m : Int) + 1) wait ≤ (m : Int) + 1 := by unfold nextW; split <;> omega
        generalize nextW ((m : Int) + 1) wait = wn at hs4 hwn
        obtain ⟨bk, hbk⟩ : ∃ bk, ((k : Int) == 0) = bk := ⟨_, rfl⟩
        cases bk
        all_goals
          go_wp2
          go_roundw
          case rel => exact ⟨k + 1, F + k, tr + 1, F + k + wait, wn, by omega, by go_num, rfl, rfl, hwn.1, hwn.2, by omega, by omega, by omega, by omega, by omega, by omega, by omega, hs4, hB4⟩
          case measure => simp [intOf]; omega
      · go_wp2_with fail
        refine (due_no _ _ _ _ _ _ _ _ _ (by omega) (.inr (by omega)) _ hsr).mono ?_
        rintro e w4 ⟨rfl, rfl⟩
        have hk0 : ¬ k = 0 := fun h => by have := Hd0.out h; omega
        have ht4 := Ht3.out (by omega)
        have hbk : ((k : Int) == 0) = false := by simpa using hk0
        go_wp2
        go_roundw
        case rel => exact ⟨k + 1, last, tr, due, wait, by omega, by go_num, rfl, rfl, by omega, by omega, by omega, by omega, by omega, by omega, by omega, fun _ => ht4, by omega, hsr, hbr⟩
        case measure => simp [intOf]; omega
    · have hk2 : k = N + 1 := by omega
      have ht4 := ht3 (by omega)
      clear hd0 ht3
      go_wp2_with fail
      refine (number_nat _ _ N HN.out (by omega) (by omega) _).mono ?_
      rintro e w3 ⟨rfl, rfl⟩
      go_wp2_with fail
      refine (tries_any _ _ _ _ _ _ _ _ _ hsr).mono ?_
      rintro e w3 ⟨rfl, rfl⟩
      go_wp2
      go_ret
      exact ⟨rfl, hbr⟩

end Go.Proofs.Ytgbkkogcfacopaa
