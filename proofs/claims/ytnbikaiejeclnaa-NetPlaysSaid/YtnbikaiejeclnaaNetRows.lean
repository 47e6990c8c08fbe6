/- The walk of NetRows. Conditions stand as premises. -/
import Derived.Test.YtnbikaiejeclnaaNetFull
import Derived.Test.YtnbikaiejeclnaaNetNowhere
namespace Go.Proofs.Ytnbikaiejeclnaa
open Go.ChangeShapes Go.WideShapes Go.ChangeAt Go.RowKit
set_option linter.unusedVariables false

theorem Live.stepU {w0 w w' : World} {p : Nat} {S S' : St} {F : Nat → Prop} (h : Live w0 w p S F) (k : NetStep w w0.heap.size p S F S' w') :
    ∃ F', Live w0 w' p S' F' ∧ Upd F w w' ∧ ∀ j, F' j → F j ∨ w.heap.size ≤ j := by
  obtain ⟨F', k1, k2, k3⟩ := k
  exact ⟨F', ⟨k1, h.bel.trans (k2.below h.bel.size (fun j hj => (h.net.mem hj).1))⟩, k2, k3⟩

/-- What is still to come: a row of the law's own, apart from the ways' blocks. -/
structure RestI (w0 w : World) (F : Nat → Prop) (a : Option Addr) (c : Nat) (rs : List (List Int)) : Prop where
  own : OwnOld w0 w w0.heap.size a rs.length c rs
  far : ∀ x, a = some x → ¬ F x.block

theorem OwnOld.lt {w0 w : World} {base : Nat} {a : Option Addr} {n c : Nat} {ls : List (List Int)} (h : OwnOld w0 w base a n c ls) : ∀ x, a = some x → base ≤ x.block ∧ x.block < w.heap.size := by
  obtain ⟨vs, h1, _⟩ := h
  exact h1.lt
theorem OwnOld.upd {w0 w w' : World} {base : Nat} {a : Option Addr} {n c : Nat} {ls : List (List Int)} {F : Nat → Prop} (h : OwnOld w0 w base a n c ls) (hu : Upd F w w') (hf : ∀ x, a = some x → ¬ F x.block) : OwnOld w0 w' base a n c ls := by
  obtain ⟨vs, h1, h2, h3⟩ := h
  exact ⟨vs, h1.upd hu hf, h2, h3⟩
theorem RestI.step {w0 w w' : World} {F F' : Nat → Prop} {a : Option Addr} {c : Nat} {rs : List (List Int)} (h : RestI w0 w F a c rs) (hu : Upd F w w') (hF : ∀ j, F' j → F j ∨ w.heap.size ≤ j) : RestI w0 w' F' a c rs :=
  ⟨h.own.upd hu h.far, fun x hx hh => (hF _ hh).elim (h.far x hx) (fun h' => by have := (h.own.lt x hx).2; omega)⟩

/-- A message of a row taken: the place is any. -/
theorem take_any {k i : Int} (hk : isW k = true) {ls : List (List Int)} (hi0 : 0 ≤ i) (hi : i < ls.length) :
    getC (setS ([], []) k ls) k i = 0 ∧ getL (setS ([], []) k ls) k i = ls[i.toNat]?.getD [] ∧ takeS (setS ([], []) k ls) k i = setS ([], []) k (ls.eraseIdx i.toNat) := by
  have h0 : getC (setS ([], []) k ls) k i = 0 := by unfold getC; rw [hk, if_pos rfl, rowS_setS, if_pos ⟨hi0, hi⟩]
  refine ⟨h0, ?_, ?_⟩
  · unfold getL; rw [rowS_setS]
  · unfold takeS; rw [if_pos h0, rowS_setS, setS_setS]
theorem take_end {k : Int} (hk : isW k = true) {S : St} {ls : List (List Int)} (hr : rowS S k = ls) {i : Int} (hi : i = ls.length) : getC S k i = 16 ∧ takeS S k i = S := by
  have h0 : getC S k i = 16 := by unfold getC; rw [hk, if_pos rfl, hr, if_neg (by omega)]
  exact ⟨h0, by unfold takeS; rw [if_neg (by rw [h0]; decide)]⟩
theorem erase_eq {α : Type} (vs : List α) (i : Nat) : vs.take i ++ vs.drop (i + 1) = vs.eraseIdx i := by rw [List.eraseIdx_eq_take_drop_succ]

theorem OwnOld.atB {w0 w : World} {base : Nat} {a : Option Addr} {n c : Nat} {ls : List (List Int)} (h : OwnOld w0 w base a n c ls) (hb : Below w0.heap.size w0 w) (i : Nat) (hi : i < ls.length) :
    ∃ (g : Nat) (v : Option Addr × Nat × Nat), a = some ⟨g, 0, none⟩ ∧ w.cell? ⟨g, i, none⟩ = some (.slice v.1 v.2.1 v.2.2) ∧ RdB w v.1 v.2.1 v.2.2 (ls[i]?.getD []) := by
  obtain ⟨vs, h1, h2, h3⟩ := h
  have hn := h1.1
  obtain ⟨g, rfl, _, _⟩ := h1.at (by omega)
  have hv : vs[i]? = some (vs[i]'(by omega)) := List.getElem?_eq_getElem (by omega)
  refine ⟨g, vs[i]'(by omega), rfl, h1.cell i _ hv, ?_⟩
  rw [List.getElem?_eq_getElem hi]
  exact (h3 i _ _ hv (List.getElem?_eq_getElem hi)).mono hb

theorem RdBB.shape {w : World} {a : Option Addr} {n c : Nat} {ls : List (List Int)} (h : RdBB w a n c ls) (w' : World) (hb : Below w.heap.size w w') : ∃ vs : List (Option Addr × Nat × Nat), Rd encS w' a n c vs ∧ vs.length = ls.length ∧ ∀ (i : Nat) (v : Option Addr × Nat × Nat) (l : List Int), vs[i]? = some v → ls[i]? = some l → RdB w v.1 v.2.1 v.2.2 l := by
  obtain ⟨vs, h1, h2, h3⟩ := h
  exact ⟨vs, h1.mono hb, h2, h3⟩

set_option maxRecDepth 100000 in
set_option maxHeartbeats 4000000 in
theorem netrows_law (way : Int) (a : Option Addr) (n c : Nat) (ls : List (List Int)) (a2 : Option Addr) (n2 c2 : Nat) (ps : List Int) (w : World) (hr : RdBB w a n c ls) (hr2 : Rd (Value.int .i64) w a2 n2 c2 ps) :
    Calls Try.prog 3 #[.int .i64 way, .slice a n c, .slice a2 n2 c2] w fun e w' => e = .returned (.bool true) ∧ Below w.heap.size w w' := by
  obtain rfl : ls.length = n := hr.len
  obtain rfl : ps.length = n2 := hr2.1
  have hcap := hr.caps
  obtain ⟨k, hk, hk0, hk2⟩ := mod_int way 2 (by omega)
  have HW1 := Lib.hid (fun w' => number_int way 2 k hk (by omega) (by omega) w')
  clear hk
  have hkW := Lib.hid (isW_mk hk0 hk2)
  by_cases hl : LightP ls
  case neg =>
    go_enter Try.func3, Try.ntmps3
    go_wp2_with fail
    refine (nfirst_any _).mono ?_
    rintro e w1 ⟨rfl, hb1⟩
    go_wp2_with fail
    refine (HW1.out _).mono ?_
    rintro e w2 ⟨rfl, rfl⟩
    go_wp2_with fail
    refine (light_no _ _ _ ls _ (hr.mono hb1) hl).mono ?_
    rintro e w2 ⟨rfl, rfl⟩
    go_wp2_with fail
    go_ret
    exact ⟨rfl, hb1⟩
  have HL := Lib.hid hl
  clear hl
  by_cases h40 : (40 : Int) < (ps.length : Int)
  · go_enter Try.func3, Try.ntmps3
    go_wp2_with fail
    refine (nfirst_any _).mono ?_
    rintro e w1 ⟨rfl, hb1⟩
    go_wp2_with fail
    refine (HW1.out _).mono ?_
    rintro e w2 ⟨rfl, rfl⟩
    go_wp2_with fail
    refine (light_yes _ _ _ ls _ (hr.mono hb1) HL.out).mono ?_
    rintro e w2 ⟨rfl, rfl⟩
    go_wp2_with fail
    go_ret
    exact ⟨rfl, hb1⟩
  have h40' : (ps.length : Int) ≤ 40 := by omega
  clear h40
  have hle32 : ls.length ≤ 32 := HL.out.1
  go_enter Try.func3, Try.ntmps3
  go_wp2_with fail
  refine (nfirst_any _).mono ?_
  rintro e w1 ⟨rfl, hb1⟩
  go_wp2_with fail
  refine (HW1.out _).mono ?_
  rintro e w2 ⟨rfl, rfl⟩
  go_wp2_with fail
  refine (light_yes _ _ _ ls _ (hr.mono hb1) HL.out).mono ?_
  rintro e w2 ⟨rfl, rfl⟩
  go_wp2_with fail
  refine (sent_yes k _ _ _ ls _ hkW.out (hr.mono hb1) HL.out).mono ?_
  rintro e w2 ⟨p, F2, rfl, hL2⟩
  have hz2 := hL2.bel.size
  obtain ⟨vs, hvs1, hvs2, hvs3⟩ := (hr.mono hb1).shape (w2.alloc (.cells #[] 29)) (hL2.bel.alloc hz2 _)
  have HV2 := Lib.hid hvs2
  have HV3 := Lib.hid hvs3
  clear hvs2 hvs3
  have ho1 : Own encS 29 (w2.alloc (.cells #[] 29)) w2.heap.size (some ⟨w2.heap.size, 0, none⟩) 0 0 [] := Own.lit [] _ 0 rfl rfl (Nat.le_refl _) (Nat.zero_le _)
  go_wp2_with (at_builtin; go_must (refine wpList_appAt rfl rfl Try.oneBB rfl rfl ho1 hvs1 (fun _ => rfl) (by omega) (by omega) (by simp) ?_); intro a3 c3 w3 ho3 hu3 hat3)
  have hB3 : Below w2.heap.size w2 w3 := (below_alloc w2 _).trans (hu3.below (by simp) (fun q hq => by
    obtain ⟨x, hx, rfl⟩ := mem_blk.1 hq
    cases hx
    exact Nat.le_refl _))
  have hL3 := hL2.ahead hB3
  have hR3 : RestI w1 w3 F2 a3 c3 ls := ⟨⟨vs, by rw [Nat.zero_add, List.nil_append] at ho3; exact ho3.base hz2, HV2.out, HV3.out⟩, fun x hx hF => by have := (ho3.lt x hx).1; have := (hL2.net.mem hF).2; omega⟩
  have hP := hr2.mono hb1
  clear hvs1 ho1 ho3 hu3 hat3 hB3 hr2 HV2 HV3
  go_loopw [9, 10, 11, 12, 13] (fun u9 u10 u11 u12 u13 wr => ∃ (j : Nat) (rs : List (List Int)) (a' : Option Addr) (c' : Nat) (F : Nat → Prop), j ≤ ps.length ∧ rs.length ≤ 32 ∧ u9 = .slice a' rs.length c' ∧ u10 = .int .i64 j ∧ Live w1 wr p (setS ([], []) k rs) F ∧ RestI w1 wr F a' c' rs) (fun _ u10 _ _ _ _ => ps.length - (intOf u10).toNat)
  case atStart => exact ⟨0, ls, a3, c3, F2, Nat.zero_le _, hle32, rfl, rfl, hL3, hR3⟩
  case round =>
    obtain ⟨j, rs, a', c', F, hj, hrs, rfl, rfl, hL, hR⟩ := hrel
    by_cases hlt : j < ps.length
    · by_cases hz : rs.length = 0
      · have hd : ¬ ((0 : Int) < (rs.length : Int)) := by omega
        clear hz
        go_wp2_with fail
        refine (s_take w1.heap.size p _ F k _ _ hL.net).mono ?_
        rintro e w4 ⟨a4, n4, c4, rfl, hr4, hf4, hst⟩
        obtain ⟨e1, e2⟩ := take_end hkW.out (rowS_setS ([], []) k rs) rfl
        rw [e1]
        rw [e2] at hst
        obtain ⟨F4, hL4⟩ := hL.step hst
        clear hst hr4 hf4 e1 e2
        go_wp2_with fail
        refine (s_take w1.heap.size p _ F4 (1 - k) 0 _ hL4.net).mono ?_
        rintro e w5 ⟨a5, n5, c5, rfl, hr5, hf5, hst⟩
        obtain ⟨e1, e2⟩ := take_end (isW_other hkW.out) (S := setS ([], []) k rs) (ls := []) (by rw [rowS_other _ _ hkW.out]; unfold rowS rowOf; split <;> rfl) (i := 0) rfl
        rw [e1]
        rw [e2] at hst
        obtain ⟨F5, hL5⟩ := hL4.step hst
        clear hst hr5 hf5 e1 e2
        go_wp2_with fail
        go_ret
        exact ⟨rfl, hb1.trans (hL5.bel.mono hb1.size)⟩
      have hpos : (0 : Int) < (rs.length : Int) := by omega
      have hb64 : rs.length ≤ 32 := hrs
      obtain ⟨b, off, rfl, hc⟩ := cellAt (hP.mono hL.bel) j hlt
      generalize hy : ps[j] = y at hc
      clear hy
      obtain ⟨i, hi, hi0, hi2⟩ := mod_int y rs.length (by omega)
      have HI := Lib.hid (fun w' => number_int y rs.length i hi (by omega) (by omega) w')
      clear hi
      obtain ⟨I, rfl⟩ := Int.eq_ofNat_of_zero_le hi0
      obtain ⟨t1, t2, t3⟩ := take_any hkW.out (ls := rs) hi0 hi2
      simp only [Int.toNat_natCast] at t2 t3
      have T1 := Lib.hid t1
      have T2 := Lib.hid t2
      have T3 := Lib.hid t3
      clear t1 t2 t3
      go_wp2_with fail
      refine (HI.out _).mono ?_
      rintro e w4 ⟨rfl, rfl⟩
      go_wp2_with fail
      refine (s_take w1.heap.size p _ F k (I : Int) _ hL.net).mono ?_
      rintro e w4 ⟨a4, n4, c4, rfl, hr4, hf4, hst⟩
      rw [T1.out] at hr4 ⊢
      rw [if_pos rfl, T2.out] at hr4
      rw [T3.out] at hst
      obtain ⟨F4, hL4, hu4, hF4⟩ := hL.stepU hst
      have hR4 := hR.step hu4 hF4
      clear hst hf4 hc hL hR hu4 hF4
      obtain ⟨g, v, rfl, hc4, hv4⟩ := hR4.own.atB hL4.bel I (by omega)
      have hcg : ¬ F4 g := hR4.far _ rfl
      go_wp2_with fail
      refine (same_any _ _ _ _ _ _ _ _ _ hr4 hv4).mono ?_
      rintro e w6 ⟨rfl, rfl⟩
      rw [decide_eq_true rfl]
      clear hr4 hv4 hc4
      go_wp2_with fail
      refine (s_len w1.heap.size p _ F4 (1 - k) _ hL4.net).mono ?_
      rintro e w6 ⟨rfl, rfl⟩
      rw [if_pos (isW_other hkW.out), rowS_other _ _ hkW.out, show (rowS ([], []) (1 - k)).length = 0 by unfold rowS rowOf; split <;> rfl]
      go_wp2_with fail
      obtain ⟨vs4, q1, q2, q3⟩ := hR4.own
      have hrc := q1.rd.2.1
      have hrm := q1.rd.2.2.1
      unfold maxLen at hrm
      have hIr : I < rs.length := by omega
      obtain ⟨A, hA, hRA⟩ : ∃ A : Addr, (if c' = I + 1 then some (⟨g, 0, none⟩ : Addr) else some ⟨g, I + 1, none⟩) = some A ∧ Hid (∀ w', Below w4.heap.size w4 w' → Rd encS w' (some A) (rs.length - (I + 1)) (c' - (I + 1)) (vs4.drop (I + 1))) := by
        have hs := fun w' (hb : Below w4.heap.size w4 w') => (q1.rd.mono hb).sliced (I + 1) rs.length (by omega) (Nat.le_refl _)
        have hd : (vs4.drop (I + 1)).take (rs.length - (I + 1)) = vs4.drop (I + 1) := List.take_of_length_le (by rw [List.length_drop, q2]; omega)
        rw [hd] at hs
        by_cases h : c' = I + 1
        · refine ⟨⟨g, 0, none⟩, by rw [if_pos h], fun w' hb => ?_⟩
          have := hs w' hb
          rwa [if_pos h] at this
        · refine ⟨⟨g, I + 1, none⟩, by rw [if_neg h], fun w' hb => ?_⟩
          have := hs w' hb
          rw [if_neg h] at this
          simpa [addr_add] using this
      have hbA : Below w4.heap.size w4 (w4.drew.alloc (.cells #[] 29)) := (below_drew w4).alloc (Nat.le_refl _) _
      have hoA : Own encS 29 (w4.drew.alloc (.cells #[] 29)) w4.heap.size (some ⟨w4.heap.size, 0, none⟩) 0 0 [] := Own.lit [] _ 0 rfl rfl (Nat.le_refl _) (Nat.zero_le _)
      have hrA := (q1.rd.take I (by omega)).mono hbA
      have hzA := hbA.size
      have hIc1 : I ≤ c' := by omega
      have hIc2 : (0 : Int) ≤ (I : Int) + 1 := by omega
      have hIc3 : (I : Int) + 1 ≤ (rs.length : Int) := by omega
      have hIc4 : I + 1 ≤ c' := by omega
      have hf1 : (0 + I) * 24 ≤ 140737488355328 := by omega
      have hf2 : 0 + I ≤ 140737488355328 := by omega
      have hf3 : (I + (rs.length - (I + 1))) * 24 ≤ 140737488355328 := by omega
      have hf4 : I + (rs.length - (I + 1)) ≤ 140737488355328 := by omega
      have hwr : IntKind.i64.wrap ((I : Int) + 1) = (I : Int) + 1 := IntWalk.i64_in _ (by omega)
      have Q1 := Lib.hid q1
      have Q2 := Lib.hid q2
      have Q3 := Lib.hid q3
      have HN := Lib.hid (show (rs.eraseIdx I).length = rs.length - 1 by rw [List.length_eraseIdx, if_pos hIr])
      clear q1 q2 q3
      go_region_law (first | (refine step_appAt (s := .tmp 83) (x := .tmp 86) rfl rfl Try.oneBB rfl rfl hoA hrA (fun _ => rfl) hf1 hf2 hzA ?_; intro a5 c5 w5 ho5 hu5 hat5; simp only [Nat.zero_add, List.nil_append] at ho5; have hb5 := hbA.trans (hu5.below (B := w4.heap.size) hzA (fun q hq => by obtain ⟨x, hx, rfl⟩ := mem_blk.1 hq; cases hx; exact Nat.le_refl _)); have hrB := hRA.out w5 hb5; have hz5 := hb5.size) | (refine step_appAt (s := .tmp 87) (x := .tmp 91) rfl rfl Try.oneBB rfl rfl ho5 hrB (fun _ => rfl) hf3 hf4 hz5 ?_; intro a6 c6 w6 ho6 hu6 hat6; rw [show I + (rs.length - (I + 1)) = rs.length - 1 by omega] at ho6 ⊢))
      have hB6 : Below w4.heap.size w4 w6 := hb5.trans (hu6.below (B := w4.heap.size) hz5 (fun q hq => by
        obtain ⟨x, hx, rfl⟩ := mem_blk.1 hq
        exact (ho5.lt x hx).1))
      have hL6 := hL4.ahead hB6
      have hR6 : RestI w1 w6 F4 a6 c6 (rs.eraseIdx I) := by
        refine ⟨⟨vs4.eraseIdx I, ?_, by rw [List.length_eraseIdx, List.length_eraseIdx, Q2.out], fun q v l hv hl => ?_⟩, fun x hx hF => ?_⟩
        · rw [HN.out, ← erase_eq]
          exact ho6.base hL4.bel.size
        · simp only [List.getElem?_eraseIdx] at hv hl
          by_cases hq : q < I
          · rw [if_pos hq] at hv hl
            exact Q3.out q v l hv hl
          · rw [if_neg hq] at hv hl
            exact Q3.out _ v l hv hl
        · have := (ho6.lt x hx).1; have := (hL4.net.mem hF).2; omega
      clear hL4 hR4 hB6 ho6 hu6 hat6 ho5 hu5 hat5 hrB hb5 hrA hoA hbA
      go_wp2_with fail
      refine (s_len w1.heap.size p _ F4 k _ hL6.net).mono ?_
      rintro e w7 ⟨rfl, rfl⟩
      rw [if_pos hkW.out, rowS_setS, HN.out]
      go_wp2_with fail
      go_roundw
      case rel => exact ⟨j + 1, rs.eraseIdx I, a6, c6, F4, by omega, by rw [HN.out]; omega, by rw [HN.out], by go_num, hL6, hR6⟩
      case measure => simp [intOf]; omega
    · have hge : ¬ ((j : Int) < (ps.length : Int)) := by omega
      clear hlt
      go_wp2_with fail
      refine (s_take w1.heap.size p _ F k _ _ hL.net).mono ?_
      rintro e w4 ⟨a4, n4, c4, rfl, hr4, hf4, hst⟩
      obtain ⟨e1, e2⟩ := take_end hkW.out (rowS_setS ([], []) k rs) rfl
      rw [e1]
      rw [e2] at hst
      obtain ⟨F4, hL4⟩ := hL.step hst
      clear hst hr4 hf4 e1 e2
      go_wp2_with fail
      refine (s_take w1.heap.size p _ F4 (1 - k) 0 _ hL4.net).mono ?_
      rintro e w5 ⟨a5, n5, c5, rfl, hr5, hf5, hst⟩
      obtain ⟨e1, e2⟩ := take_end (isW_other hkW.out) (S := setS ([], []) k rs) (ls := []) (by rw [rowS_other _ _ hkW.out]; unfold rowS rowOf; split <;> rfl) (i := 0) rfl
      rw [e1]
      rw [e2] at hst
      obtain ⟨F5, hL5⟩ := hL4.step hst
      clear hst hr5 hf5 e1 e2
      go_wp2_with fail
      go_ret
      exact ⟨rfl, hb1.trans (hL5.bel.mono hb1.size)⟩
end Go.Proofs.Ytnbikaiejeclnaa
