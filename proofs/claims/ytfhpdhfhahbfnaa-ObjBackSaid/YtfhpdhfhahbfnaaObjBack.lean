/- The walk of ObjBack. Conditions stand as premises. -/
import Derived.Test.YtfhpdhfhahbfnaaObjBackN
import Derived.Test.YtfhpdhfhahbfnaaObjSame
import Derived.Test.YtfhpdhfhahbfnaaObjF
import Derived.Test.YtfhpdhfhahbfnaaNum
import Derived.Test.YtfhpdhfhahbfnaaStep
import Derived.Test.YtfhpdhfhahbfnaaManual
import Derived.Deep.Cut
import Derived.Outline
import Derived.Deep.CutRange
import Derived.Deep.RegionWith
namespace Go.Proofs.Ytfhpdhfhahbfnaa
open Go.ChangeShapes Go.WideShapes Go.ChangeAt Go.RowKit
set_option linter.unusedVariables false
set_option linter.unusedSimpArgs false

set_option maxRecDepth 100000 in
set_option maxHeartbeats 4000000 in
theorem objback_law (v0 v1 v2 v3 v4 v5 ahead : Int) (a : Option Addr) (n c : Nat) (l : List Int) (w : World) (hr : RdB w a n c l)
    (g0 : U8 v0) (g1 : U8 v1) (g2 : U8 v2) (g3 : U8 v3) (g4 : U8 v4) (g5 : U8 v5) :
    Calls Try.prog 7 #[.agg #[.int .u64 v0, .int .u64 v1, .int .u64 v2, .int .u64 v3, .int .u64 v4, .int .u64 v5, .slice a n c], .int .i64 ahead] w fun e w' => e = .returned (.bool true) ∧ Below w.heap.size w w' := by
  obtain rfl : l.length = n := hr.len
  have hD := (Box6.new w 25 v0 v1 v2 v3 v4 v5 a l.length c)
  have hB := below_alloc w (.cells #[.int .u64 v0, .int .u64 v1, .int .u64 v2, .int .u64 v3, .int .u64 v4, .int .u64 v5, .slice a l.length c] 25)
  obtain ⟨B0, e0⟩ : ∃ B, w.heap.size = B := ⟨_, rfl⟩
  rw [e0] at hD
  have E0 := Lib.hid e0
  have hr := Lib.hid hr
  clear e0
  go_enter Try.func7, Try.ntmps7
  go_wp2_with fail
  rw [E0.out]
  generalize w.alloc (.cells #[.int .u64 v0, .int .u64 v1, .int .u64 v2, .int .u64 v3, .int .u64 v4, .int .u64 v5, .slice a l.length c] 25) = w1 at *
  refine (ofirst_any _).mono ?_
  rintro e w2 ⟨rfl, hb⟩
  have hD := hD.mono hb hD.lt
  have hB := hB.trans (hb.mono hB.size)
  have d6 := hD.d6
  by_cases h300 : (300 : Int) < (l.length : Int)
  · go_wp2_with fail
    go_ret
    exact ⟨rfl, hB⟩
  by_cases h00 : l.length = 0
  · have q0 : ((l.length : Int) == 0) = true := by rw [h00]; rfl
    clear h300
    go_wp2_with fail
    go_ret
    exact ⟨rfl, hB⟩
  have q1 : (l.length : Int) ≤ 300 := by omega
  have q2 : ((l.length : Int) == 0) = false := by rw [beq_eq_false_iff_ne]; omega
  have hl0 : 0 < l.length := by omega
  obtain ⟨q, hq, hq20⟩ := mod_nat ahead 20 (by decide)
  have hw8 : IntKind.i64.wrap (8 * (q : Int)) = 8 * (q : Int) := IntWalk.i64_in _ (by omega)
  have hq8 : (0 : Int) ≤ 8 * (q : Int) := by omega
  clear h300 h00
  go_wp2_with fail
  refine (number_nat ahead 20 q hq (by decide) (by decide) _).mono ?_
  rintro e w' ⟨rfl, rfl⟩
  go_upto_region 7 with fail
  have hDx := hD
  have hBW := hB
  have hl3 : l.length ≤ 140737488330000 := by omega
  have HNQ := Lib.hid (show 8 * (q : Int) = ((8 * q : Nat) : Int) by omega)
  have hb2 : 1 * (8 * q) ≤ 281474976710656 := by omega
  have hb3 : 8 * q ≤ 281474976710656 := by omega
  have h8q : 8 * q ≤ 160 := by omega
  obtain ⟨X, hX⟩ : ∃ X, putO 1 (numsL [v0, v1, v2, v3, v4, v5] ++ l) = X := ⟨_, rfl⟩
  have HX := Lib.hid hX
  have hXl : X.length ≤ 1000 := by
    rw [← hX, show putO 1 (numsL [v0, v1, v2, v3, v4, v5] ++ l) = objL 1 (numsL [v0, v1, v2, v3, v4, v5] ++ l) from if_pos (by omega), objL_length]
    have hn1 : (numsL [v0, v1, v2, v3, v4, v5] ++ l).length = 48 + l.length := by rw [List.length_append, numsL_length]; rfl
    rw [hn1]
    have h8 := Nat.mod_lt (8 - (48 + l.length) % 8) (show 8 > 0 by decide)
    omega
  obtain ⟨Y, hY⟩ : ∃ Y, putO 2 (numsL [v0, v1, v3] ++ l) = Y := ⟨_, rfl⟩
  have HY := Lib.hid hY
  have hYl : Y.length ≤ 1000 := by
    rw [← hY, show putO 2 (numsL [v0, v1, v3] ++ l) = objL 2 (numsL [v0, v1, v3] ++ l) from if_pos (by omega), objL_length]
    have hn1 : (numsL [v0, v1, v3] ++ l).length = 24 + l.length := by rw [List.length_append, numsL_length]; rfl
    rw [hn1]
    have h8 := Nat.mod_lt (8 - (24 + l.length) % 8) (show 8 > 0 by decide)
    omega
  clear hX hY hD hB hw8 hq
  go_cut [6] from 37 to 41 (fun s wx => ∃ a6 c6, s = .slice a6 (8 * q + X.length) c6 ∧ OwnB 5 wx w2.heap.size a6 (8 * q + X.length) c6 (List.replicate (8 * q) 0 ++ X) ∧ Below w2.heap.size w2 wx)
  case first =>
    have hDl : B0 < w2.heap.size := hDx.lt
    refine wp_region_any (by kernel_rfl) ?_
    change wpAny _ _ _ _ _ _ _ w2.drew
    have keep : ∀ {wa wb : World}, Below w2.heap.size w2 wa → Below w2.heap.size wa wb → (wa.cell? ⟨B0, 0, none⟩ = some (.int .u64 v0) ∧ wa.cell? ⟨B0, 1, none⟩ = some (.int .u64 v1) ∧ wa.cell? ⟨B0, 2, none⟩ = some (.int .u64 v2) ∧ wa.cell? ⟨B0, 3, none⟩ = some (.int .u64 v3) ∧ wa.cell? ⟨B0, 4, none⟩ = some (.int .u64 v4) ∧ wa.cell? ⟨B0, 5, none⟩ = some (.int .u64 v5) ∧ wa.cell? ⟨B0, 6, none⟩ = some (.slice a l.length c)) → (wb.cell? ⟨B0, 0, none⟩ = some (.int .u64 v0) ∧ wb.cell? ⟨B0, 1, none⟩ = some (.int .u64 v1) ∧ wb.cell? ⟨B0, 2, none⟩ = some (.int .u64 v2) ∧ wb.cell? ⟨B0, 3, none⟩ = some (.int .u64 v3) ∧ wb.cell? ⟨B0, 4, none⟩ = some (.int .u64 v4) ∧ wb.cell? ⟨B0, 5, none⟩ = some (.int .u64 v5) ∧ wb.cell? ⟨B0, 6, none⟩ = some (.slice a l.length c)) :=
      fun _ hb ⟨y0, y1, y2, y3, y4, y5, y6⟩ => ⟨bcell hb hDl y0, bcell hb hDl y1, bcell hb hDl y2, bcell hb hDl y3, bcell hb hDl y4, bcell hb hDl y5, bcell hb hDl y6⟩
    have hC : w2.drew.cell? ⟨B0, 0, none⟩ = some (.int .u64 v0) ∧ w2.drew.cell? ⟨B0, 1, none⟩ = some (.int .u64 v1) ∧ w2.drew.cell? ⟨B0, 2, none⟩ = some (.int .u64 v2) ∧ w2.drew.cell? ⟨B0, 3, none⟩ = some (.int .u64 v3) ∧ w2.drew.cell? ⟨B0, 4, none⟩ = some (.int .u64 v4) ∧ w2.drew.cell? ⟨B0, 5, none⟩ = some (.int .u64 v5) ∧ w2.drew.cell? ⟨B0, 6, none⟩ = some (.slice a l.length c) := keep (Below.refl _ _) (below_drew w2) ⟨hDx.d0, hDx.d1, hDx.d2, hDx.d3, hDx.d4, hDx.d5, hDx.d6⟩
    refine wpAny_of_held (S := fun w' => w'.cell? ⟨B0, 0, none⟩ = some (.int .u64 v0) ∧ w'.cell? ⟨B0, 1, none⟩ = some (.int .u64 v1) ∧ w'.cell? ⟨B0, 2, none⟩ = some (.int .u64 v2) ∧ w'.cell? ⟨B0, 3, none⟩ = some (.int .u64 v3) ∧ w'.cell? ⟨B0, 4, none⟩ = some (.int .u64 v4) ∧ w'.cell? ⟨B0, 5, none⟩ = some (.int .u64 v5) ∧ w'.cell? ⟨B0, 6, none⟩ = some (.slice a l.length c)) _ _ _ _ ?_
    refine held_take 0 (d := some 37) (v := .int .i64 (8 * (q : Int))) rfl rfl (by kernel_rfl) (by kernel_rfl) (by kernel_rfl) (fun _ _ _ h => h) hC (by kernel_rfl) (fun w hSw => by obtain ⟨x0, x1, x2, x3, x4, x5, x6⟩ := hSw; go_simp) ?_
    try simp only [Act.put, List.setIfInBounds_toArray, List.set_cons_zero, List.set_cons_succ]
    refine held_take 2 (d := some 39) (v := .agg #[.int .u64 v0, .int .u64 v1, .int .u64 v2, .int .u64 v3, .int .u64 v4, .int .u64 v5, .slice a l.length c]) rfl rfl (by kernel_rfl) (by kernel_rfl) (by kernel_rfl) (fun _ _ _ h => h) hC (by kernel_rfl) (fun w hSw => by obtain ⟨x0, x1, x2, x3, x4, x5, x6⟩ := hSw; go_simp) ?_
    try simp only [Act.put, List.setIfInBounds_toArray, List.set_cons_zero, List.set_cons_succ]
    refine held_two 1 3 rfl rfl (by kernel_rfl) (fun K hK => ?_) (fun K hK => ?_)
    · refine step_makeOwnD (0 : Int) (d := some 38) rfl rfl rfl (base := w2.heap.size) Try.oneB Try.zeroB rfl rfl rfl HNQ.out HNQ.out hb2 hb3 (Nat.le_refl _) ?_
      intro wm hom hbm
      have hC1 := keep (below_drew w2) hbm hC
      have hBm : Below w2.heap.size w2 wm := (below_drew w2).trans hbm
      have hzm := hBm.size
      refine hK _ _ hC1 ?_
      clear hK K
      try simp only [Act.put, List.setIfInBounds_toArray, List.set_cons_zero, List.set_cons_succ]
      refine held_one 3 rfl (by kernel_rfl) (fun K hK => ?_)
      go_simp
      go_at_call 12
      refine (putdata_any v0 v1 v2 v3 v4 v5 a _ c l wm (hr.out.mono (hBW.trans (hBm.mono hBW.size))) hl3 g0 g1 g2 g3 g4 g5).mono ?_
      rintro e w5 ⟨a5, c5, rfl, ho5, hb5⟩
      rw [HX.out] at ho5 ⊢
      have hC2 := keep hBm (hb5.mono hzm) hC1
      have hB5 : Below w2.heap.size w2 w5 := hBm.trans (hb5.mono hzm)
      have hz5 := hB5.size
      go_simp
      refine hK _ _ hC2 ?_
      clear hK K
      try simp only [Act.put, List.setIfInBounds_toArray, List.set_cons_zero, List.set_cons_succ]
      refine held_one 4 rfl (by kernel_rfl) (fun K hK => ?_)
      refine step_appOwnD (d := some 41) rfl (s := .tmp 38) (x := .tmp 40) rfl rfl Try.oneB rfl rfl (hom.mono hb5) ho5.rd.raw (fun _ => rfl) (by omega) (by omega) hz5 ?_
      intro a6 c6 w6 ho6 hb6
      refine hK _ _ (keep hB5 hb6 hC2) ?_
      clear hK K
      try simp only [Act.put, List.setIfInBounds_toArray, List.set_cons_zero, List.set_cons_succ]
      have HO6 := Lib.hid (show OwnB 5 w6 w2.heap.size a6 (8 * q + X.length) c6 (List.replicate (8 * q) 0 ++ X) from ⟨(IsB.replicate _).append ho5.1, ho6⟩)
      have hB6 := hB5.trans hb6
      have hC6 := keep hB5 hb6 hC2
      clear ho6 hom ho5
      refine held_take 5 (d := some 6) (v := .slice a6 (8 * q + X.length) c6) rfl rfl (by kernel_rfl) (by kernel_rfl) (by kernel_rfl) (fun _ _ _ h => h) hC6 (by kernel_rfl) (fun w hSw => by go_simp) ?_
      try simp only [Act.put, List.setIfInBounds_toArray, List.set_cons_zero, List.set_cons_succ]
      refine wpAnyH_done (by kernel_rfl) ?_ _
      go_wp2_with fail
      go_meet
      exact ⟨a6, c6, rfl, HO6.out, hB6⟩
    · go_simp
      go_at_call 12
      refine (putdata_any v0 v1 v2 v3 v4 v5 a _ c l w2.drew (hr.out.mono (hBW.trans ((below_drew w2).mono hBW.size))) hl3 g0 g1 g2 g3 g4 g5).mono ?_
      rintro e w5 ⟨a5, c5, rfl, ho5, hb5⟩
      rw [HX.out] at ho5 ⊢
      have hC1 := keep (below_drew w2) hb5 hC
      have hB5 : Below w2.heap.size w2 w5 := (below_drew w2).trans hb5
      have hz5 := hB5.size
      go_simp
      refine hK _ _ hC1 ?_
      clear hK K
      try simp only [Act.put, List.setIfInBounds_toArray, List.set_cons_zero, List.set_cons_succ]
      refine held_one 1 rfl (by kernel_rfl) (fun K hK => ?_)
      refine step_makeOwnD (0 : Int) (d := some 38) rfl rfl rfl (base := w5.heap.size) Try.oneB Try.zeroB rfl rfl rfl HNQ.out HNQ.out hb2 hb3 (Nat.le_refl _) ?_
      intro wm hom hbm
      have hC2 := keep hB5 (hbm.mono hz5) hC1
      have hBm : Below w2.heap.size w2 wm := hB5.trans (hbm.mono hz5)
      have hzm := hBm.size
      refine hK _ _ hC2 ?_
      clear hK K
      try simp only [Act.put, List.setIfInBounds_toArray, List.set_cons_zero, List.set_cons_succ]
      refine held_one 4 rfl (by kernel_rfl) (fun K hK => ?_)
      refine step_appOwnD (d := some 41) rfl (s := .tmp 38) (x := .tmp 40) rfl rfl Try.oneB rfl rfl (hom.base hz5) (ho5.rd.mono hbm).raw (fun _ => rfl) (by omega) (by omega) hzm ?_
      intro a6 c6 w6 ho6 hb6
      refine hK _ _ (keep hBm hb6 hC2) ?_
      clear hK K
      try simp only [Act.put, List.setIfInBounds_toArray, List.set_cons_zero, List.set_cons_succ]
      have HO6 := Lib.hid (show OwnB 5 w6 w2.heap.size a6 (8 * q + X.length) c6 (List.replicate (8 * q) 0 ++ X) from ⟨(IsB.replicate _).append ho5.1, ho6⟩)
      have hB6 := hBm.trans hb6
      have hC6 := keep hBm hb6 hC2
      clear ho6 hom ho5
      refine held_take 5 (d := some 6) (v := .slice a6 (8 * q + X.length) c6) rfl rfl (by kernel_rfl) (by kernel_rfl) (by kernel_rfl) (fun _ _ _ h => h) hC6 (by kernel_rfl) (fun w hSw => by go_simp) ?_
      try simp only [Act.put, List.setIfInBounds_toArray, List.set_cons_zero, List.set_cons_succ]
      refine wpAnyH_done (by kernel_rfl) ?_ _
      go_wp2_with fail
      go_meet
      exact ⟨a6, c6, rfl, HO6.out, hB6⟩
  case rest =>
    obtain ⟨a6, c6, rfl, hob, hbx⟩ := hcut
    have hD := hDx.mono hbx hDx.lt
    have hB := hBW.trans (hbx.mono hBW.size)
    have d0 := hD.d0
    have d1 := hD.d1
    have d3 := hD.d3
    have d6 := hD.d6
    have HOB := Lib.hid hob
    clear hDx hBW hob hbx
    go_upto_region 9 with fail
    have hDf := hD.mono (below_alloc wc (.cells #[.int .u64 v0, .int .u64 v1, .int .u64 v3, .slice a l.length c] 27)) hD.lt
    have hBW := hB.trans ((below_alloc wc (.cells #[.int .u64 v0, .int .u64 v1, .int .u64 v3, .slice a l.length c] 27)).mono hB.size)
    have hDx := Box3.new wc 27 v0 v1 v3 a l.length c
    have hobf := HOB.out.rd.mono (below_alloc wc (.cells #[.int .u64 v0, .int .u64 v1, .int .u64 v3, .slice a l.length c] 27))
    obtain ⟨BF, hBF⟩ : ∃ B, wc.heap.size = B := ⟨_, rfl⟩
    rw [hBF] at hDx
    have HBF := Lib.hid hBF
    clear hBF
    try rw [HBF.out]
    generalize wc.alloc (.cells #[.int .u64 v0, .int .u64 v1, .int .u64 v3, .slice a l.length c] 27) = wf at *
    have HOBF := Lib.hid hobf
    clear hobf HOB hD hB d0 d1 d3 d6 HBF
    go_cut [8] from 51 to 55 (fun s wx => ∃ a6 c6, s = .slice a6 (8 * q + Y.length) c6 ∧ OwnB 5 wx wf.heap.size a6 (8 * q + Y.length) c6 (List.replicate (8 * q) 0 ++ Y) ∧ Below wf.heap.size wf wx)
    case first =>
      have hDl : BF < wf.heap.size := hDx.lt
      refine wp_region_any (by kernel_rfl) ?_
      change wpAny _ _ _ _ _ _ _ wf.drew
      have keep : ∀ {wa wb : World}, Below wf.heap.size wf wa → Below wf.heap.size wa wb → (wa.cell? ⟨BF, 0, none⟩ = some (.int .u64 v0) ∧ wa.cell? ⟨BF, 1, none⟩ = some (.int .u64 v1) ∧ wa.cell? ⟨BF, 2, none⟩ = some (.int .u64 v3) ∧ wa.cell? ⟨BF, 3, none⟩ = some (.slice a l.length c)) → (wb.cell? ⟨BF, 0, none⟩ = some (.int .u64 v0) ∧ wb.cell? ⟨BF, 1, none⟩ = some (.int .u64 v1) ∧ wb.cell? ⟨BF, 2, none⟩ = some (.int .u64 v3) ∧ wb.cell? ⟨BF, 3, none⟩ = some (.slice a l.length c)) :=
        fun _ hb ⟨y0, y1, y2, y3⟩ => ⟨bcell hb hDl y0, bcell hb hDl y1, bcell hb hDl y2, bcell hb hDl y3⟩
      have hC : wf.drew.cell? ⟨BF, 0, none⟩ = some (.int .u64 v0) ∧ wf.drew.cell? ⟨BF, 1, none⟩ = some (.int .u64 v1) ∧ wf.drew.cell? ⟨BF, 2, none⟩ = some (.int .u64 v3) ∧ wf.drew.cell? ⟨BF, 3, none⟩ = some (.slice a l.length c) := keep (Below.refl _ _) (below_drew wf) ⟨hDx.d0, hDx.d1, hDx.d2, hDx.d3⟩
      refine wpAny_of_held (S := fun w' => w'.cell? ⟨BF, 0, none⟩ = some (.int .u64 v0) ∧ w'.cell? ⟨BF, 1, none⟩ = some (.int .u64 v1) ∧ w'.cell? ⟨BF, 2, none⟩ = some (.int .u64 v3) ∧ w'.cell? ⟨BF, 3, none⟩ = some (.slice a l.length c)) _ _ _ _ ?_
      refine held_take 0 (d := some 51) (v := .int .i64 (8 * (q : Int))) rfl rfl (by kernel_rfl) (by kernel_rfl) (by kernel_rfl) (fun _ _ _ h => h) hC (by kernel_rfl) (fun w hSw => by obtain ⟨x0, x1, x2, x3⟩ := hSw; go_simp) ?_
      try simp only [Act.put, List.setIfInBounds_toArray, List.set_cons_zero, List.set_cons_succ]
      refine held_take 2 (d := some 53) (v := .agg #[.int .u64 v0, .int .u64 v1, .int .u64 v3, .slice a l.length c]) rfl rfl (by kernel_rfl) (by kernel_rfl) (by kernel_rfl) (fun _ _ _ h => h) hC (by kernel_rfl) (fun w hSw => by obtain ⟨x0, x1, x2, x3⟩ := hSw; go_simp) ?_
      try simp only [Act.put, List.setIfInBounds_toArray, List.set_cons_zero, List.set_cons_succ]
      refine held_two 1 3 rfl rfl (by kernel_rfl) (fun K hK => ?_) (fun K hK => ?_)
      · refine step_makeOwnD (0 : Int) (d := some 52) rfl rfl rfl (base := wf.heap.size) Try.oneB Try.zeroB rfl rfl rfl HNQ.out HNQ.out hb2 hb3 (Nat.le_refl _) ?_
        intro wm hom hbm
        have hC1 := keep (below_drew wf) hbm hC
        have hBm : Below wf.heap.size wf wm := (below_drew wf).trans hbm
        have hzm := hBm.size
        refine hK _ _ hC1 ?_
        clear hK K
        try simp only [Act.put, List.setIfInBounds_toArray, List.set_cons_zero, List.set_cons_succ]
        refine held_one 3 rfl (by kernel_rfl) (fun K hK => ?_)
        go_simp
        go_at_call 14
        refine (putfield_any v0 v1 v3 a _ c l wm (hr.out.mono (hBW.trans (hBm.mono hBW.size))) hl3 g0 g1 g3).mono ?_
        rintro e w5 ⟨a5, c5, rfl, ho5, hb5⟩
        rw [HY.out] at ho5 ⊢
        have hC2 := keep hBm (hb5.mono hzm) hC1
        have hB5 : Below wf.heap.size wf w5 := hBm.trans (hb5.mono hzm)
        have hz5 := hB5.size
        go_simp
        refine hK _ _ hC2 ?_
        clear hK K
        try simp only [Act.put, List.setIfInBounds_toArray, List.set_cons_zero, List.set_cons_succ]
        refine held_one 4 rfl (by kernel_rfl) (fun K hK => ?_)
        refine step_appOwnD (d := some 55) rfl (s := .tmp 52) (x := .tmp 54) rfl rfl Try.oneB rfl rfl (hom.mono hb5) ho5.rd.raw (fun _ => rfl) (by omega) (by omega) hz5 ?_
        intro a6 c6 w6 ho6 hb6
        refine hK _ _ (keep hB5 hb6 hC2) ?_
        clear hK K
        try simp only [Act.put, List.setIfInBounds_toArray, List.set_cons_zero, List.set_cons_succ]
        have HO6 := Lib.hid (show OwnB 5 w6 wf.heap.size a6 (8 * q + Y.length) c6 (List.replicate (8 * q) 0 ++ Y) from ⟨(IsB.replicate _).append ho5.1, ho6⟩)
        have hB6 := hB5.trans hb6
        have hC6 := keep hB5 hb6 hC2
        clear ho6 hom ho5
        refine held_take 5 (d := some 8) (v := .slice a6 (8 * q + Y.length) c6) rfl rfl (by kernel_rfl) (by kernel_rfl) (by kernel_rfl) (fun _ _ _ h => h) hC6 (by kernel_rfl) (fun w hSw => by go_simp) ?_
        try simp only [Act.put, List.setIfInBounds_toArray, List.set_cons_zero, List.set_cons_succ]
        refine wpAnyH_done (by kernel_rfl) ?_ _
        go_wp2_with fail
        go_meet
        exact ⟨a6, c6, rfl, HO6.out, hB6⟩
      · go_simp
        go_at_call 14
        refine (putfield_any v0 v1 v3 a _ c l wf.drew (hr.out.mono (hBW.trans ((below_drew wf).mono hBW.size))) hl3 g0 g1 g3).mono ?_
        rintro e w5 ⟨a5, c5, rfl, ho5, hb5⟩
        rw [HY.out] at ho5 ⊢
        have hC1 := keep (below_drew wf) hb5 hC
        have hB5 : Below wf.heap.size wf w5 := (below_drew wf).trans hb5
        have hz5 := hB5.size
        go_simp
        refine hK _ _ hC1 ?_
        clear hK K
        try simp only [Act.put, List.setIfInBounds_toArray, List.set_cons_zero, List.set_cons_succ]
        refine held_one 1 rfl (by kernel_rfl) (fun K hK => ?_)
        refine step_makeOwnD (0 : Int) (d := some 52) rfl rfl rfl (base := w5.heap.size) Try.oneB Try.zeroB rfl rfl rfl HNQ.out HNQ.out hb2 hb3 (Nat.le_refl _) ?_
        intro wm hom hbm
        have hC2 := keep hB5 (hbm.mono hz5) hC1
        have hBm : Below wf.heap.size wf wm := hB5.trans (hbm.mono hz5)
        have hzm := hBm.size
        refine hK _ _ hC2 ?_
        clear hK K
        try simp only [Act.put, List.setIfInBounds_toArray, List.set_cons_zero, List.set_cons_succ]
        refine held_one 4 rfl (by kernel_rfl) (fun K hK => ?_)
        refine step_appOwnD (d := some 55) rfl (s := .tmp 52) (x := .tmp 54) rfl rfl Try.oneB rfl rfl (hom.base hz5) (ho5.rd.mono hbm).raw (fun _ => rfl) (by omega) (by omega) hzm ?_
        intro a6 c6 w6 ho6 hb6
        refine hK _ _ (keep hBm hb6 hC2) ?_
        clear hK K
        try simp only [Act.put, List.setIfInBounds_toArray, List.set_cons_zero, List.set_cons_succ]
        have HO6 := Lib.hid (show OwnB 5 w6 wf.heap.size a6 (8 * q + Y.length) c6 (List.replicate (8 * q) 0 ++ Y) from ⟨(IsB.replicate _).append ho5.1, ho6⟩)
        have hB6 := hBm.trans hb6
        have hC6 := keep hBm hb6 hC2
        clear ho6 hom ho5
        refine held_take 5 (d := some 8) (v := .slice a6 (8 * q + Y.length) c6) rfl rfl (by kernel_rfl) (by kernel_rfl) (by kernel_rfl) (fun _ _ _ h => h) hC6 (by kernel_rfl) (fun w hSw => by go_simp) ?_
        try simp only [Act.put, List.setIfInBounds_toArray, List.set_cons_zero, List.set_cons_succ]
        refine wpAnyH_done (by kernel_rfl) ?_ _
        go_wp2_with fail
        go_meet
        exact ⟨a6, c6, rfl, HO6.out, hB6⟩
    case rest =>
      obtain ⟨a8, c8, rfl, hoc, hbx⟩ := hcut
      have hDD := hDf.mono hbx hDf.lt
      have hFF := hDx.mono hbx hDx.lt
      have hB := hBW.trans (hbx.mono hBW.size)
      have hrb := HOBF.out.mono hbx
      have hrc := hoc.rd
      clear hDf hDx hBW HOBF hoc hbx d6 hD hb
      obtain ⟨bb, hbb⟩ : ∃ bb, List.replicate (8 * q) 0 ++ X = bb := ⟨_, rfl⟩
      obtain ⟨cc, hcc⟩ : ∃ cc, List.replicate (8 * q) 0 ++ Y = cc := ⟨_, rfl⟩
      rw [hbb] at hrb
      rw [hcc] at hrc
      have hpl : ((List.replicate (8 * q) (0 : Int)).length : Int) = 8 * (q : Int) := by rw [List.length_replicate]; omega
      have hmod : (List.replicate (8 * q) (0 : Int)).length % 8 = 0 := by rw [List.length_replicate]; omega
      have hUD : ∀ v ∈ [v0, v1, v2, v3, v4, v5], U8 v := (U8.cons g0 (U8.cons g1 (U8.cons g2 (U8.cons g3 (U8.cons g4 (U8.cons g5 U8.nil))))))
      have hUF : ∀ v ∈ [v0, v1, v3], U8 v := (U8.cons g0 (U8.cons g1 (U8.cons g3 U8.nil)))
      obtain ⟨f1, f2, f3, f4, f5⟩ := put_back (List.replicate (8 * q) 0) [v0, v1, v2, v3, v4, v5] l 1 hmod (by omega) (by simp) (by omega) hl0 hUD
      obtain ⟨k1, k2, k3, k4, k5⟩ := put_back (List.replicate (8 * q) 0) [v0, v1, v3] l 2 hmod (by omega) (by simp) (by omega) hl0 hUF
      obtain ⟨m1, m2, m3⟩ := put_other (List.replicate (8 * q) 0) [v0, v1, v2, v3, v4, v5] l 1 2 3 hmod (by omega) (by omega) (by simp) (by omega)
      obtain ⟨t1, t2, t3⟩ := put_other (List.replicate (8 * q) 0) [v0, v1, v3] l 2 1 6 hmod (by omega) (by omega) (by simp) (by omega)
      rw [show objL 1 (numsL [v0, v1, v2, v3, v4, v5] ++ l) = X by rw [← HX.out]; exact (if_pos (by omega)).symm, hbb, hpl] at f1 f3 f4 f5 m1 m3
      rw [show objL 2 (numsL [v0, v1, v3] ++ l) = Y by rw [← HY.out]; exact (if_pos (by omega)).symm, hcc, hpl] at k1 k3 k4 k5 t1 t3
      simp only [show objL 1 (numsL [v0, v1, v2, v3, v4, v5] ++ l) = X by rw [← HX.out]; exact (if_pos (by omega)).symm, hbb, hpl] at f2 m2
      simp only [show objL 2 (numsL [v0, v1, v3] ++ l) = Y by rw [← HY.out]; exact (if_pos (by omega)).symm, hcc, hpl] at k2 t2
      have F0 := Lib.hid (show objN bb (8 * (q : Int)) 1 6 0 = v0 from f2 0 (by simp))
      have F1 := Lib.hid (show objN bb (8 * (q : Int)) 1 6 1 = v1 from f2 1 (by simp))
      have F2 := Lib.hid (show objN bb (8 * (q : Int)) 1 6 2 = v2 from f2 2 (by simp))
      have F3 := Lib.hid (show objN bb (8 * (q : Int)) 1 6 3 = v3 from f2 3 (by simp))
      have F4 := Lib.hid (show objN bb (8 * (q : Int)) 1 6 4 = v4 from f2 4 (by simp))
      have F5 := Lib.hid (show objN bb (8 * (q : Int)) 1 6 5 = v5 from f2 5 (by simp))
      have K0 := Lib.hid (show objN cc (8 * (q : Int)) 2 3 0 = v0 from k2 0 (by simp))
      have K1 := Lib.hid (show objN cc (8 * (q : Int)) 2 3 1 = v1 from k2 1 (by simp))
      have K2 := Lib.hid (show objN cc (8 * (q : Int)) 2 3 2 = v3 from k2 2 (by simp))
      have FC := Lib.hid (show objC bb (8 * (q : Int)) 1 6 = 0 from f1)
      have FP := Lib.hid (show objP bb (8 * (q : Int)) 1 6 = l from f3)
      have FV := Lib.hid (show readV bb (8 * (q : Int)) = .agg #[.int .i64 1, .int .i64 0, .int .u64 (64 + (l.length : Int))] by rw [f4, frameV_eq]; congr 3; simp; omega)
      have FR := Lib.hid f5
      have KC := Lib.hid (show objC cc (8 * (q : Int)) 2 3 = 0 from k1)
      have KP := Lib.hid (show objP cc (8 * (q : Int)) 2 3 = l from k3)
      have MC := Lib.hid m1
      have MN := Lib.hid m2
      have MP := Lib.hid m3
      have TC := Lib.hid t1
      have TN := Lib.hid t2
      have TP := Lib.hid t3
      have hXm : X.length % 8 = 0 := by rw [← HX.out, show putO 1 (numsL [v0, v1, v2, v3, v4, v5] ++ l) = objL 1 (numsL [v0, v1, v2, v3, v4, v5] ++ l) from if_pos (by omega)]; exact (objL_mod _ _).1
      have HREM := Lib.hid (show ((X.length : Int) % 8 == 0) = true by rw [beq_iff_eq]; omega)
      clear f1 f2 f3 f4 f5 k1 k2 k3 k4 k5 m1 m2 m3 t1 t2 t3 hbb hcc hpl hmod hUD hUF hXm
      go_wp2_with fail
      refine (readdata_any (8 * (q : Int)) a6 _ c6 bb _ hrb (by omega) hq8 (by omega)).mono ?_
      rintro e x1 ⟨pa, pn, pc, rfl, hrp, hbb⟩
      rw [FP.out] at hrp
      rw [F0.out, F1.out, F2.out, F3.out, F4.out, F5.out, FC.out]
      obtain rfl : l.length = pn := hrp.len
      have hDD := hDD.mono hbb hDD.lt
      have hFF := hFF.mono hbb hFF.lt
      have hrb := hrb.mono hbb
      have hrc := hrc.mono hbb
      have hB := hB.trans (hbb.mono hB.size)
      have hrx := hrp
      clear hbb
      have hbb := below_alloc x1 (.cells #[.int .u64 v0, .int .u64 v1, .int .u64 v2, .int .u64 v3, .int .u64 v4, .int .u64 v5, .slice pa l.length pc] 25)
      have hDD := hDD.mono hbb hDD.lt
      have hFF := hFF.mono hbb hFF.lt
      have hrb := hrb.mono hbb
      have hrc := hrc.mono hbb
      have hB := hB.trans (hbb.mono hB.size)
      have hX9 := Box6.new x1 25 v0 v1 v2 v3 v4 v5 pa l.length pc
      have hrx := hrx.mono hbb
      clear hbb
      go_wp2_with fail
      obtain ⟨PhX9, hphX9⟩ : ∃ P, x1.heap.size = P := ⟨_, rfl⟩
      rw [hphX9] at hX9
      try rw [hphX9]
      clear hphX9
      generalize x1.alloc (.cells #[.int .u64 v0, .int .u64 v1, .int .u64 v2, .int .u64 v3, .int .u64 v4, .int .u64 v5, .slice pa l.length pc] 25) = y1 at *
      go_wp2_with fail
      refine (readfield_any (8 * (q : Int)) a8 _ c8 cc _ hrc (by omega) hq8 (by omega)).mono ?_
      rintro e x2 ⟨pa2, pn2, pc2, rfl, hrp2, hbb⟩
      rw [KP.out] at hrp2
      rw [K0.out, K1.out, K2.out, KC.out]
      obtain rfl : l.length = pn2 := hrp2.len
      have hDD := hDD.mono hbb hDD.lt
      have hFF := hFF.mono hbb hFF.lt
      have hrb := hrb.mono hbb
      have hrc := hrc.mono hbb
      have hrx := hrx.mono hbb
      have hX9 := hX9.mono hbb hX9.lt
      have hB := hB.trans (hbb.mono hB.size)
      have hry := hrp2
      clear hbb
      have hbb := below_alloc x2 (.cells #[.int .u64 v0, .int .u64 v1, .int .u64 v3, .slice pa2 l.length pc2] 27)
      have hDD := hDD.mono hbb hDD.lt
      have hFF := hFF.mono hbb hFF.lt
      have hrb := hrb.mono hbb
      have hrc := hrc.mono hbb
      have hrx := hrx.mono hbb
      have hX9 := hX9.mono hbb hX9.lt
      have hB := hB.trans (hbb.mono hB.size)
      have hY9 := Box3.new x2 27 v0 v1 v3 pa2 l.length pc2
      have hry := hry.mono hbb
      clear hbb
      go_wp2_with fail
      obtain ⟨PhY9, hphY9⟩ : ∃ P, x2.heap.size = P := ⟨_, rfl⟩
      rw [hphY9] at hY9
      try rw [hphY9]
      clear hphY9
      generalize x2.alloc (.cells #[.int .u64 v0, .int .u64 v1, .int .u64 v3, .slice pa2 l.length pc2] 27) = y2 at *
      go_wp2_with fail
      refine (readfield_any (8 * (q : Int)) a6 _ c6 bb _ hrb (by omega) hq8 (by omega)).mono ?_
      rintro e x3 ⟨pa3, pn3, pc3, rfl, hrp3, hbb⟩
      rw [MN.out, MN.out, MN.out, MC.out]
      have hDD := hDD.mono hbb hDD.lt
      have hFF := hFF.mono hbb hFF.lt
      have hrb := hrb.mono hbb
      have hrc := hrc.mono hbb
      have hrx := hrx.mono hbb
      have hX9 := hX9.mono hbb hX9.lt
      have hry := hry.mono hbb
      have hY9 := hY9.mono hbb hY9.lt
      have hB := hB.trans (hbb.mono hB.size)
      clear hbb
      have hbb := below_alloc x3 (.cells #[.int .u64 0, .int .u64 0, .int .u64 0, .slice pa3 pn3 pc3] 27)
      have hDD := hDD.mono hbb hDD.lt
      have hFF := hFF.mono hbb hFF.lt
      have hrb := hrb.mono hbb
      have hrc := hrc.mono hbb
      have hrx := hrx.mono hbb
      have hX9 := hX9.mono hbb hX9.lt
      have hry := hry.mono hbb
      have hY9 := hY9.mono hbb hY9.lt
      have hB := hB.trans (hbb.mono hB.size)
      clear hbb
      go_wp2_with fail
      generalize x3.alloc (.cells #[.int .u64 0, .int .u64 0, .int .u64 0, .slice pa3 pn3 pc3] 27) = y3 at *
      go_wp2_with fail
      refine (readdata_any (8 * (q : Int)) a8 _ c8 cc _ hrc (by omega) hq8 (by omega)).mono ?_
      rintro e x4 ⟨pa4, pn4, pc4, rfl, hrp4, hbb⟩
      rw [TN.out, TN.out, TN.out, TN.out, TN.out, TN.out, TC.out]
      have hDD := hDD.mono hbb hDD.lt
      have hFF := hFF.mono hbb hFF.lt
      have hrb := hrb.mono hbb
      have hrc := hrc.mono hbb
      have hrx := hrx.mono hbb
      have hX9 := hX9.mono hbb hX9.lt
      have hry := hry.mono hbb
      have hY9 := hY9.mono hbb hY9.lt
      have hB := hB.trans (hbb.mono hB.size)
      clear hbb
      have hbb := below_alloc x4 (.cells #[.int .u64 0, .int .u64 0, .int .u64 0, .int .u64 0, .int .u64 0, .int .u64 0, .slice pa4 pn4 pc4] 25)
      have hDD := hDD.mono hbb hDD.lt
      have hFF := hFF.mono hbb hFF.lt
      have hrb := hrb.mono hbb
      have hrc := hrc.mono hbb
      have hrx := hrx.mono hbb
      have hX9 := hX9.mono hbb hX9.lt
      have hry := hry.mono hbb
      have hY9 := hY9.mono hbb hY9.lt
      have hB := hB.trans (hbb.mono hB.size)
      clear hbb
      go_wp2_with fail
      generalize x4.alloc (.cells #[.int .u64 0, .int .u64 0, .int .u64 0, .int .u64 0, .int .u64 0, .int .u64 0, .slice pa4 pn4 pc4] 25) = y4 at *
      go_wp2_with fail
      refine (objread_any (8 * (q : Int)) a6 _ c6 bb _ hrb (by omega) hq8 (by omega)).mono ?_
      rintro e x5 ⟨rfl, hbb⟩
      rw [FV.out, FR.out]
      have hDD := hDD.mono hbb hDD.lt
      have hFF := hFF.mono hbb hFF.lt
      have hrb := hrb.mono hbb
      have hrc := hrc.mono hbb
      have hrx := hrx.mono hbb
      have hX9 := hX9.mono hbb hX9.lt
      have hry := hry.mono hbb
      have hY9 := hY9.mono hbb hY9.lt
      have hB := hB.trans (hbb.mono hB.size)
      clear hbb
      have hbb := below_alloc x5 (.cells #[.int .i64 1, .int .i64 0, .int .u64 (64 + (l.length : Int))] 42)
      have hDD := hDD.mono hbb hDD.lt
      have hFF := hFF.mono hbb hFF.lt
      have hrb := hrb.mono hbb
      have hrc := hrc.mono hbb
      have hrx := hrx.mono hbb
      have hX9 := hX9.mono hbb hX9.lt
      have hry := hry.mono hbb
      have hY9 := hY9.mono hbb hY9.lt
      have hB := hB.trans (hbb.mono hB.size)
      have hZ9 := FrameB.new x5 42 1 0 (64 + (l.length : Int))
      clear hbb
      have HS1 := Lib.hid (same_any _ _ _ _ _ _ l l _ hrx (hr.out.mono hB))
      have HS2 := Lib.hid (same_any _ _ _ _ _ _ l l _ hry (hr.out.mono hB))
      rw [decide_eq_true rfl] at HS1 HS2
      have HBB := Lib.hid hB
      have hDD0 := hDD.d0
      have hDD1 := hDD.d1
      have hDD2 := hDD.d2
      have hDD3 := hDD.d3
      have hDD4 := hDD.d4
      have hDD5 := hDD.d5
      have hDD6 := hDD.d6
      have hFF0 := hFF.d0
      have hFF1 := hFF.d1
      have hFF2 := hFF.d2
      have hFF3 := hFF.d3
      have hX90 := hX9.d0
      have hX91 := hX9.d1
      have hX92 := hX9.d2
      have hX93 := hX9.d3
      have hX94 := hX9.d4
      have hX95 := hX9.d5
      have hX96 := hX9.d6
      have hY90 := hY9.d0
      have hY91 := hY9.d1
      have hY92 := hY9.d2
      have hY93 := hY9.d3
      have hZ90 := hZ9.d0
      have hZ91 := hZ9.d1
      have hZ92 := hZ9.d2
      clear hDD hFF hX9 hY9 hZ9 hrb hrc hrx hry hB hrp hrp2 hrp3 hrp4
      go_wp2_with fail
      refine HS1.out.mono ?_
      rintro e z1 ⟨rfl, rfl⟩
      go_wp2_with fail
      refine HS2.out.mono ?_
      rintro e z1 ⟨rfl, rfl⟩
      go_wp2_with fail
      go_ret
      exact ⟨ret_bool HREM.out, HBB.out⟩
end Go.Proofs.Ytfhpdhfhahbfnaa
