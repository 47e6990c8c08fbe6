/- Contracts and plain laws that this claim uses, each with its conditions as premises. -/
import Derived.Test.YtpkmdnfkeebgbaaJm9
import Derived.Test.YtpkmdnfkeebgbaaJm8
import Derived.Test.YtpkmdnfkeebgbaaJm3
import Derived.Test.YtpkmdnfkeebgbaaJm2
/- The document's Maker is made. Conditions stand as premises. -/
namespace Go.Proofs.Ytpkmdnfkeebgbaa
open Go.ChangeShapes Go.WideShapes Go.ChangeAt Go.RowKit
set_option linter.unusedVariables false
set_option linter.unusedSimpArgs false
theorem Try.slotInf : (Try.prog.info? 123).map (fun i => (i.zero, i.size, i.bytes)) = some (some (.agg #[.int .u64 0, .int .u64 0]), 2, 16) := by kernel_rfl
theorem Try.twoSl : TwoInfo Try.prog 99 123 16 := by
  obtain ⟨i, hi, h0, h1, h2⟩ := info_parts Try.slotInf
  exact ⟨Try.underlying99, i, _, hi, h0, h1, h2, rfl⟩
theorem Try.slotZ : (Try.prog.info? 123).map (fun i => i.zero) = some (some (.agg #[.int .u64 0, .int .u64 0])) := by kernel_rfl
theorem Try.u8Z : (Try.prog.info? 5).map (fun i => i.zero) = some (some (.int .u8 0)) := by kernel_rfl
theorem Try.builtM0 (a0 a1 a2 a3 a4 a5 a6 a7 a8 a9 a10 a11 a12 a13 a14 a15 b0 b1 b2 b3 b4 b5 b6 b7 b8 b9 b10 b11 b12 b13 b14 b15 c0 c1 c2 c3 c4 c5 c6 c7 c8 c9 c10 c11 c12 c13 c14 c15 : Int) (D F : Nat) (kd : Bool) (a : Option Addr) (n c : Nat) : Try.prog.built 96 [(0, .agg (cfgL [a0, a1, a2, a3, a4, a5, a6, a7, a8, a9, a10, a11, a12, a13, a14, a15] [b0, b1, b2, b3, b4, b5, b6, b7, b8, b9, b10, b11, b12, b13, b14, b15] [c0, c1, c2, c3, c4, c5, c6, c7, c8, c9, c10, c11, c12, c13, c14, c15] D F kd).toArray), (3, .slice a n c)] = some (mkL (mk0 (cfgL [a0, a1, a2, a3, a4, a5, a6, a7, a8, a9, a10, a11, a12, a13, a14, a15] [b0, b1, b2, b3, b4, b5, b6, b7, b8, b9, b10, b11, b12, b13, b14, b15] [c0, c1, c2, c3, c4, c5, c6, c7, c8, c9, c10, c11, c12, c13, c14, c15] D F kd) zeroR (a, n, c) [])).toArray := by kernel_rfl
theorem Try.builtM (A B C : List Int) (D F : Nat) (kd : Bool) (hA : A.length = 16) (hB : B.length = 16) (hC : C.length = 16) (a : Option Addr) (n c : Nat) : Try.prog.built 96 [(0, .agg (cfgL A B C D F kd).toArray), (3, .slice a n c)] = some (mkL (mk0 (cfgL A B C D F kd) zeroR (a, n, c) [])).toArray := by
  obtain ⟨a0, a1, a2, a3, a4, a5, a6, a7, a8, a9, a10, a11, a12, a13, a14, a15, rfl⟩ := list16 hA
  obtain ⟨b0, b1, b2, b3, b4, b5, b6, b7, b8, b9, b10, b11, b12, b13, b14, b15, rfl⟩ := list16 hB
  obtain ⟨c0, c1, c2, c3, c4, c5, c6, c7, c8, c9, c10, c11, c12, c13, c14, c15, rfl⟩ := list16 hC
  exact Try.builtM0 a0 a1 a2 a3 a4 a5 a6 a7 a8 a9 a10 a11 a12 a13 a14 a15 b0 b1 b2 b3 b4 b5 b6 b7 b8 b9 b10 b11 b12 b13 b14 b15 c0 c1 c2 c3 c4 c5 c6 c7 c8 c9 c10 c11 c12 c13 c14 c15 D F kd a n c
def z16 : List Int := [0, 0, 0, 0, 0, 0, 0, 0, 0, 0, 0, 0, 0, 0, 0, 0]
theorem Try.builtNH0 (a0 a1 a2 a3 a4 a5 a6 a7 a8 a9 a10 a11 a12 a13 a14 a15 b0 b1 b2 b3 b4 b5 b6 b7 b8 b9 b10 b11 b12 b13 b14 b15 c0 c1 c2 c3 c4 c5 c6 c7 c8 c9 c10 c11 c12 c13 c14 c15 : Int) : Try.prog.built 34 [(0, .int .u32 2), (2, .int .i64 1), (3, .agg ([a0, a1, a2, a3, a4, a5, a6, a7, a8, a9, a10, a11, a12, a13, a14, a15].map (Value.int .u8)).toArray), (4, .agg ([b0, b1, b2, b3, b4, b5, b6, b7, b8, b9, b10, b11, b12, b13, b14, b15].map (Value.int .u8)).toArray), (6, .agg ([c0, c1, c2, c3, c4, c5, c6, c7, c8, c9, c10, c11, c12, c13, c14, c15].map (Value.int .u8)).toArray)] = some (headL 2 0 1 ([a0, a1, a2, a3, a4, a5, a6, a7, a8, a9, a10, a11, a12, a13, a14, a15] ++ [b0, b1, b2, b3, b4, b5, b6, b7, b8, b9, b10, b11, b12, b13, b14, b15] ++ z16 ++ [c0, c1, c2, c3, c4, c5, c6, c7, c8, c9, c10, c11, c12, c13, c14, c15]) z20 0 0 0).toArray := by kernel_rfl
theorem Try.builtNH (A B C : List Int) (hA : A.length = 16) (hB : B.length = 16) (hC : C.length = 16) : Try.prog.built 34 [(0, .int .u32 2), (2, .int .i64 1), (3, .agg (A.map (Value.int .u8)).toArray), (4, .agg (B.map (Value.int .u8)).toArray), (6, .agg (C.map (Value.int .u8)).toArray)] = some (headL 2 0 1 (A ++ B ++ z16 ++ C) z20 0 0 0).toArray := by
  obtain ⟨a0, a1, a2, a3, a4, a5, a6, a7, a8, a9, a10, a11, a12, a13, a14, a15, rfl⟩ := list16 hA
  obtain ⟨b0, b1, b2, b3, b4, b5, b6, b7, b8, b9, b10, b11, b12, b13, b14, b15, rfl⟩ := list16 hB
  obtain ⟨c0, c1, c2, c3, c4, c5, c6, c7, c8, c9, c10, c11, c12, c13, c14, c15, rfl⟩ := list16 hC
  exact Try.builtNH0 a0 a1 a2 a3 a4 a5 a6 a7 a8 a9 a10 a11 a12 a13 a14 a15 b0 b1 b2 b3 b4 b5 b6 b7 b8 b9 b10 b11 b12 b13 b14 b15 c0 c1 c2 c3 c4 c5 c6 c7 c8 c9 c10 c11 c12 c13 c14 c15
def NewE (w : World) (D F : Nat) (kd : Bool) (e : Ending) (w' : World) : Prop := ∃ (M : Nat) (x : Mk), e = .returned (.pointer (some ⟨M, 0, none⟩)) ∧ MkE w.heap.size M D F kd 0 x w' ∧ Below w.heap.size w w' ∧ x.ds = []
set_option maxRecDepth 100000 in
set_option maxHeartbeats 4000000 in
theorem new_lo (X Y Z : List Int) (D F : Nat) (kd : Bool) (hX : IsB X) (hY : IsB Y) (hZ : IsB Z) (hXl : X.length = 16) (hYl : Y.length = 16) (hZl : Z.length = 16) (hD : 1 ≤ D ∧ D ≤ 7) (hF : 1 ≤ F ∧ F ≤ 4) (after : Int) (haf : U64 after) (w : World) :
    Calls Try.prog 40 #[.agg (cfgL X Y Z D F kd).toArray, .int .u64 after] w (NewE w D F kd) := by
  have HX := Lib.hid hX
  have HY := Lib.hid hY
  have HZ := Lib.hid hZ
  have HXl := Lib.hid hXl
  have HYl := Lib.hid hYl
  have HZl := Lib.hid hZl
  have HAf := Lib.hid haf
  have HC48 := Lib.hid (show (cfgL X Y Z D F kd)[48]? = some (.int .i64 (D : Int)) from cfgL_tail hXl hYl hZl 0)
  have HC49 := Lib.hid (show (cfgL X Y Z D F kd)[49]? = some (.int .i64 (F : Int)) from cfgL_tail hXl hYl hZl 1)
  have HC51 := Lib.hid (show (cfgL X Y Z D F kd)[51]? = some (.bool kd) from cfgL_tail hXl hYl hZl 3)
  have HCl := Lib.hid (cfgL_length (D := D) (F := F) (kd := kd) hXl hYl hZl)
  have HBM := Lib.hid (fun (a : Option Addr) (n c : Nat) => Try.builtM X Y Z D F kd hXl hYl hZl a n c)
  have HBH := Lib.hid (Try.builtNH X Y Z hXl hYl hZl)
  clear hX hY hZ hXl hYl hZl haf
  obtain ⟨hD1, hD2⟩ := hD
  obtain ⟨hF1, hF2⟩ := hF
  go_enter Try.func40, Try.ntmps40
  go_upto_region 1 with fail
  have hX1 := heap_alloc_new w (.cells (cfgL X Y Z D F kd).toArray 83)
  have HB1 := Lib.hid (below_alloc w (.cells (cfgL X Y Z D F kd).toArray 83))
  obtain ⟨CB, hCB⟩ : ∃ CB, w.heap.size = CB := ⟨_, rfl⟩
  have HCB := Lib.hid hCB
  generalize w.alloc (.cells (cfgL X Y Z D F kd).toArray 83) = w1 at hX1 HB1 ⊢
  rw [hCB] at hX1 ⊢
  have HX1 := Lib.hid hX1
  clear hX1 hCB
  have HBd := Lib.hid (HB1.out.trans ((below_drew w1).mono HB1.out.size))
  have hC : w1.drew.heap[CB]? = some (.cells (cfgL X Y Z D F kd).toArray 83 (0, 0)) := HX1.out
  have hCl : CB < w1.drew.heap.size := lt_of_heap HX1.out
  have hcs : (cfgL X Y Z D F kd).toArray.size = 52 := HCl.out
  have HCs := Lib.hid hcs
  clear hcs
  go_upto_region 1 with fail
  refine wp_region_held (S := fun w' => w'.heap[CB]? = some (.cells (cfgL X Y Z D F kd).toArray 83 (0, 0))) (by kernel_rfl) ?_
  change wpAnyH _ _ _ _ _ _ _ _ w1.drew
  generalize w1.drew = wd at hC hCl HBd ⊢
  refine held_take 0 (d := some 7) (v := (.agg (cfgL X Y Z D F kd).toArray)) rfl rfl (by kernel_rfl) (by kernel_rfl) (by kernel_rfl) (fun _ _ _ h => h) hC (by kernel_rfl) (fun w hSw => by exact exec_loadS rfl Try.cfgI rfl hSw HCs.out) ?_
  try simp only [Act.put, List.setIfInBounds_toArray, List.set_cons_zero, List.set_cons_succ]
  refine held_one 1 rfl (by kernel_rfl) (fun K hK => ?_)
  refine step_makeOwnD (enc := Value.int .u8) (d := some 8) (0 : Int) rfl rfl rfl Try.oneB Try.u8Z rfl (n := 272) rfl rfl rfl rfl (by omega) (by omega) (Nat.le_refl _) ?_
  intro wm hom hbm
  have hsz : wd.heap.size < wm.heap.size := (hom.lt _ rfl).2
  have hCm : wm.heap[CB]? = some (.cells (cfgL X Y Z D F kd).toArray 83 (0, 0)) := row_below hbm hCl hC
  have HBm := Lib.hid (HBd.out.trans (hbm.mono HBd.out.size))
  have HOm := Lib.hid (hom.base HBd.out.size)
  obtain ⟨BB, hBB⟩ : ∃ BB, wd.heap.size = BB := ⟨_, rfl⟩
  refine hK _ _ hCm ?_
  clear hK K
  try simp only [Act.put, List.setIfInBounds_toArray, List.set_cons_zero, List.set_cons_succ]
  rw [hBB] at HOm hsz ⊢
  have hCBB : CB < BB := by omega
  refine held_take 2 (d := some 9) (v := (.agg (mkL (mk0 (cfgL X Y Z D F kd) zeroR (some ⟨BB, 0, none⟩, 272, 272) [])).toArray)) rfl rfl (by kernel_rfl) (by kernel_rfl) (by kernel_rfl) (fun _ _ _ h => h) hCm (by kernel_rfl) (fun w hSw => by exact exec_buildS rfl (by have h0 := HBM.out (some ⟨BB, 0, none⟩) 272 272; go_simp)) ?_
  try simp only [Act.put, List.setIfInBounds_toArray, List.set_cons_zero, List.set_cons_succ]
  refine held_one 3 rfl (by kernel_rfl) (fun K hK => ?_)
  go_simp
  have hBal := below_alloc wm (.cells (mkL (mk0 (cfgL X Y Z D F kd) zeroR (some ⟨BB, 0, none⟩, 272, 272) [])).toArray 96)
  have hNew := heap_alloc_new wm (.cells (mkL (mk0 (cfgL X Y Z D F kd) zeroR (some ⟨BB, 0, none⟩, 272, 272) [])).toArray 96)
  have hCa := row_below hBal (show CB < wm.heap.size by omega) hCm
  obtain ⟨M, hM⟩ : ∃ M, wm.heap.size = M := ⟨_, rfl⟩
  have hn2 : NM w M CB (cfgL X Y Z D F kd) zeroR (some ⟨BB, 0, none⟩, 272, 272) (List.replicate 272 0) (wm.alloc (.cells (mkL (mk0 (cfgL X Y Z D F kd) zeroR (some ⟨BB, 0, none⟩, 272, 272) [])).toArray 96)) :=
    { row := by rw [← hM]; exact hNew, cl := HCl.out, hl := rfl, bB := IsB.replicate 272, bO := HOm.out.mono hBal, nb := fun e => by simp [blk] at e; omega, cb := hCa, nc := fun e => by simp [blk] at e; omega, ne := by omega
      bM := by rw [← hM]; exact HBm.out.size, bC := Nat.le_of_eq HCB.out, bel := HBm.out.trans (hBal.mono HBm.out.size) }
  refine hK _ _ hCa ?_
  clear hK K
  rw [hM]
  try simp only [Act.put, List.setIfInBounds_toArray, List.set_cons_zero, List.set_cons_succ]
  generalize wm.alloc (.cells (mkL (mk0 (cfgL X Y Z D F kd) zeroR (some ⟨BB, 0, none⟩, 272, 272) [])).toArray 96) = w2 at hCa hn2 ⊢
  refine held_take 4 (d := some 5) (v := (.pointer (some ⟨M, 0, none⟩))) rfl rfl (by kernel_rfl) (by kernel_rfl) (by kernel_rfl) (fun _ _ _ h => h) hCa (by kernel_rfl) (fun w hSw => by clear hSw; go_simp) ?_
  try simp only [Act.put, List.setIfInBounds_toArray, List.set_cons_zero, List.set_cons_succ]
  refine wpAnyH_done (by kernel_rfl) ?_ _
  obtain ⟨b2, hn2⟩ : ∃ b2 : SL, NM w M CB (cfgL X Y Z D F kd) zeroR b2 (List.replicate 272 0) w2 := ⟨_, hn2⟩
  have HN2 := Lib.hid hn2
  clear hCa hn2 hNew hBal hM hCBB hCm hsz hBB hC hCl hom hbm
  go_upto_region 2 with fail
  have HNd2 := Lib.hid (HN2.out.below (below_drew _))
  have hC : _ := HNd2.out.cC 48 (.int .i64 (D : Int)) HC48.out
  have HPT := Lib.hid (fun (aq : Option Addr) (cq : Nat) (w' : World) (hq : RdP w' aq D cq (List.replicate D (0, 0))) => refputtab_any 4 aq D cq (List.replicate D (0, 0)) w' hq (fun p hp => by rw [List.eq_of_mem_replicate hp]; exact ⟨⟨by show (0:Int) ≤ 0; omega, by show (0:Int) ≤ _; omega⟩, ⟨by show (0:Int) ≤ 0; omega, by show (0:Int) ≤ _; omega⟩⟩) (by omega))
  have hpl := putTab_len 4 D rfl
  have HPB := Lib.hid (putTab_isB 4 D rfl)
  unfold NewB at HPT
  rw [hpl] at HPT
  generalize putTabL 4 (List.replicate D (0, 0)) = TA at HPT hpl HPB
  have HTA := Lib.hid hpl
  clear hpl
  have hbl : (List.replicate 272 0).length = b2.2.1 := HN2.out.bO.1
  have hbn2 : b2.2.1 ≤ 1000 := by rw [← hbl, List.length_replicate]; omega
  have Hbl := Lib.hid hbl
  clear hbl
  go_cut [] from 11 to 22 (fun wx => ∃ b', NM w M CB (cfgL X Y Z D F kd) zeroR b' (List.replicate 272 0 ++ TA) wx)
  case first =>
    refine wp_region_held (S := fun w' => w'.cell? ⟨CB, 48, none⟩ = some (.int .i64 (D : Int))) (by kernel_rfl) ?_
    change wpAnyH _ _ _ _ _ _ _ _ (w2).drew
    generalize (w2).drew = wd at hC HNd2 ⊢
    refine held_take 0 (d := some 11) (v := (.pointer (some ⟨M, 0, none⟩))) rfl rfl (by kernel_rfl) (by kernel_rfl) (by kernel_rfl) (fun _ _ _ h => h) hC (by kernel_rfl) (fun w hSw => by clear HNd2; go_simp) ?_
    try simp only [Act.put, List.setIfInBounds_toArray, List.set_cons_zero, List.set_cons_succ]
    refine held_take 1 (d := some 12) (v := (.pointer (some ⟨M, 0, none⟩))) rfl rfl (by kernel_rfl) (by kernel_rfl) (by kernel_rfl) (fun _ _ _ h => h) hC (by kernel_rfl) (fun w hSw => by clear HNd2; go_simp) ?_
    try simp only [Act.put, List.setIfInBounds_toArray, List.set_cons_zero, List.set_cons_succ]
    refine held_take 2 (d := some 13) (v := (.pointer (some ⟨M, 0, none⟩))) rfl rfl (by kernel_rfl) (by kernel_rfl) (by kernel_rfl) (fun _ _ _ h => h) hC (by kernel_rfl) (fun w hSw => by clear HNd2; go_simp) ?_
    try simp only [Act.put, List.setIfInBounds_toArray, List.set_cons_zero, List.set_cons_succ]
    refine held_take 3 (d := some 14) (v := (.pointer (some ⟨M, 143, none⟩))) rfl rfl (by kernel_rfl) (by kernel_rfl) (by kernel_rfl) (fun _ _ _ h => h) hC (by kernel_rfl) (fun w hSw => by clear HNd2; go_simp) ?_
    try simp only [Act.put, List.setIfInBounds_toArray, List.set_cons_zero, List.set_cons_succ]
    refine held_take 5 (d := some 16) (v := (.pointer (some ⟨CB, 48, none⟩))) rfl rfl (by kernel_rfl) (by kernel_rfl) (by kernel_rfl) (fun _ _ _ h => h) hC (by kernel_rfl) (fun w hSw => by clear HNd2; go_simp) ?_
    try simp only [Act.put, List.setIfInBounds_toArray, List.set_cons_zero, List.set_cons_succ]
    refine held_take 6 (d := some 17) (v := (.int .i64 (D : Int))) rfl rfl (by kernel_rfl) (by kernel_rfl) (by kernel_rfl) (fun _ _ _ h => h) hC (by kernel_rfl) (fun w hSw => by clear HNd2; go_simp) ?_
    try simp only [Act.put, List.setIfInBounds_toArray, List.set_cons_zero, List.set_cons_succ]
    have cM := HNd2.out.c143
    refine held_two 4 7 rfl rfl (by kernel_rfl) (fun K hK => ?_) (fun K hK => ?_)
    · go_simp
      refine hK _ _ hC ?_
      clear hK K
      try simp only [Act.put, List.setIfInBounds_toArray, List.set_cons_zero, List.set_cons_succ, Nat.zero_add]
      refine held_one 7 rfl (by kernel_rfl) (fun K hK => ?_)
      refine step_makePD (d := some 18) rfl rfl rfl Try.twoSl Try.slotZ (n := D) (by go_simp) (by go_simp) (by omega) (by omega) ?_
      intro wdk hop hbp
      have HRPwdk := Lib.hid hop.rd
      have HNwdk := Lib.hid (HNd2.out.below hbp)
      have cM := HNwdk.out.c143
      have hC : _ := HNwdk.out.cC 48 (.int .i64 (D : Int)) HC48.out
      refine hK _ _ hC ?_
      clear hK K hop hbp
      try simp only [Act.put, List.setIfInBounds_toArray, List.set_cons_zero, List.set_cons_succ, Nat.zero_add]
      refine held_one 8 rfl (by kernel_rfl) (fun K hK => ?_)
      go_simp
      go_at_call 47
      refine (HPT.out _ _ _ HRPwdk.out).mono ?_
      rintro e wdkp ⟨ap, cp, rfl, hop, hbp⟩
      have HRBwdkp := Lib.hid hop.rd
      have HNwdkp := Lib.hid (HNwdk.out.below hbp)
      have cM := HNwdkp.out.c143
      have hC : _ := HNwdkp.out.cC 48 (.int .i64 (D : Int)) HC48.out
      clear hop hbp
      go_simp
      refine hK _ _ hC ?_
      clear hK K
      try simp only [Act.put, List.setIfInBounds_toArray, List.set_cons_zero, List.set_cons_succ, Nat.zero_add]
      refine held_one 9 rfl (by kernel_rfl) (fun K hK => ?_)
      refine step_appAtD (d := some 20) rfl rfl rfl Try.oneB (by go_simp) (by go_simp) HNwdkp.out.bO HRBwdkp.out.2 (fun _ => rfl) (by omega) (by omega) HNwdkp.out.bel.size ?_
      intro a9 c9 w9 ho9 hu9 hn9
      have c143 := ucell hu9 HNwdkp.out.nb HNwdkp.out.c143
      have f143 := ufree hu9 (lt_of_heap HNwdkp.out.row) HNwdkp.out.nb (HNwdkp.out.free 143)
      have HN9 := Lib.hid (HNwdkp.out.newB ho9 (HNwdkp.out.bB.append HRBwdkp.out.1) hu9 hn9)
      have hC : w9.cell? ⟨CB, 48, none⟩ = some (.int .i64 (D : Int)) := ucell hu9 HNwdkp.out.nc hC
      refine hK _ _ hC ?_
      clear hK K ho9 hu9 hn9
      try simp only [Act.put, List.setIfInBounds_toArray, List.set_cons_zero, List.set_cons_succ, Nat.zero_add]
      refine held_take 10 (d := some 21) (v := (.pointer (some ⟨M, 0, none⟩))) rfl rfl (by kernel_rfl) (by kernel_rfl) (by kernel_rfl) (fun _ _ _ h => h) hC (by kernel_rfl) (fun w hSw => by clear HNd2; go_simp) ?_
      try simp only [Act.put, List.setIfInBounds_toArray, List.set_cons_zero, List.set_cons_succ]
      refine held_take 11 (d := some 22) (v := (.pointer (some ⟨M, 143, none⟩))) rfl rfl (by kernel_rfl) (by kernel_rfl) (by kernel_rfl) (fun _ _ _ h => h) hC (by kernel_rfl) (fun w hSw => by clear HNd2; go_simp) ?_
      try simp only [Act.put, List.setIfInBounds_toArray, List.set_cons_zero, List.set_cons_succ]
      refine held_one 12 rfl (by kernel_rfl) (fun K hK => ?_)
      go_simp
      have hC : _ := HN9.out.cC 48 (.int .i64 (D : Int)) HC48.out
      refine hK _ _ hC ?_
      clear hK K
      try simp only [Act.put, List.setIfInBounds_toArray, List.set_cons_zero, List.set_cons_succ, Nat.zero_add]
      refine wpAnyH_done (by kernel_rfl) ?_ _
      go_wp2_with fail
      go_meet
      exact ⟨_, HN9.out⟩
    · refine step_makePD (d := some 18) rfl rfl rfl Try.twoSl Try.slotZ (n := D) (by go_simp) (by go_simp) (by omega) (by omega) ?_
      intro wdk hop hbp
      have HRPwdk := Lib.hid hop.rd
      have HNwdk := Lib.hid (HNd2.out.below hbp)
      have cM := HNwdk.out.c143
      have hC : _ := HNwdk.out.cC 48 (.int .i64 (D : Int)) HC48.out
      refine hK _ _ hC ?_
      clear hK K hop hbp
      try simp only [Act.put, List.setIfInBounds_toArray, List.set_cons_zero, List.set_cons_succ, Nat.zero_add]
      refine held_two 4 8 rfl rfl (by kernel_rfl) (fun K hK => ?_) (fun K hK => ?_)
      · go_simp
        refine hK _ _ hC ?_
        clear hK K
        try simp only [Act.put, List.setIfInBounds_toArray, List.set_cons_zero, List.set_cons_succ, Nat.zero_add]
        refine held_one 8 rfl (by kernel_rfl) (fun K hK => ?_)
        go_simp
        go_at_call 47
        refine (HPT.out _ _ _ HRPwdk.out).mono ?_
        rintro e wdkp ⟨ap, cp, rfl, hop, hbp⟩
        have HRBwdkp := Lib.hid hop.rd
        have HNwdkp := Lib.hid (HNwdk.out.below hbp)
        have cM := HNwdkp.out.c143
        have hC : _ := HNwdkp.out.cC 48 (.int .i64 (D : Int)) HC48.out
        clear hop hbp
        go_simp
        refine hK _ _ hC ?_
        clear hK K
        try simp only [Act.put, List.setIfInBounds_toArray, List.set_cons_zero, List.set_cons_succ, Nat.zero_add]
        refine held_one 9 rfl (by kernel_rfl) (fun K hK => ?_)
        refine step_appAtD (d := some 20) rfl rfl rfl Try.oneB (by go_simp) (by go_simp) HNwdkp.out.bO HRBwdkp.out.2 (fun _ => rfl) (by omega) (by omega) HNwdkp.out.bel.size ?_
        intro a9 c9 w9 ho9 hu9 hn9
        have c143 := ucell hu9 HNwdkp.out.nb HNwdkp.out.c143
        have f143 := ufree hu9 (lt_of_heap HNwdkp.out.row) HNwdkp.out.nb (HNwdkp.out.free 143)
        have HN9 := Lib.hid (HNwdkp.out.newB ho9 (HNwdkp.out.bB.append HRBwdkp.out.1) hu9 hn9)
        have hC : w9.cell? ⟨CB, 48, none⟩ = some (.int .i64 (D : Int)) := ucell hu9 HNwdkp.out.nc hC
        refine hK _ _ hC ?_
        clear hK K ho9 hu9 hn9
        try simp only [Act.put, List.setIfInBounds_toArray, List.set_cons_zero, List.set_cons_succ, Nat.zero_add]
        refine held_take 10 (d := some 21) (v := (.pointer (some ⟨M, 0, none⟩))) rfl rfl (by kernel_rfl) (by kernel_rfl) (by kernel_rfl) (fun _ _ _ h => h) hC (by kernel_rfl) (fun w hSw => by clear HNd2; go_simp) ?_
        try simp only [Act.put, List.setIfInBounds_toArray, List.set_cons_zero, List.set_cons_succ]
        refine held_take 11 (d := some 22) (v := (.pointer (some ⟨M, 143, none⟩))) rfl rfl (by kernel_rfl) (by kernel_rfl) (by kernel_rfl) (fun _ _ _ h => h) hC (by kernel_rfl) (fun w hSw => by clear HNd2; go_simp) ?_
        try simp only [Act.put, List.setIfInBounds_toArray, List.set_cons_zero, List.set_cons_succ]
        refine held_one 12 rfl (by kernel_rfl) (fun K hK => ?_)
        go_simp
        have hC : _ := HN9.out.cC 48 (.int .i64 (D : Int)) HC48.out
        refine hK _ _ hC ?_
        clear hK K
        try simp only [Act.put, List.setIfInBounds_toArray, List.set_cons_zero, List.set_cons_succ, Nat.zero_add]
        refine wpAnyH_done (by kernel_rfl) ?_ _
        go_wp2_with fail
        go_meet
        exact ⟨_, HN9.out⟩
      · go_simp
        go_at_call 47
        refine (HPT.out _ _ _ HRPwdk.out).mono ?_
        rintro e wdkp ⟨ap, cp, rfl, hop, hbp⟩
        have HRBwdkp := Lib.hid hop.rd
        have HNwdkp := Lib.hid (HNwdk.out.below hbp)
        have cM := HNwdkp.out.c143
        have hC : _ := HNwdkp.out.cC 48 (.int .i64 (D : Int)) HC48.out
        clear hop hbp
        go_simp
        refine hK _ _ hC ?_
        clear hK K
        try simp only [Act.put, List.setIfInBounds_toArray, List.set_cons_zero, List.set_cons_succ, Nat.zero_add]
        refine held_one 4 rfl (by kernel_rfl) (fun K hK => ?_)
        go_simp
        refine hK _ _ hC ?_
        clear hK K
        try simp only [Act.put, List.setIfInBounds_toArray, List.set_cons_zero, List.set_cons_succ, Nat.zero_add]
        refine held_one 9 rfl (by kernel_rfl) (fun K hK => ?_)
        refine step_appAtD (d := some 20) rfl rfl rfl Try.oneB (by go_simp) (by go_simp) HNwdkp.out.bO HRBwdkp.out.2 (fun _ => rfl) (by omega) (by omega) HNwdkp.out.bel.size ?_
        intro a9 c9 w9 ho9 hu9 hn9
        have c143 := ucell hu9 HNwdkp.out.nb HNwdkp.out.c143
        have f143 := ufree hu9 (lt_of_heap HNwdkp.out.row) HNwdkp.out.nb (HNwdkp.out.free 143)
        have HN9 := Lib.hid (HNwdkp.out.newB ho9 (HNwdkp.out.bB.append HRBwdkp.out.1) hu9 hn9)
        have hC : w9.cell? ⟨CB, 48, none⟩ = some (.int .i64 (D : Int)) := ucell hu9 HNwdkp.out.nc hC
        refine hK _ _ hC ?_
        clear hK K ho9 hu9 hn9
        try simp only [Act.put, List.setIfInBounds_toArray, List.set_cons_zero, List.set_cons_succ, Nat.zero_add]
        refine held_take 10 (d := some 21) (v := (.pointer (some ⟨M, 0, none⟩))) rfl rfl (by kernel_rfl) (by kernel_rfl) (by kernel_rfl) (fun _ _ _ h => h) hC (by kernel_rfl) (fun w hSw => by clear HNd2; go_simp) ?_
        try simp only [Act.put, List.setIfInBounds_toArray, List.set_cons_zero, List.set_cons_succ]
        refine held_take 11 (d := some 22) (v := (.pointer (some ⟨M, 143, none⟩))) rfl rfl (by kernel_rfl) (by kernel_rfl) (by kernel_rfl) (fun _ _ _ h => h) hC (by kernel_rfl) (fun w hSw => by clear HNd2; go_simp) ?_
        try simp only [Act.put, List.setIfInBounds_toArray, List.set_cons_zero, List.set_cons_succ]
        refine held_one 12 rfl (by kernel_rfl) (fun K hK => ?_)
        go_simp
        have hC : _ := HN9.out.cC 48 (.int .i64 (D : Int)) HC48.out
        refine hK _ _ hC ?_
        clear hK K
        try simp only [Act.put, List.setIfInBounds_toArray, List.set_cons_zero, List.set_cons_succ, Nat.zero_add]
        refine wpAnyH_done (by kernel_rfl) ?_ _
        go_wp2_with fail
        go_meet
        exact ⟨_, HN9.out⟩
  case' rest =>
    obtain ⟨b3, hn3⟩ := hcut
  have HN3 := Lib.hid hn3
  have c3 := hn3.c143
  have hl3 := hn3.bO.1
  rw [List.length_append, HTA.out, List.length_replicate] at hl3
  have hw3 : IntKind.u64.wrap (b3.2.1 : Int) = 288 + 16 * (D : Int) := by rw [IntKind.wrap_u64]; omega
  have hb3 : b3.2.1 = 272 + (16 + 16 * D) := by omega
  have HB3 := Lib.hid hb3
  clear hn3 hl3 hb3
  go_upto_region 4 with fail
  have HN4 := Lib.hid HN3.out
  go_upto_region 4 with fail
  have HNd4 := Lib.hid (HN4.out.below (below_drew _))
  have hC : _ := HNd4.out.cC 49 (.int .i64 (F : Int)) HC49.out
  have HPT := Lib.hid (fun (aq : Option Addr) (cq : Nat) (w' : World) (hq : RdP w' aq F cq (List.replicate F (0, 0))) => refputtab_any 5 aq F cq (List.replicate F (0, 0)) w' hq (fun p hp => by rw [List.eq_of_mem_replicate hp]; exact ⟨⟨by show (0:Int) ≤ 0; omega, by show (0:Int) ≤ _; omega⟩, ⟨by show (0:Int) ≤ 0; omega, by show (0:Int) ≤ _; omega⟩⟩) (by omega))
  have hpl := putTab_len 5 F rfl
  have HPB := Lib.hid (putTab_isB 5 F rfl)
  unfold NewB at HPT
  rw [hpl] at HPT
  generalize putTabL 5 (List.replicate F (0, 0)) = TF at HPT hpl HPB
  have HTF := Lib.hid hpl
  clear hpl
  have hbl : ((List.replicate 272 0 ++ TA)).length = b3.2.1 := HN4.out.bO.1
  have hbn4 : b3.2.1 ≤ 1000 := by rw [← hbl, List.length_append, List.length_replicate, HTA.out]; omega
  have Hbl := Lib.hid hbl
  clear hbl
  go_cut [] from 29 to 40 (fun wx => ∃ b', NM w M CB (cfgL X Y Z D F kd) zeroR b' ((List.replicate 272 0 ++ TA) ++ TF) wx)
  case first =>
    refine wp_region_held (S := fun w' => w'.cell? ⟨CB, 49, none⟩ = some (.int .i64 (F : Int))) (by kernel_rfl) ?_
    change wpAnyH _ _ _ _ _ _ _ _ (wc).drew
    generalize (wc).drew = wd at hC HNd4 ⊢
    refine held_take 0 (d := some 29) (v := (.pointer (some ⟨M, 0, none⟩))) rfl rfl (by kernel_rfl) (by kernel_rfl) (by kernel_rfl) (fun _ _ _ h => h) hC (by kernel_rfl) (fun w hSw => by clear HNd4; go_simp) ?_
    try simp only [Act.put, List.setIfInBounds_toArray, List.set_cons_zero, List.set_cons_succ]
    refine held_take 1 (d := some 30) (v := (.pointer (some ⟨M, 0, none⟩))) rfl rfl (by kernel_rfl) (by kernel_rfl) (by kernel_rfl) (fun _ _ _ h => h) hC (by kernel_rfl) (fun w hSw => by clear HNd4; go_simp) ?_
    try simp only [Act.put, List.setIfInBounds_toArray, List.set_cons_zero, List.set_cons_succ]
    refine held_take 2 (d := some 31) (v := (.pointer (some ⟨M, 0, none⟩))) rfl rfl (by kernel_rfl) (by kernel_rfl) (by kernel_rfl) (fun _ _ _ h => h) hC (by kernel_rfl) (fun w hSw => by clear HNd4; go_simp) ?_
    try simp only [Act.put, List.setIfInBounds_toArray, List.set_cons_zero, List.set_cons_succ]
    refine held_take 3 (d := some 32) (v := (.pointer (some ⟨M, 143, none⟩))) rfl rfl (by kernel_rfl) (by kernel_rfl) (by kernel_rfl) (fun _ _ _ h => h) hC (by kernel_rfl) (fun w hSw => by clear HNd4; go_simp) ?_
    try simp only [Act.put, List.setIfInBounds_toArray, List.set_cons_zero, List.set_cons_succ]
    refine held_take 5 (d := some 34) (v := (.pointer (some ⟨CB, 49, none⟩))) rfl rfl (by kernel_rfl) (by kernel_rfl) (by kernel_rfl) (fun _ _ _ h => h) hC (by kernel_rfl) (fun w hSw => by clear HNd4; go_simp) ?_
    try simp only [Act.put, List.setIfInBounds_toArray, List.set_cons_zero, List.set_cons_succ]
    refine held_take 6 (d := some 35) (v := (.int .i64 (F : Int))) rfl rfl (by kernel_rfl) (by kernel_rfl) (by kernel_rfl) (fun _ _ _ h => h) hC (by kernel_rfl) (fun w hSw => by clear HNd4; go_simp) ?_
    try simp only [Act.put, List.setIfInBounds_toArray, List.set_cons_zero, List.set_cons_succ]
    have cM := HNd4.out.c143
    refine held_two 4 7 rfl rfl (by kernel_rfl) (fun K hK => ?_) (fun K hK => ?_)
    · go_simp
      refine hK _ _ hC ?_
      clear hK K
      try simp only [Act.put, List.setIfInBounds_toArray, List.set_cons_zero, List.set_cons_succ, Nat.zero_add]
      refine held_one 7 rfl (by kernel_rfl) (fun K hK => ?_)
      refine step_makePD (d := some 36) rfl rfl rfl Try.twoSl Try.slotZ (n := F) (by go_simp) (by go_simp) (by omega) (by omega) ?_
      intro wdk hop hbp
      have HRPwdk := Lib.hid hop.rd
      have HNwdk := Lib.hid (HNd4.out.below hbp)
      have cM := HNwdk.out.c143
      have hC : _ := HNwdk.out.cC 49 (.int .i64 (F : Int)) HC49.out
      refine hK _ _ hC ?_
      clear hK K hop hbp
      try simp only [Act.put, List.setIfInBounds_toArray, List.set_cons_zero, List.set_cons_succ, Nat.zero_add]
      refine held_one 8 rfl (by kernel_rfl) (fun K hK => ?_)
      go_simp
      go_at_call 47
      refine (HPT.out _ _ _ HRPwdk.out).mono ?_
      rintro e wdkp ⟨ap, cp, rfl, hop, hbp⟩
      have HRBwdkp := Lib.hid hop.rd
      have HNwdkp := Lib.hid (HNwdk.out.below hbp)
      have cM := HNwdkp.out.c143
      have hC : _ := HNwdkp.out.cC 49 (.int .i64 (F : Int)) HC49.out
      clear hop hbp
      go_simp
      refine hK _ _ hC ?_
      clear hK K
      try simp only [Act.put, List.setIfInBounds_toArray, List.set_cons_zero, List.set_cons_succ, Nat.zero_add]
      refine held_one 9 rfl (by kernel_rfl) (fun K hK => ?_)
      refine step_appAtD (d := some 38) rfl rfl rfl Try.oneB (by go_simp) (by go_simp) HNwdkp.out.bO HRBwdkp.out.2 (fun _ => rfl) (by omega) (by omega) HNwdkp.out.bel.size ?_
      intro a9 c9 w9 ho9 hu9 hn9
      have c143 := ucell hu9 HNwdkp.out.nb HNwdkp.out.c143
      have f143 := ufree hu9 (lt_of_heap HNwdkp.out.row) HNwdkp.out.nb (HNwdkp.out.free 143)
      have HN9 := Lib.hid (HNwdkp.out.newB ho9 (HNwdkp.out.bB.append HRBwdkp.out.1) hu9 hn9)
      have hC : w9.cell? ⟨CB, 49, none⟩ = some (.int .i64 (F : Int)) := ucell hu9 HNwdkp.out.nc hC
      refine hK _ _ hC ?_
      clear hK K ho9 hu9 hn9
      try simp only [Act.put, List.setIfInBounds_toArray, List.set_cons_zero, List.set_cons_succ, Nat.zero_add]
      refine held_take 10 (d := some 39) (v := (.pointer (some ⟨M, 0, none⟩))) rfl rfl (by kernel_rfl) (by kernel_rfl) (by kernel_rfl) (fun _ _ _ h => h) hC (by kernel_rfl) (fun w hSw => by clear HNd4; go_simp) ?_
      try simp only [Act.put, List.setIfInBounds_toArray, List.set_cons_zero, List.set_cons_succ]
      refine held_take 11 (d := some 40) (v := (.pointer (some ⟨M, 143, none⟩))) rfl rfl (by kernel_rfl) (by kernel_rfl) (by kernel_rfl) (fun _ _ _ h => h) hC (by kernel_rfl) (fun w hSw => by clear HNd4; go_simp) ?_
      try simp only [Act.put, List.setIfInBounds_toArray, List.set_cons_zero, List.set_cons_succ]
      refine held_one 12 rfl (by kernel_rfl) (fun K hK => ?_)
      go_simp
      have hC : _ := HN9.out.cC 49 (.int .i64 (F : Int)) HC49.out
      refine hK _ _ hC ?_
      clear hK K
      try simp only [Act.put, List.setIfInBounds_toArray, List.set_cons_zero, List.set_cons_succ, Nat.zero_add]
      refine wpAnyH_done (by kernel_rfl) ?_ _
      go_wp2_with fail
      go_meet
      exact ⟨_, HN9.out⟩
    · refine step_makePD (d := some 36) rfl rfl rfl Try.twoSl Try.slotZ (n := F) (by go_simp) (by go_simp) (by omega) (by omega) ?_
      intro wdk hop hbp
      have HRPwdk := Lib.hid hop.rd
      have HNwdk := Lib.hid (HNd4.out.below hbp)
      have cM := HNwdk.out.c143
      have hC : _ := HNwdk.out.cC 49 (.int .i64 (F : Int)) HC49.out
      refine hK _ _ hC ?_
      clear hK K hop hbp
      try simp only [Act.put, List.setIfInBounds_toArray, List.set_cons_zero, List.set_cons_succ, Nat.zero_add]
      refine held_two 4 8 rfl rfl (by kernel_rfl) (fun K hK => ?_) (fun K hK => ?_)
      · go_simp
        refine hK _ _ hC ?_
        clear hK K
        try simp only [Act.put, List.setIfInBounds_toArray, List.set_cons_zero, List.set_cons_succ, Nat.zero_add]
        refine held_one 8 rfl (by kernel_rfl) (fun K hK => ?_)
        go_simp
        go_at_call 47
        refine (HPT.out _ _ _ HRPwdk.out).mono ?_
        rintro e wdkp ⟨ap, cp, rfl, hop, hbp⟩
        have HRBwdkp := Lib.hid hop.rd
        have HNwdkp := Lib.hid (HNwdk.out.below hbp)
        have cM := HNwdkp.out.c143
        have hC : _ := HNwdkp.out.cC 49 (.int .i64 (F : Int)) HC49.out
        clear hop hbp
        go_simp
        refine hK _ _ hC ?_
        clear hK K
        try simp only [Act.put, List.setIfInBounds_toArray, List.set_cons_zero, List.set_cons_succ, Nat.zero_add]
        refine held_one 9 rfl (by kernel_rfl) (fun K hK => ?_)
        refine step_appAtD (d := some 38) rfl rfl rfl Try.oneB (by go_simp) (by go_simp) HNwdkp.out.bO HRBwdkp.out.2 (fun _ => rfl) (by omega) (by omega) HNwdkp.out.bel.size ?_
        intro a9 c9 w9 ho9 hu9 hn9
        have c143 := ucell hu9 HNwdkp.out.nb HNwdkp.out.c143
        have f143 := ufree hu9 (lt_of_heap HNwdkp.out.row) HNwdkp.out.nb (HNwdkp.out.free 143)
        have HN9 := Lib.hid (HNwdkp.out.newB ho9 (HNwdkp.out.bB.append HRBwdkp.out.1) hu9 hn9)
        have hC : w9.cell? ⟨CB, 49, none⟩ = some (.int .i64 (F : Int)) := ucell hu9 HNwdkp.out.nc hC
        refine hK _ _ hC ?_
        clear hK K ho9 hu9 hn9
        try simp only [Act.put, List.setIfInBounds_toArray, List.set_cons_zero, List.set_cons_succ, Nat.zero_add]
        refine held_take 10 (d := some 39) (v := (.pointer (some ⟨M, 0, none⟩))) rfl rfl (by kernel_rfl) (by kernel_rfl) (by kernel_rfl) (fun _ _ _ h => h) hC (by kernel_rfl) (fun w hSw => by clear HNd4; go_simp) ?_
        try simp only [Act.put, List.setIfInBounds_toArray, List.set_cons_zero, List.set_cons_succ]
        refine held_take 11 (d := some 40) (v := (.pointer (some ⟨M, 143, none⟩))) rfl rfl (by kernel_rfl) (by kernel_rfl) (by kernel_rfl) (fun _ _ _ h => h) hC (by kernel_rfl) (fun w hSw => by clear HNd4; go_simp) ?_
        try simp only [Act.put, List.setIfInBounds_toArray, List.set_cons_zero, List.set_cons_succ]
        refine held_one 12 rfl (by kernel_rfl) (fun K hK => ?_)
        go_simp
        have hC : _ := HN9.out.cC 49 (.int .i64 (F : Int)) HC49.out
        refine hK _ _ hC ?_
        clear hK K
        try simp only [Act.put, List.setIfInBounds_toArray, List.set_cons_zero, List.set_cons_succ, Nat.zero_add]
        refine wpAnyH_done (by kernel_rfl) ?_ _
        go_wp2_with fail
        go_meet
        exact ⟨_, HN9.out⟩
      · go_simp
        go_at_call 47
        refine (HPT.out _ _ _ HRPwdk.out).mono ?_
        rintro e wdkp ⟨ap, cp, rfl, hop, hbp⟩
        have HRBwdkp := Lib.hid hop.rd
        have HNwdkp := Lib.hid (HNwdk.out.below hbp)
        have cM := HNwdkp.out.c143
        have hC : _ := HNwdkp.out.cC 49 (.int .i64 (F : Int)) HC49.out
        clear hop hbp
        go_simp
        refine hK _ _ hC ?_
        clear hK K
        try simp only [Act.put, List.setIfInBounds_toArray, List.set_cons_zero, List.set_cons_succ, Nat.zero_add]
        refine held_one 4 rfl (by kernel_rfl) (fun K hK => ?_)
        go_simp
        refine hK _ _ hC ?_
        clear hK K
        try simp only [Act.put, List.setIfInBounds_toArray, List.set_cons_zero, List.set_cons_succ, Nat.zero_add]
        refine held_one 9 rfl (by kernel_rfl) (fun K hK => ?_)
        refine step_appAtD (d := some 38) rfl rfl rfl Try.oneB (by go_simp) (by go_simp) HNwdkp.out.bO HRBwdkp.out.2 (fun _ => rfl) (by omega) (by omega) HNwdkp.out.bel.size ?_
        intro a9 c9 w9 ho9 hu9 hn9
        have c143 := ucell hu9 HNwdkp.out.nb HNwdkp.out.c143
        have f143 := ufree hu9 (lt_of_heap HNwdkp.out.row) HNwdkp.out.nb (HNwdkp.out.free 143)
        have HN9 := Lib.hid (HNwdkp.out.newB ho9 (HNwdkp.out.bB.append HRBwdkp.out.1) hu9 hn9)
        have hC : w9.cell? ⟨CB, 49, none⟩ = some (.int .i64 (F : Int)) := ucell hu9 HNwdkp.out.nc hC
        refine hK _ _ hC ?_
        clear hK K ho9 hu9 hn9
        try simp only [Act.put, List.setIfInBounds_toArray, List.set_cons_zero, List.set_cons_succ, Nat.zero_add]
        refine held_take 10 (d := some 39) (v := (.pointer (some ⟨M, 0, none⟩))) rfl rfl (by kernel_rfl) (by kernel_rfl) (by kernel_rfl) (fun _ _ _ h => h) hC (by kernel_rfl) (fun w hSw => by clear HNd4; go_simp) ?_
        try simp only [Act.put, List.setIfInBounds_toArray, List.set_cons_zero, List.set_cons_succ]
        refine held_take 11 (d := some 40) (v := (.pointer (some ⟨M, 143, none⟩))) rfl rfl (by kernel_rfl) (by kernel_rfl) (by kernel_rfl) (fun _ _ _ h => h) hC (by kernel_rfl) (fun w hSw => by clear HNd4; go_simp) ?_
        try simp only [Act.put, List.setIfInBounds_toArray, List.set_cons_zero, List.set_cons_succ]
        refine held_one 12 rfl (by kernel_rfl) (fun K hK => ?_)
        go_simp
        have hC : _ := HN9.out.cC 49 (.int .i64 (F : Int)) HC49.out
        refine hK _ _ hC ?_
        clear hK K
        try simp only [Act.put, List.setIfInBounds_toArray, List.set_cons_zero, List.set_cons_succ, Nat.zero_add]
        refine wpAnyH_done (by kernel_rfl) ?_ _
        go_wp2_with fail
        go_meet
        exact ⟨_, HN9.out⟩
  case' rest =>
    obtain ⟨b5, hn5⟩ := hcut
  have HN5 := Lib.hid hn5
  clear hn5
  go_upto_region 5 with fail
  have HRX := Lib.hid (show wc.rangeAt CB 0 (X.map (Value.int .u8)) from fun j v hv => HN5.out.cC (0 + j) v (by rw [Nat.zero_add]; exact cfgL_A j v hv))
  have HRY := Lib.hid (show wc.rangeAt CB 16 (Y.map (Value.int .u8)) from fun j v hv => HN5.out.cC (16 + j) v (cfgL_B HXl.out j v hv))
  have HRZ := Lib.hid (show wc.rangeAt CB 32 (Z.map (Value.int .u8)) from fun j v hv => HN5.out.cC (32 + j) v (cfgL_C HXl.out HYl.out j v hv))
  have HLX := Lib.hid (show (X.map (Value.int .u8)).length = 16 by rw [List.length_map, HXl.out])
  have HLY := Lib.hid (show (Y.map (Value.int .u8)).length = 16 by rw [List.length_map, HYl.out])
  have HLZ := Lib.hid (show (Z.map (Value.int .u8)).length = 16 by rw [List.length_map, HZl.out])
  have hIl : (X ++ Y ++ z16 ++ Z).length = 64 := by simp [HXl.out, HYl.out, HZl.out, z16]
  have HIl := Lib.hid hIl
  have HIB := Lib.hid (show IsB (X ++ Y ++ z16 ++ Z) from ((HX.out.append HY.out).append (IsB.replicate 16)).append HZ.out)
  generalize hI : X ++ Y ++ z16 ++ Z = I at HBH HIl HIB hIl
  have hl90 : (headL 2 0 1 I z20 0 0 0).length = 90 := headL_length (n := 20) hIl rfl
  have HN6 := Lib.hid (HN5.out.all _ hl90)
  have HTh := Lib.hid (show wc.there M 52 (headL 2 0 1 I z20 0 0 0).toArray.size by rw [List.size_toArray, hl90]; exact HN5.out.there)
  have HSz := Lib.hid (show (Try.prog.info? 34).map (·.size) = some (headL 2 0 1 I z20 0 0 0).toArray.size by rw [List.size_toArray, hl90]; kernel_rfl)
  have HOne := Lib.hid (headL_one (co := 2) (inc := 0) (st := 1) (I := I) (Ns := z20) (ta := 0) (ti := 0) (te := 0))
  clear hI hl90 hIl
  have c51 := HN6.out.cC 51 _ HC51.out
  go_upto_region 6 with (first
    | (with_reducible refine wpList_loadMid rfl rfl Try.idR rfl HRX.out HLX.out ?_)
    | (with_reducible refine wpList_loadMid rfl rfl Try.idR rfl HRY.out HLY.out ?_)
    | (with_reducible refine wpList_loadMid rfl rfl Try.idR rfl HRZ.out HLZ.out ?_)
    | (refine wpList_buildS (cells := (headL 2 0 1 I z20 0 0 0).toArray) rfl rfl (by have h0 := HBH.out; go_simp) ?_)
    | (with_reducible refine wpList_store_mid rfl 34 _ _ rfl M 52 (headL 2 0 1 I z20 0 0 0).toArray rfl rfl HTh.out HSz.out HOne.out ?_; rw [List.toList_toArray]; generalize wc.setCells M 52 (headL 2 0 1 I z20 0 0 0) = w6 at HN6 c51 ⊢))
  clear HRX HRY HRZ HTh
  go_upto_if 52 with fail
  go_cut [] from 51 to 56 (fun wx => ∃ inc : Int, (inc = 0 ∨ inc = 4) ∧ NM w M CB (cfgL X Y Z D F kd) (headL 2 inc 1 I z20 0 0 0) b5 (List.replicate 272 0 ++ TA ++ TF) wx)
  case first =>
    rcases kd with _ | _
    · go_wp2_with fail
      go_meet
      exact ⟨0, .inl rfl, HN6.out⟩
    · obtain ⟨_, _, c53⟩ := HN6.out.cH 1 (by omega)
      have f53 := HN6.out.free 53
      simp only [Nat.reduceAdd] at c53
      have hn7 := HN6.out.set 1 (by omega) (.int .u32 4)
      go_wp2_with fail
      go_meet
      exact ⟨4, .inr rfl, hn7⟩
  case' rest =>
    obtain ⟨inc, hinc, hn7⟩ := hcut
  have HInc := Lib.hid hinc
  have HNa0 := Lib.hid hn7
  clear hn7 hinc HN6 c51
  have cD := HNa0.out.cC 48 _ HC48.out
  have cF := HNa0.out.cC 49 _ HC49.out
  have hw10 : IntKind.i64.wrap (16 * (D : Int)) = 16 * (D : Int) := by rw [IntKind.wrap_i64]; omega
  have hw10b : IntKind.u64.wrap (16 * (D : Int)) = 16 * (D : Int) := by rw [IntKind.wrap_u64]; omega
  have hw12 : IntKind.i64.wrap (16 * (F : Int)) = 16 * (F : Int) := by rw [IntKind.wrap_i64]; omega
  have hw12b : IntKind.u64.wrap (16 * (F : Int)) = 16 * (F : Int) := by rw [IntKind.wrap_u64]; omega
  have hw11 : IntKind.u64.wrap (288 + 16 * (D : Int) + 16) = 304 + 16 * (D : Int) := by rw [IntKind.wrap_u64]; omega
  obtain ⟨_, _, c119⟩ := HNa0.out.cH 67 (by omega)
  have f119 := HNa0.out.free 119
  simp only [Nat.reduceAdd] at c119
  have HNa1 := Lib.hid (HNa0.out.setN HIl.out (by simp [z20]) 0 (by omega) 272)
  have cD := HNa1.out.cC 48 _ HC48.out
  have cF := HNa1.out.cC 49 _ HC49.out
  go_upto_region 9 with fail
  generalize (wc.setCell ⟨M, 119, none⟩ (.int .u64 272)) = wn0 at HNa1 cD cF ⊢
  clear c119 f119 HNa0
  obtain ⟨_, _, c121⟩ := HNa1.out.cH 69 (by omega)
  have f121 := HNa1.out.free 121
  simp only [Nat.reduceAdd] at c121
  have HNa2 := Lib.hid (HNa1.out.setN HIl.out (by simp [z20]) 2 (by omega) 288)
  have cD := HNa2.out.cC 48 _ HC48.out
  have cF := HNa2.out.cC 49 _ HC49.out
  go_upto_region 10 with fail
  generalize (wn0.setCell ⟨M, 121, none⟩ (.int .u64 288)) = wn1 at HNa2 cD cF ⊢
  clear c121 f121 HNa1
  obtain ⟨_, _, c122⟩ := HNa2.out.cH 70 (by omega)
  have f122 := HNa2.out.free 122
  simp only [Nat.reduceAdd] at c122
  have HNa3 := Lib.hid (HNa2.out.setN HIl.out (by simp [z20]) 3 (by omega) (16 * (D : Int)))
  go_upto_region 10 with fail
  have HNa3 := Lib.hid (HNa3.out.below (below_drew _))
  go_region
  have cD := HNa3.out.cC 48 _ HC48.out
  have cF := HNa3.out.cC 49 _ HC49.out
  generalize (wn1.setCell ⟨M, 122, none⟩ (.int .u64 (16 * (D : Int)))).drew = wn2 at HNa3 cD cF ⊢
  clear c122 f122 HNa2
  obtain ⟨_, _, c123⟩ := HNa3.out.cH 71 (by omega)
  have f123 := HNa3.out.free 123
  simp only [Nat.reduceAdd] at c123
  have HNa4 := Lib.hid (HNa3.out.setN HIl.out (by simp [z20]) 4 (by omega) (304 + 16 * (D : Int)))
  have cD := HNa4.out.cC 48 _ HC48.out
  have cF := HNa4.out.cC 49 _ HC49.out
  go_upto_region 12 with fail
  generalize (wn2.setCell ⟨M, 123, none⟩ (.int .u64 (304 + 16 * (D : Int)))) = wn3 at HNa4 cD cF ⊢
  clear c123 f123 HNa3
  obtain ⟨_, _, c124⟩ := HNa4.out.cH 72 (by omega)
  have f124 := HNa4.out.free 124
  simp only [Nat.reduceAdd] at c124
  have HNa5 := Lib.hid (HNa4.out.setN HIl.out (by simp [z20]) 5 (by omega) (16 * (F : Int)))
  go_upto_region 12 with fail
  have HNa5 := Lib.hid (HNa5.out.below (below_drew _))
  go_region
  have cD := HNa5.out.cC 48 _ HC48.out
  have cF := HNa5.out.cC 49 _ HC49.out
  generalize (wn3.setCell ⟨M, 124, none⟩ (.int .u64 (16 * (F : Int)))).drew = wn4 at HNa5 cD cF ⊢
  clear c124 f124 HNa4
  obtain ⟨_, _, c125⟩ := HNa5.out.cH 73 (by omega)
  have f125 := HNa5.out.free 125
  simp only [Nat.reduceAdd] at c125
  have HNa6 := Lib.hid (HNa5.out.setN HIl.out (by simp [z20]) 6 (by omega) (288 + 16 * (D : Int)))
  have cD := HNa6.out.cC 48 _ HC48.out
  have cF := HNa6.out.cC 49 _ HC49.out
  go_upto_region 14 with fail
  generalize (wn4.setCell ⟨M, 125, none⟩ (.int .u64 (288 + 16 * (D : Int)))) = wn5 at HNa6 cD cF ⊢
  clear c125 f125 HNa5
  obtain ⟨_, _, c126⟩ := HNa6.out.cH 74 (by omega)
  have f126 := HNa6.out.free 126
  simp only [Nat.reduceAdd] at c126
  have HNa7 := Lib.hid (HNa6.out.setN HIl.out (by simp [z20]) 7 (by omega) 2)
  have cD := HNa7.out.cC 48 _ HC48.out
  have cF := HNa7.out.cC 49 _ HC49.out
  go_upto_region 15 with fail
  generalize (wn5.setCell ⟨M, 126, none⟩ (.int .u64 2)) = wn6 at HNa7 cD cF ⊢
  clear c126 f126 HNa6
  obtain ⟨_, _, c128⟩ := HNa7.out.cH 76 (by omega)
  have f128 := HNa7.out.free 128
  simp only [Nat.reduceAdd] at c128
  have HNa8 := Lib.hid (HNa7.out.setN HIl.out (by simp [z20]) 9 (by omega) after)
  have cD := HNa8.out.cC 48 _ HC48.out
  have cF := HNa8.out.cC 49 _ HC49.out
  go_upto_region 16 with fail
  generalize (wn6.setCell ⟨M, 128, none⟩ (.int .u64 after)) = wn7 at HNa8 cD cF ⊢
  clear c128 f128 HNa7
  go_wp2_with fail
  go_ret
  have hbl : (List.replicate 272 0 ++ TA ++ TF).length = 304 + 16 * D + 16 * F := by rw [List.length_append, List.length_append, HTA.out, HTF.out, List.length_replicate]; omega
  have hcfg : CfgOK (cfgL X Y Z D F kd) D F kd := ⟨HCl.out, ⟨X, HX.out, HXl.out, fun j v hv => cfgL_A j v hv⟩, HC48.out, HC49.out, cfgL_tail HXl.out HYl.out HZl.out 2, HC51.out, ⟨hD1, hD2⟩, ⟨hF1, hF2⟩, cfgL_one⟩
  have hns : NsOK ((((((((z20.set 0 272).set 2 288).set 3 (16 * (D : Int))).set 4 (304 + 16 * (D : Int))).set 5 (16 * (F : Int))).set 6 (288 + 16 * (D : Int))).set 7 2).set 9 after) D F 0 := by
    refine ⟨by simp [z20], fun v hv => ?_, rfl, rfl, rfl, rfl, rfl, rfl⟩
    rcases List.mem_or_eq_of_mem_set hv with hv | rfl
    rcases List.mem_or_eq_of_mem_set hv with hv | rfl
    rcases List.mem_or_eq_of_mem_set hv with hv | rfl
    rcases List.mem_or_eq_of_mem_set hv with hv | rfl
    rcases List.mem_or_eq_of_mem_set hv with hv | rfl
    rcases List.mem_or_eq_of_mem_set hv with hv | rfl
    rcases List.mem_or_eq_of_mem_set hv with hv | rfl
    rcases List.mem_or_eq_of_mem_set hv with hv | rfl
    · rw [List.eq_of_mem_replicate hv]; exact ⟨by omega, by omega⟩
    all_goals first | exact HAf.out | exact ⟨by omega, by omega⟩
  have hmi := HNa8.out.mi hcfg ⟨2, inc, 1, I, _, 0, 0, 0, rfl, ⟨by omega, by omega⟩, HInc.out, HIl.out, HIB.out, hns, ⟨by omega, by omega⟩, ⟨by omega, by omega⟩, ⟨by omega, by omega⟩⟩
  refine ⟨M, _, rfl, ⟨⟨hmi, fun k hk => (by cases hk), fun k hk => (by cases hk), ?_, ?_, ?_, Nat.le_refl _, Nat.le_refl _, fun k hk => (by cases hk)⟩, ⟨fun i v hv => (by simp [mk0] at hv), Nat.le_refl _, Nat.le_refl _⟩⟩, HNa8.out.bel, rfl⟩
  · show (List.replicate 272 0 ++ TA ++ TF).length % 8 = 0; rw [hbl]; omega
  · show _ ≤ (List.replicate 272 0 ++ TA ++ TF).length; rw [hbl]; exact Nat.le_refl _
  · show (List.replicate 272 0 ++ TA ++ TF).length ≤ _; rw [hbl]; omega
end Go.Proofs.Ytpkmdnfkeebgbaa

/- An entry out of numbers. Conditions stand as premises. -/
namespace Go.Proofs.Ytpkmdnfkeebgbaa
open Go.ChangeShapes Go.WideShapes Go.ChangeAt Go.RowKit
set_option linter.unusedVariables false
set_option linter.unusedSimpArgs false
def recL (s r m : Int) (B : List Int) (a : Option Addr) (n c : Nat) : List Value := [.int .u64 s, .int .u64 r, .int .u64 m] ++ (B.map (Value.int .u8) ++ [.slice a n c])
theorem recL_length {s r m : Int} {B : List Int} {a : Option Addr} {n c : Nat} (h : B.length = 16) : (recL s r m B a n c).length = 20 := by simp [recL, h]
theorem recL_one {s r m : Int} {B : List Int} {a : Option Addr} {n c : Nat} : ∀ v ∈ recL s r m B a n c, v.oneCell' = true := by
  intro v hv
  simp only [recL, List.mem_append, List.mem_map, List.mem_cons, List.not_mem_nil, or_false] at hv
  rcases hv with (rfl | rfl | rfl) | ⟨_, _, rfl⟩ | rfl <;> rfl
theorem recL_19 {s r m : Int} {B : List Int} {a : Option Addr} {n c : Nat} (h : B.length = 16) : (recL s r m B a n c)[19]? = some (.slice a n c) := by
  unfold recL
  rw [List.getElem?_append_right (by simp), List.getElem?_append_right (by simp [h])]
  simp [h]
theorem recL_B {s r m : Int} {B : List Int} {a : Option Addr} {n c : Nat} (j : Nat) (v : Value) (h : (B.map (Value.int .u8))[j]? = some v) : (recL s r m B a n c)[3 + j]? = some v := by
  unfold recL
  rw [List.getElem?_append_right (by simp), show 3 + j - ([.int .u64 s, .int .u64 r, .int .u64 m] : List Value).length = j by simp, List.getElem?_append_left (List.getElem?_eq_some_iff.1 h).1]; exact h
theorem Try.recI : RowInfo Try.prog 89 20 := ⟨by kernel_rfl, by kernel_rfl⟩
theorem Try.builtR20 (b0 b1 b2 b3 b4 b5 b6 b7 b8 b9 b10 b11 b12 b13 b14 b15 s r m : Int) (a : Option Addr) (n c : Nat) : Try.prog.built 89 [(0, .int .u64 s), (1, .int .u64 r), (2, .int .u64 m), (3, .agg ([b0, b1, b2, b3, b4, b5, b6, b7, b8, b9, b10, b11, b12, b13, b14, b15].map (Value.int .u8)).toArray), (4, .slice a n c)] = some (recL s r m [b0, b1, b2, b3, b4, b5, b6, b7, b8, b9, b10, b11, b12, b13, b14, b15] a n c).toArray := by kernel_rfl
theorem Try.builtRec (s r m : Int) (B : List Int) (h : B.length = 16) (a : Option Addr) (n c : Nat) : Try.prog.built 89 [(0, .int .u64 s), (1, .int .u64 r), (2, .int .u64 m), (3, .agg (B.map (Value.int .u8)).toArray), (4, .slice a n c)] = some (recL s r m B a n c).toArray := by
  obtain ⟨b0, b1, b2, b3, b4, b5, b6, b7, b8, b9, b10, b11, b12, b13, b14, b15, rfl⟩ := list16 h
  exact Try.builtR20 b0 b1 b2 b3 b4 b5 b6 b7 b8 b9 b10 b11 b12 b13 b14 b15 s r m a n c
def RecE (B Q : Nat) (w : World) (e : Ending) (w' : World) : Prop := ∃ (s r m : Int) (X : List Int) (a : Option Addr) (c : Nat) (L : List PB), e = .returned (.agg (recL s r m X a L.length c).toArray) ∧ U64 s ∧ U64 r ∧ U64 m ∧ IsB X ∧ X.length = 16 ∧ RdK encPB 2 w' a L.length c L ∧ (∀ z, a = some z → w.heap.size ≤ z.block ∧ z.block < w'.heap.size) ∧ L.length ≤ 4 ∧ (∀ p ∈ L, PairOK p) ∧ QS B Q w' ∧ Upd (· = Q) w w'
set_option maxRecDepth 100000 in
set_option maxHeartbeats 4000000 in
theorem record_lo (B Q : Nat) (s : Int) (hs : U64 s) (w : World) (hq : QS B Q w) : Calls Try.prog 43 #[.pointer (some ⟨Q, 0, none⟩), .int .u64 s] w (RecE B Q w) := by
  have HQ := Lib.hid hq
  have HS := Lib.hid hs
  clear hq hs
  go_enter Try.func43, Try.ntmps43
  go_upto_region 1 with fail
  have hZ := heap_alloc_new w (.cells #[Value.int .u64 0, Value.int .u64 0, Value.int .u64 0, Value.int .u8 0, Value.int .u8 0, Value.int .u8 0, Value.int .u8 0, Value.int .u8 0, Value.int .u8 0, Value.int .u8 0, Value.int .u8 0, Value.int .u8 0, Value.int .u8 0, Value.int .u8 0, Value.int .u8 0, Value.int .u8 0, Value.int .u8 0, Value.int .u8 0, Value.int .u8 0, Value.slice none 0 0] 89)
  have HB1 := Lib.hid (below_alloc w (.cells #[Value.int .u64 0, Value.int .u64 0, Value.int .u64 0, Value.int .u8 0, Value.int .u8 0, Value.int .u8 0, Value.int .u8 0, Value.int .u8 0, Value.int .u8 0, Value.int .u8 0, Value.int .u8 0, Value.int .u8 0, Value.int .u8 0, Value.int .u8 0, Value.int .u8 0, Value.int .u8 0, Value.int .u8 0, Value.int .u8 0, Value.int .u8 0, Value.slice none 0 0] 89))
  obtain ⟨R, hR⟩ : ∃ R, w.heap.size = R := ⟨_, rfl⟩
  have HRR := Lib.hid hR
  generalize w.alloc (.cells #[Value.int .u64 0, Value.int .u64 0, Value.int .u64 0, Value.int .u8 0, Value.int .u8 0, Value.int .u8 0, Value.int .u8 0, Value.int .u8 0, Value.int .u8 0, Value.int .u8 0, Value.int .u8 0, Value.int .u8 0, Value.int .u8 0, Value.int .u8 0, Value.int .u8 0, Value.int .u8 0, Value.int .u8 0, Value.int .u8 0, Value.int .u8 0, Value.slice none 0 0] 89) = w1 at hZ HB1 ⊢
  rw [hR] at hZ ⊢
  have HZ1 := Lib.hid hZ
  have HQ1 := Lib.hid (HQ.out.below HB1.out HQ.out.lt)
  have HU1 := Lib.hid (Upd.ofBelow (F := (· = Q)) HB1.out)
  have hQR : ¬ R = Q := by have := HQ.out.lt; omega
  have hQR2 : Q < R := by have := HQ.out.lt; omega
  have hsR : w.heap.size ≤ R := by omega
  clear hZ hR
  go_wp2_with fail
  refine (pairs_lo B Q 4 (by omega) (by omega) _ HQ1.out).mono ?_
  rintro e w2 ⟨pa, pc, PL, rfl, hpo, hpn, hpp, hq1, hu1⟩
  have HQ2 := Lib.hid hq1
  have HU2 := Lib.hid (HU1.out.trans hu1 (fun _ _ h => h))
  have HZ2 := Lib.hid (row_upd hu1 hQR HZ1.out)
  have HPr := Lib.hid (hpo.rd encPB_E)
  have HPp := Lib.hid hpp
  clear hq1 hu1 hpo hpp HQ1 HU1 HZ1
  go_wp2_with fail
  refine (list_lo pa PL.length pc PL _ HPr.out HPp.out (by omega)).mono ?_
  rintro e w3 ⟨la, lc, LL, k, rfl, hlo, hln, hlp, hb2⟩
  have HQ3 := Lib.hid (HQ2.out.below hb2 HQ2.out.lt)
  have HU3 := Lib.hid (HU2.out.trans (Upd.ofBelow (F := (· = Q)) hb2) (fun _ _ h => h))
  have HZ3 := Lib.hid (row_below hb2 (lt_of_heap HZ2.out) HZ2.out)
  have hR2 : R < w2.heap.size := lt_of_heap HZ2.out
  have HO3 := Lib.hid hlo
  have HLp := Lib.hid hlp
  have HLq := Lib.hid (show ∀ z, la = some z → z.block ≠ Q ∧ z.block ≠ R ∧ w.heap.size ≤ z.block from fun z hz => by have := (hlo.lt z hz).1; omega)
  clear hb2 HQ2 HU2 HZ2 hlo hlp HPr HPp
  go_upto_region 2 with fail
  go_wp2_with fail
  refine (seqn_any B Q 40 (by omega) (by omega) _ HQ3.out).mono ?_
  rintro e w4 ⟨rv, rfl, hrv, hq3, hu3⟩
  have HQ4 := Lib.hid hq3
  have HU4 := Lib.hid (HU3.out.trans hu3 (fun _ _ h => h))
  have HZ4 := Lib.hid (row_upd hu3 hQR HZ3.out)
  have HO4 := Lib.hid (HO3.out.upd hu3 (fun z hz => (HLq.out z hz).1))
  clear hq3 hu3 HQ3 HU3 HZ3 HO3
  have hwrv : IntKind.u64.wrap (rv : Int) = (rv : Int) := by rw [IntKind.wrap_u64]; omega
  go_wp2_with fail
  refine (seqn_any B Q 9 (by omega) (by omega) _ HQ4.out).mono ?_
  rintro e w5 ⟨mv, rfl, hmv, hq4, hu4⟩
  have HQ5 := Lib.hid hq4
  have HU5 := Lib.hid (HU4.out.trans hu4 (fun _ _ h => h))
  have HZ5 := Lib.hid (row_upd hu4 hQR HZ4.out)
  have HO5 := Lib.hid (HO4.out.upd hu4 (fun z hz => (HLq.out z hz).1))
  clear hq4 hu4 HQ4 HU4 HZ4 HO4
  have hwmv : IntKind.u64.wrap (mv : Int) = (mv : Int) := by rw [IntKind.wrap_u64]; omega
  go_wp2_with fail
  refine (seqn_any B Q 3 (by omega) (by omega) _ HQ5.out).mono ?_
  rintro e w6 ⟨kv, rfl, hkv, hq5, hu5⟩
  have HQ6 := Lib.hid hq5
  have HU6 := Lib.hid (HU5.out.trans hu5 (fun _ _ h => h))
  have HZ6 := Lib.hid (row_upd hu5 hQR HZ5.out)
  have HO6 := Lib.hid (HO5.out.upd hu5 (fun z hz => (HLq.out z hz).1))
  clear hq5 hu5 HQ5 HU5 HZ5 HO5
  go_wp2_with fail
  refine (id_lo (kv : Int) ⟨by omega, by omega⟩ _).mono ?_
  rintro e w7 ⟨X, rfl, hX, hXl, hb6⟩
  have HQ7 := Lib.hid (HQ6.out.below hb6 HQ6.out.lt)
  have HU7 := Lib.hid (HU6.out.trans (Upd.ofBelow (F := (· = Q)) hb6) (fun _ _ h => h))
  have HZ7 := Lib.hid (row_below hb6 (lt_of_heap HZ6.out) HZ6.out)
  have HO7 := Lib.hid (HO6.out.mono hb6)
  have HX := Lib.hid hX
  have HXl := Lib.hid hXl
  have HBu := Lib.hid (Try.builtRec s (rv : Int) (mv : Int) X hXl la LL.length lc)
  have HSz := Lib.hid (show (recL s (rv : Int) (mv : Int) X la LL.length lc).toArray.size = 20 from recL_length hXl)
  have HOne := Lib.hid (all_oneCell_toArray (recL_one (s := s) (r := (rv : Int)) (m := (mv : Int)) (B := X) (a := la) (n := LL.length) (c := lc)))
  clear hb6 HQ6 HU6 HZ6 HO6 hX hXl
  go_wp2_with (first
    | (refine wpList_buildS (cells := (recL s (rv : Int) (mv : Int) X la LL.length lc).toArray) rfl rfl (by have h0 := HBu.out; go_simp) ?_)
    | (with_reducible refine wpList_storeS rfl rfl Try.recI rfl rfl HZ7.out (by with_unfolding_all rfl) HSz.out HOne.out ?_; intro wL hXL huL))
  refine bodyPost_ret (v := .agg (recL s (rv : Int) (mv : Int) X la LL.length lc).toArray) (results_S rfl Try.recI rfl hXL.out HSz.out) rfl ?_
  have hOL := HO7.out.upd huL (fun z hz => (HLq.out z hz).2.1)
  exact ⟨s, rv, mv, X, la, lc, LL, rfl, HS.out, ⟨by omega, by omega⟩, ⟨by omega, by omega⟩, HX.out, HXl.out, hOL.rd encPB_E, fun z hz => ⟨(HLq.out z hz).2.2, (hOL.lt z hz).2⟩, by omega, HLp.out, HQ7.out.below (huL.below (B := R) (Nat.le_of_lt (lt_of_heap HZ7.out)) (fun k hk => by rw [hk]; exact Nat.le_refl _)) hQR2, HU7.out.trans huL (fun j hj e => by omega)⟩
end Go.Proofs.Ytpkmdnfkeebgbaa

/- A journal's Maker out of numbers. Conditions stand as premises. -/
namespace Go.Proofs.Ytpkmdnfkeebgbaa
open Go.ChangeShapes Go.WideShapes Go.ChangeAt Go.RowKit
set_option linter.unusedVariables false
set_option linter.unusedSimpArgs false
theorem fold_zipk : ∀ (l : List Value) (k : Nat) (z : Array Value), z.size = k + l.length → List.foldl (fun cs (x : Value × Nat) => cs.setIfInBounds x.snd x.fst) z (l.zipIdx k) = (z.toList.take k ++ l).toArray
  | [], k, z, h => by
    have hk : z.toList.length = k := by simpa using h
    rw [List.zipIdx_nil, List.foldl_nil, List.append_nil, List.take_of_length_le (by omega)]
  | x :: t, k, z, h => by
    have hk : k < z.toList.length := by simp at h ⊢; omega
    rw [List.zipIdx_cons, List.foldl_cons, fold_zipk t (k + 1) _ (by simp at h ⊢; omega)]
    congr 1
    rw [Array.toList_setIfInBounds, List.take_add_one, List.take_set_of_le (Nat.le_refl _), List.getElem?_set_self hk]
    simp
theorem fold_zip (l : List Value) (z : Array Value) (h : z.size = l.length) : List.foldl (fun cs (x : Value × Nat) => cs.setIfInBounds x.snd x.fst) z l.zipIdx = l.toArray := by
  have := fold_zipk l 0 z (by omega)
  simpa using this
abbrev R20 := { l : List Value // l.length = 20 ∧ ∀ v ∈ l, v.oneCell' = true }
def encR (r : R20) : List Value := r.1
theorem encR_E : EncK encR 20 := ⟨fun r => r.2.1, fun r => r.2.2, by omega⟩
theorem Try.recInf : (Try.prog.info? 89).map (fun i => (i.zero, i.size, i.bytes)) = some (some (.agg #[.int .u64 0, .int .u64 0, .int .u64 0, .int .u8 0, .int .u8 0, .int .u8 0, .int .u8 0, .int .u8 0, .int .u8 0, .int .u8 0, .int .u8 0, .int .u8 0, .int .u8 0, .int .u8 0, .int .u8 0, .int .u8 0, .int .u8 0, .int .u8 0, .int .u8 0, .slice none 0 0]), 20, 64) := by kernel_rfl
theorem Try.recK : InfoK Try.prog 69 89 20 64 := by
  obtain ⟨i, hi, h0, h1, h2⟩ := info_parts Try.recInf
  exact ⟨Try.underlying69, i, _, hi, h0, h1, h2, rfl⟩
theorem recL_nums {s r m : Int} {B : List Int} {a : Option Addr} {n c : Nat} : (recL s r m B a n c)[1]? = some (.int .u64 r) ∧ (recL s r m B a n c)[2]? = some (.int .u64 m) := ⟨rfl, rfl⟩
section
variable {base M D F : Nat} {kd : Bool} {E : Nat} {x : Mk} {w w' : World}
theorem MkE.below (h : MkE base M D F kd E x w) (hb : Below w.heap.size w w') : MkE base M D F kd E x w' := ⟨h.1.below hb, h.2⟩
/-- What turns none of its blocks keeps it. -/
theorem MkE.keep {G : Nat → Prop} (h : MkE base M D F kd E x w) (hu : Upd G w w') (hG : ∀ k ∈ mset M x, ¬ G k) (hA : ∀ k ∈ ablk x, ¬ G k) : MkE base M D F kd E x w' :=
  ⟨{ h.1 with mi := h.1.mi.keep hu hG (fun k hk z hz => hA _ (mem_ablk hk hz)) }, h.2⟩
theorem MkE.ages (h : MkE base M D F kd E x w) : ∀ k, k ∈ mset M x ∨ k ∈ ablk x → base ≤ k ∧ k < w.heap.size := fun k hk => by
  rcases hk with hk | hk
  · exact mset_lt h.1.mi k hk
  · obtain ⟨q, hq, hk⟩ := List.mem_flatMap.1 hk
    obtain ⟨z, hz, rfl⟩ := mem_blk.1 hk
    obtain ⟨h1, h2, _⟩ := (h.1.mi.arr q hq).2.2 z hz
    exact ⟨h1, h2⟩
end
/-- The Maker, the numbers, and the row that it hands out. -/
structure LM (B Q base M D F : Nat) (kd : Bool) (E : Nat) (x : Mk) (oa : Option Addr) (oc : Nat) (ol : List R20) (w0 w : World) : Prop where
  me : MkE base M D F kd E x w
  qs : QS B Q w
  hQ : Q < base
  h0 : w0.heap.size ≤ base
  up : Upd (· = Q) w0 w
  oo : OwnK encR 20 89 w base oa ol.length oc ol
  om : ∀ k ∈ blk oa, k ∉ mset M x ∧ k ∉ ablk x
section
variable {B Q base M D F : Nat} {kd : Bool} {E : Nat} {x : Mk} {oa : Option Addr} {oc : Nat} {ol : List R20} {w0 w w' : World}
theorem LM.below (h : LM B Q base M D F kd E x oa oc ol w0 w) (hb : Below w.heap.size w w') : LM B Q base M D F kd E x oa oc ol w0 w' :=
  { h with me := h.me.below hb, qs := h.qs.below hb h.qs.lt, up := h.up.trans (Upd.ofBelow (F := (· = Q)) hb) (fun _ _ e => e), oo := h.oo.mono hb }
theorem LM.num (h : LM B Q base M D F kd E x oa oc ol w0 w) (hu : Upd (· = Q) w w') (hq : QS B Q w') : LM B Q base M D F kd E x oa oc ol w0 w' :=
  { h with me := h.me.keep hu (fun k hk e => by have := (h.me.ages k (.inl hk)).1; have := h.hQ; omega) (fun k hk e => by have := (h.me.ages k (.inr hk)).1; have := h.hQ; omega), qs := hq, up := h.up.trans hu (fun _ _ e => e)
           oo := h.oo.upd hu (fun z hz e => by have := (h.oo.lt z hz).1; have := h.hQ; omega) }
theorem LM.app (h : LM B Q base M D F kd E x oa oc ol w0 w) {E' : Nat} {x' : Mk} (hm : MkE base M D F kd E' x' w') (s : Step M x w x' w') (ha : ∀ k ∈ x'.ds, ∀ z, k.arr.1 = some z → z.block ∈ ablk x ∨ w.heap.size ≤ z.block) : LM B Q base M D F kd E' x' oa oc ol w0 w' := by
  have hge : ∀ k, k ∈ mset M x → base ≤ k := fun k hk => (h.me.ages k (.inl hk)).1
  exact { me := hm, qs := h.qs.below (s.upd.below (B := base) (Nat.le_of_lt (Nat.lt_of_le_of_lt (hge M mset_M) (h.me.ages M (.inl mset_M)).2)) hge) h.hQ, hQ := h.hQ, h0 := h.h0
          up := h.up.trans s.upd (fun j hj e => by have := hge j e; have := h.h0; omega)
          oo := h.oo.upd s.upd (fun z hz e => (h.om _ (mem_blk.2 ⟨z, hz, rfl⟩)).1 e)
          om := fun k hk => by
            obtain ⟨z, hz, rfl⟩ := mem_blk.1 hk
            have hl := (h.oo.lt z hz).2
            obtain ⟨g1, g2⟩ := h.om _ hk
            refine ⟨fun e => by rcases s.new _ e with g | g; exact g1 g; omega, fun e => ?_⟩
            obtain ⟨q, hq, he⟩ := List.mem_flatMap.1 e
            obtain ⟨y, hy, hyb⟩ := mem_blk.1 he
            rcases ha q hq y hy with g | g
            · rw [hyb] at g; exact g2 g
            · omega }
theorem LM.out (h : LM B Q base M D F kd E x oa oc ol w0 w) {oa' : Option Addr} {oc' : Nat} {r : R20} (ho : OwnK encR 20 89 w' base oa' (ol.length + 1) oc' (ol ++ [r])) (hu : Upd (· ∈ blk oa) w w') (hn : ∀ k ∈ blk oa', k ∈ blk oa ∨ w.heap.size ≤ k) : LM B Q base M D F kd E x oa' oc' (ol ++ [r]) w0 w' := by
  have hge : ∀ k ∈ blk oa, base ≤ k := fun k hk => by obtain ⟨z, hz, rfl⟩ := mem_blk.1 hk; exact (h.oo.lt z hz).1
  have hb : base ≤ w.heap.size := Nat.le_of_lt (Nat.lt_of_le_of_lt (h.me.ages M (.inl mset_M)).1 (h.me.ages M (.inl mset_M)).2)
  exact { me := h.me.keep hu (fun k hk e => (h.om k e).1 hk) (fun k hk e => (h.om k e).2 hk), qs := h.qs.below (hu.below hb hge) h.hQ, hQ := h.hQ, h0 := h.h0
          up := h.up.trans hu (fun j hj e => by have := hge j e; have := h.h0; omega)
          oo := by rw [List.length_append]; exact ho
          om := fun k hk => by
            rcases hn k hk with g | g
            · exact h.om k g
            · exact ⟨fun e => by have := (h.me.ages k (.inl e)).2; omega, fun e => by have := (h.me.ages k (.inr e)).2; omega⟩ }
end
def MakeE (Q : Nat) (w : World) (e : Ending) (w' : World) : Prop := ∃ (base M D F : Nat) (kd : Bool) (E : Nat) (x : Mk) (a : Option Addr) (n c : Nat), e = .returned (.tuple #[.pointer (some ⟨M, 0, none⟩), .slice a n c]) ∧ MkE base M D F kd E x w' ∧ E ≤ 12 ∧ Upd (· = Q) w w'
set_option maxRecDepth 100000 in
set_option maxHeartbeats 4000000 in
theorem maker_lo (B Q most : Nat) (hm : most ≤ 12) (w : World) (hq : QS B Q w) : Calls Try.prog 29 #[.pointer (some ⟨Q, 0, none⟩), .int .i64 (most : Int)] w (MakeE Q w) := by
  have HQ := Lib.hid hq
  clear hq
  go_enter Try.func29, Try.ntmps29
  go_wp2_with fail
  refine (config_lo B Q _ HQ.out).mono ?_
  rintro e w1 ⟨X, Y, Z, D, F, kd, rfl, hX, hY, hZ, hXl, hYl, hZl, hD, hF, hq1, hu1⟩
  have HQ1 := Lib.hid hq1
  have HU1 := Lib.hid hu1
  have HCs := Lib.hid (show (cfgL X Y Z D F kd).toArray.size = 52 from cfgL_length hXl hYl hZl)
  have HOne := Lib.hid (all_oneCell_toArray (cfgL_one (A := X) (B := Y) (C := Z) (D := D) (F := F) (kd := kd)))
  have HNew := Lib.hid (fun (v : Int) (hv : U64 v) (w : World) => new_lo X Y Z D F kd hX hY hZ hXl hYl hZl hD hF v hv w)
  clear hX hY hZ hXl hYl hZl hD hF hq1 hu1
  have hZc := heap_alloc_new w1 (.cells #[Value.int .u8 0, Value.int .u8 0, Value.int .u8 0, Value.int .u8 0, Value.int .u8 0, Value.int .u8 0, Value.int .u8 0, Value.int .u8 0, Value.int .u8 0, Value.int .u8 0, Value.int .u8 0, Value.int .u8 0, Value.int .u8 0, Value.int .u8 0, Value.int .u8 0, Value.int .u8 0, Value.int .u8 0, Value.int .u8 0, Value.int .u8 0, Value.int .u8 0, Value.int .u8 0, Value.int .u8 0, Value.int .u8 0, Value.int .u8 0, Value.int .u8 0, Value.int .u8 0, Value.int .u8 0, Value.int .u8 0, Value.int .u8 0, Value.int .u8 0, Value.int .u8 0, Value.int .u8 0, Value.int .u8 0, Value.int .u8 0, Value.int .u8 0, Value.int .u8 0, Value.int .u8 0, Value.int .u8 0, Value.int .u8 0, Value.int .u8 0, Value.int .u8 0, Value.int .u8 0, Value.int .u8 0, Value.int .u8 0, Value.int .u8 0, Value.int .u8 0, Value.int .u8 0, Value.int .u8 0, Value.int .i64 0, Value.int .i64 0, Value.int .i64 0, Value.bool false] 83)
  have hBc := below_alloc w1 (.cells #[Value.int .u8 0, Value.int .u8 0, Value.int .u8 0, Value.int .u8 0, Value.int .u8 0, Value.int .u8 0, Value.int .u8 0, Value.int .u8 0, Value.int .u8 0, Value.int .u8 0, Value.int .u8 0, Value.int .u8 0, Value.int .u8 0, Value.int .u8 0, Value.int .u8 0, Value.int .u8 0, Value.int .u8 0, Value.int .u8 0, Value.int .u8 0, Value.int .u8 0, Value.int .u8 0, Value.int .u8 0, Value.int .u8 0, Value.int .u8 0, Value.int .u8 0, Value.int .u8 0, Value.int .u8 0, Value.int .u8 0, Value.int .u8 0, Value.int .u8 0, Value.int .u8 0, Value.int .u8 0, Value.int .u8 0, Value.int .u8 0, Value.int .u8 0, Value.int .u8 0, Value.int .u8 0, Value.int .u8 0, Value.int .u8 0, Value.int .u8 0, Value.int .u8 0, Value.int .u8 0, Value.int .u8 0, Value.int .u8 0, Value.int .u8 0, Value.int .u8 0, Value.int .u8 0, Value.int .u8 0, Value.int .i64 0, Value.int .i64 0, Value.int .i64 0, Value.bool false] 83)
  go_upto_region 2 with (with_reducible refine wpList_storeS rfl rfl Try.cfgI rfl rfl hZc (by with_unfolding_all rfl) HCs.out HOne.out ?_; intro w2 hX2 hu2)
  have HB2 := Lib.hid (hBc.trans (hu2.below (B := w1.heap.size) hBc.size (fun k hk => by rw [hk]; exact Nat.le_refl _)))
  obtain ⟨CB, hCB⟩ : ∃ CB, w1.heap.size = CB := ⟨_, rfl⟩
  have HQ2 := Lib.hid (HQ1.out.below HB2.out HQ1.out.lt)
  have HU2 := Lib.hid (HU1.out.trans (Upd.ofBelow (F := (· = Q)) HB2.out) (fun _ _ e => e))
  have hQC : Q < CB := by have := HQ1.out.lt; omega
  rw [hCB] at hX2 ⊢
  have HX2 := Lib.hid hX2.out
  clear hX2 hu2 hZc hBc hCB HB2 HQ1 HU1
  have hBd := below_drew w2
  have hC : w2.drew.heap[CB]? = some (.cells (cfgL X Y Z D F kd).toArray 83 (0, 0)) := HX2.out
  have HQd := Lib.hid (HQ2.out.below hBd HQ2.out.lt)
  have HUd := Lib.hid (HU2.out.trans (Upd.ofBelow (F := (· = Q)) hBd) (fun _ _ e => e))
  refine wp_region_held (S := fun w' => w'.heap[CB]? = some (.cells (cfgL X Y Z D F kd).toArray 83 (0, 0))) (by kernel_rfl) ?_
  change wpAnyH _ _ _ _ _ _ _ _ w2.drew
  generalize w2.drew = wd at hC HQd HUd ⊢
  clear hBd
  refine held_take 0 (d := some 14) (v := (.agg (cfgL X Y Z D F kd).toArray)) rfl rfl (by kernel_rfl) (by kernel_rfl) (by kernel_rfl) (fun _ _ _ h => h) hC (by kernel_rfl) (fun w hSw => by exact exec_loadS rfl Try.cfgI rfl hSw HCs.out) ?_
  try simp only [Act.put, List.setIfInBounds_toArray, List.set_cons_zero, List.set_cons_succ]
  refine held_take 1 (d := some 15) (v := (.pointer (some ⟨Q, 0, none⟩))) rfl rfl (by kernel_rfl) (by kernel_rfl) (by kernel_rfl) (fun _ _ _ h => h) hC (by kernel_rfl) (fun w hSw => by clear hSw; go_simp) ?_
  try simp only [Act.put, List.setIfInBounds_toArray, List.set_cons_zero, List.set_cons_succ]
  refine held_one 2 rfl (by kernel_rfl) (fun K hK => ?_)
  go_simp
  go_at_call 41
  refine (seqn_any B Q 6 (by omega) (by omega) _ HQd.out).mono ?_
  rintro e w3 ⟨k, rfl, hk, hq3, hu3⟩
  have HQ3 := Lib.hid hq3
  have HU3 := Lib.hid (HUd.out.trans hu3 (fun _ _ e => e))
  have hC3 := row_upd hu3 (show ¬ CB = Q by omega) hC
  have hwk : IntKind.u64.wrap (k : Int) = (k : Int) := by rw [IntKind.wrap_u64]; omega
  clear hq3 hu3
  go_simp
  refine hK _ _ hC3 ?_
  clear hK K hC
  try simp only [Act.put, List.setIfInBounds_toArray, List.set_cons_zero, List.set_cons_succ]
  refine held_take 3 (d := some 17) (v := (.int .u64 (k : Int))) rfl rfl (by kernel_rfl) (by kernel_rfl) (by kernel_rfl) (fun _ _ _ h => h) hC3 (by kernel_rfl) (fun w hSw => by clear hSw; go_simp) ?_
  try simp only [Act.put, List.setIfInBounds_toArray, List.set_cons_zero, List.set_cons_succ]
  refine held_one 4 rfl (by kernel_rfl) (fun K hK => ?_)
  go_simp
  go_at_call 40
  refine (HNew.out (k : Int) ⟨by omega, by omega⟩ _).mono ?_
  rintro e w4 ⟨M, x0, rfl, hme, hb4, hds⟩
  have hC4 := row_below hb4 (lt_of_heap hC3) hC3
  have hl4 : LM B Q w3.heap.size M D F kd 0 x0 none 0 [] w w4 := { me := hme, qs := HQ3.out.below hb4 HQ3.out.lt, hQ := HQ3.out.lt, h0 := HU3.out.size, up := HU3.out.trans (Upd.ofBelow (F := (· = Q)) hb4) (fun _ _ e => e), oo := OwnK.nil _ _ _ _ _, om := fun k hk => (by simp [blk] at hk) }
  obtain ⟨base, hl4⟩ : ∃ base, LM B Q base M D F kd 0 x0 none 0 [] w w4 := ⟨_, hl4⟩
  have HL4 := Lib.hid hl4
  go_simp
  refine hK _ _ hC4 ?_
  clear hK K hC3 hme hb4 hds hl4
  try simp only [Act.put, List.setIfInBounds_toArray, List.set_cons_zero, List.set_cons_succ]
  refine held_take 5 (d := some 7) (v := (.pointer (some ⟨M, 0, none⟩))) rfl rfl (by kernel_rfl) (by kernel_rfl) (by kernel_rfl) (fun _ _ _ h => h) hC4 (by kernel_rfl) (fun w hSw => by clear hSw; go_simp) ?_
  try simp only [Act.put, List.setIfInBounds_toArray, List.set_cons_zero, List.set_cons_succ]
  refine wpAnyH_done (by kernel_rfl) ?_ _
  clear hC4 HX2 HQ2 HU2 HQd HUd HQ3 HU3 HNew HQ
  go_wp2_with fail
  go_loopw [8] (fun o_ wr => ∃ (E : Nat) (x : Mk) (oa : Option Addr) (oc : Nat) (ol : List R20), o_ = .slice oa ol.length oc ∧ E ≤ ol.length ∧ ol.length ≤ most ∧ LM B Q base M D F kd E x oa oc ol w wr) (fun o_ _ => match o_ with | .slice _ n _ => most - n | _ => 0)
  case atStart => exact ⟨0, x0, none, 0, [], rfl, Nat.le_refl _, Nat.zero_le _, HL4.out⟩
  case round =>
    obtain ⟨E, x, oa, oc, ol, rfl, hE, hol, hlm⟩ := hrel
    have HL := Lib.hid hlm
    clear hlm
    by_cases hlt : ol.length < most
    · have hlt' : (ol.length : Int) < (most : Int) := by omega
      have hlt2 : decide ((ol.length : Int) < (most : Int)) = true := decide_eq_true hlt'
      go_wp2_with fail
      refine (more_any B Q _ HL.out.qs).mono ?_
      rintro e w5 ⟨⟨b, rfl⟩, hb5⟩
      have HL5 := Lib.hid (HL.out.below hb5)
      clear hb5 HL
      rcases b with _ | _
      · go_wp2_with fail
        go_ret2
        exact ⟨base, M, D, F, kd, E, x, oa, ol.length, oc, rfl, HL5.out.me, by omega, HL5.out.up⟩
      · go_wp2_with fail
        refine (tail_lo HL5.out.me.1.mi).mono ?_
        rintro e w5 ⟨t, rfl, ht, rfl⟩
        go_wp2_with fail
        refine (record_lo B Q _ (by first | exact u64_mod _ | (rw [IntKind.wrap_u64]; exact u64_mod _)) _ HL5.out.qs).mono ?_
        rintro e w6 ⟨s, r, m, Xb, fa, fc, FL, rfl, hs, hr, hmm, hXb, hXbl, hfr, hfa, hfl, hfp, hq6, hu6⟩
        have HL6 := Lib.hid (HL5.out.num hu6 hq6)
        have HS := Lib.hid hs
        have HR := Lib.hid hr
        have HMm := Lib.hid hmm
        have HXb := Lib.hid hXb
        have HXbl := Lib.hid hXbl
        have HFr := Lib.hid hfr
        have HFp := Lib.hid hfp
        have HSz := Lib.hid (show (recL s r m Xb fa FL.length fc).toArray.size = 20 from recL_length hXbl)
        have HOn := Lib.hid (all_oneCell_toArray (recL_one (s := s) (r := r) (m := m) (B := Xb) (a := fa) (n := FL.length) (c := fc)))
        have hZr := heap_alloc_new w6 (.cells #[Value.int .u64 0, Value.int .u64 0, Value.int .u64 0, Value.int .u8 0, Value.int .u8 0, Value.int .u8 0, Value.int .u8 0, Value.int .u8 0, Value.int .u8 0, Value.int .u8 0, Value.int .u8 0, Value.int .u8 0, Value.int .u8 0, Value.int .u8 0, Value.int .u8 0, Value.int .u8 0, Value.int .u8 0, Value.int .u8 0, Value.int .u8 0, Value.slice none 0 0] 89)
        have hBr := below_alloc w6 (.cells #[Value.int .u64 0, Value.int .u64 0, Value.int .u64 0, Value.int .u8 0, Value.int .u8 0, Value.int .u8 0, Value.int .u8 0, Value.int .u8 0, Value.int .u8 0, Value.int .u8 0, Value.int .u8 0, Value.int .u8 0, Value.int .u8 0, Value.int .u8 0, Value.int .u8 0, Value.int .u8 0, Value.int .u8 0, Value.int .u8 0, Value.int .u8 0, Value.slice none 0 0] 89)
        clear hs hr hmm hXb hXbl hfr hfa hfp hq6 hu6 HL5
        go_upto_region 6 with (with_reducible refine wpList_storeS rfl rfl Try.recI rfl rfl hZr (by with_unfolding_all rfl) HSz.out HOn.out ?_; intro w7 hX7 hu7)
        have hb7 := hBr.trans (hu7.below (B := w6.heap.size) hBr.size (fun k hk => by rw [hk]; exact Nat.le_refl _))
        obtain ⟨RB, hRB⟩ : ∃ RB, w6.heap.size = RB := ⟨_, rfl⟩
        have HL7 := Lib.hid (HL6.out.below hb7)
        have HFr7 := Lib.hid (HFr.out.below hb7)
        have HRn := Lib.hid (show ∀ k, k ∈ mset M x → k < RB from fun k hk => by rw [← hRB]; exact (HL6.out.me.ages k (.inl hk)).2)
        rw [hRB] at hX7 ⊢
        have HX7 := Lib.hid hX7.out
        have HRg := Lib.hid (show w7.rangeAt RB 3 (Xb.map (Value.int .u8)) from fun j v hv => cell_of_heap HX7.out (3 + j) v (by simpa using recL_B (s := s) (r := r) (m := m) (a := fa) (n := FL.length) (c := fc) j v hv))
        have HLb := Lib.hid (show (Xb.map (Value.int .u8)).length = 16 by rw [List.length_map, HXbl.out])
        have c19 := cell_of_heap HX7.out 19 _ (by simpa using recL_19 HXbl.out)
        have c1 := cell_of_heap HX7.out 1 (.int .u64 r) rfl
        have c2 := cell_of_heap HX7.out 2 (.int .u64 m) rfl
        have hb8 : base ≤ w7.heap.size := Nat.le_of_lt (Nat.lt_of_le_of_lt (HL7.out.me.ages M (.inl mset_M)).1 (HL7.out.me.ages M (.inl mset_M)).2)
        have HP := Lib.hid (append_lo HL7.out.me (by omega) fa FL.length fc FL HFr7.out HFp.out hfl r m HR.out HMm.out Xb HXb.out HXbl.out hb8)
        clear hX7 hu7 hb7 hRB hZr hBr HFr HL6 HFr7
        go_wp2_with (with_reducible refine wpList_loadMid rfl rfl Try.idR rfl HRg.out HLb.out ?_)
        refine HP.out.mono ?_
        rintro e w8 ⟨v, k, x', E', rfl, hE', hme', hst', har'⟩
        have HL8 := Lib.hid (HL7.out.app hme' hst' har')
        have HX8 := Lib.hid (row_upd hst'.upd (fun e => by have := HRn.out _ e; omega) HX7.out)
        clear hme' hst' har' HP HRg c19 c1 c2 HL7
        by_cases hk0 : k = 0
        · subst hk0
          have hlen20 : (recL s r m Xb fa FL.length fc).length = 20 := recL_length HXbl.out
          have hfold := fold_zip (recL s r m Xb fa FL.length fc) #[Value.int .u64 0, Value.int .u64 0, Value.int .u64 0, Value.int .u8 0, Value.int .u8 0, Value.int .u8 0, Value.int .u8 0, Value.int .u8 0, Value.int .u8 0, Value.int .u8 0, Value.int .u8 0, Value.int .u8 0, Value.int .u8 0, Value.int .u8 0, Value.int .u8 0, Value.int .u8 0, Value.int .u8 0, Value.int .u8 0, Value.int .u8 0, Value.slice none 0 0] (by rw [recL_length HXbl.out]; rfl)
          obtain ⟨rr, hrr⟩ : ∃ rr : R20, rr.1 = recL s r m Xb fa FL.length fc := ⟨⟨_, recL_length HXbl.out, recL_one⟩, rfl⟩
          have HBo := Lib.hid (below_alloc w8 (.cells (recL s r m Xb fa FL.length fc).toArray 89))
          have HL9 := Lib.hid (HL8.out.below HBo.out)
          have HRo := Lib.hid (RdK.one encR_E 89 w8 rr (recL s r m Xb fa FL.length fc).toArray (by rw [encR, hrr]))
          have hb9 : base ≤ (w8.alloc (.cells (recL s r m Xb fa FL.length fc).toArray 89)).heap.size := by have := HL9.out.me.ages M (.inl mset_M); omega
          clear hrr
          go_wp2_with (first
            | (with_reducible refine wpList_loadS rfl rfl Try.recI rfl HX8.out HSz.out ?_)
            | (at_builtin; go_must (refine wpList_appK encR_E rfl rfl Try.recK rfl rfl HL9.out.oo HRo.out (by omega) (by omega) (by omega) hb9 ?_); intro a10 c10 w10 ho10 hu10 hn10))
          have HL10 := Lib.hid (HL9.out.out ho10 hu10 hn10)
          clear ho10 hu10 hn10 hfold hlen20
          go_roundw
          case rel => exact ⟨E', x', a10, c10, ol ++ [rr], by rw [List.length_append, List.length_singleton], by rw [List.length_append, List.length_singleton]; omega, by rw [List.length_append, List.length_singleton]; omega, HL10.out⟩
          case measure => show most - (ol.length + 1) < most - ol.length; omega
        · have hk' : (k != 0) = true := by rw [bne_iff_ne]; exact hk0
          go_wp2_with fail
          go_ret2
          exact ⟨base, M, D, F, kd, E', x', oa, ol.length, oc, rfl, HL8.out.me, by omega, HL8.out.up⟩
    · have hge : ¬ ((ol.length : Int) < (most : Int)) := by omega
      have hge2 : decide ((ol.length : Int) < (most : Int)) = false := decide_eq_false hge
      go_wp2_with fail
      go_ret2
      exact ⟨base, M, D, F, kd, E, x, oa, ol.length, oc, rfl, HL.out.me, by omega, HL.out.up⟩
end Go.Proofs.Ytpkmdnfkeebgbaa

/- The bytes of the Maker's journal. Conditions stand as premises. -/
namespace Go.Proofs.Ytpkmdnfkeebgbaa
open Go.ChangeShapes Go.WideShapes Go.ChangeAt Go.RowKit
set_option linter.unusedVariables false
set_option linter.unusedSimpArgs false
/-- What a journal's bytes are. -/
structure JB (l : List Int) (co inc : Int) (I Ns : List Int) (ta ti te : Int) (D F : Nat) (body : List Int) : Prop where
  eq : l = headB co inc 1 I Ns ta ti te ++ body
  co : U32 co
  inc : inc = 0 ∨ inc = 4
  il : I.length = 64
  ib : IsB I
  nl : Ns.length = 21
  nu : ∀ v ∈ Ns, U64 v
  ta : U32 ta
  ti : U32 ti
  te : U64 te
  bb : IsB body
  n0 : Ns[0]? = some 272
  n1 : Ns[1]? = some (body.length : Int)
  n2 : Ns[2]? = some 288
  n3 : Ns[3]? = some (16 * (D : Int))
  n4 : Ns[4]? = some (304 + 16 * (D : Int))
  n5 : Ns[5]? = some (16 * (F : Int))
  dr : 1 ≤ D ∧ D ≤ 7
  fr : 1 ≤ F ∧ F ≤ 4
  md : body.length % 8 = 0
  lo : 32 + 16 * D + 16 * F ≤ body.length
  hi : body.length ≤ 40000
def IsJ (l : List Int) : Prop := ∃ co inc I Ns ta ti te D F body, JB l co inc I Ns ta ti te D F body
def ImgE (w : World) (e : Ending) (w' : World) : Prop := ∃ (a : Option Addr) (c : Nat) (l : List Int), e = .returned (.slice a l.length c) ∧ OwnB 5 w' w.heap.size a l.length c l ∧ Below w.heap.size w w' ∧ IsJ l
theorem Try.rhI : RowInfo Try.prog 34 90 := ⟨by kernel_rfl, by kernel_rfl⟩
set_option maxRecDepth 100000 in
set_option maxHeartbeats 4000000 in
theorem image_lo {base M D F : Nat} {kd : Bool} {E T dn fn cn : Nat} {x : Mk} {w : World} (h : MkI base M D F kd E T dn fn cn x w) (hT : T ≤ 40000) :
    Calls Try.prog 30 #[.pointer (some ⟨M, 0, none⟩), .int .i64 1] w (ImgE w) := by
  obtain ⟨co, inc, st, I, Ns, ta, ti, te, hh⟩ := h.mi.hd
  have HH := Lib.hid hh
  have H := Lib.hid h
  have hrng : w.rangeAt M 52 (headL co inc st I Ns ta ti te) := fun j v hv => cell_of_heap h.mi.row (52 + j) v (mkL_hget h.mi.cfg.len j v (by rw [hh.eq]; exact hv))
  have HRg := Lib.hid hrng
  have hl90 : (headL co inc st I Ns ta ti te).length = 90 := headL_length (n := 20) hh.il hh.ns.len
  have HL90 := Lib.hid hl90
  have hs90 : (headL co inc st I Ns ta ti te).toArray.size = 90 := hl90
  have hone := headL_one (co := co) (inc := inc) (st := st) (I := I) (Ns := Ns) (ta := ta) (ti := ti) (te := te)
  clear h hh hrng hl90
  go_enter Try.func30, Try.ntmps30
  have hZ := heap_alloc_new w (.cells Try.zeroCells34 34)
  have HB1 := Lib.hid (below_alloc w (.cells Try.zeroCells34 34))
  go_upto_region 2 with (first
    | (with_reducible refine wpList_loadMid rfl rfl Try.rhI rfl HRg.out HL90.out ?_)
    | (with_reducible refine wpList_storeS rfl rfl Try.rhI rfl rfl hZ (by with_unfolding_all rfl) hs90 hone ?_; intro w2 hX2 hu2))
  obtain ⟨S, hS⟩ : ∃ S, w.heap.size = S := ⟨_, rfl⟩
  have HS := Lib.hid hS
  have HB2 := Lib.hid (HB1.out.trans (hu2.below (B := w.heap.size) HB1.out.size (fun k hk => by rw [hk]; exact Nat.le_refl _)))
  rw [hS] at hX2 hu2 ⊢
  have HX2 := Lib.hid hX2.out
  clear hX2 hu2 hS hZ hs90 hone HB1
  have c2 := cell_of_heap HX2.out 2 (.int .i64 st) rfl
  have f2 := free_of_heap HX2.out 2
  have hX3 : (w2.setCell ⟨S, 2, none⟩ (.int .i64 1)).heap[S]? = some (.cells (headL co inc 1 I Ns ta ti te).toArray 34 (0, 0)) := row_set HX2.out 2 (.int .i64 1)
  have HX3 := Lib.hid hX3
  have HB3 := Lib.hid (HB2.out.trans ((Upd.setCell (F := (· = S)) w2 ⟨S, 2, none⟩ (.int .i64 1) rfl).below (B := w.heap.size) HB2.out.size (fun k hk => by rw [hk]; exact Nat.le_of_eq HS.out)))
  clear hX3
  go_upto_region 3 with fail
  generalize w2.setCell ⟨S, 2, none⟩ (.int .i64 1) = w3 at HX3 HB3 ⊢
  clear c2 f2 HX2 HB2
  have HM3 := Lib.hid (H.out.mi.below HB3.out)
  have cb := HM3.out.cb
  have hbl : x.bl.length = x.b.2.1 := HM3.out.bO.1
  have hlo := H.out.lo
  have hhi := H.out.hi
  have hwa : IntKind.i64.wrap ((x.b.2.1 : Int) - 272) = (x.b.2.1 : Int) - 272 := by rw [IntKind.wrap_i64]; omega
  have hwb : IntKind.u64.wrap ((x.b.2.1 : Int) - 272) = (x.b.2.1 : Int) - 272 := by rw [IntKind.wrap_u64]; omega
  obtain ⟨n1, hn1⟩ : ∃ n1, Ns[1]? = some n1 := ⟨_, List.getElem?_eq_getElem (by rw [HH.out.ns.len]; omega)⟩
  have c68 := cell_of_heap HX3.out 68 (.int .u64 n1) (headL_N HH.out.il 1 n1 hn1)
  have f68 := free_of_heap HX3.out 68
  have hX4 := row_set HX3.out 68 (.int .u64 ((x.b.2.1 : Int) - 272))
  rw [headL_setN HH.out.il 1 (by rw [HH.out.ns.len]; omega) ((x.b.2.1 : Int) - 272)] at hX4
  have HX4 := Lib.hid hX4
  have HB4 := Lib.hid (HB3.out.trans ((Upd.setCell (F := (· = S)) w3 ⟨S, 68, none⟩ (.int .u64 ((x.b.2.1 : Int) - 272)) rfl).below (B := w.heap.size) HB3.out.size (fun k hk => by rw [hk]; exact Nat.le_of_eq HS.out)))
  have hb40 : x.b.2.1 ≤ 40000 := by omega
  have Hbl := Lib.hid hbl
  clear hX4 hn1
  go_upto_region 4 with fail
  generalize w3.setCell ⟨S, 68, none⟩ (.int .u64 ((x.b.2.1 : Int) - 272)) = w4 at HX4 HB4 ⊢
  clear c68 f68 cb hbl HX3 HB3 HM3
  have HBd := Lib.hid (HB4.out.trans ((below_drew w4).mono HB4.out.size))
  have HMd := Lib.hid (H.out.mi.below HBd.out)
  have hcap : x.b.2.1 ≤ x.b.2.2 := HMd.out.bO.rd.2.1
  obtain ⟨aL, xL, rL⟩ := cutL_ex (enc := Value.int .u8) Try.oneB x.b.1 x.b.2.1 x.b.2.2 272 (by have := Hbl.out; omega) hcap
  have HXL := Lib.hid xL
  have HRL := Lib.hid (rL _ _ HMd.out.bO.rd)
  clear xL rL
  have hdp := HMd.out.dp
  have hC : w4.drew.heap[S]? = some (.cells (headL co inc 1 I (Ns.set 1 ((x.b.2.1 : Int) - 272)) ta ti te).toArray 34 (0, 0)) ∧ w4.drew.cell? ⟨M, 142, none⟩ = some (.int .u64 x.dp) ∧ w4.drew.cell? ⟨M, 143, none⟩ = some (.slice x.b.1 x.b.2.1 x.b.2.2) := ⟨HX4.out, HMd.out.cdp, HMd.out.cb⟩
  have hSl : S < w4.drew.heap.size := lt_of_heap HX4.out
  have hMl : M < w4.drew.heap.size := lt_of_heap HMd.out.row
  refine wp_region_held (S := fun w' => w'.heap[S]? = some (.cells (headL co inc 1 I (Ns.set 1 ((x.b.2.1 : Int) - 272)) ta ti te).toArray 34 (0, 0)) ∧ w'.cell? ⟨M, 142, none⟩ = some (.int .u64 x.dp) ∧ w'.cell? ⟨M, 143, none⟩ = some (.slice x.b.1 x.b.2.1 x.b.2.2)) (by kernel_rfl) ?_
  change wpAnyH _ _ _ _ _ _ _ _ w4.drew
  generalize w4.drew = wd at hC hSl hMl HBd HMd HRL ⊢
  clear HX4 HB4
  have hs90 : (headL co inc 1 I (Ns.set 1 ((x.b.2.1 : Int) - 272)) ta ti te).toArray.size = 90 := headL_length (n := 20) HH.out.il (by rw [List.length_set]; exact HH.out.ns.len)
  have Hs90 := Lib.hid hs90
  clear hs90
  refine held_take 0 (d := some 21) (v := (.agg (headL co inc 1 I (Ns.set 1 ((x.b.2.1 : Int) - 272)) ta ti te).toArray)) rfl rfl (by kernel_rfl) (by kernel_rfl) (by kernel_rfl) (fun _ _ _ h => h) hC (by kernel_rfl) (fun w hSw => by exact exec_loadS rfl Try.rhI rfl hSw.1 Hs90.out) ?_
  try simp only [Act.put, List.setIfInBounds_toArray, List.set_cons_zero, List.set_cons_succ]
  refine held_take 1 (d := some 22) (v := (.pointer (some ⟨M, 0, none⟩))) rfl rfl (by kernel_rfl) (by kernel_rfl) (by kernel_rfl) (fun _ _ _ h => h) hC (by kernel_rfl) (fun w hSw => by obtain ⟨x1, x2, x3⟩ := hSw; clear x1; go_simp) ?_
  try simp only [Act.put, List.setIfInBounds_toArray, List.set_cons_zero, List.set_cons_succ]
  refine held_take 2 (d := some 23) (v := (.pointer (some ⟨M, 0, none⟩))) rfl rfl (by kernel_rfl) (by kernel_rfl) (by kernel_rfl) (fun _ _ _ h => h) hC (by kernel_rfl) (fun w hSw => by obtain ⟨x1, x2, x3⟩ := hSw; clear x1; go_simp) ?_
  try simp only [Act.put, List.setIfInBounds_toArray, List.set_cons_zero, List.set_cons_succ]
  refine held_take 3 (d := some 24) (v := (.pointer (some ⟨M, 142, none⟩))) rfl rfl (by kernel_rfl) (by kernel_rfl) (by kernel_rfl) (fun _ _ _ h => h) hC (by kernel_rfl) (fun w hSw => by obtain ⟨x1, x2, x3⟩ := hSw; clear x1; go_simp) ?_
  try simp only [Act.put, List.setIfInBounds_toArray, List.set_cons_zero, List.set_cons_succ]
  refine held_take 4 (d := some 25) (v := (.int .u64 x.dp)) rfl rfl (by kernel_rfl) (by kernel_rfl) (by kernel_rfl) (fun _ _ _ h => h) hC (by kernel_rfl) (fun w hSw => by obtain ⟨x1, x2, x3⟩ := hSw; clear x1; go_simp) ?_
  try simp only [Act.put, List.setIfInBounds_toArray, List.set_cons_zero, List.set_cons_succ]
  refine held_take 6 (d := some 27) (v := (.pointer (some ⟨M, 0, none⟩))) rfl rfl (by kernel_rfl) (by kernel_rfl) (by kernel_rfl) (fun _ _ _ h => h) hC (by kernel_rfl) (fun w hSw => by obtain ⟨x1, x2, x3⟩ := hSw; clear x1; go_simp) ?_
  try simp only [Act.put, List.setIfInBounds_toArray, List.set_cons_zero, List.set_cons_succ]
  refine held_take 7 (d := some 28) (v := (.pointer (some ⟨M, 0, none⟩))) rfl rfl (by kernel_rfl) (by kernel_rfl) (by kernel_rfl) (fun _ _ _ h => h) hC (by kernel_rfl) (fun w hSw => by obtain ⟨x1, x2, x3⟩ := hSw; clear x1; go_simp) ?_
  try simp only [Act.put, List.setIfInBounds_toArray, List.set_cons_zero, List.set_cons_succ]
  refine held_take 8 (d := some 29) (v := (.pointer (some ⟨M, 143, none⟩))) rfl rfl (by kernel_rfl) (by kernel_rfl) (by kernel_rfl) (fun _ _ _ h => h) hC (by kernel_rfl) (fun w hSw => by obtain ⟨x1, x2, x3⟩ := hSw; clear x1; go_simp) ?_
  try simp only [Act.put, List.setIfInBounds_toArray, List.set_cons_zero, List.set_cons_succ]
  refine held_take 9 (d := some 30) (v := (.slice x.b.1 x.b.2.1 x.b.2.2)) rfl rfl (by kernel_rfl) (by kernel_rfl) (by kernel_rfl) (fun _ _ _ h => h) hC (by kernel_rfl) (fun w hSw => by obtain ⟨x1, x2, x3⟩ := hSw; clear x1; go_simp) ?_
  try simp only [Act.put, List.setIfInBounds_toArray, List.set_cons_zero, List.set_cons_succ]
  refine held_take 10 (d := some 31) (v := (.slice aL (x.b.2.1 - 272) (x.b.2.2 - 272))) rfl rfl (by kernel_rfl) (by kernel_rfl) (by kernel_rfl) (fun _ _ _ h => h) hC (by kernel_rfl) (fun w hSw => by exact HXL.out w _ _ rfl rfl rfl) ?_
  try simp only [Act.put, List.setIfInBounds_toArray, List.set_cons_zero, List.set_cons_succ]
  refine held_one 5 rfl (by kernel_rfl) (fun K hK => ?_)
  go_simp
  go_at_call 15
  have hNS : ∀ v ∈ Ns.set 1 ((x.b.2.1 : Int) - 272), U64 v := fun v hv => by
    rcases List.mem_or_eq_of_mem_set hv with hv | rfl
    · exact HH.out.ns.u v hv
    · have := Hbl.out; exact ⟨by omega, by omega⟩
  have hincU : U32 inc := by rcases HH.out.inc with h | h <;> rw [h] <;> exact ⟨by omega, by omega⟩
  have hP := refheadb_any co inc 1 I (Ns.set 1 ((x.b.2.1 : Int) - 272)) ta ti te x.dp wd HH.out.il (by rw [List.length_set]; exact HH.out.ns.len) HH.out.ib HH.out.co hincU hNS HH.out.ta HH.out.ti HH.out.te hdp
  unfold NewB at hP
  have hln : (headB co inc 1 I (Ns.set 1 ((x.b.2.1 : Int) - 272) ++ [x.dp]) ta ti te).length = 272 := by rw [headB_length HH.out.il, List.length_append, List.length_set, HH.out.ns.len]; rfl
  rw [hln] at hP
  refine hP.mono ?_
  rintro e w5 ⟨a5, c5, rfl, ho5, hb5⟩
  have hC5 := And.intro (row_below hb5 hSl hC.1) (And.intro (bcell hb5 hMl hC.2.1) (bcell hb5 hMl hC.2.2))
  have HB5 := Lib.hid (HBd.out.trans (hb5.mono HBd.out.size))
  have HRL5 := Lib.hid (HRL.out.mono hb5)
  have HO5 := Lib.hid ho5
  have Hln := Lib.hid hln
  have HNS := Lib.hid hNS
  have HDP := Lib.hid hdp
  clear hP hln hNS ho5 hdp hincU
  go_simp
  refine hK _ _ hC5 ?_
  clear hK K hC
  try simp only [Act.put, List.setIfInBounds_toArray, List.set_cons_zero, List.set_cons_succ]
  refine held_one 11 rfl (by kernel_rfl) (fun K hK => ?_)
  refine step_appOwnD (d := some 32) rfl rfl rfl Try.oneB rfl rfl HO5.out.2 HRL5.out (fun _ => rfl) (by omega) (by omega) hb5.size ?_
  intro a6 c6 w6 ho6 hb6
  have hC6 := And.intro (row_below hb6 hSl hC5.1) (And.intro (bcell hb6 hMl hC5.2.1) (bcell hb6 hMl hC5.2.2))
  refine hK _ _ hC6 ?_
  clear hK K hC5
  try simp only [Act.put, List.setIfInBounds_toArray, List.set_cons_zero, List.set_cons_succ]
  refine held_take 12 (d := some 4) (v := (.slice a6 (272 + (x.b.2.1 - 272)) c6)) rfl rfl (by kernel_rfl) (by kernel_rfl) (by kernel_rfl) (fun _ _ _ h => h) hC6 (by kernel_rfl) (fun w hSw => by clear hSw; go_simp) ?_
  try simp only [Act.put, List.setIfInBounds_toArray, List.set_cons_zero, List.set_cons_succ]
  refine wpAnyH_done (by kernel_rfl) ?_ _
  have HO6 := Lib.hid ho6
  have HB6 := Lib.hid (HB5.out.trans (hb6.mono HBd.out.size))
  have HCap := Lib.hid HBd.out.size
  clear hC6 ho6 hb6 hb5
  go_wp2_with fail
  go_ret
  have hbl := Hbl.out
  have hll : (headB co inc 1 I (Ns.set 1 ((x.b.2.1 : Int) - 272) ++ [x.dp]) ta ti te ++ x.bl.drop 272).length = 272 + (x.b.2.1 - 272) := by rw [List.length_append, Hln.out, List.length_drop, hbl]
  have hbd : (x.bl.drop 272).length = x.b.2.1 - 272 := by rw [List.length_drop, hbl]
  have hget : ∀ k, k < 20 → k ≠ 1 → (Ns.set 1 ((x.b.2.1 : Int) - 272) ++ [x.dp])[k]? = Ns[k]? := fun k hk h1 => by
    rw [List.getElem?_append_left (by rw [List.length_set, HH.out.ns.len]; exact hk), List.getElem?_set_ne (by omega)]
  refine ⟨a6, c6, headB co inc 1 I (Ns.set 1 ((x.b.2.1 : Int) - 272) ++ [x.dp]) ta ti te ++ x.bl.drop 272, by rw [hll]; rfl, ⟨(headB_isB HH.out.ib).append (H.out.mi.bB.drop _), by rw [hll]; exact HO6.out.base HCap.out⟩, HB6.out, co, inc, I, Ns.set 1 ((x.b.2.1 : Int) - 272) ++ [x.dp], ta, ti, te, D, F, x.bl.drop 272, ?_⟩
  exact { eq := rfl, co := HH.out.co, inc := HH.out.inc, il := HH.out.il, ib := HH.out.ib
          nl := by rw [List.length_append, List.length_set, HH.out.ns.len]; rfl
          nu := fun v hv => by
            rcases List.mem_append.1 hv with hv | hv
            · exact HNS.out v hv
            · rw [List.mem_singleton.1 hv]; exact HDP.out
          ta := HH.out.ta, ti := HH.out.ti, te := HH.out.te, bb := H.out.mi.bB.drop _
          n0 := by rw [hget 0 (by omega) (by omega)]; exact HH.out.ns.n0
          n1 := by rw [List.getElem?_append_left (by rw [List.length_set, HH.out.ns.len]; omega), List.getElem?_set_self (by rw [HH.out.ns.len]; omega), hbd]; congr 1; omega
          n2 := by rw [hget 2 (by omega) (by omega)]; exact HH.out.ns.n2
          n3 := by rw [hget 3 (by omega) (by omega)]; exact HH.out.ns.n3
          n4 := by rw [hget 4 (by omega) (by omega)]; exact HH.out.ns.n4
          n5 := by rw [hget 5 (by omega) (by omega)]; exact HH.out.ns.n5
          dr := H.out.mi.cfg.dr, fr := H.out.mi.cfg.fr
          md := by have := H.out.md; rw [hbd, ← hbl]; omega
          lo := by rw [hbd]; omega
          hi := by rw [hbd]; omega }
end Go.Proofs.Ytpkmdnfkeebgbaa

/- A journal's bytes out of numbers; a copy of bytes. Conditions stand as premises. -/
namespace Go.Proofs.Ytpkmdnfkeebgbaa
open Go.ChangeShapes Go.WideShapes Go.ChangeAt Go.RowKit
set_option linter.unusedVariables false
set_option linter.unusedSimpArgs false
theorem bytes_any (a : Option Addr) (n c : Nat) (l : List Int) (w : World) (hr : RdB w a n c l) (hn : n ≤ 1000000) :
    Calls Try.prog 17 #[.slice a n c] w fun e w' => ∃ a' c', e = .returned (.slice a' n c') ∧ OwnB 5 w' w.heap.size a' n c' l ∧ Below w.heap.size w w' := by
  have HBa := Lib.hid (below_alloc w (.cells #[] 5))
  have HOa := Lib.hid (Own.lit (enc := Value.int .u8) (e := 5) (base := w.heap.size) (w := w) [] #[] 0 rfl rfl (Nat.le_refl _) (by unfold maxLen; omega))
  have HRa := Lib.hid (hr.2.mono HBa.out)
  have HB := Lib.hid hr.1
  clear hr
  go_enter Try.func17, Try.ntmps17
  go_wp2_with (at_builtin; go_must (refine wpList_appOwn rfl rfl Try.oneB rfl rfl HOa.out HRa.out (fun _ => rfl) (by omega) (by omega) HBa.out.size ?_); intro a3 c3 w3 ho3 hb3 _ _)
  go_ret
  rw [Nat.zero_add, List.nil_append] at ho3
  exact ⟨a3, c3, rfl, ⟨HB.out, ho3⟩, HBa.out.trans hb3⟩
set_option maxRecDepth 100000 in
set_option maxHeartbeats 2000000 in
theorem journal_lo (a : Option Addr) (n c most : Nat) (L : List Int) (w : World) (hr : Rd (Value.int .i64) w a n c L) (hL : ∀ x ∈ L, I64 x) (hn : n ≤ 1000) (hm : most ≤ 12) :
    Calls Try.prog 16 #[.slice a n c, .int .i64 (most : Int)] w (ImgE w) := by
  have hX := heap_alloc_new w (.cells #[.slice a n c, .int .i64 0] 74)
  have hB := below_alloc w (.cells #[.slice a n c, .int .i64 0] 74)
  have HQ := Lib.hid (show QS w.heap.size w.heap.size (w.alloc (.cells #[.slice a n c, .int .i64 0] 74)) from ⟨a, n, c, L, 0, hX, hr.mono hB, hL, Nat.zero_le _, hn, fun x hx h0 => by obtain ⟨b, off, hb, hbl, _⟩ := hr.at h0; rw [hx] at hb; cases hb; exact hbl, Nat.le_refl _⟩)
  have HB := Lib.hid hB
  clear hX hB hr hL
  go_enter Try.func16, Try.ntmps16
  go_wp2_with fail
  refine (maker_lo w.heap.size w.heap.size most hm _ HQ.out).mono ?_
  rintro e w1 ⟨base, M, D, F, kd, E, x, oa, on, oc, rfl, hme, hE, hu⟩
  have HMe := Lib.hid hme
  have HB1 := Lib.hid (HB.out.trans (hu.below (B := w.heap.size) HB.out.size (fun k hk => by rw [hk]; exact Nat.le_refl _)))
  clear hme hu
  go_wp2_with fail
  refine (image_lo HMe.out.1 (by omega)).mono ?_
  rintro e w2 ⟨ai, ci, l, rfl, ho, hb2, hj⟩
  have HO := Lib.hid ho
  have HJ := Lib.hid hj
  have HB2 := Lib.hid (HB1.out.trans (hb2.mono HB1.out.size))
  have HS := Lib.hid HB1.out.size
  clear ho hb2 hj
  go_wp2_with fail
  go_ret
  exact ⟨ai, ci, l, rfl, ⟨HO.out.1, HO.out.2.base HS.out⟩, HB2.out, HJ.out⟩
end Go.Proofs.Ytpkmdnfkeebgbaa

/- A head is the same as itself. Conditions stand as premises. -/
namespace Go.Proofs.Ytpkmdnfkeebgbaa
open Go.ChangeShapes Go.WideShapes Go.ChangeAt Go.RowKit
set_option linter.unusedVariables false
set_option linter.unusedSimpArgs false

/-- A part of a struct: a number, or bytes. -/
def PartOK (P : Program) (xs : Array Value) (p : TypeId × Nat) : Prop :=
  (∃ k x, P.underlying p.1 = some (.int k) ∧ xs[p.2]? = some (.int k x)) ∨ (∃ n B, BytesT P p.1 n ∧ (∀ w, (sizeOf p.1).run P w = .ok n w) ∧ IsB B ∧ B.length = n ∧ xs.extract p.2 (p.2 + n) = (B.map (Value.int .u8)).toArray)
theorem eqFields_refl {P : Program} (w : World) (d : Nat) (xs : Array Value) : ∀ fs : List Field, (∀ p ∈ fs.map (fun f => (f.type, f.offset)), PartOK P xs p) → (Op.eqFields (d + 2) xs xs fs).run P w = .ok true w
  | [], _ => by simp [Op.eqFields]
  | f :: fs, h => by
    have ih := eqFields_refl w d xs fs (fun p hp => h p (List.mem_cons_of_mem _ hp))
    have h0 := h (f.type, f.offset) (List.mem_cons_self ..)
    have key : ∃ v, (part f.type xs f.offset).run P w = .ok v w ∧ (Op.equalIn (d + 2) f.type v v).run P w = .ok true w := by
      rcases h0 with ⟨k, x, hu, hx⟩ | ⟨n, B, hT, hs, hB, hl, hx⟩
      · refine ⟨.int k x, ?_, ?_⟩
        · simp only at hu hx
          simp [part, isAgg, run_underlying hu, hx]
        · rw [run_equalIn_int w (d + 1) f.type k k x x hu]; simp
      · refine ⟨.agg (B.map (Value.int .u8)).toArray, ?_, ?_⟩
        · obtain ⟨e, ht, _⟩ := hT
          simp only at ht hx hs
          have hs' := hs w
          simp [part, isAgg, run_underlying ht, hs', hx]
        · rw [run_equalIn_B hT d hB hB hl hl]; simp
    obtain ⟨v, h1, h2⟩ := key
    unfold Op.eqFields
    split
    · simp only [Sem.run_bind, h1, Result.andThen_ok, h2, Bool.not_true, Bool.false_eq_true, if_false]
      exact ih
    · exact ih
theorem headL_ids {co inc st : Int} {I Ns : List Int} {ta ti te : Int} (hI : I.length = 64) (k : Nat) (hk : k + 16 ≤ 64) : (headL co inc st I Ns ta ti te).toArray.extract (3 + k) (3 + k + 16) = ((idN I k).map (Value.int .u8)).toArray := by
  simp only [List.extract_toArray]
  congr 1
  unfold headL idN
  rw [List.extract_eq_take_drop, List.drop_append, List.drop_of_length_le (by simp), List.nil_append, List.drop_append_of_le_length (by simp [hI]; omega), List.take_append_of_le_length (by simp [hI]; omega)]
  simp only [List.length_cons, List.length_nil, List.map_take, List.map_drop]
  congr 1
  · omega
  · congr 1; omega
def headFs : List (TypeId × Nat) := [(24, 0), (24, 1), (3, 2), (26, 3 + 0), (26, 3 + 16), (26, 3 + 32), (26, 3 + 48)] ++ (List.range 21).map (fun k => (27, 67 + k)) ++ [(24, 67 + 21), (24, 68 + 21), (27, 69 + 21)]
theorem Try.headFs : (Try.prog.fieldsOf 29).toList.map (fun f => (f.type, f.offset)) = headFs := by kernel_rfl
theorem Try.idSz (w : World) : (sizeOf 26).run Try.prog w = .ok 16 w := by
  obtain ⟨d, hu, hd, hi⟩ := Try.idT.row
  cases hq : Try.prog.info? 26 with
  | none => simp [hq] at hi
  | some i => have : i.size = 16 := by simpa [hq] using hi
              simp [sizeOf, typeInfo, hq, this]
theorem headL_part {co inc st : Int} {I Ns : List Int} {ta ti te : Int} (hI : I.length = 64) (hB : IsB I) (hN : Ns.length = 21) : ∀ p ∈ headFs, PartOK Try.prog (headL co inc st I Ns ta ti te).toArray p := by
  intro p hp
  rcases List.mem_append.1 hp with hp | hp
  · rcases List.mem_append.1 hp with hp | hp
    · simp only [List.mem_cons, List.not_mem_nil, or_false] at hp
      rcases hp with rfl | rfl | rfl | rfl | rfl | rfl | rfl
      · exact .inl ⟨.u32, co, Try.underlying24, rfl⟩
      · exact .inl ⟨.u32, inc, Try.underlying24, rfl⟩
      · exact .inl ⟨.i64, st, Try.underlying3, rfl⟩
      · exact .inr ⟨16, idN I 0, Try.idT, Try.idSz, idN_isB hB _, idN_length hI _ (by omega), headL_ids hI 0 (by omega)⟩
      · exact .inr ⟨16, idN I 16, Try.idT, Try.idSz, idN_isB hB _, idN_length hI _ (by omega), headL_ids hI 16 (by omega)⟩
      · exact .inr ⟨16, idN I 32, Try.idT, Try.idSz, idN_isB hB _, idN_length hI _ (by omega), headL_ids hI 32 (by omega)⟩
      · exact .inr ⟨16, idN I 48, Try.idT, Try.idSz, idN_isB hB _, idN_length hI _ (by omega), headL_ids hI 48 (by omega)⟩
    · obtain ⟨k, hk, rfl⟩ := List.mem_map.1 hp
      have hk' : k < Ns.length := by rw [hN]; simpa using hk
      exact .inl ⟨.u64, Ns[k], Try.underlying27, headL_N hI k _ (List.getElem?_eq_getElem hk')⟩
  · simp only [List.mem_cons, List.not_mem_nil, or_false] at hp
    rcases hp with rfl | rfl | rfl
    · exact .inl ⟨.u32, ta, Try.underlying24, headL_ta hI hN⟩
    · exact .inl ⟨.u32, ti, Try.underlying24, headL_ti hI hN⟩
    · exact .inl ⟨.u64, te, Try.underlying27, headL_te hI hN⟩
/-- A head's cells, with what they may be. -/
def HeadOK (cs : List Value) : Prop := ∃ co inc st I Ns ta ti te, cs = headL co inc st I Ns ta ti te ∧ I.length = 64 ∧ IsB I ∧ Ns.length = 21
theorem head_eql {cs : List Value} (h : HeadOK cs) (w : World) : (Op.equalIn 10000 29 (.agg cs.toArray) (.agg cs.toArray)).run Try.prog w = .ok true w := by
  obtain ⟨co, inc, st, I, Ns, ta, ti, te, rfl, hI, hB, hN⟩ := h
  rw [run_equalIn_struct w 9999 29 _ _ (by kernel_rfl) (by kernel_rfl)]
  exact eqFields_refl w 9997 _ _ (by rw [Try.headFs]; exact headL_part hI hB hN)
theorem Try.headG : Try.prog.eqGuardType Try.prog.depth 29 = false := by kernel_rfl
section
variable {w : World} {ops : Array Oper} {o : Oper} {a : Act} {Q : Exit → Act → World → Prop}
theorem exec_headEql {ρ : Operand → Value} {t2 : TypeId} {x y : Operand} (ho : o.op = .binOp .eql 29 x y t2) {cs : List Value} (h : HeadOK cs) (hx : ρ x = .agg cs.toArray) (hy : ρ y = .agg cs.toArray) :
    (execOp ρ o).run Try.prog w = .ok (.value (.bool true)) w := by
  unfold execOp
  simp only [ho, hx, hy, Sem.run_bind, run_eqGuard_agg _ _ _ _ _ _ _ Try.headG, Result.andThen_ok, run_eql_struct, head_eql h w, Sem.run_pure]
end
end Go.Proofs.Ytpkmdnfkeebgbaa
