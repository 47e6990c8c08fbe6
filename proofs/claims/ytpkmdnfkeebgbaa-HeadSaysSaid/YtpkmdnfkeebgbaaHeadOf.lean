/- What the law's of computes: the document's head as the package's. Conditions stand as premises. -/
import Derived.Test.YtpkmdnfkeebgbaaRefHeadB
import Derived.Test.YtpkmdnfkeebgbaaLoadMid
namespace Go.Proofs.Ytpkmdnfkeebgbaa
open Go.ChangeShapes Go.WideShapes Go.ChangeAt Go.RowKit
set_option linter.unusedVariables false
set_option linter.unusedSimpArgs false

set_option maxRecDepth 100000 in
theorem Try.builtH0 (co inc st a0 a1 a2 a3 a4 a5 a6 a7 a8 a9 a10 a11 a12 a13 a14 a15 b0 b1 b2 b3 b4 b5 b6 b7 b8 b9 b10 b11 b12 b13 b14 b15 c0 c1 c2 c3 c4 c5 c6 c7 c8 c9 c10 c11 c12 c13 c14 c15 e0 e1 e2 e3 e4 e5 e6 e7 e8 e9 e10 e11 e12 e13 e14 e15 n0 n1 n2 n3 n4 n5 n6 n7 n8 n9 n10 n11 n12 n13 n14 n15 n16 n17 n18 n19 d ta ti te : Int) :
    Try.prog.built 29 [(0, .int .u32 co), (1, .int .u32 inc), (2, .int .i64 st), (3, .agg ([a0, a1, a2, a3, a4, a5, a6, a7, a8, a9, a10, a11, a12, a13, a14, a15].map (Value.int .u8)).toArray), (4, .agg ([b0, b1, b2, b3, b4, b5, b6, b7, b8, b9, b10, b11, b12, b13, b14, b15].map (Value.int .u8)).toArray), (5, .agg ([c0, c1, c2, c3, c4, c5, c6, c7, c8, c9, c10, c11, c12, c13, c14, c15].map (Value.int .u8)).toArray), (6, .agg ([e0, e1, e2, e3, e4, e5, e6, e7, e8, e9, e10, e11, e12, e13, e14, e15].map (Value.int .u8)).toArray), (7, .int .u64 n0), (8, .int .u64 n1), (9, .int .u64 n2), (10, .int .u64 n3), (11, .int .u64 n4), (12, .int .u64 n5), (13, .int .u64 n6), (14, .int .u64 n7), (15, .int .u64 n8), (16, .int .u64 n9), (17, .int .u64 n10), (18, .int .u64 n11), (19, .int .u64 n12), (20, .int .u64 n13), (21, .int .u64 n14), (22, .int .u64 n15), (23, .int .u64 n16), (24, .int .u64 n17), (25, .int .u64 n18), (26, .int .u64 n19), (27, .int .u64 d), (28, .int .u32 ta), (29, .int .u32 ti), (30, .int .u64 te)] = some (headL co inc st ([a0, a1, a2, a3, a4, a5, a6, a7, a8, a9, a10, a11, a12, a13, a14, a15] ++ [b0, b1, b2, b3, b4, b5, b6, b7, b8, b9, b10, b11, b12, b13, b14, b15] ++ [c0, c1, c2, c3, c4, c5, c6, c7, c8, c9, c10, c11, c12, c13, c14, c15] ++ [e0, e1, e2, e3, e4, e5, e6, e7, e8, e9, e10, e11, e12, e13, e14, e15]) ([n0, n1, n2, n3, n4, n5, n6, n7, n8, n9, n10, n11, n12, n13, n14, n15, n16, n17, n18, n19] ++ [d]) ta ti te).toArray := by kernel_rfl
theorem Try.builtH (co inc st n0 n1 n2 n3 n4 n5 n6 n7 n8 n9 n10 n11 n12 n13 n14 n15 n16 n17 n18 n19 d ta ti te : Int) (A B C D : List Int) (hA : A.length = 16) (hB : B.length = 16) (hC : C.length = 16) (hD : D.length = 16) :
    Try.prog.built 29 [(0, .int .u32 co), (1, .int .u32 inc), (2, .int .i64 st), (3, .agg (A.map (Value.int .u8)).toArray), (4, .agg (B.map (Value.int .u8)).toArray), (5, .agg (C.map (Value.int .u8)).toArray), (6, .agg (D.map (Value.int .u8)).toArray), (7, .int .u64 n0), (8, .int .u64 n1), (9, .int .u64 n2), (10, .int .u64 n3), (11, .int .u64 n4), (12, .int .u64 n5), (13, .int .u64 n6), (14, .int .u64 n7), (15, .int .u64 n8), (16, .int .u64 n9), (17, .int .u64 n10), (18, .int .u64 n11), (19, .int .u64 n12), (20, .int .u64 n13), (21, .int .u64 n14), (22, .int .u64 n15), (23, .int .u64 n16), (24, .int .u64 n17), (25, .int .u64 n18), (26, .int .u64 n19), (27, .int .u64 d), (28, .int .u32 ta), (29, .int .u32 ti), (30, .int .u64 te)] = some (headL co inc st (A ++ B ++ C ++ D) ([n0, n1, n2, n3, n4, n5, n6, n7, n8, n9, n10, n11, n12, n13, n14, n15, n16, n17, n18, n19] ++ [d]) ta ti te).toArray := by
  obtain ⟨a0, a1, a2, a3, a4, a5, a6, a7, a8, a9, a10, a11, a12, a13, a14, a15, rfl⟩ := list16 hA
  obtain ⟨b0, b1, b2, b3, b4, b5, b6, b7, b8, b9, b10, b11, b12, b13, b14, b15, rfl⟩ := list16 hB
  obtain ⟨c0, c1, c2, c3, c4, c5, c6, c7, c8, c9, c10, c11, c12, c13, c14, c15, rfl⟩ := list16 hC
  obtain ⟨e0, e1, e2, e3, e4, e5, e6, e7, e8, e9, e10, e11, e12, e13, e14, e15, rfl⟩ := list16 hD
  exact Try.builtH0 co inc st a0 a1 a2 a3 a4 a5 a6 a7 a8 a9 a10 a11 a12 a13 a14 a15 b0 b1 b2 b3 b4 b5 b6 b7 b8 b9 b10 b11 b12 b13 b14 b15 c0 c1 c2 c3 c4 c5 c6 c7 c8 c9 c10 c11 c12 c13 c14 c15 e0 e1 e2 e3 e4 e5 e6 e7 e8 e9 e10 e11 e12 e13 e14 e15 n0 n1 n2 n3 n4 n5 n6 n7 n8 n9 n10 n11 n12 n13 n14 n15 n16 n17 n18 n19 d ta ti te
theorem Try.headI : RowInfo Try.prog 29 91 := ⟨by kernel_rfl, by kernel_rfl⟩
theorem Try.refheadI : RowInfo Try.prog 34 90 := ⟨by kernel_rfl, by kernel_rfl⟩
theorem Try.numsI : RowInfo Try.prog 32 20 := ⟨by kernel_rfl, by kernel_rfl⟩
theorem nums_one (Ns : List Int) : (Ns.map (Value.int .u64)).toArray.all (·.oneCell') = true := by
  rw [Array.all_eq_true_iff_forall_mem]
  intro v hv
  obtain ⟨y, _, rfl⟩ := List.mem_map.1 (List.mem_toArray.1 hv)
  rfl

set_option maxRecDepth 100000 in
set_option maxHeartbeats 4000000 in
theorem of_any (co inc st : Int) (I Ns : List Int) (ta ti te d : Int) (w : World) (hI : I.length = 64) (hN : Ns.length = 20) :
    Calls Try.prog 10 #[.agg (headL co inc st I Ns ta ti te).toArray, .int .u64 d] w fun e w' => e = .returned (.agg (headL co inc st I (Ns ++ [d]) ta ti te).toArray) ∧ Below w.heap.size w w' := by
  have HI := Lib.hid hI
  have HN := Lib.hid hN
  obtain ⟨n0, n1, n2, n3, n4, n5, n6, n7, n8, n9, n10, n11, n12, n13, n14, n15, n16, n17, n18, n19, hNs⟩ := list20 hN
  have HNs := Lib.hid hNs
  have HBu := Lib.hid (Try.builtH co inc st n0 n1 n2 n3 n4 n5 n6 n7 n8 n9 n10 n11 n12 n13 n14 n15 n16 n17 n18 n19 d ta ti te (idN I 0) (idN I 16) (idN I 32) (idN I 48) (idN_length hI 0 (by omega)) (idN_length hI 16 (by omega)) (idN_length hI 32 (by omega)) (idN_length hI 48 (by omega)))
  rw [four_ids I hI, ← hNs] at HBu
  clear hI hN hNs
  go_enter Try.func10, Try.ntmps10
  go_upto_region 1 with fail
  have hX1 : ((w.alloc (.cells (headL co inc st I Ns ta ti te).toArray 34)).alloc (.cells Try.zeroCells29 29)).heap[w.heap.size]? = some (.cells (headL co inc st I Ns ta ti te).toArray 34 (0, 0)) := row_below (below_alloc (w.alloc (.cells (headL co inc st I Ns ta ti te).toArray 34)) _) (by simp) (heap_alloc_new w _)
  have hZ1 : ((w.alloc (.cells (headL co inc st I Ns ta ti te).toArray 34)).alloc (.cells Try.zeroCells29 29)).heap[w.heap.size + 1]? = some (.cells Try.zeroCells29 29 (0, 0)) := by
    have := heap_alloc_new (w.alloc (.cells (headL co inc st I Ns ta ti te).toArray 34)) (.cells Try.zeroCells29 29)
    simpa using this
  have HB1 := Lib.hid ((below_alloc w (.cells (headL co inc st I Ns ta ti te).toArray 34)).alloc (by simp) (.cells Try.zeroCells29 29))
  generalize (w.alloc (.cells (headL co inc st I Ns ta ti te).toArray 34)).alloc (.cells Try.zeroCells29 29) = w1 at hX1 hZ1 HB1 ⊢
  have hS1 := lt_of_heap hX1
  have HX1 := Lib.hid hX1
  have HZ1 := Lib.hid hZ1
  have HR1 := Lib.hid (range_of_heap (o := 67) hX1 (Ns.map (Value.int .u64)) (fun j v hv => by
    rw [List.getElem?_map] at hv
    obtain ⟨y, hy, rfl⟩ := Option.map_eq_some_iff.1 hv
    exact headL_N HI.out j y hy))
  clear hX1 hZ1
  go_upto_region 2 with (first | (with_reducible refine wpList_loadMid rfl rfl Try.numsI rfl HR1.out (by rw [List.length_map]; exact HN.out) ?_) | (with_reducible refine wpList_storeS rfl rfl Try.numsI rfl rfl (heap_alloc_new w1 _) (by with_unfolding_all rfl) (by rw [List.size_toArray, List.length_map]; exact HN.out) (nums_one Ns) ?_; intro w2 hX2 hu2))
  have HB2 := Lib.hid (((HB1.out.alloc HB1.out.size _).trans (hu2.below (B := w.heap.size) (by simp; have := HB1.out.size; omega) (fun j hj => by have := HB1.out.size; omega))))
  have HX2 := hX2
  have HXd := Lib.hid ((hu2.block _ (by simp; omega) (by omega)).trans (row_below (below_alloc w1 _) hS1 HX1.out))
  have HZd := Lib.hid ((hu2.block _ (by simp; have := lt_of_heap HZ1.out; omega) (by have := lt_of_heap HZ1.out; omega)).trans (row_below (below_alloc w1 _) (lt_of_heap HZ1.out) HZ1.out))
  have j0 := headl_0 HXd.out
  have j1 := headl_1 HXd.out
  have j2 := headl_2 HXd.out
  have j3 := headr_ta HXd.out HI.out HN.out
  have j4 := headr_ti HXd.out HI.out HN.out
  have j5 := headr_te HXd.out HI.out HN.out
  have HA0 := Lib.hid (row_range (o := 3) HXd.out (idN I 0) (fun j v h => headL_id 0 j v h))
  have HA1 := Lib.hid (row_range (o := 19) HXd.out (idN I 16) (fun j v h => headL_id 16 j v h))
  have HA2 := Lib.hid (row_range (o := 35) HXd.out (idN I 32) (fun j v h => headL_id 32 j v h))
  have HA3 := Lib.hid (row_range (o := 51) HXd.out (idN I 48) (fun j v h => headL_id 48 j v h))
  have k0 := cell_of_heap HX2.out 0 (.int .u64 n0) (by rw [HNs.out]; rfl)
  have k1 := cell_of_heap HX2.out 1 (.int .u64 n1) (by rw [HNs.out]; rfl)
  have k2 := cell_of_heap HX2.out 2 (.int .u64 n2) (by rw [HNs.out]; rfl)
  have k3 := cell_of_heap HX2.out 3 (.int .u64 n3) (by rw [HNs.out]; rfl)
  have k4 := cell_of_heap HX2.out 4 (.int .u64 n4) (by rw [HNs.out]; rfl)
  have k5 := cell_of_heap HX2.out 5 (.int .u64 n5) (by rw [HNs.out]; rfl)
  have k6 := cell_of_heap HX2.out 6 (.int .u64 n6) (by rw [HNs.out]; rfl)
  have k7 := cell_of_heap HX2.out 7 (.int .u64 n7) (by rw [HNs.out]; rfl)
  have k8 := cell_of_heap HX2.out 8 (.int .u64 n8) (by rw [HNs.out]; rfl)
  have k9 := cell_of_heap HX2.out 9 (.int .u64 n9) (by rw [HNs.out]; rfl)
  have k10 := cell_of_heap HX2.out 10 (.int .u64 n10) (by rw [HNs.out]; rfl)
  have k11 := cell_of_heap HX2.out 11 (.int .u64 n11) (by rw [HNs.out]; rfl)
  have k12 := cell_of_heap HX2.out 12 (.int .u64 n12) (by rw [HNs.out]; rfl)
  have k13 := cell_of_heap HX2.out 13 (.int .u64 n13) (by rw [HNs.out]; rfl)
  have k14 := cell_of_heap HX2.out 14 (.int .u64 n14) (by rw [HNs.out]; rfl)
  have k15 := cell_of_heap HX2.out 15 (.int .u64 n15) (by rw [HNs.out]; rfl)
  have k16 := cell_of_heap HX2.out 16 (.int .u64 n16) (by rw [HNs.out]; rfl)
  have k17 := cell_of_heap HX2.out 17 (.int .u64 n17) (by rw [HNs.out]; rfl)
  have k18 := cell_of_heap HX2.out 18 (.int .u64 n18) (by rw [HNs.out]; rfl)
  have k19 := cell_of_heap HX2.out 19 (.int .u64 n19) (by rw [HNs.out]; rfl)
  clear hu2 hX2 HX2
  have HSz := Lib.hid (show (headL co inc st I (Ns ++ [d]) ta ti te).toArray.size = 91 from headL_size (n := 21) HI.out (by rw [List.length_append, HN.out]; rfl))
  go_wp2_with (first
    | (with_reducible refine wpList_loadB rfl rfl Try.idT rfl HA0.out (idN_length HI.out _ (by omega)) ?_)
    | (with_reducible refine wpList_loadB rfl rfl Try.idT rfl HA1.out (idN_length HI.out _ (by omega)) ?_)
    | (with_reducible refine wpList_loadB rfl rfl Try.idT rfl HA2.out (idN_length HI.out _ (by omega)) ?_)
    | (with_reducible refine wpList_loadB rfl rfl Try.idT rfl HA3.out (idN_length HI.out _ (by omega)) ?_)
    | (refine wpList_buildS rfl rfl (cells := (headL co inc st I (Ns ++ [d]) ta ti te).toArray) (Eq.trans (by kernel_rfl) HBu.out) ?_)
    | (with_reducible refine wpList_storeS rfl rfl Try.headI rfl rfl HZd.out (by with_unfolding_all rfl) HSz.out headL_one ?_; intro w3 hX3 hu3))
  have HX3 := hX3
  have hb3 := HB2.out.trans (hu3.below HB2.out.size (fun j hj => by omega))
  refine bodyPost_ret (v := .agg (headL co inc st I (Ns ++ [d]) ta ti te).toArray) (results_S rfl Try.headI rfl HX3.out HSz.out) rfl ?_
  exact ⟨rfl, hb3⟩
end Go.Proofs.Ytpkmdnfkeebgbaa
