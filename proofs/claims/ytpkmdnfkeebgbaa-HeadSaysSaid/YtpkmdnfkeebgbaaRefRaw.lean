/- What the document's own raw computes: a head's parts out of its bytes. Conditions stand as premises. -/
import Derived.Test.YtpkmdnfkeebgbaaRefId
namespace Go.Proofs.Ytpkmdnfkeebgbaa
open Go.ChangeShapes Go.WideShapes Go.ChangeAt Go.RowKit
set_option linter.unusedVariables false
set_option linter.unusedSimpArgs false

def z20 : List Int := List.replicate 20 0
set_option maxRecDepth 100000 in
theorem Try.builtR0 (st a0 a1 a2 a3 a4 a5 a6 a7 a8 a9 a10 a11 a12 a13 a14 a15 b0 b1 b2 b3 b4 b5 b6 b7 b8 b9 b10 b11 b12 b13 b14 b15 c0 c1 c2 c3 c4 c5 c6 c7 c8 c9 c10 c11 c12 c13 c14 c15 e0 e1 e2 e3 e4 e5 e6 e7 e8 e9 e10 e11 e12 e13 e14 e15 : Int) :
    Try.prog.built 34 [(2, .int .i64 st), (3, .agg ([a0, a1, a2, a3, a4, a5, a6, a7, a8, a9, a10, a11, a12, a13, a14, a15].map (Value.int .u8)).toArray), (4, .agg ([b0, b1, b2, b3, b4, b5, b6, b7, b8, b9, b10, b11, b12, b13, b14, b15].map (Value.int .u8)).toArray), (5, .agg ([c0, c1, c2, c3, c4, c5, c6, c7, c8, c9, c10, c11, c12, c13, c14, c15].map (Value.int .u8)).toArray), (6, .agg ([e0, e1, e2, e3, e4, e5, e6, e7, e8, e9, e10, e11, e12, e13, e14, e15].map (Value.int .u8)).toArray)] = some (headL 0 0 st ([a0, a1, a2, a3, a4, a5, a6, a7, a8, a9, a10, a11, a12, a13, a14, a15] ++ [b0, b1, b2, b3, b4, b5, b6, b7, b8, b9, b10, b11, b12, b13, b14, b15] ++ [c0, c1, c2, c3, c4, c5, c6, c7, c8, c9, c10, c11, c12, c13, c14, c15] ++ [e0, e1, e2, e3, e4, e5, e6, e7, e8, e9, e10, e11, e12, e13, e14, e15]) z20 0 0 0).toArray := by kernel_rfl
theorem Try.builtR (st : Int) (A B C D : List Int) (hA : A.length = 16) (hB : B.length = 16) (hC : C.length = 16) (hD : D.length = 16) :
    Try.prog.built 34 [(2, .int .i64 st), (3, .agg (A.map (Value.int .u8)).toArray), (4, .agg (B.map (Value.int .u8)).toArray), (5, .agg (C.map (Value.int .u8)).toArray), (6, .agg (D.map (Value.int .u8)).toArray)] = some (headL 0 0 st (A ++ B ++ C ++ D) z20 0 0 0).toArray := by
  obtain ⟨a0, a1, a2, a3, a4, a5, a6, a7, a8, a9, a10, a11, a12, a13, a14, a15, rfl⟩ := list16 hA
  obtain ⟨b0, b1, b2, b3, b4, b5, b6, b7, b8, b9, b10, b11, b12, b13, b14, b15, rfl⟩ := list16 hB
  obtain ⟨c0, c1, c2, c3, c4, c5, c6, c7, c8, c9, c10, c11, c12, c13, c14, c15, rfl⟩ := list16 hC
  obtain ⟨e0, e1, e2, e3, e4, e5, e6, e7, e8, e9, e10, e11, e12, e13, e14, e15, rfl⟩ := list16 hD
  exact Try.builtR0 st a0 a1 a2 a3 a4 a5 a6 a7 a8 a9 a10 a11 a12 a13 a14 a15 b0 b1 b2 b3 b4 b5 b6 b7 b8 b9 b10 b11 b12 b13 b14 b15 c0 c1 c2 c3 c4 c5 c6 c7 c8 c9 c10 c11 c12 c13 c14 c15 e0 e1 e2 e3 e4 e5 e6 e7 e8 e9 e10 e11 e12 e13 e14 e15
theorem numsR_next (l : List Int) (k : Nat) (hk : k < 20) : (numsP l k ++ List.replicate (20 - k) 0).set k (gN l (88 + 8 * k) 8) = numsP l (k + 1) ++ List.replicate (20 - (k + 1)) 0 := by
  rw [List.set_append_right _ _ (by rw [numsP_length]; omega), numsP_length, Nat.sub_self, numsP_snoc, show 20 - k = (20 - (k + 1)) + 1 by omega, List.replicate_succ, List.append_assoc]
  rfl
theorem idN_src {l : List Int} (hl : 272 ≤ l.length) (k : Nat) (hk : 16 * k + 16 ≤ 64) : (l.drop (24 + 16 * k)).take 16 = idN (idsP l) (16 * k) := by
  unfold idN idsP
  rw [List.drop_take, List.drop_drop, List.take_take]
  congr 1
  omega
theorem refidk_any (a : Option Addr) (n c : Nat) (l : List Int) (k : Nat) (w : World) (hr : RdB w a n c l) (hn : n ≤ 1000000) (hlo : 272 ≤ n) (hk : k < 4) (p : Int) (hp : p = 24 + 16 * (k : Int)) :
    Calls Try.prog 34 #[.slice a n c, .int .i64 p] w fun e w' => e = .returned (.agg ((idN (idsP l) (16 * k)).map (Value.int .u8)).toArray) ∧ Below w.heap.size w w' := by
  have h := refid_any a n c l (24 + 16 * k) w hr hn (by omega)
  rw [idN_src (by rw [hr.len]; exact hlo) k (by omega)] at h
  rw [hp]
  simpa using h

set_option maxRecDepth 100000 in
set_option maxHeartbeats 8000000 in
theorem raw_any (a : Option Addr) (n c : Nat) (l : List Int) (w : World) (hr : RdB w a n c l) (hn : n ≤ 1000000) (hlo : 272 ≤ n) :
    Calls Try.prog 22 #[.slice a n c] w fun e w' => e = .returned (.tuple #[.agg (headL (gN l 8 4) (gN l 12 4) (l[16]?.getD 0) (idsP l) (numsP l 20) (gN l 256 4) (gN l 260 4) (gN l 264 8)).toArray, .int .u64 (gN l 248 8)]) ∧ Below w.heap.size w w' := by
  obtain rfl : l.length = n := hr.len
  obtain ⟨b, off, rfl, hbl, hcs⟩ := hr.2.at (by omega)
  have h16 := hcs 16 (l[16]?.getD 0) (by rw [List.getElem?_eq_getElem (by omega)]; rfl)
  have hb16 := hr.1.getD 16
  have hIL := idsP_length hlo
  have HIL := Lib.hid hIL
  have HBU := Lib.hid (Try.builtR (l[16]?.getD 0) (idN (idsP l) 0) (idN (idsP l) 16) (idN (idsP l) 32) (idN (idsP l) 48) (idN_length hIL 0 (by omega)) (idN_length hIL 16 (by omega)) (idN_length hIL 32 (by omega)) (idN_length hIL 48 (by omega)))
  rw [four_ids _ hIL] at HBU
  generalize hv16 : l[16]?.getD 0 = v16 at h16 hb16 HBU
  have HV16 := Lib.hid hv16
  have HR := Lib.hid hr
  clear hv16 hcs hIL hr
  have hcc : ¬ ((l.length : Int) ≤ 16) := by omega
  have hw16 : IntKind.i64.wrap v16 = v16 := by rw [IntKind.wrap_i64]; omega
  go_enter Try.func22, Try.ntmps22
  go_upto_region 1 with fail
  have hZ1 := heap_alloc_new w (.cells Try.zeroCells34 34)
  have HB1 := Lib.hid (below_alloc w (.cells Try.zeroCells34 34))
  generalize w.alloc (.cells Try.zeroCells34 34) = w1 at hZ1 HB1 ⊢
  obtain ⟨Z, hZ⟩ : ∃ Z, w.heap.size = Z := ⟨_, rfl⟩
  have HZ := Lib.hid hZ
  rw [hZ] at hZ1 ⊢
  have hbZ : b < Z := by omega
  have hZlt := lt_of_heap hZ1
  have HZ1 := Lib.hid hZ1
  have HR1 := Lib.hid (HR.out.mono HB1.out)
  have h16' := bcell HB1.out hbl h16
  clear hZ hZ1 h16 hbl
  go_cut [4] from 14 to 26 (fun s wx => ∃ H, s = .pointer (some ⟨H, 0, none⟩) ∧ w1.heap.size ≤ H ∧ wx.heap[H]? = some (.cells (headL 0 0 v16 (idsP l) z20 0 0 0).toArray 34 (0, 0)) ∧ Below w1.heap.size w1 wx)
  case first =>
    have hC : Below w1.heap.size w1 w1.drew := below_drew w1
    refine wp_region_held (S := fun w' => Below w1.heap.size w1 w') (by kernel_rfl) ?_
    change wpAnyH _ _ _ _ _ _ _ _ w1.drew
    generalize w1.drew = wd at hC ⊢
    refine held_take 0 (d := some 14) (v := (.slice (some ⟨b, off, none⟩) l.length c)) rfl rfl (by kernel_rfl) (by kernel_rfl) (by kernel_rfl) (fun _ _ _ h => h) hC (by kernel_rfl) (fun w hSw => by have x0 := bcell hSw (show b < w1.heap.size by omega) h16'; clear hSw; go_simp) ?_
    try simp only [Act.put, List.setIfInBounds_toArray, List.set_cons_zero, List.set_cons_succ]
    refine held_take 1 (d := some 15) (v := (.pointer (some ⟨b, off + 16, none⟩))) rfl rfl (by kernel_rfl) (by kernel_rfl) (by kernel_rfl) (fun _ _ _ h => h) hC (by kernel_rfl) (fun w hSw => by have x0 := bcell hSw (show b < w1.heap.size by omega) h16'; clear hSw; go_simp) ?_
    try simp only [Act.put, List.setIfInBounds_toArray, List.set_cons_zero, List.set_cons_succ]
    refine held_take 2 (d := some 16) (v := (.int .u8 v16)) rfl rfl (by kernel_rfl) (by kernel_rfl) (by kernel_rfl) (fun _ _ _ h => h) hC (by kernel_rfl) (fun w hSw => by have x0 := bcell hSw (show b < w1.heap.size by omega) h16'; clear hSw; go_simp) ?_
    try simp only [Act.put, List.setIfInBounds_toArray, List.set_cons_zero, List.set_cons_succ]
    refine held_take 3 (d := some 17) (v := (.int .i64 v16)) rfl rfl (by kernel_rfl) (by kernel_rfl) (by kernel_rfl) (fun _ _ _ h => h) hC (by kernel_rfl) (fun w hSw => by go_simp) ?_
    try simp only [Act.put, List.setIfInBounds_toArray, List.set_cons_zero, List.set_cons_succ]
    refine held_take 4 (d := some 18) (v := (.slice (some ⟨b, off, none⟩) l.length c)) rfl rfl (by kernel_rfl) (by kernel_rfl) (by kernel_rfl) (fun _ _ _ h => h) hC (by kernel_rfl) (fun w hSw => by have x0 := bcell hSw (show b < w1.heap.size by omega) h16'; clear hSw; go_simp) ?_
    try simp only [Act.put, List.setIfInBounds_toArray, List.set_cons_zero, List.set_cons_succ]
    refine held_take 6 (d := some 20) (v := (.slice (some ⟨b, off, none⟩) l.length c)) rfl rfl (by kernel_rfl) (by kernel_rfl) (by kernel_rfl) (fun _ _ _ h => h) hC (by kernel_rfl) (fun w hSw => by have x0 := bcell hSw (show b < w1.heap.size by omega) h16'; clear hSw; go_simp) ?_
    try simp only [Act.put, List.setIfInBounds_toArray, List.set_cons_zero, List.set_cons_succ]
    refine held_take 8 (d := some 22) (v := (.slice (some ⟨b, off, none⟩) l.length c)) rfl rfl (by kernel_rfl) (by kernel_rfl) (by kernel_rfl) (fun _ _ _ h => h) hC (by kernel_rfl) (fun w hSw => by have x0 := bcell hSw (show b < w1.heap.size by omega) h16'; clear hSw; go_simp) ?_
    try simp only [Act.put, List.setIfInBounds_toArray, List.set_cons_zero, List.set_cons_succ]
    refine held_take 10 (d := some 24) (v := (.slice (some ⟨b, off, none⟩) l.length c)) rfl rfl (by kernel_rfl) (by kernel_rfl) (by kernel_rfl) (fun _ _ _ h => h) hC (by kernel_rfl) (fun w hSw => by have x0 := bcell hSw (show b < w1.heap.size by omega) h16'; clear hSw; go_simp) ?_
    try simp only [Act.put, List.setIfInBounds_toArray, List.set_cons_zero, List.set_cons_succ]
    refine held_two 5 13 rfl rfl (by kernel_rfl) (fun K hK => ?_) (fun K hK => ?_)
    · go_simp
      go_at_call 34
      refine (refidk_any _ _ _ l 0 _ (HR1.out.mono hC) hn hlo (by omega) 24 (by omega)).mono ?_
      rintro e w2 ⟨rfl, hb2⟩
      have hC2 := hC.trans (hb2.mono hC.size)
      clear hC hb2
      go_simp
      refine hK _ _ hC2 ?_
      clear hK K
      try simp only [Act.put, List.setIfInBounds_toArray, List.set_cons_zero, List.set_cons_succ]
      refine held_two 7 13 rfl rfl (by kernel_rfl) (fun K hK => ?_) (fun K hK => ?_)
      · go_simp
        go_at_call 34
        refine (refidk_any _ _ _ l 1 _ (HR1.out.mono hC2) hn hlo (by omega) 40 (by omega)).mono ?_
        rintro e w3 ⟨rfl, hb3⟩
        have hC3 := hC2.trans (hb3.mono hC2.size)
        clear hC2 hb3
        go_simp
        refine hK _ _ hC3 ?_
        clear hK K
        try simp only [Act.put, List.setIfInBounds_toArray, List.set_cons_zero, List.set_cons_succ]
        refine held_two 9 13 rfl rfl (by kernel_rfl) (fun K hK => ?_) (fun K hK => ?_)
        · go_simp
          go_at_call 34
          refine (refidk_any _ _ _ l 2 _ (HR1.out.mono hC3) hn hlo (by omega) 56 (by omega)).mono ?_
          rintro e w4 ⟨rfl, hb4⟩
          have hC4 := hC3.trans (hb4.mono hC3.size)
          clear hC3 hb4
          go_simp
          refine hK _ _ hC4 ?_
          clear hK K
          try simp only [Act.put, List.setIfInBounds_toArray, List.set_cons_zero, List.set_cons_succ]
          refine held_two 11 13 rfl rfl (by kernel_rfl) (fun K hK => ?_) (fun K hK => ?_)
          · go_simp
            go_at_call 34
            refine (refidk_any _ _ _ l 3 _ (HR1.out.mono hC4) hn hlo (by omega) 72 (by omega)).mono ?_
            rintro e w5 ⟨rfl, hb5⟩
            have hC5 := hC4.trans (hb5.mono hC4.size)
            clear hC4 hb5
            go_simp
            refine hK _ _ hC5 ?_
            clear hK K
            try simp only [Act.put, List.setIfInBounds_toArray, List.set_cons_zero, List.set_cons_succ]
            refine held_take 12 (d := some 26) (v := (.agg (headL 0 0 v16 (idsP l) z20 0 0 0).toArray)) rfl rfl (by kernel_rfl) (by kernel_rfl) (by kernel_rfl) (fun _ _ _ h => h) hC5 (by kernel_rfl) (fun w hSw => exec_buildS rfl (Eq.trans (by kernel_rfl) HBU.out)) ?_
            try simp only [Act.put, List.setIfInBounds_toArray, List.set_cons_zero, List.set_cons_succ]
            refine held_one 13 rfl (by kernel_rfl) (fun K hK => ?_)
            go_simp
            have HH6 := Lib.hid (heap_alloc_new w5 (.cells Try.zeroCells34 34))
            have hC6 := hC5.alloc hC5.size (.cells Try.zeroCells34 34)
            have hG6 := hC5.size
            obtain ⟨H, hH⟩ : ∃ H, w5.heap.size = H := ⟨_, rfl⟩
            rw [hH] at HH6 hG6
            clear hC5
            refine hK _ _ hC6 ?_
            clear hK K
            try simp only [Act.put, List.setIfInBounds_toArray, List.set_cons_zero, List.set_cons_succ]
            try rw [hH]
            generalize w5.alloc (.cells Try.zeroCells34 34) = w6 at *
            refine held_one 14 rfl (by kernel_rfl) (fun K hK => ?_)
            refine step_storeS rfl rfl Try.refheadI rfl rfl HH6.out (by with_unfolding_all rfl) (headL_size (n := 20) HIL.out rfl) headL_one ?_
            intro wS hXS huS
            have hCS := hC6.trans (huS.below (B := w1.heap.size) hC6.size (fun j hj => by omega))
            refine hK _ _ hCS ?_
            clear hK K
            refine wpAnyH_done (by kernel_rfl) ?_ _
            go_wp2_with fail
            go_meet
            exact ⟨H, rfl, hG6, hXS.out, hCS⟩
          · go_simp
            have HH5 := Lib.hid (heap_alloc_new w4 (.cells Try.zeroCells34 34))
            have hC5 := hC4.alloc hC4.size (.cells Try.zeroCells34 34)
            have hG5 := hC4.size
            obtain ⟨H, hH⟩ : ∃ H, w4.heap.size = H := ⟨_, rfl⟩
            rw [hH] at HH5 hG5
            clear hC4
            refine hK _ _ hC5 ?_
            clear hK K
            try simp only [Act.put, List.setIfInBounds_toArray, List.set_cons_zero, List.set_cons_succ]
            try rw [hH]
            generalize w4.alloc (.cells Try.zeroCells34 34) = w5 at *
            refine held_one 11 rfl (by kernel_rfl) (fun K hK => ?_)
            go_simp
            go_at_call 34
            refine (refidk_any _ _ _ l 3 _ (HR1.out.mono hC5) hn hlo (by omega) 72 (by omega)).mono ?_
            rintro e w6 ⟨rfl, hb6⟩
            have hC6 := hC5.trans (hb6.mono hC5.size)
            have HH6 := Lib.hid (row_below hb6 (lt_of_heap HH5.out) HH5.out)
            clear HH5
            clear hC5 hb6
            go_simp
            refine hK _ _ hC6 ?_
            clear hK K
            try simp only [Act.put, List.setIfInBounds_toArray, List.set_cons_zero, List.set_cons_succ]
            refine held_take 12 (d := some 26) (v := (.agg (headL 0 0 v16 (idsP l) z20 0 0 0).toArray)) rfl rfl (by kernel_rfl) (by kernel_rfl) (by kernel_rfl) (fun _ _ _ h => h) hC6 (by kernel_rfl) (fun w hSw => exec_buildS rfl (Eq.trans (by kernel_rfl) HBU.out)) ?_
            try simp only [Act.put, List.setIfInBounds_toArray, List.set_cons_zero, List.set_cons_succ]
            refine held_one 14 rfl (by kernel_rfl) (fun K hK => ?_)
            refine step_storeS rfl rfl Try.refheadI rfl rfl HH6.out (by with_unfolding_all rfl) (headL_size (n := 20) HIL.out rfl) headL_one ?_
            intro wS hXS huS
            have hCS := hC6.trans (huS.below (B := w1.heap.size) hC6.size (fun j hj => by omega))
            refine hK _ _ hCS ?_
            clear hK K
            refine wpAnyH_done (by kernel_rfl) ?_ _
            go_wp2_with fail
            go_meet
            exact ⟨H, rfl, hG5, hXS.out, hCS⟩
        · go_simp
          have HH4 := Lib.hid (heap_alloc_new w3 (.cells Try.zeroCells34 34))
          have hC4 := hC3.alloc hC3.size (.cells Try.zeroCells34 34)
          have hG4 := hC3.size
          obtain ⟨H, hH⟩ : ∃ H, w3.heap.size = H := ⟨_, rfl⟩
          rw [hH] at HH4 hG4
          clear hC3
          refine hK _ _ hC4 ?_
          clear hK K
          try simp only [Act.put, List.setIfInBounds_toArray, List.set_cons_zero, List.set_cons_succ]
          try rw [hH]
          generalize w3.alloc (.cells Try.zeroCells34 34) = w4 at *
          refine held_one 9 rfl (by kernel_rfl) (fun K hK => ?_)
          go_simp
          go_at_call 34
          refine (refidk_any _ _ _ l 2 _ (HR1.out.mono hC4) hn hlo (by omega) 56 (by omega)).mono ?_
          rintro e w5 ⟨rfl, hb5⟩
          have hC5 := hC4.trans (hb5.mono hC4.size)
          have HH5 := Lib.hid (row_below hb5 (lt_of_heap HH4.out) HH4.out)
          clear HH4
          clear hC4 hb5
          go_simp
          refine hK _ _ hC5 ?_
          clear hK K
          try simp only [Act.put, List.setIfInBounds_toArray, List.set_cons_zero, List.set_cons_succ]
          refine held_one 11 rfl (by kernel_rfl) (fun K hK => ?_)
          go_simp
          go_at_call 34
          refine (refidk_any _ _ _ l 3 _ (HR1.out.mono hC5) hn hlo (by omega) 72 (by omega)).mono ?_
          rintro e w6 ⟨rfl, hb6⟩
          have hC6 := hC5.trans (hb6.mono hC5.size)
          have HH6 := Lib.hid (row_below hb6 (lt_of_heap HH5.out) HH5.out)
          clear HH5
          clear hC5 hb6
          go_simp
          refine hK _ _ hC6 ?_
          clear hK K
          try simp only [Act.put, List.setIfInBounds_toArray, List.set_cons_zero, List.set_cons_succ]
          refine held_take 12 (d := some 26) (v := (.agg (headL 0 0 v16 (idsP l) z20 0 0 0).toArray)) rfl rfl (by kernel_rfl) (by kernel_rfl) (by kernel_rfl) (fun _ _ _ h => h) hC6 (by kernel_rfl) (fun w hSw => exec_buildS rfl (Eq.trans (by kernel_rfl) HBU.out)) ?_
          try simp only [Act.put, List.setIfInBounds_toArray, List.set_cons_zero, List.set_cons_succ]
          refine held_one 14 rfl (by kernel_rfl) (fun K hK => ?_)
          refine step_storeS rfl rfl Try.refheadI rfl rfl HH6.out (by with_unfolding_all rfl) (headL_size (n := 20) HIL.out rfl) headL_one ?_
          intro wS hXS huS
          have hCS := hC6.trans (huS.below (B := w1.heap.size) hC6.size (fun j hj => by omega))
          refine hK _ _ hCS ?_
          clear hK K
          refine wpAnyH_done (by kernel_rfl) ?_ _
          go_wp2_with fail
          go_meet
          exact ⟨H, rfl, hG4, hXS.out, hCS⟩
      · go_simp
        have HH3 := Lib.hid (heap_alloc_new w2 (.cells Try.zeroCells34 34))
        have hC3 := hC2.alloc hC2.size (.cells Try.zeroCells34 34)
        have hG3 := hC2.size
        obtain ⟨H, hH⟩ : ∃ H, w2.heap.size = H := ⟨_, rfl⟩
        rw [hH] at HH3 hG3
        clear hC2
        refine hK _ _ hC3 ?_
        clear hK K
        try simp only [Act.put, List.setIfInBounds_toArray, List.set_cons_zero, List.set_cons_succ]
        try rw [hH]
        generalize w2.alloc (.cells Try.zeroCells34 34) = w3 at *
        refine held_one 7 rfl (by kernel_rfl) (fun K hK => ?_)
        go_simp
        go_at_call 34
        refine (refidk_any _ _ _ l 1 _ (HR1.out.mono hC3) hn hlo (by omega) 40 (by omega)).mono ?_
        rintro e w4 ⟨rfl, hb4⟩
        have hC4 := hC3.trans (hb4.mono hC3.size)
        have HH4 := Lib.hid (row_below hb4 (lt_of_heap HH3.out) HH3.out)
        clear HH3
        clear hC3 hb4
        go_simp
        refine hK _ _ hC4 ?_
        clear hK K
        try simp only [Act.put, List.setIfInBounds_toArray, List.set_cons_zero, List.set_cons_succ]
        refine held_one 9 rfl (by kernel_rfl) (fun K hK => ?_)
        go_simp
        go_at_call 34
        refine (refidk_any _ _ _ l 2 _ (HR1.out.mono hC4) hn hlo (by omega) 56 (by omega)).mono ?_
        rintro e w5 ⟨rfl, hb5⟩
        have hC5 := hC4.trans (hb5.mono hC4.size)
        have HH5 := Lib.hid (row_below hb5 (lt_of_heap HH4.out) HH4.out)
        clear HH4
        clear hC4 hb5
        go_simp
        refine hK _ _ hC5 ?_
        clear hK K
        try simp only [Act.put, List.setIfInBounds_toArray, List.set_cons_zero, List.set_cons_succ]
        refine held_one 11 rfl (by kernel_rfl) (fun K hK => ?_)
        go_simp
        go_at_call 34
        refine (refidk_any _ _ _ l 3 _ (HR1.out.mono hC5) hn hlo (by omega) 72 (by omega)).mono ?_
        rintro e w6 ⟨rfl, hb6⟩
        have hC6 := hC5.trans (hb6.mono hC5.size)
        have HH6 := Lib.hid (row_below hb6 (lt_of_heap HH5.out) HH5.out)
        clear HH5
        clear hC5 hb6
        go_simp
        refine hK _ _ hC6 ?_
        clear hK K
        try simp only [Act.put, List.setIfInBounds_toArray, List.set_cons_zero, List.set_cons_succ]
        refine held_take 12 (d := some 26) (v := (.agg (headL 0 0 v16 (idsP l) z20 0 0 0).toArray)) rfl rfl (by kernel_rfl) (by kernel_rfl) (by kernel_rfl) (fun _ _ _ h => h) hC6 (by kernel_rfl) (fun w hSw => exec_buildS rfl (Eq.trans (by kernel_rfl) HBU.out)) ?_
        try simp only [Act.put, List.setIfInBounds_toArray, List.set_cons_zero, List.set_cons_succ]
        refine held_one 14 rfl (by kernel_rfl) (fun K hK => ?_)
        refine step_storeS rfl rfl Try.refheadI rfl rfl HH6.out (by with_unfolding_all rfl) (headL_size (n := 20) HIL.out rfl) headL_one ?_
        intro wS hXS huS
        have hCS := hC6.trans (huS.below (B := w1.heap.size) hC6.size (fun j hj => by omega))
        refine hK _ _ hCS ?_
        clear hK K
        refine wpAnyH_done (by kernel_rfl) ?_ _
        go_wp2_with fail
        go_meet
        exact ⟨H, rfl, hG3, hXS.out, hCS⟩
    · go_simp
      have HH2 := Lib.hid (heap_alloc_new wd (.cells Try.zeroCells34 34))
      have hC2 := hC.alloc hC.size (.cells Try.zeroCells34 34)
      have hG2 := hC.size
      obtain ⟨H, hH⟩ : ∃ H, wd.heap.size = H := ⟨_, rfl⟩
      rw [hH] at HH2 hG2
      clear hC
      refine hK _ _ hC2 ?_
      clear hK K
      try simp only [Act.put, List.setIfInBounds_toArray, List.set_cons_zero, List.set_cons_succ]
      try rw [hH]
      generalize wd.alloc (.cells Try.zeroCells34 34) = w2 at *
      refine held_one 5 rfl (by kernel_rfl) (fun K hK => ?_)
      go_simp
      go_at_call 34
      refine (refidk_any _ _ _ l 0 _ (HR1.out.mono hC2) hn hlo (by omega) 24 (by omega)).mono ?_
      rintro e w3 ⟨rfl, hb3⟩
      have hC3 := hC2.trans (hb3.mono hC2.size)
      have HH3 := Lib.hid (row_below hb3 (lt_of_heap HH2.out) HH2.out)
      clear HH2
      clear hC2 hb3
      go_simp
      refine hK _ _ hC3 ?_
      clear hK K
      try simp only [Act.put, List.setIfInBounds_toArray, List.set_cons_zero, List.set_cons_succ]
      refine held_one 7 rfl (by kernel_rfl) (fun K hK => ?_)
      go_simp
      go_at_call 34
      refine (refidk_any _ _ _ l 1 _ (HR1.out.mono hC3) hn hlo (by omega) 40 (by omega)).mono ?_
      rintro e w4 ⟨rfl, hb4⟩
      have hC4 := hC3.trans (hb4.mono hC3.size)
      have HH4 := Lib.hid (row_below hb4 (lt_of_heap HH3.out) HH3.out)
      clear HH3
      clear hC3 hb4
      go_simp
      refine hK _ _ hC4 ?_
      clear hK K
      try simp only [Act.put, List.setIfInBounds_toArray, List.set_cons_zero, List.set_cons_succ]
      refine held_one 9 rfl (by kernel_rfl) (fun K hK => ?_)
      go_simp
      go_at_call 34
      refine (refidk_any _ _ _ l 2 _ (HR1.out.mono hC4) hn hlo (by omega) 56 (by omega)).mono ?_
      rintro e w5 ⟨rfl, hb5⟩
      have hC5 := hC4.trans (hb5.mono hC4.size)
      have HH5 := Lib.hid (row_below hb5 (lt_of_heap HH4.out) HH4.out)
      clear HH4
      clear hC4 hb5
      go_simp
      refine hK _ _ hC5 ?_
      clear hK K
      try simp only [Act.put, List.setIfInBounds_toArray, List.set_cons_zero, List.set_cons_succ]
      refine held_one 11 rfl (by kernel_rfl) (fun K hK => ?_)
      go_simp
      go_at_call 34
      refine (refidk_any _ _ _ l 3 _ (HR1.out.mono hC5) hn hlo (by omega) 72 (by omega)).mono ?_
      rintro e w6 ⟨rfl, hb6⟩
      have hC6 := hC5.trans (hb6.mono hC5.size)
      have HH6 := Lib.hid (row_below hb6 (lt_of_heap HH5.out) HH5.out)
      clear HH5
      clear hC5 hb6
      go_simp
      refine hK _ _ hC6 ?_
      clear hK K
      try simp only [Act.put, List.setIfInBounds_toArray, List.set_cons_zero, List.set_cons_succ]
      refine held_take 12 (d := some 26) (v := (.agg (headL 0 0 v16 (idsP l) z20 0 0 0).toArray)) rfl rfl (by kernel_rfl) (by kernel_rfl) (by kernel_rfl) (fun _ _ _ h => h) hC6 (by kernel_rfl) (fun w hSw => exec_buildS rfl (Eq.trans (by kernel_rfl) HBU.out)) ?_
      try simp only [Act.put, List.setIfInBounds_toArray, List.set_cons_zero, List.set_cons_succ]
      refine held_one 14 rfl (by kernel_rfl) (fun K hK => ?_)
      refine step_storeS rfl rfl Try.refheadI rfl rfl HH6.out (by with_unfolding_all rfl) (headL_size (n := 20) HIL.out rfl) headL_one ?_
      intro wS hXS huS
      have hCS := hC6.trans (huS.below (B := w1.heap.size) hC6.size (fun j hj => by omega))
      refine hK _ _ hCS ?_
      clear hK K
      refine wpAnyH_done (by kernel_rfl) ?_ _
      go_wp2_with fail
      go_meet
      exact ⟨H, rfl, hG2, hXS.out, hCS⟩
  case rest =>
    obtain ⟨H, rfl, hHge, hXH, hBc⟩ := hcut
    have HZc := Lib.hid (row_below hBc hZlt HZ1.out)
    have HBc := Lib.hid (HB1.out.trans (hBc.mono HB1.out.size))
    have HRc := Lib.hid (HR1.out.mono hBc)
    have HXH := Lib.hid hXH
    have hZH : Z < H := by omega
    have hbH : b < H := by omega
    obtain ⟨g80, g81⟩ := gN_u32 HRc.out.1 8
    obtain ⟨g120, g121⟩ := gN_u32 HRc.out.1 12
    have hw1 : IntKind.u32.wrap (gN l 8 4) = gN l 8 4 := by rw [IntKind.wrap_u32]; omega
    have hw2 : IntKind.u32.wrap (gN l 12 4) = gN l 12 4 := by rw [IntKind.wrap_u32]; omega
    have i0 := headl_0 hXH
    have i1 := headl_1 hXH
    have f0 := free_of_heap hXH 0
    have f1 := free_of_heap hXH 1
    have HG8 := Lib.hid (show Calls Try.prog 35 #[.slice (some ⟨b, off, none⟩) l.length c, .int .i64 8, .int .i64 4] wc (fun e w' => e = .returned (.tuple #[.int .u64 (gN l 8 4), .bool true]) ∧ wc = w') from refget4_any _ _ _ l 8 wc HRc.out hn (by omega))
    have HG12 := Lib.hid (show Calls Try.prog 35 #[.slice (some ⟨b, off, none⟩) l.length c, .int .i64 12, .int .i64 4] wc (fun e w' => e = .returned (.tuple #[.int .u64 (gN l 12 4), .bool true]) ∧ wc = w') from refget4_any _ _ _ l 12 wc HRc.out hn (by omega))
    have hX2 := row_set (row_set hXH 0 (.int .u32 (gN l 8 4))) 1 (.int .u32 (gN l 12 4))
    rw [headL_setCo, headL_setInc] at hX2
    have HX2 := Lib.hid hX2
    have HU2 := Lib.hid ((Upd.setCell (F := (· = H)) wc ⟨H, 0, none⟩ (.int .u32 (gN l 8 4)) rfl).trans (Upd.setCell (F := (· = H)) _ ⟨H, 1, none⟩ (.int .u32 (gN l 12 4)) rfl) (fun _ _ h => h))
    obtain ⟨co, hco⟩ : ∃ co, gN l 8 4 = co := ⟨_, rfl⟩
    obtain ⟨inc, hinc⟩ : ∃ inc, gN l 12 4 = inc := ⟨_, rfl⟩
    rw [hco] at HX2 HU2 HG8 hw1
    rw [hinc] at HX2 HU2 HG12 hw2
    have HCo := Lib.hid hco
    have HInc := Lib.hid hinc
    clear hXH hX2 hco hinc
    go_upto_region 5 with (first
      | (go_at_call 35; with_reducible refine HG8.out.mono ?_; rintro e wa ⟨rfl, rfl⟩)
      | (go_at_call 35; with_reducible refine HG12.out.mono ?_; rintro e wa ⟨rfl, rfl⟩))
    generalize (wc.setCell ⟨H, 0, none⟩ (.int .u32 co)).setCell ⟨H, 1, none⟩ (.int .u32 inc) = w2 at HX2 HU2 ⊢
    have HR2 := Lib.hid (HRc.out.mono2 HU2.out (by omega))
    clear i0 i1 f0 f1 HRc HG8 HG12 hw1 hw2 HXH
    go_wp2_with fail
    go_loopw [9] (fun i wr => ∃ (k : Nat), k ≤ 20 ∧ i = .int .i64 (k : Int) ∧ wr.heap[H]? = some (.cells (headL co inc v16 (idsP l) (numsP l k ++ List.replicate (20 - k) 0) 0 0 0).toArray 34 (0, 0)) ∧ Upd (· = H) w2 wr) (fun i _ => 20 - (intOf i).toNat)
    case atStart => exact ⟨0, Nat.zero_le _, rfl, HX2.out, Upd.refl _ _⟩
    case round =>
      obtain ⟨k, hk, rfl, hXr, hU⟩ := hrel
      have HU := Lib.hid hU
      have HRr := Lib.hid (HR2.out.mono2 hU (by omega))
      clear hU
      by_cases hlt : k < 20
      · have hlt' : (k : Int) < 20 := by omega
        have HG := Lib.hid (show Calls Try.prog 36 #[.slice (some ⟨b, off, none⟩) l.length c, .int .u64 (88 + 8 * (k : Int))] wr (fun e w' => e = .returned (.int .u64 (gN l (88 + 8 * k) 8)) ∧ wr = w') from by have := refu_any (some ⟨b, off, none⟩) l.length c l (88 + 8 * k) wr HRr.out hn (by omega); simpa using this)
        have hNl : (numsP l k ++ List.replicate (20 - k) (0 : Int)).length = 20 := by simp only [List.length_append, numsP_length, List.length_replicate]; omega
        obtain ⟨ov, hov⟩ : ∃ ov, (numsP l k ++ List.replicate (20 - k) (0 : Int))[k]? = some ov := ⟨_, List.getElem?_eq_getElem (by omega)⟩
        have i67 := cell_of_heap hXr (67 + k) _ (headL_N HIL.out k _ hov)
        have f67 := free_of_heap hXr (67 + k)
        have HXn := Lib.hid (row_set hXr (67 + k) (.int .u64 (gN l (88 + 8 * k) 8)))
        rw [headL_setN HIL.out k (by omega), numsR_next l k hlt] at HXn
        have HUn := Lib.hid (HU.out.trans (Upd.setCell (F := (· = H)) wr ⟨H, 67 + k, none⟩ (.int .u64 (gN l (88 + 8 * k) 8)) rfl) (fun _ _ h => h))
        have hw0 : IntKind.i64.wrap (8 * (k : Int)) = 8 * (k : Int) := by rw [IntKind.wrap_i64]; omega
        have hw1 : IntKind.i64.wrap (88 + 8 * (k : Int)) = 88 + 8 * (k : Int) := by rw [IntKind.wrap_i64]; omega
        have hw2 : IntKind.u64.wrap (88 + 8 * (k : Int)) = 88 + 8 * (k : Int) := by rw [IntKind.wrap_u64]; omega
        generalize gN l (88 + 8 * k) 8 = gv at *
        clear hXr hNl hov HRr HU
        go_wp2_with (go_at_call 36; refine HG.out.mono ?_; rintro e wg ⟨rfl, rfl⟩)
        go_roundw
        case rel => exact ⟨k + 1, by omega, by congr 1, HXn.out, HUn.out⟩
        case measure => simp [intOf]; omega
      · obtain rfl : k = 20 := by omega
        have hge2 : ¬ ((20 : Int) < 20) := by omega
        rw [Nat.sub_self, List.replicate_zero, List.append_nil] at hXr
        have hN20 := numsP_length l 20
        have HN20 := Lib.hid hN20
        have HRr := Lib.hid (HR2.out.mono2 HU.out (by omega))
        obtain ⟨u0, u1⟩ := gN_u32 HRr.out.1 256
        obtain ⟨u2, u3⟩ := gN_u32 HRr.out.1 260
        have hw1 : IntKind.u32.wrap (gN l 256 4) = gN l 256 4 := by rw [IntKind.wrap_u32]; omega
        have hw2 : IntKind.u32.wrap (gN l 260 4) = gN l 260 4 := by rw [IntKind.wrap_u32]; omega
        have HG1 := Lib.hid (show Calls Try.prog 35 #[.slice (some ⟨b, off, none⟩) l.length c, .int .i64 256, .int .i64 4] wr (fun e w' => e = .returned (.tuple #[.int .u64 (gN l 256 4), .bool true]) ∧ wr = w') from refget4_any _ _ _ l 256 wr HRr.out hn (by omega))
        have HG2 := Lib.hid (show Calls Try.prog 35 #[.slice (some ⟨b, off, none⟩) l.length c, .int .i64 260, .int .i64 4] wr (fun e w' => e = .returned (.tuple #[.int .u64 (gN l 260 4), .bool true]) ∧ wr = w') from refget4_any _ _ _ l 260 wr HRr.out hn (by omega))
        have HG3 := Lib.hid (show Calls Try.prog 36 #[.slice (some ⟨b, off, none⟩) l.length c, .int .u64 264] wr (fun e w' => e = .returned (.int .u64 (gN l 264 8)) ∧ wr = w') from refu_any _ _ _ l 264 wr HRr.out hn (by omega))
        have i87 := cell_of_heap hXr 87 _ (headL_ta HIL.out hN20)
        have i88 := cell_of_heap hXr 88 _ (headL_ti HIL.out hN20)
        have i89 := cell_of_heap hXr 89 _ (headL_te HIL.out hN20)
        have f87 := free_of_heap hXr 87
        have f88 := free_of_heap hXr 88
        have f89 := free_of_heap hXr 89
        have hXn := row_set (row_set (row_set hXr 87 (.int .u32 (gN l 256 4))) 88 (.int .u32 (gN l 260 4))) 89 (.int .u64 (gN l 264 8))
        rw [headL_setTa (n := 20) HIL.out hN20, headL_setTi (n := 20) HIL.out hN20, headL_setTe (n := 20) HIL.out hN20] at hXn
        have HXn := Lib.hid hXn
        have HUn := Lib.hid (((HU2.out.trans HU.out (fun _ _ h => h)).trans (Upd.setCell (F := (· = H)) wr ⟨H, 87, none⟩ (.int .u32 (gN l 256 4)) rfl) (fun _ _ h => h)).trans ((Upd.setCell (F := (· = H)) _ ⟨H, 88, none⟩ (.int .u32 (gN l 260 4)) rfl).trans (Upd.setCell (F := (· = H)) _ ⟨H, 89, none⟩ (.int .u64 (gN l 264 8)) rfl) (fun _ _ h => h)) (fun _ _ h => h))
        have HUw := Lib.hid ((Upd.setCell (F := (· = H)) wr ⟨H, 87, none⟩ (.int .u32 (gN l 256 4)) rfl).trans ((Upd.setCell (F := (· = H)) _ ⟨H, 88, none⟩ (.int .u32 (gN l 260 4)) rfl).trans (Upd.setCell (F := (· = H)) _ ⟨H, 89, none⟩ (.int .u64 (gN l 264 8)) rfl) (fun _ _ h => h)) (fun _ _ h => h))
        obtain ⟨g1, hg1⟩ : ∃ g1, gN l 256 4 = g1 := ⟨_, rfl⟩
        obtain ⟨g2, hg2⟩ : ∃ g2, gN l 260 4 = g2 := ⟨_, rfl⟩
        obtain ⟨g3, hg3⟩ : ∃ g3, gN l 264 8 = g3 := ⟨_, rfl⟩
        rw [hg1] at HG1 HXn HUn HUw hw1
        rw [hg2] at HG2 HXn HUn HUw hw2
        rw [hg3] at HG3 HXn HUn HUw
        have Hg1 := Lib.hid hg1
        have Hg2 := Lib.hid hg2
        have Hg3 := Lib.hid hg3
        clear hXr hXn hN20 hg1 hg2 hg3 u0 u1 u2 u3 HU
        go_upto_region 12 with (first
          | (go_at_call 35; with_reducible refine HG1.out.mono ?_; rintro e wa ⟨rfl, rfl⟩)
          | (go_at_call 35; with_reducible refine HG2.out.mono ?_; rintro e wa ⟨rfl, rfl⟩)
          | (go_at_call 36; with_reducible refine HG3.out.mono ?_; rintro e wa ⟨rfl, rfl⟩))
        generalize ((wr.setCell ⟨H, 87, none⟩ (.int .u32 g1)).setCell ⟨H, 88, none⟩ (.int .u32 g2)).setCell ⟨H, 89, none⟩ (.int .u64 g3) = w9 at HXn HUn HUw ⊢
        have HZ9 := Lib.hid (row_upd HUn.out (by omega) HZc.out)
        have HB9 := Lib.hid (HBc.out.trans (HUn.out.below (B := w.heap.size) HBc.out.size (fun j hj => by have := HZ.out; omega)))
        have HR9 := Lib.hid (HRr.out.mono2 HUw.out (by omega)).drewd
        have HSz := Lib.hid (show (headL co inc v16 (idsP l) (numsP l 20) g1 g2 g3).toArray.size = 90 from headL_size (n := 20) HIL.out HN20.out)
        have HG4 := Lib.hid (show Calls Try.prog 36 #[.slice (some ⟨b, off, none⟩) l.length c, .int .u64 248] w9.drew (fun e w' => e = .returned (.int .u64 (gN l 248 8)) ∧ w9.drew = w') from refu_any _ _ _ l 248 _ HR9.out hn (by omega))
        obtain ⟨g4, hg4⟩ : ∃ g4, gN l 248 8 = g4 := ⟨_, rfl⟩
        rw [hg4] at HG4
        have Hg4 := Lib.hid hg4
        have HV := Lib.hid (show (Value.tuple #[.agg (headL (gN l 8 4) (gN l 12 4) v16 (idsP l) (numsP l 20) (gN l 256 4) (gN l 260 4) (gN l 264 8)).toArray, .int .u64 (gN l 248 8)]) = .tuple #[.agg (headL co inc v16 (idsP l) (numsP l 20) g1 g2 g3).toArray, .int .u64 g4] by rw [HCo.out, HInc.out, Hg1.out, Hg2.out, Hg3.out, hg4])
        clear i87 i88 i89 f87 f88 f89 HRr HR2 hw1 hw2 hg4 HG1 HG2 HG3
        have hC : w9.drew.heap[H]? = some (.cells (headL co inc v16 (idsP l) (numsP l 20) g1 g2 g3).toArray 34 (0, 0)) := HXn.out
        refine wp_region_held (S := fun w' => w'.heap[H]? = some (.cells (headL co inc v16 (idsP l) (numsP l 20) g1 g2 g3).toArray 34 (0, 0))) (by kernel_rfl) ?_
        change wpAnyH _ _ _ _ _ _ _ _ w9.drew
        refine held_take 0 (d := some 75) (v := (.agg (headL co inc v16 (idsP l) (numsP l 20) g1 g2 g3).toArray)) rfl rfl (by kernel_rfl) (by kernel_rfl) (by kernel_rfl) (fun _ _ _ h => h) hC (by kernel_rfl) (fun w hSw => by exact exec_loadS rfl Try.refheadI rfl hSw HSz.out) ?_
        try simp only [Act.put, List.setIfInBounds_toArray, List.set_cons_zero, List.set_cons_succ]
        refine held_take 1 (d := some 76) (v := (.slice (some ⟨b, off, none⟩) l.length c)) rfl rfl (by kernel_rfl) (by kernel_rfl) (by kernel_rfl) (fun _ _ _ h => h) hC (by kernel_rfl) (fun w hSw => by have x0 := hSw; go_simp) ?_
        try simp only [Act.put, List.setIfInBounds_toArray, List.set_cons_zero, List.set_cons_succ]
        refine held_one 2 rfl (by kernel_rfl) (fun K hK => ?_)
        go_simp
        go_at_call 36
        refine HG4.out.mono ?_
        rintro e wa ⟨rfl, rfl⟩
        go_simp
        refine hK _ _ hC ?_
        clear hK K
        try simp only [Act.put, List.setIfInBounds_toArray, List.set_cons_zero, List.set_cons_succ]
        refine held_one 3 rfl (by kernel_rfl) (fun K hK => ?_)
        refine step_storeS rfl rfl Try.refheadI rfl rfl (show w9.drew.heap[Z]? = _ from HZ9.out) (by with_unfolding_all rfl) HSz.out headL_one ?_
        intro wS hXS huS
        have hCS := row_upd huS (by omega) hC
        refine hK _ _ hCS ?_
        clear hK K
        try simp only [Act.put, List.setIfInBounds_toArray, List.set_cons_zero, List.set_cons_succ]
        refine held_take 4 (d := some 3) (v := (.int .u64 g4)) rfl rfl (by kernel_rfl) (by kernel_rfl) (by kernel_rfl) (fun _ _ _ h => h) hCS (by kernel_rfl) (fun w hSw => by clear hSw; go_simp) ?_
        try simp only [Act.put, List.setIfInBounds_toArray, List.set_cons_zero, List.set_cons_succ]
        refine wpAnyH_done (by kernel_rfl) ?_ _
        go_wp2_with fail
        have HBS := Lib.hid (HB9.out.drew.trans (huS.below (B := w.heap.size) HB9.out.size (fun j hj => by have := HZ.out; omega)))
        refine bodyPost_ret (v := .tuple #[.agg (headL co inc v16 (idsP l) (numsP l 20) g1 g2 g3).toArray, .int .u64 g4]) (results_S1 rfl Try.refheadI rfl rfl hXS.out HSz.out) rfl ?_
        exact ⟨by rw [HV.out], HBS.out⟩
end Go.Proofs.Ytpkmdnfkeebgbaa
