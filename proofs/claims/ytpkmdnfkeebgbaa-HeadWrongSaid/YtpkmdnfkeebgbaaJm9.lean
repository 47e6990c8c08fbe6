/- Contracts and plain laws that this claim uses, each with its conditions as premises. -/
import Derived.Test.YtpkmdnfkeebgbaaJm6
import Derived.Test.YtpkmdnfkeebgbaaJm3
import Derived.Test.YtpkmdnfkeebgbaaJm2
import Derived.Test.YtpkmdnfkeebgbaaJm8
import Derived.Test.YtpkmdnfkeebgbaaJm4
/- What the document's own raw computes: a head's parts out of its bytes. Conditions stand as premises. -/
namespace Go.Proofs.Ytpkmdnfkeebgbaa
open Go.ChangeShapes Go.WideShapes Go.ChangeAt Go.RowKit
set_option linter.unusedVariables false
set_option linter.unusedSimpArgs false

def z20 : List Int := List.replicate 20 0
set_option maxRecDepth 100000 in
theorem Try.builtR0 (st a0 a1 a2 a3 a4 a5 a6 a7 a8 a9 a10 a11 a12 a13 a14 a15 b0 b1 b2 b3 b4 b5 b6 b7 b8 b9 b10 b11 b12 b13 b14 b15 c0 c1 c2 c3 c4 c5 c6 c7 c8 c9 c10 c11 c12 c13 c14 c15 e0 e1 e2 e3 e4 e5 e6 e7 e8 e9 e10 e11 e12 e13 e14 e15 : Int) :
    Try.prog.built 34 [(2, .int .i64 st), (3, .agg ([a0, a1, a2, a3, a4, a5, a6, a7, a8, a9, a10, a11, a12, a13, a14, a15].map (Value.int .u8)).toArray), (4, .agg ([b0, b1, b2, b3, b4, b5, b6, b7, b8, b9, b10, b11, b12, b13, b14, b15].map (Value.int .u8)).toArray), (5, .agg ([c0, c1, c2, c3, c4, c5, c6, c7, c8, c9, c10, c11, c12, c13, c14, c15].map (Value.int .u8)).toArray), (6, .agg ([e0, e1, e2, e3, e4, e5, e6, e7, e8, e9, e10, e11, e12, e13, e14, e15].map (Value.int .u8)).toArray)] = some (headL 0 0 st ([a0, a1, a2, a3, a4, a5, a6, a7, a8, a9, a10, a11, a12, a13, a14, a15] ++ [b0, b1, b2, b3, b4, b5, b6, b7, b8, b9, b10, b11, b12, b13, b14, b15] ++ [c0, c1, c2, c3, c4, c5, c6, c7, c8, c9, c10, c11, c12, c13, c14, c15] ++ [e0, e1, e2, e3, e4, e5, e6, e7, e8, e9, e10, e11, e12, e13, e14, e15]) z20 0 0 0).toArray := by kernel_rfl
theorem Try.builtR (st : Int) (A B C D : List Int) (hA : A.length = 16) (hB : B.length = 16) (hC : C.length = 16) (hD : D.length = 16) :
    Try.prog.built 34 [(2, .int .i64 st), (3, .agg (A.map (Value.int .u8)).toArray), (4, .agg (B.map (Value.int .u8)).toArray), (5, .agg (C.map (Value.int .u8)).toArray), (6, .agg (D.map (Value.int .u8)).toArray)] = some (headL 0 0 st (A ++ B ++ C ++ D) z20 0 0 0).toArray := by
  obtain ⟨a0, a1, a2, a3, a4, a5, a6, a7, a8, a9, a10, a11, a12, a13, a14, a15, rfl⟩ := list16 hA
  obtain ⟨b0, b1, b2, b3, b4, b5, b6, b7, b8, b9, b10, b11, b12, b13, b14, b15, rfl⟩ := list16 hB
  obtain ⟨c0, c1, c2, c3, c4, c5, c6, c7, c8, c9, c10, c11, c12, c13, c14, c15, rfl⟩ := list16 hC
  obtain ⟨e0, e1, e2, e3, e4, e5, e6, e7, e8, e9, e10, e11, e12, e13, e14, e15, rfl⟩ := list16 hD
  exact Try.builtR0 st a0 a1 a2 a3 a4 a5 a6 a7 a8 a9 a10 a11 a12 a13 a14 a15 b0 b1 b2 b3 b4 b5 b6 b7 b8 b9 b10 b11 b12 b13 b14 b15 c0 c1 c2 c3 c4 c5 c6 c7 c8 c9 c10 c11 c12 c13 c14 c15 e0 e1 e2 e3 e4 e5 e6 e7 e8 e9 e10 e11 e12 e13 e14 e15
theorem numsR_next (l : List Int) (k : Nat) (hk : k < 20) : (numsP l k ++ List.replicate (20 - k) 0).set k (gN l (88 + 8 * k) 8) = numsP l (k + 1) ++ List.replicate (20 - (k + 1)) 0 := by
  rw [List.set_append_right _ _ (by rw [numsP_length]; omega), numsP_length, Nat.sub_self, numsP_snoc, show 20 - k = (20 - (k + 1)) + 1 by omega, List.replicate_succ, List.append_assoc]
  rfl
theorem idN_src {l : List Int} (hl : 272 ≤ l.length) (k : Nat) (hk : 16 * k + 16 ≤ 64) : (l.drop (24 + 16 * k)).take 16 = idN (idsP l) (16 * k) := by
  unfold idN idsP
  rw [List.drop_take, List.drop_drop, List.take_take]
  congr 1
  omega
theorem refidk_any (a : Option Addr) (n c : Nat) (l : List Int) (k : Nat) (w : World) (hr : RdB w a n c l) (hn : n ≤ 1000000) (hlo : 272 ≤ n) (hk : k < 4) (p : Int) (hp : p = 24 + 16 * (k : Int)) :
    Calls Try.prog 34 #[.slice a n c, .int .i64 p] w fun e w' => e = .returned (.agg ((idN (idsP l) (16 * k)).map (Value.int .u8)).toArray) ∧ Below w.heap.size w w' := by
  have h := refid_any a n c l (24 + 16 * k) w hr hn (by omega)
  rw [idN_src (by rw [hr.len]; exact hlo) k (by omega)] at h
  rw [hp]
  simpa using h

set_option maxRecDepth 100000 in
set_option maxHeartbeats 8000000 in
theorem raw_any (a : Option Addr) (n c : Nat) (l : List Int) (w : World) (hr : RdB w a n c l) (hn : n ≤ 1000000) (hlo : 272 ≤ n) :
    Calls Try.prog 22 #[.slice a n c] w fun e w' => e = .returned (.tuple #[.agg (headL (gN l 8 4) (gN l 12 4) (l[16]?.getD 0) (idsP l) (numsP l 20) (gN l 256 4) (gN l 260 4) (gN l 264 8)).toArray, .int .u64 (gN l 248 8)]) ∧ Below w.heap.size w w' := by
  obtain rfl : l.length = n := hr.len
  obtain ⟨b, off, rfl, hbl, hcs⟩ := hr.2.at (by omega)
  have h16 := hcs 16 (l[16]?.getD 0) (by rw [List.getElem?_eq_getElem (by omega)]; rfl)
  have hb16 := hr.1.getD 16
  have hIL := idsP_length hlo
  have HIL := Lib.hid hIL
  have HBU := Lib.hid (Try.builtR (l[16]?.getD 0) (idN (idsP l) 0) (idN (idsP l) 16) (idN (idsP l) 32) (idN (idsP l) 48) (idN_length hIL 0 (by omega)) (idN_length hIL 16 (by omega)) (idN_length hIL 32 (by omega)) (idN_length hIL 48 (by omega)))
  rw [four_ids _ hIL] at HBU
  generalize hv16 : l[16]?.getD 0 = v16 at h16 hb16 HBU
  have HV16 := Lib.hid hv16
  have HR := Lib.hid hr
  clear hv16 hcs hIL hr
  have hcc : ¬ ((l.length : Int) ≤ 16) := by omega
  have hw16 : IntKind.i64.wrap v16 = v16 := by rw [IntKind.wrap_i64]; omega
  go_enter Try.func22, Try.ntmps22
  go_upto_region 1 with fail
  have hZ1 := heap_alloc_new w (.cells Try.zeroCells34 34)
  have HB1 := Lib.hid (below_alloc w (.cells Try.zeroCells34 34))
  generalize w.alloc (.cells Try.zeroCells34 34) = w1 at hZ1 HB1 ⊢
  obtain ⟨Z, hZ⟩ : ∃ Z, w.heap.size = Z := ⟨_, rfl⟩
  have HZ := Lib.hid hZ
  rw [hZ] at hZ1 ⊢
  have hbZ : b < Z := by omega
  have hZlt := lt_of_heap hZ1
  have HZ1 := Lib.hid hZ1
  have HR1 := Lib.hid (HR.out.mono HB1.out)
  have h16' := bcell HB1.out hbl h16
  clear hZ hZ1 h16 hbl
  go_cut [4] from 14 to 26 (fun s wx => ∃ H, s = .pointer (some ⟨H, 0, none⟩) ∧ w1.heap.size ≤ H ∧ wx.heap[H]? = some (.cells (headL 0 0 v16 (idsP l) z20 0 0 0).toArray 34 (0, 0)) ∧ Below w1.heap.size w1 wx)
  case first =>
    have hC : Below w1.heap.size w1 w1.drew := below_drew w1
    refine wp_region_held (S := fun w' => Below w1.heap.size w1 w') (by kernel_rfl) ?_
    change wpAnyH _ _ _ _ _ _ _ _ w1.drew
    generalize w1.drew = wd at hC ⊢
    refine held_take 0 (d := some 14) (v := (.slice (some ⟨b, off, none⟩) l.length c)) rfl rfl (by kernel_rfl) (by kernel_rfl) (by kernel_rfl) (fun _ _ _ h => h) hC (by kernel_rfl) (fun w hSw => by have x0 := bcell hSw (show b < w1.heap.size by omega) h16'; clear hSw; go_simp) ?_
    try simp only [Act.put, List.setIfInBounds_toArray, List.set_cons_zero, List.set_cons_succ]
    refine held_take 1 (d := some 15) (v := (.pointer (some ⟨b, off + 16, none⟩))) rfl rfl (by kernel_rfl) (by kernel_rfl) (by kernel_rfl) (fun _ _ _ h => h) hC (by kernel_rfl) (fun w hSw => by have x0 := bcell hSw (show b < w1.heap.size by omega) h16'; clear hSw; go_simp) ?_
    try simp only [Act.put, List.setIfInBounds_toArray, List.set_cons_zero, List.set_cons_succ]
    refine held_take 2 (d := some 16) (v := (.int .u8 v16)) rfl rfl (by kernel_rfl) (by kernel_rfl) (by kernel_rfl) (fun _ _ _ h => h) hC (by kernel_rfl) (fun w hSw => by have x0 := bcell hSw (show b < w1.heap.size by omega) h16'; clear hSw; go_simp) ?_
    try simp only [Act.put, List.setIfInBounds_toArray, List.set_cons_zero, List.set_cons_succ]
    refine held_take 3 (d := some 17) (v := (.int .i64 v16)) rfl rfl (by kernel_rfl) (by kernel_rfl) (by kernel_rfl) (fun _ _ _ h => h) hC (by kernel_rfl) (fun w hSw => by go_simp) ?_
    try simp only [Act.put, List.setIfInBounds_toArray, List.set_cons_zero, List.set_cons_succ]
    refine held_take 4 (d := some 18) (v := (.slice (some ⟨b, off, none⟩) l.length c)) rfl rfl (by kernel_rfl) (by kernel_rfl) (by kernel_rfl) (fun _ _ _ h => h) hC (by kernel_rfl) (fun w hSw => by have x0 := bcell hSw (show b < w1.heap.size by omega) h16'; clear hSw; go_simp) ?_
    try simp only [Act.put, List.setIfInBounds_toArray, List.set_cons_zero, List.set_cons_succ]
    refine held_take 6 (d := some 20) (v := (.slice (some ⟨b, off, none⟩) l.length c)) rfl rfl (by kernel_rfl) (by kernel_rfl) (by kernel_rfl) (fun _ _ _ h => h) hC (by kernel_rfl) (fun w hSw => by have x0 := bcell hSw (show b < w1.heap.size by omega) h16'; clear hSw; go_simp) ?_
    try simp only [Act.put, List.setIfInBounds_toArray, List.set_cons_zero, List.set_cons_succ]
    refine held_take 8 (d := some 22) (v := (.slice (some ⟨b, off, none⟩) l.length c)) rfl rfl (by kernel_rfl) (by kernel_rfl) (by kernel_rfl) (fun _ _ _ h => h) hC (by kernel_rfl) (fun w hSw => by have x0 := bcell hSw (show b < w1.heap.size by omega) h16'; clear hSw; go_simp) ?_
    try simp only [Act.put, List.setIfInBounds_toArray, List.set_cons_zero, List.set_cons_succ]
    refine held_take 10 (d := some 24) (v := (.slice (some ⟨b, off, none⟩) l.length c)) rfl rfl (by kernel_rfl) (by kernel_rfl) (by kernel_rfl) (fun _ _ _ h => h) hC (by kernel_rfl) (fun w hSw => by have x0 := bcell hSw (show b < w1.heap.size by omega) h16'; clear hSw; go_simp) ?_
    try simp only [Act.put, List.setIfInBounds_toArray, List.set_cons_zero, List.set_cons_succ]
    refine held_two 5 13 rfl rfl (by kernel_rfl) (fun K hK => ?_) (fun K hK => ?_)
    · go_simp
      go_at_call 34
      refine (refidk_any _ _ _ l 0 _ (HR1.out.mono hC) hn hlo (by omega) 24 (by omega)).mono ?_
      rintro e w2 ⟨rfl, hb2⟩
      have hC2 := hC.trans (hb2.mono hC.size)
      clear hC hb2
      go_simp
      refine hK _ _ hC2 ?_
      clear hK K
      try simp only [Act.put, List.setIfInBounds_toArray, List.set_cons_zero, List.set_cons_succ]
      refine held_two 7 13 rfl rfl (by kernel_rfl) (fun K hK => ?_) (fun K hK => ?_)
      · go_simp
        go_at_call 34
        refine (refidk_any _ _ _ l 1 _ (HR1.out.mono hC2) hn hlo (by omega) 40 (by omega)).mono ?_
        rintro e w3 ⟨rfl, hb3⟩
        have hC3 := hC2.trans (hb3.mono hC2.size)
        clear hC2 hb3
        go_simp
        refine hK _ _ hC3 ?_
        clear hK K
        try simp only [Act.put, List.setIfInBounds_toArray, List.set_cons_zero, List.set_cons_succ]
        refine held_two 9 13 rfl rfl (by kernel_rfl) (fun K hK => ?_) (fun K hK => ?_)
        · go_simp
          go_at_call 34
          refine (refidk_any _ _ _ l 2 _ (HR1.out.mono hC3) hn hlo (by omega) 56 (by omega)).mono ?_
          rintro e w4 ⟨rfl, hb4⟩
          have hC4 := hC3.trans (hb4.mono hC3.size)
          clear hC3 hb4
          go_simp
          refine hK _ _ hC4 ?_
          clear hK K
          try simp only [Act.put, List.setIfInBounds_toArray, List.set_cons_zero, List.set_cons_succ]
          refine held_two 11 13 rfl rfl (by kernel_rfl) (fun K hK => ?_) (fun K hK => ?_)
          · go_simp
            go_at_call 34
            refine (refidk_any _ _ _ l 3 _ (HR1.out.mono hC4) hn hlo (by omega) 72 (by omega)).mono ?_
            rintro e w5 ⟨rfl, hb5⟩
            have hC5 := hC4.trans (hb5.mono hC4.size)
            clear hC4 hb5
            go_simp
            refine hK _ _ hC5 ?_
            clear hK K
            try simp only [Act.put, List.setIfInBounds_toArray, List.set_cons_zero, List.set_cons_succ]
            refine held_take 12 (d := some 26) (v := (.agg (headL 0 0 v16 (idsP l) z20 0 0 0).toArray)) rfl rfl (by kernel_rfl) (by kernel_rfl) (by kernel_rfl) (fun _ _ _ h => h) hC5 (by kernel_rfl) (fun w hSw => exec_buildS rfl (Eq.trans (by kernel_rfl) HBU.out)) ?_
            try simp only [Act.put, List.setIfInBounds_toArray, List.set_cons_zero, List.set_cons_succ]
            refine held_one 13 rfl (by kernel_rfl) (fun K hK => ?_)
            go_simp
            have HH6 := Lib.hid (heap_alloc_new w5 (.cells Try.zeroCells34 34))
            have hC6 := hC5.alloc hC5.size (.cells Try.zeroCells34 34)
            have hG6 := hC5.size
            obtain ⟨H, hH⟩ : ∃ H, w5.heap.size = H := ⟨_, rfl⟩
            rw [hH] at HH6 hG6
            clear hC5
            refine hK _ _ hC6 ?_
            clear hK K
            try simp only [Act.put, List.setIfInBounds_toArray, List.set_cons_zero, List.set_cons_succ]
            try rw [hH]
            generalize w5.alloc (.cells Try.zeroCells34 34) = w6 at *
            refine held_one 14 rfl (by kernel_rfl) (fun K hK => ?_)
            refine step_storeS rfl rfl Try.refheadI rfl rfl HH6.out (by with_unfolding_all rfl) (headL_size (n := 20) HIL.out rfl) headL_one ?_
            intro wS hXS huS
            have hCS := hC6.trans (huS.below (B := w1.heap.size) hC6.size (fun j hj => by omega))
            refine hK _ _ hCS ?_
            clear hK K
            refine wpAnyH_done (by kernel_rfl) ?_ _
            go_wp2_with fail
            go_meet
            exact ⟨H, rfl, hG6, hXS.out, hCS⟩
          · go_simp
            have HH5 := Lib.hid (heap_alloc_new w4 (.cells Try.zeroCells34 34))
            have hC5 := hC4.alloc hC4.size (.cells Try.zeroCells34 34)
            have hG5 := hC4.size
            obtain ⟨H, hH⟩ : ∃ H, w4.heap.size = H := ⟨_, rfl⟩
            rw [hH] at HH5 hG5
            clear hC4
            refine hK _ _ hC5 ?_
            clear hK K
            try simp only [Act.put, List.setIfInBounds_toArray, List.set_cons_zero, List.set_cons_succ]
            try rw [hH]
            generalize w4.alloc (.cells Try.zeroCells34 34) = w5 at *
            refine held_one 11 rfl (by kernel_rfl) (fun K hK => ?_)
            go_simp
            go_at_call 34
            refine (refidk_any _ _ _ l 3 _ (HR1.out.mono hC5) hn hlo (by omega) 72 (by omega)).mono ?_
            rintro e w6 ⟨rfl, hb6⟩
            have hC6 := hC5.trans (hb6.mono hC5.size)
            have HH6 := Lib.hid (row_below hb6 (lt_of_heap HH5.out) HH5.out)
            clear HH5
            clear hC5 hb6
            go_simp
            refine hK _ _ hC6 ?_
            clear hK K
            try simp only [Act.put, List.setIfInBounds_toArray, List.set_cons_zero, List.set_cons_succ]
            refine held_take 12 (d := some 26) (v := (.agg (headL 0 0 v16 (idsP l) z20 0 0 0).toArray)) rfl rfl (by kernel_rfl) (by kernel_rfl) (by kernel_rfl) (fun _ _ _ h => h) hC6 (by kernel_rfl) (fun w hSw => exec_buildS rfl (Eq.trans (by kernel_rfl) HBU.out)) ?_
            try simp only [Act.put, List.setIfInBounds_toArray, List.set_cons_zero, List.set_cons_succ]
            refine held_one 14 rfl (by kernel_rfl) (fun K hK => ?_)
            refine step_storeS rfl rfl Try.refheadI rfl rfl HH6.out (by with_unfolding_all rfl) (headL_size (n := 20) HIL.out rfl) headL_one ?_
            intro wS hXS huS
            have hCS := hC6.trans (huS.below (B := w1.heap.size) hC6.size (fun j hj => by omega))
            refine hK _ _ hCS ?_
            clear hK K
            refine wpAnyH_done (by kernel_rfl) ?_ _
            go_wp2_with fail
            go_meet
            exact ⟨H, rfl, hG5, hXS.out, hCS⟩
        · go_simp
          have HH4 := Lib.hid (heap_alloc_new w3 (.cells Try.zeroCells34 34))
          have hC4 := hC3.alloc hC3.size (.cells Try.zeroCells34 34)
          have hG4 := hC3.size
          obtain ⟨H, hH⟩ : ∃ H, w3.heap.size = H := ⟨_, rfl⟩
          rw [hH] at HH4 hG4
          clear hC3
          refine hK _ _ hC4 ?_
          clear hK K
          try simp only [Act.put, List.setIfInBounds_toArray, List.set_cons_zero, List.set_cons_succ]
          try rw [hH]
          generalize w3.alloc (.cells Try.zeroCells34 34) = w4 at *
          refine held_one 9 rfl (by kernel_rfl) (fun K hK => ?_)
          go_simp
          go_at_call 34
          refine (refidk_any _ _ _ l 2 _ (HR1.out.mono hC4) hn hlo (by omega) 56 (by omega)).mono ?_
          rintro e w5 ⟨rfl, hb5⟩
          have hC5 := hC4.trans (hb5.mono hC4.size)
          have HH5 := Lib.hid (row_below hb5 (lt_of_heap HH4.out) HH4.out)
          clear HH4
          clear hC4 hb5
          go_simp
          refine hK _ _ hC5 ?_
          clear hK K
          try simp only [Act.put, List.setIfInBounds_toArray, List.set_cons_zero, List.set_cons_succ]
          refine held_one 11 rfl (by kernel_rfl) (fun K hK => ?_)
          go_simp
          go_at_call 34
          refine (refidk_any _ _ _ l 3 _ (HR1.out.mono hC5) hn hlo (by omega) 72 (by omega)).mono ?_
          rintro e w6 ⟨rfl, hb6⟩
          have hC6 := hC5.trans (hb6.mono hC5.size)
          have HH6 := Lib.hid (row_below hb6 (lt_of_heap HH5.out) HH5.out)
          clear HH5
          clear hC5 hb6
          go_simp
          refine hK _ _ hC6 ?_
          clear hK K
          try simp only [Act.put, List.setIfInBounds_toArray, List.set_cons_zero, List.set_cons_succ]
          refine held_take 12 (d := some 26) (v := (.agg (headL 0 0 v16 (idsP l) z20 0 0 0).toArray)) rfl rfl (by kernel_rfl) (by kernel_rfl) (by kernel_rfl) (fun _ _ _ h => h) hC6 (by kernel_rfl) (fun w hSw => exec_buildS rfl (Eq.trans (by kernel_rfl) HBU.out)) ?_
          try simp only [Act.put, List.setIfInBounds_toArray, List.set_cons_zero, List.set_cons_succ]
          refine held_one 14 rfl (by kernel_rfl) (fun K hK => ?_)
          refine step_storeS rfl rfl Try.refheadI rfl rfl HH6.out (by with_unfolding_all rfl) (headL_size (n := 20) HIL.out rfl) headL_one ?_
          intro wS hXS huS
          have hCS := hC6.trans (huS.below (B := w1.heap.size) hC6.size (fun j hj => by omega))
          refine hK _ _ hCS ?_
          clear hK K
          refine wpAnyH_done (by kernel_rfl) ?_ _
          go_wp2_with fail
          go_meet
          exact ⟨H, rfl, hG4, hXS.out, hCS⟩
      · go_simp
        have HH3 := Lib.hid (heap_alloc_new w2 (.cells Try.zeroCells34 34))
        have hC3 := hC2.alloc hC2.size (.cells Try.zeroCells34 34)
        have hG3 := hC2.size
        obtain ⟨H, hH⟩ : ∃ H, w2.heap.size = H := ⟨_, rfl⟩
        rw [hH] at HH3 hG3
        clear hC2
        refine hK _ _ hC3 ?_
        clear hK K
        try simp only [Act.put, List.setIfInBounds_toArray, List.set_cons_zero, List.set_cons_succ]
        try rw [hH]
        generalize w2.alloc (.cells Try.zeroCells34 34) = w3 at *
        refine held_one 7 rfl (by kernel_rfl) (fun K hK => ?_)
        go_simp
        go_at_call 34
        refine (refidk_any _ _ _ l 1 _ (HR1.out.mono hC3) hn hlo (by omega) 40 (by omega)).mono ?_
        rintro e w4 ⟨rfl, hb4⟩
        have hC4 := hC3.trans (hb4.mono hC3.size)
        have HH4 := Lib.hid (row_below hb4 (lt_of_heap HH3.out) HH3.out)
        clear HH3
        clear hC3 hb4
        go_simp
        refine hK _ _ hC4 ?_
        clear hK K
        try simp only [Act.put, List.setIfInBounds_toArray, List.set_cons_zero, List.set_cons_succ]
        refine held_one 9 rfl (by kernel_rfl) (fun K hK => ?_)
        go_simp
        go_at_call 34
        refine (refidk_any _ _ _ l 2 _ (HR1.out.mono hC4) hn hlo (by omega) 56 (by omega)).mono ?_
        rintro e w5 ⟨rfl, hb5⟩
        have hC5 := hC4.trans (hb5.mono hC4.size)
        have HH5 := Lib.hid (row_below hb5 (lt_of_heap HH4.out) HH4.out)
        clear HH4
        clear hC4 hb5
        go_simp
        refine hK _ _ hC5 ?_
        clear hK K
        try simp only [Act.put, List.setIfInBounds_toArray, List.set_cons_zero, List.set_cons_succ]
        refine held_one 11 rfl (by kernel_rfl) (fun K hK => ?_)
        go_simp
        go_at_call 34
        refine (refidk_any _ _ _ l 3 _ (HR1.out.mono hC5) hn hlo (by omega) 72 (by omega)).mono ?_
        rintro e w6 ⟨rfl, hb6⟩
        have hC6 := hC5.trans (hb6.mono hC5.size)
        have HH6 := Lib.hid (row_below hb6 (lt_of_heap HH5.out) HH5.out)
        clear HH5
        clear hC5 hb6
        go_simp
        refine hK _ _ hC6 ?_
        clear hK K
        try simp only [Act.put, List.setIfInBounds_toArray, List.set_cons_zero, List.set_cons_succ]
        refine held_take 12 (d := some 26) (v := (.agg (headL 0 0 v16 (idsP l) z20 0 0 0).toArray)) rfl rfl (by kernel_rfl) (by kernel_rfl) (by kernel_rfl) (fun _ _ _ h => h) hC6 (by kernel_rfl) (fun w hSw => exec_buildS rfl (Eq.trans (by kernel_rfl) HBU.out)) ?_
        try simp only [Act.put, List.setIfInBounds_toArray, List.set_cons_zero, List.set_cons_succ]
        refine held_one 14 rfl (by kernel_rfl) (fun K hK => ?_)
        refine step_storeS rfl rfl Try.refheadI rfl rfl HH6.out (by with_unfolding_all rfl) (headL_size (n := 20) HIL.out rfl) headL_one ?_
        intro wS hXS huS
        have hCS := hC6.trans (huS.below (B := w1.heap.size) hC6.size (fun j hj => by omega))
        refine hK _ _ hCS ?_
        clear hK K
        refine wpAnyH_done (by kernel_rfl) ?_ _
        go_wp2_with fail
        go_meet
        exact ⟨H, rfl, hG3, hXS.out, hCS⟩
    · go_simp
      have HH2 := Lib.hid (heap_alloc_new wd (.cells Try.zeroCells34 34))
      have hC2 := hC.alloc hC.size (.cells Try.zeroCells34 34)
      have hG2 := hC.size
      obtain ⟨H, hH⟩ : ∃ H, wd.heap.size = H := ⟨_, rfl⟩
      rw [hH] at HH2 hG2
      clear hC
      refine hK _ _ hC2 ?_
      clear hK K
      try simp only [Act.put, List.setIfInBounds_toArray, List.set_cons_zero, List.set_cons_succ]
      try rw [hH]
      generalize wd.alloc (.cells Try.zeroCells34 34) = w2 at *
      refine held_one 5 rfl (by kernel_rfl) (fun K hK => ?_)
      go_simp
      go_at_call 34
      refine (refidk_any _ _ _ l 0 _ (HR1.out.mono hC2) hn hlo (by omega) 24 (by omega)).mono ?_
      rintro e w3 ⟨rfl, hb3⟩
      have hC3 := hC2.trans (hb3.mono hC2.size)
      have HH3 := Lib.hid (row_below hb3 (lt_of_heap HH2.out) HH2.out)
      clear HH2
      clear hC2 hb3
      go_simp
      refine hK _ _ hC3 ?_
      clear hK K
      try simp only [Act.put, List.setIfInBounds_toArray, List.set_cons_zero, List.set_cons_succ]
      refine held_one 7 rfl (by kernel_rfl) (fun K hK => ?_)
      go_simp
      go_at_call 34
      refine (refidk_any _ _ _ l 1 _ (HR1.out.mono hC3) hn hlo (by omega) 40 (by omega)).mono ?_
      rintro e w4 ⟨rfl, hb4⟩
      have hC4 := hC3.trans (hb4.mono hC3.size)
      have HH4 := Lib.hid (row_below hb4 (lt_of_heap HH3.out) HH3.out)
      clear HH3
      clear hC3 hb4
      go_simp
      refine hK _ _ hC4 ?_
      clear hK K
      try simp only [Act.put, List.setIfInBounds_toArray, List.set_cons_zero, List.set_cons_succ]
      refine held_one 9 rfl (by kernel_rfl) (fun K hK => ?_)
      go_simp
      go_at_call 34
      refine (refidk_any _ _ _ l 2 _ (HR1.out.mono hC4) hn hlo (by omega) 56 (by omega)).mono ?_
      rintro e w5 ⟨rfl, hb5⟩
      have hC5 := hC4.trans (hb5.mono hC4.size)
      have HH5 := Lib.hid (row_below hb5 (lt_of_heap HH4.out) HH4.out)
      clear HH4
      clear hC4 hb5
      go_simp
      refine hK _ _ hC5 ?_
      clear hK K
      try simp only [Act.put, List.setIfInBounds_toArray, List.set_cons_zero, List.set_cons_succ]
      refine held_one 11 rfl (by kernel_rfl) (fun K hK => ?_)
      go_simp
      go_at_call 34
      refine (refidk_any _ _ _ l 3 _ (HR1.out.mono hC5) hn hlo (by omega) 72 (by omega)).mono ?_
      rintro e w6 ⟨rfl, hb6⟩
      have hC6 := hC5.trans (hb6.mono hC5.size)
      have HH6 := Lib.hid (row_below hb6 (lt_of_heap HH5.out) HH5.out)
      clear HH5
      clear hC5 hb6
      go_simp
      refine hK _ _ hC6 ?_
      clear hK K
      try simp only [Act.put, List.setIfInBounds_toArray, List.set_cons_zero, List.set_cons_succ]
      refine held_take 12 (d := some 26) (v := (.agg (headL 0 0 v16 (idsP l) z20 0 0 0).toArray)) rfl rfl (by kernel_rfl) (by kernel_rfl) (by kernel_rfl) (fun _ _ _ h => h) hC6 (by kernel_rfl) (fun w hSw => exec_buildS rfl (Eq.trans (by kernel_rfl) HBU.out)) ?_
      try simp only [Act.put, List.setIfInBounds_toArray, List.set_cons_zero, List.set_cons_succ]
      refine held_one 14 rfl (by kernel_rfl) (fun K hK => ?_)
      refine step_storeS rfl rfl Try.refheadI rfl rfl HH6.out (by with_unfolding_all rfl) (headL_size (n := 20) HIL.out rfl) headL_one ?_
      intro wS hXS huS
      have hCS := hC6.trans (huS.below (B := w1.heap.size) hC6.size (fun j hj => by omega))
      refine hK _ _ hCS ?_
      clear hK K
      refine wpAnyH_done (by kernel_rfl) ?_ _
      go_wp2_with fail
      go_meet
      exact ⟨H, rfl, hG2, hXS.out, hCS⟩
  case rest =>
    obtain ⟨H, rfl, hHge, hXH, hBc⟩ := hcut
    have HZc := Lib.hid (row_below hBc hZlt HZ1.out)
    have HBc := Lib.hid (HB1.out.trans (hBc.mono HB1.out.size))
    have HRc := Lib.hid (HR1.out.mono hBc)
    have HXH := Lib.hid hXH
    have hZH : Z < H := by omega
    have hbH : b < H := by omega
    obtain ⟨g80, g81⟩ := gN_u32 HRc.out.1 8
    obtain ⟨g120, g121⟩ := gN_u32 HRc.out.1 12
    have hw1 : IntKind.u32.wrap (gN l 8 4) = gN l 8 4 := by rw [IntKind.wrap_u32]; omega
    have hw2 : IntKind.u32.wrap (gN l 12 4) = gN l 12 4 := by rw [IntKind.wrap_u32]; omega
    have i0 := headl_0 hXH
    have i1 := headl_1 hXH
    have f0 := free_of_heap hXH 0
    have f1 := free_of_heap hXH 1
    have HG8 := Lib.hid (show Calls Try.prog 35 #[.slice (some ⟨b, off, none⟩) l.length c, .int .i64 8, .int .i64 4] wc (fun e w' => e = .returned (.tuple #[.int .u64 (gN l 8 4), .bool true]) ∧ wc = w') from refget4_any _ _ _ l 8 wc HRc.out hn (by omega))
    have HG12 := Lib.hid (show Calls Try.prog 35 #[.slice (some ⟨b, off, none⟩) l.length c, .int .i64 12, .int .i64 4] wc (fun e w' => e = .returned (.tuple #[.int .u64 (gN l 12 4), .bool true]) ∧ wc = w') from refget4_any _ _ _ l 12 wc HRc.out hn (by omega))
    have hX2 := row_set (row_set hXH 0 (.int .u32 (gN l 8 4))) 1 (.int .u32 (gN l 12 4))
    rw [headL_setCo, headL_setInc] at hX2
    have HX2 := Lib.hid hX2
    have HU2 := Lib.hid ((Upd.setCell (F := (· = H)) wc ⟨H, 0, none⟩ (.int .u32 (gN l 8 4)) rfl).trans (Upd.setCell (F := (· = H)) _ ⟨H, 1, none⟩ (.int .u32 (gN l 12 4)) rfl) (fun _ _ h => h))
    obtain ⟨co, hco⟩ : ∃ co, gN l 8 4 = co := ⟨_, rfl⟩
    obtain ⟨inc, hinc⟩ : ∃ inc, gN l 12 4 = inc := ⟨_, rfl⟩
    rw [hco] at HX2 HU2 HG8 hw1
    rw [hinc] at HX2 HU2 HG12 hw2
    have HCo := Lib.hid hco
    have HInc := Lib.hid hinc
    clear hXH hX2 hco hinc
    go_upto_region 5 with (first
      | (go_at_call 35; with_reducible refine HG8.out.mono ?_; rintro e wa ⟨rfl, rfl⟩)
      | (go_at_call 35; with_reducible refine HG12.out.mono ?_; rintro e wa ⟨rfl, rfl⟩))
    generalize (wc.setCell ⟨H, 0, none⟩ (.int .u32 co)).setCell ⟨H, 1, none⟩ (.int .u32 inc) = w2 at HX2 HU2 ⊢
    have HR2 := Lib.hid (HRc.out.mono2 HU2.out (by omega))
    clear i0 i1 f0 f1 HRc HG8 HG12 hw1 hw2 HXH
    go_wp2_with fail
    go_loopw [9] (fun i wr => ∃ (k : Nat), k ≤ 20 ∧ i = .int .i64 (k : Int) ∧ wr.heap[H]? = some (.cells (headL co inc v16 (idsP l) (numsP l k ++ List.replicate (20 - k) 0) 0 0 0).toArray 34 (0, 0)) ∧ Upd (· = H) w2 wr) (fun i _ => 20 - (intOf i).toNat)
    case atStart => exact ⟨0, Nat.zero_le _, rfl, HX2.out, Upd.refl _ _⟩
    case round =>
      obtain ⟨k, hk, rfl, hXr, hU⟩ := hrel
      have HU := Lib.hid hU
      have HRr := Lib.hid (HR2.out.mono2 hU (by omega))
      clear hU
      by_cases hlt : k < 20
      · have hlt' : (k : Int) < 20 := by omega
        have HG := Lib.hid (show Calls Try.prog 36 #[.slice (some ⟨b, off, none⟩) l.length c, .int .u64 (88 + 8 * (k : Int))] wr (fun e w' => e = .returned (.int .u64 (gN l (88 + 8 * k) 8)) ∧ wr = w') from by have := refu_any (some ⟨b, off, none⟩) l.length c l (88 + 8 * k) wr HRr.out hn (by omega); simpa using this)
        have hNl : (numsP l k ++ List.replicate (20 - k) (0 : Int)).length = 20 := by simp only [List.length_append, numsP_length, List.length_replicate]; omega
        obtain ⟨ov, hov⟩ : ∃ ov, (numsP l k ++ List.replicate (20 - k) (0 : Int))[k]? = some ov := ⟨_, List.getElem?_eq_getElem (by omega)⟩
        have i67 := cell_of_heap hXr (67 + k) _ (headL_N HIL.out k _ hov)
        have f67 := free_of_heap hXr (67 + k)
        have HXn := Lib.hid (row_set hXr (67 + k) (.int .u64 (gN l (88 + 8 * k) 8)))
        rw [headL_setN HIL.out k (by omega), numsR_next l k hlt] at HXn
        have HUn := Lib.hid (HU.out.trans (Upd.setCell (F := (· = H)) wr ⟨H, 67 + k, none⟩ (.int .u64 (gN l (88 + 8 * k) 8)) rfl) (fun _ _ h => h))
        have hw0 : IntKind.i64.wrap (8 * (k : Int)) = 8 * (k : Int) := by rw [IntKind.wrap_i64]; omega
        have hw1 : IntKind.i64.wrap (88 + 8 * (k : Int)) = 88 + 8 * (k : Int) := by rw [IntKind.wrap_i64]; omega
        have hw2 : IntKind.u64.wrap (88 + 8 * (k : Int)) = 88 + 8 * (k : Int) := by rw [IntKind.wrap_u64]; omega
        generalize gN l (88 + 8 * k) 8 = gv at *
        clear hXr hNl hov HRr HU
        go_wp2_with (go_at_call 36; refine HG.out.mono ?_; rintro e wg ⟨rfl, rfl⟩)
        go_roundw
        case rel => exact ⟨k + 1, by omega, by congr 1, HXn.out, HUn.out⟩
        case measure => simp [intOf]; omega
      · obtain rfl : k = 20 := by omega
        have hge2 : ¬ ((20 : Int) < 20) := by omega
        rw [Nat.sub_self, List.replicate_zero, List.append_nil] at hXr
        have hN20 := numsP_length l 20
        have HN20 := Lib.hid hN20
        have HRr := Lib.hid (HR2.out.mono2 HU.out (by omega))
        obtain ⟨u0, u1⟩ := gN_u32 HRr.out.1 256
        obtain ⟨u2, u3⟩ := gN_u32 HRr.out.1 260
        have hw1 : IntKind.u32.wrap (gN l 256 4) = gN l 256 4 := by rw [IntKind.wrap_u32]; omega
        have hw2 : IntKind.u32.wrap (gN l 260 4) = gN l 260 4 := by rw [IntKind.wrap_u32]; omega
        have HG1 := Lib.hid (show Calls Try.prog 35 #[.slice (some ⟨b, off, none⟩) l.length c, .int .i64 256, .int .i64 4] wr (fun e w' => e = .returned (.tuple #[.int .u64 (gN l 256 4), .bool true]) ∧ wr = w') from refget4_any _ _ _ l 256 wr HRr.out hn (by omega))
        have HG2 := Lib.hid (show Calls Try.prog 35 #[.slice (some ⟨b, off, none⟩) l.length c, .int .i64 260, .int .i64 4] wr (fun e w' => e = .returned (.tuple #[.int .u64 (gN l 260 4), .bool true]) ∧ wr = w') from refget4_any _ _ _ l 260 wr HRr.out hn (by omega))
        have HG3 := Lib.hid (show Calls Try.prog 36 #[.slice (some ⟨b, off, none⟩) l.length c, .int .u64 264] wr (fun e w' => e = .returned (.int .u64 (gN l 264 8)) ∧ wr = w') from refu_any _ _ _ l 264 wr HRr.out hn (by omega))
        have i87 := cell_of_heap hXr 87 _ (headL_ta HIL.out hN20)
        have i88 := cell_of_heap hXr 88 _ (headL_ti HIL.out hN20)
        have i89 := cell_of_heap hXr 89 _ (headL_te HIL.out hN20)
        have f87 := free_of_heap hXr 87
        have f88 := free_of_heap hXr 88
        have f89 := free_of_heap hXr 89
        have hXn := row_set (row_set (row_set hXr 87 (.int .u32 (gN l 256 4))) 88 (.int .u32 (gN l 260 4))) 89 (.int .u64 (gN l 264 8))
        rw [headL_setTa (n := 20) HIL.out hN20, headL_setTi (n := 20) HIL.out hN20, headL_setTe (n := 20) HIL.out hN20] at hXn
        have HXn := Lib.hid hXn
        have HUn := Lib.hid (((HU2.out.trans HU.out (fun _ _ h => h)).trans (Upd.setCell (F := (· = H)) wr ⟨H, 87, none⟩ (.int .u32 (gN l 256 4)) rfl) (fun _ _ h => h)).trans ((Upd.setCell (F := (· = H)) _ ⟨H, 88, none⟩ (.int .u32 (gN l 260 4)) rfl).trans (Upd.setCell (F := (· = H)) _ ⟨H, 89, none⟩ (.int .u64 (gN l 264 8)) rfl) (fun _ _ h => h)) (fun _ _ h => h))
        have HUw := Lib.hid ((Upd.setCell (F := (· = H)) wr ⟨H, 87, none⟩ (.int .u32 (gN l 256 4)) rfl).trans ((Upd.setCell (F := (· = H)) _ ⟨H, 88, none⟩ (.int .u32 (gN l 260 4)) rfl).trans (Upd.setCell (F := (· = H)) _ ⟨H, 89, none⟩ (.int .u64 (gN l 264 8)) rfl) (fun _ _ h => h)) (fun _ _ h => h))
        obtain ⟨g1, hg1⟩ : ∃ g1, gN l 256 4 = g1 := ⟨_, rfl⟩
        obtain ⟨g2, hg2⟩ : ∃ g2, gN l 260 4 = g2 := ⟨_, rfl⟩
        obtain ⟨g3, hg3⟩ : ∃ g3, gN l 264 8 = g3 := ⟨_, rfl⟩
        rw [hg1] at HG1 HXn HUn HUw hw1
        rw [hg2] at HG2 HXn HUn HUw hw2
        rw [hg3] at HG3 HXn HUn HUw
        have Hg1 := Lib.hid hg1
        have Hg2 := Lib.hid hg2
        have Hg3 := Lib.hid hg3
        clear hXr hXn hN20 hg1 hg2 hg3 u0 u1 u2 u3 HU
        go_upto_region 12 with (first
          | (go_at_call 35; with_reducible refine HG1.out.mono ?_; rintro e wa ⟨rfl, rfl⟩)
          | (go_at_call 35; with_reducible refine HG2.out.mono ?_; rintro e wa ⟨rfl, rfl⟩)
          | (go_at_call 36; with_reducible refine HG3.out.mono ?_; rintro e wa ⟨rfl, rfl⟩))
        generalize ((wr.setCell ⟨H, 87, none⟩ (.int .u32 g1)).setCell ⟨H, 88, none⟩ (.int .u32 g2)).setCell ⟨H, 89, none⟩ (.int .u64 g3) = w9 at HXn HUn HUw ⊢
        have HZ9 := Lib.hid (row_upd HUn.out (by omega) HZc.out)
        have HB9 := Lib.hid (HBc.out.trans (HUn.out.below (B := w.heap.size) HBc.out.size (fun j hj => by have := HZ.out; omega)))
        have HR9 := Lib.hid (HRr.out.mono2 HUw.out (by omega)).drewd
        have HSz := Lib.hid (show (headL co inc v16 (idsP l) (numsP l 20) g1 g2 g3).toArray.size = 90 from headL_size (n := 20) HIL.out HN20.out)
        have HG4 := Lib.hid (show Calls Try.prog 36 #[.slice (some ⟨b, off, none⟩) l.length c, .int .u64 248] w9.drew (fun e w' => e = .returned (.int .u64 (gN l 248 8)) ∧ w9.drew = w') from refu_any _ _ _ l 248 _ HR9.out hn (by omega))
        obtain ⟨g4, hg4⟩ : ∃ g4, gN l 248 8 = g4 := ⟨_, rfl⟩
        rw [hg4] at HG4
        have Hg4 := Lib.hid hg4
        have HV := Lib.hid (show (Value.tuple #[.agg (headL (gN l 8 4) (gN l 12 4) v16 (idsP l) (numsP l 20) (gN l 256 4) (gN l 260 4) (gN l 264 8)).toArray, .int .u64 (gN l 248 8)]) = .tuple #[.agg (headL co inc v16 (idsP l) (numsP l 20) g1 g2 g3).toArray, .int .u64 g4] by rw [HCo.out, HInc.out, Hg1.out, Hg2.out, Hg3.out, hg4])
        clear i87 i88 i89 f87 f88 f89 HRr HR2 hw1 hw2 hg4 HG1 HG2 HG3
        have hC : w9.drew.heap[H]? = some (.cells (headL co inc v16 (idsP l) (numsP l 20) g1 g2 g3).toArray 34 (0, 0)) := HXn.out
        refine wp_region_held (S := fun w' => w'.heap[H]? = some (.cells (headL co inc v16 (idsP l) (numsP l 20) g1 g2 g3).toArray 34 (0, 0))) (by kernel_rfl) ?_
        change wpAnyH _ _ _ _ _ _ _ _ w9.drew
        refine held_take 0 (d := some 75) (v := (.agg (headL co inc v16 (idsP l) (numsP l 20) g1 g2 g3).toArray)) rfl rfl (by kernel_rfl) (by kernel_rfl) (by kernel_rfl) (fun _ _ _ h => h) hC (by kernel_rfl) (fun w hSw => by exact exec_loadS rfl Try.refheadI rfl hSw HSz.out) ?_
        try simp only [Act.put, List.setIfInBounds_toArray, List.set_cons_zero, List.set_cons_succ]
        refine held_take 1 (d := some 76) (v := (.slice (some ⟨b, off, none⟩) l.length c)) rfl rfl (by kernel_rfl) (by kernel_rfl) (by kernel_rfl) (fun _ _ _ h => h) hC (by kernel_rfl) (fun w hSw => by have x0 := hSw; go_simp) ?_
        try simp only [Act.put, List.setIfInBounds_toArray, List.set_cons_zero, List.set_cons_succ]
        refine held_one 2 rfl (by kernel_rfl) (fun K hK => ?_)
        go_simp
        go_at_call 36
        refine HG4.out.mono ?_
        rintro e wa ⟨rfl, rfl⟩
        go_simp
        refine hK _ _ hC ?_
        clear hK K
        try simp only [Act.put, List.setIfInBounds_toArray, List.set_cons_zero, List.set_cons_succ]
        refine held_one 3 rfl (by kernel_rfl) (fun K hK => ?_)
        refine step_storeS rfl rfl Try.refheadI rfl rfl (show w9.drew.heap[Z]? = _ from HZ9.out) (by with_unfolding_all rfl) HSz.out headL_one ?_
        intro wS hXS huS
        have hCS := row_upd huS (by omega) hC
        refine hK _ _ hCS ?_
        clear hK K
        try simp only [Act.put, List.setIfInBounds_toArray, List.set_cons_zero, List.set_cons_succ]
        refine held_take 4 (d := some 3) (v := (.int .u64 g4)) rfl rfl (by kernel_rfl) (by kernel_rfl) (by kernel_rfl) (fun _ _ _ h => h) hCS (by kernel_rfl) (fun w hSw => by clear hSw; go_simp) ?_
        try simp only [Act.put, List.setIfInBounds_toArray, List.set_cons_zero, List.set_cons_succ]
        refine wpAnyH_done (by kernel_rfl) ?_ _
        go_wp2_with fail
        have HBS := Lib.hid (HB9.out.drew.trans (huS.below (B := w.heap.size) HB9.out.size (fun j hj => by have := HZ.out; omega)))
        refine bodyPost_ret (v := .tuple #[.agg (headL co inc v16 (idsP l) (numsP l 20) g1 g2 g3).toArray, .int .u64 g4]) (results_S1 rfl Try.refheadI rfl rfl hXS.out HSz.out) rfl ?_
        exact ⟨by rw [HV.out], HBS.out⟩
end Go.Proofs.Ytpkmdnfkeebgbaa

/- What bytes.Equal and bytes.HasPrefix compute at a prefix of eight bytes. Conditions stand as premises. -/
namespace Go.Proofs.Ytpkmdnfkeebgbaa
open Go.ChangeShapes Go.WideShapes Go.ChangeAt Go.RowKit
set_option linter.unusedVariables false
set_option linter.unusedSimpArgs false

theorem equal_any (a1 a2 : Option Addr) (n1 c1 n2 c2 : Nat) (l1 l2 : List Int) (w : World) (h1 : RdB w a1 n1 c1 l1) (h2 : RdB w a2 n2 c2 l2) :
    Calls Try.prog 31 #[.slice a1 n1 c1, .slice a2 n2 c2] w fun e w' => e = .returned (.bool (decide (l1 = l2))) ∧ w = w' := by
  have H := Lib.hid (bstr_same h1.1 h2.1)
  go_enter Try.func31, Try.ntmps31
  go_wp2_with (first | (with_reducible refine wpList_bytesString rfl rfl Try.underlying22 Try.underlying5 Try.underlying9 rfl h1 ?_) | (with_reducible refine wpList_bytesString rfl rfl Try.underlying22 Try.underlying5 Try.underlying9 rfl h2 ?_))
  go_ret
  exact ⟨ret_bool H.out, rfl⟩
theorem prefix_any (a1 a2 : Option Addr) (n1 c1 c2 : Nat) (l1 l2 : List Int) (w : World) (h1 : RdB w a1 n1 c1 l1) (h2 : RdB w a2 8 c2 l2) (hn : 8 ≤ n1) (hm : n1 ≤ 1000000) :
    Calls Try.prog 19 #[.slice a1 n1 c1, .slice a2 8 c2] w fun e w' => e = .returned (.bool (decide (l1.take 8 = l2))) ∧ w = w' := by
  have hd : decide ((8 : Int) ≤ (n1 : Int)) = true := by simp; omega
  have hd2 : (8 : Int) ≤ (n1 : Int) := by omega
  have hd3 : ¬ ((c1 : Int) < 8) := by have := h1.2.2.1; omega
  go_enter Try.func19, Try.ntmps19
  go_wp2_with (go_at_call 31; go_must (refine (equal_any a1 a2 8 _ 8 c2 _ l2 w (h1.take 8 hn) h2).mono ?_); rintro e w' ⟨rfl, rfl⟩)
  go_ret
  exact ⟨rfl, rfl⟩
end Go.Proofs.Ytpkmdnfkeebgbaa

/- What head.table and the document's own table compute. Conditions stand as premises. -/
namespace Go.Proofs.Ytpkmdnfkeebgbaa
open Go.ChangeShapes Go.WideShapes Go.ChangeAt Go.RowKit
set_option linter.unusedVariables false
set_option linter.unusedSimpArgs false

/-- What is amiss with a table of so many bytes at a place. -/
def tabV (at_ size from_ end_ : Int) : Int := if at_ % 8 ≠ 0 then 3 else if size = 0 ∨ size % 16 ≠ 0 then 5 else if at_ < from_ ∨ at_ - from_ < 16 ∨ end_ < at_ ∨ end_ - at_ < size then 2 else 0
/-- The ways through the tests. -/
def TabWay (at_ size from_ end_ C : Int) : Prop :=
  ((at_ % 8 != 0) = true ∧ C = 3) ∨
  ((at_ % 8 != 0) = false ∧ (size == 0) = true ∧ C = 5) ∨
  ((at_ % 8 != 0) = false ∧ (size == 0) = false ∧ (size % 16 != 0) = true ∧ C = 5) ∨
  ((at_ % 8 != 0) = false ∧ (size == 0) = false ∧ (size % 16 != 0) = false ∧ at_ < from_ ∧ C = 2) ∨
  ((at_ % 8 != 0) = false ∧ (size == 0) = false ∧ (size % 16 != 0) = false ∧ from_ ≤ at_ ∧ at_ - from_ < 16 ∧ C = 2) ∨
  ((at_ % 8 != 0) = false ∧ (size == 0) = false ∧ (size % 16 != 0) = false ∧ from_ ≤ at_ ∧ 16 ≤ at_ - from_ ∧ end_ < at_ ∧ C = 2) ∨
  ((at_ % 8 != 0) = false ∧ (size == 0) = false ∧ (size % 16 != 0) = false ∧ from_ ≤ at_ ∧ 16 ≤ at_ - from_ ∧ at_ ≤ end_ ∧ end_ - at_ < size ∧ C = 2) ∨
  ((at_ % 8 != 0) = false ∧ (size == 0) = false ∧ (size % 16 != 0) = false ∧ from_ ≤ at_ ∧ 16 ≤ at_ - from_ ∧ at_ ≤ end_ ∧ size ≤ end_ - at_ ∧ C = 0)
theorem tabWay (at_ size from_ end_ : Int) : TabWay at_ size from_ end_ (tabV at_ size from_ end_) := by
  unfold TabWay tabV
  by_cases q1 : at_ % 8 ≠ 0
  · exact .inl ⟨by simpa using q1, if_pos q1⟩
  rw [if_neg q1]
  have q1' : (at_ % 8 != 0) = false := by simpa using q1
  by_cases q2 : size = 0
  · exact .inr (.inl ⟨q1', by simpa using q2, if_pos (.inl q2)⟩)
  have q2' : (size == 0) = false := by simpa using q2
  by_cases q3 : size % 16 ≠ 0
  · exact .inr (.inr (.inl ⟨q1', q2', by simpa using q3, if_pos (.inr q3)⟩))
  have q3' : (size % 16 != 0) = false := by simpa using q3
  rw [if_neg (by omega)]
  by_cases q4 : at_ < from_
  · exact .inr (.inr (.inr (.inl ⟨q1', q2', q3', q4, if_pos (by omega)⟩)))
  by_cases q5 : at_ - from_ < 16
  · exact .inr (.inr (.inr (.inr (.inl ⟨q1', q2', q3', by omega, q5, if_pos (by omega)⟩))))
  by_cases q6 : end_ < at_
  · exact .inr (.inr (.inr (.inr (.inr (.inl ⟨q1', q2', q3', by omega, by omega, q6, if_pos (by omega)⟩)))))
  by_cases q7 : end_ - at_ < size
  · exact .inr (.inr (.inr (.inr (.inr (.inr (.inl ⟨q1', q2', q3', by omega, by omega, by omega, q7, if_pos (by omega)⟩))))))
  · exact .inr (.inr (.inr (.inr (.inr (.inr (.inr ⟨q1', q2', q3', by omega, by omega, by omega, by omega, if_neg (by omega)⟩))))))

set_option maxRecDepth 100000 in
set_option maxHeartbeats 2000000 in
theorem reftable_any (at_ size from_ end_ : Int) (w : World) (h1 : 0 ≤ at_ ∧ at_ ≤ 18446744073709551615) (h2 : 0 ≤ size ∧ size ≤ 18446744073709551615) (h3 : 0 ≤ from_ ∧ from_ ≤ 18446744073709551615) (h4 : 0 ≤ end_ ∧ end_ ≤ 18446744073709551615) :
    Calls Try.prog 23 #[.int .u64 at_, .int .u64 size, .int .u64 from_, .int .u64 end_] w fun e w' => e = .returned (.int .i64 (tabV at_ size from_ end_)) ∧ w = w' := by
  obtain ⟨a0, a1⟩ := h1
  obtain ⟨s0, s1⟩ := h2
  obtain ⟨f0, f1⟩ := h3
  obtain ⟨e0, e1⟩ := h4
  rcases tabWay at_ size from_ end_ with ⟨q1, hC⟩ | ⟨q1, q2, hC⟩ | ⟨q1, q2, q3, hC⟩ | ⟨q1, q2, q3, q4, hC⟩ | ⟨q1, q2, q3, q4, q5, hC⟩ | ⟨q1, q2, q3, q4, q5, q6, hC⟩ | ⟨q1, q2, q3, q4, q5, q6, q7, hC⟩ | ⟨q1, q2, q3, q4, q5, q6, q7, hC⟩
  all_goals
    rw [hC]
    clear hC
    go_enter Try.func23, Try.ntmps23
    go_wp2
    go_ret
    exact ⟨rfl, rfl⟩

set_option maxRecDepth 100000 in
set_option maxHeartbeats 2000000 in
theorem headtable_any (co inc st : Int) (I Ns : List Int) (ta ti te at_ size from_ end_ : Int) (w : World) (hI : I.length = 64) (hz : Ns[0]? = some from_) (h1 : 0 ≤ at_ ∧ at_ ≤ 18446744073709551615) (h2 : 0 ≤ size ∧ size ≤ 18446744073709551615) (h3 : 0 ≤ from_ ∧ from_ ≤ 18446744073709551615) (h4 : 0 ≤ end_ ∧ end_ ≤ 18446744073709551615) :
    Calls Try.prog 21 #[.agg (headL co inc st I Ns ta ti te).toArray, .int .u64 at_, .int .u64 size, .int .u64 end_] w fun e w' => e = .returned (.int .i64 (tabV at_ size from_ end_)) ∧ Below w.heap.size w w' := by
  have hX := heap_alloc_new w (.cells (headL co inc st I Ns ta ti te).toArray 29)
  have hB := below_alloc w (.cells (headL co inc st I Ns ta ti te).toArray 29)
  have i0 := cell_of_heap hX 67 _ (headL_N hI 0 from_ hz)
  have HB := Lib.hid hB
  obtain ⟨a0, a1⟩ := h1
  obtain ⟨s0, s1⟩ := h2
  obtain ⟨f0, f1⟩ := h3
  obtain ⟨e0, e1⟩ := h4
  clear hX hB hz hI
  rcases tabWay at_ size from_ end_ with ⟨q1, hC⟩ | ⟨q1, q2, hC⟩ | ⟨q1, q2, q3, hC⟩ | ⟨q1, q2, q3, q4, hC⟩ | ⟨q1, q2, q3, q4, q5, hC⟩ | ⟨q1, q2, q3, q4, q5, q6, hC⟩ | ⟨q1, q2, q3, q4, q5, q6, q7, hC⟩ | ⟨q1, q2, q3, q4, q5, q6, q7, hC⟩
  all_goals
    rw [hC]
    clear hC
    go_enter Try.func21, Try.ntmps21
    go_upto_region 1 with fail
    generalize w.alloc (.cells (headL co inc st I Ns ta ti te).toArray 29) = w1 at i0 HB ⊢
    go_wp2_with fail
    go_ret
    exact ⟨rfl, HB.out⟩
end Go.Proofs.Ytpkmdnfkeebgbaa

/- What head.Read tells of too few bytes; the law's first. Conditions stand as premises. -/
namespace Go.Proofs.Ytpkmdnfkeebgbaa
open Go.ChangeShapes Go.WideShapes Go.ChangeAt Go.RowKit
set_option linter.unusedVariables false
set_option linter.unusedSimpArgs false

def zeroH : List Value := headL 0 0 0 (List.replicate 64 0) (List.replicate 21 0) 0 0 0
theorem zeroH_one : zeroH.toArray.all (·.oneCell') = true := headL_one
theorem zeroH_size : zeroH.toArray.size = 91 := headL_size (n := 21) rfl rfl
/-- What head.Read answers. -/
def HeadE (cs : List Value) (c : Int) (w : World) (e : Ending) (w' : World) : Prop := e = .returned (.tuple #[.agg cs.toArray, .int .i64 c]) ∧ Below w.heap.size w w'

set_option maxRecDepth 100000 in
set_option maxHeartbeats 4000000 in
theorem headread_short (a : Option Addr) (n c : Nat) (w : World) (hn : n < 272) :
    Calls Try.prog 8 #[.slice a n c] w (HeadE zeroH 22 w) := by
  have hlt : decide ((n : Int) < 272) = true := by simp; omega
  go_enter Try.func8, Try.ntmps8
  go_upto_region 1 with fail
  have hZ1 := heap_alloc_new w (.cells Try.zeroCells29 29)
  have HB1 := Lib.hid (below_alloc w (.cells Try.zeroCells29 29))
  generalize w.alloc (.cells Try.zeroCells29 29) = w1 at hZ1 HB1 ⊢
  have HZ1 := Lib.hid hZ1
  clear hZ1
  go_wp2_with (first
    | (refine wpList_buildS rfl rfl (cells := zeroH.toArray) (by kernel_rfl) ?_)
    | (with_reducible refine wpList_storeS rfl rfl Try.headI rfl rfl HZ1.out (by with_unfolding_all rfl) zeroH_size zeroH_one ?_; intro w2 hX2 hu2))
  refine bodyPost_ret (v := .tuple #[.agg zeroH.toArray, .int .i64 22]) (results_S1 rfl Try.headI rfl rfl hX2.out zeroH_size) rfl ?_
  exact ⟨rfl, HB1.out.trans (hu2.below HB1.out.size (fun j hj => by omega))⟩

theorem headput_zero (w : World) : Calls Try.prog 14 #[.agg zeroH.toArray] w fun e w' => ∃ a c, e = .returned (.slice a 272 c) ∧ Below w.heap.size w w' := by
  refine (headput_any 0 0 0 (List.replicate 64 0) (List.replicate 21 0) 0 0 0 w (List.length_replicate ..) (List.length_replicate ..) (IsB.replicate 64) ⟨by omega, by omega⟩ ⟨by omega, by omega⟩ (fun v hv => by obtain ⟨_, rfl⟩ := List.mem_replicate.1 hv; exact ⟨by omega, by omega⟩) ⟨by omega, by omega⟩ ⟨by omega, by omega⟩ ⟨by omega, by omega⟩).mono ?_
  rintro e w' ⟨a, c, rfl, ho, hb⟩
  refine ⟨a, c, by rw [headB_length (List.length_replicate ..), List.length_replicate], hb⟩

set_option maxRecDepth 100000 in
set_option maxHeartbeats 4000000 in
theorem first_any (w : World) : Calls Try.prog 7 #[] w fun e w' => e = .returned (.bool true) ∧ Below w.heap.size w w' := by
  go_enter Try.func7, Try.ntmps7
  have hn0 : (0 : Nat) < 272 := by omega
  go_wp2_with (first
    | (go_at_call 8; refine (headread_short none 0 0 _ hn0).mono ?_; rintro e w1 ⟨rfl, hb1⟩; have HB1 := Lib.hid hb1; clear hb1; have hZ2 := heap_alloc_new w1 (.cells Try.zeroCells29 29); have HB2 := Lib.hid (HB1.out.alloc HB1.out.size (.cells Try.zeroCells29 29)))
    | (refine wpList_buildS rfl rfl (cells := zeroH.toArray) (by kernel_rfl) ?_)
    | (with_reducible refine wpList_storeS rfl rfl Try.headI rfl rfl hZ2 (by with_unfolding_all rfl) zeroH_size zeroH_one ?_; intro w3 hX3 hu3)
    | (go_at_call 14; refine (headput_zero _).mono ?_; rintro e w4 ⟨a4, c4, rfl, hb4⟩))
  go_ret
  have hz := HB1.out.size
  have hb3 := HB2.out.trans (hu3.below HB2.out.size (fun j hj => by omega))
  exact ⟨rfl, hb3.trans (hb4.mono hb3.size)⟩
end Go.Proofs.Ytpkmdnfkeebgbaa

/- What head.Read computes: the head that bytes begin with, or why they are none. Conditions stand as premises. -/
namespace Go.Proofs.Ytpkmdnfkeebgbaa
open Go.ChangeShapes Go.WideShapes Go.ChangeAt Go.RowKit
set_option linter.unusedVariables false
set_option linter.unusedSimpArgs false

/-- Of the flags those that nobody knows. -/
def flI (x : Int) : Int := bits .andNot .u32 x 4
def endH (l : List Int) : Int := endV (gN l 88 8) (gN l 96 8)
/-- Why bytes are no head, so many bytes there are at least. -/
def headC (l : List Int) : Int :=
  if l.length < 272 then 22 else if l.take 8 ≠ signL then 6 else
  if flI (gN l 12 4) ≠ 0 then 7 else if (2 : Int) < l[16]?.getD 0 then 8 else
  if gN l 88 8 < 272 then 5 else if gN l 88 8 % 8 ≠ 0 then 5 else if gN l 96 8 % 8 ≠ 0 then 5 else
  if endB (gN l 88 8) (gN l 96 8) = false then 2 else if (l.length : Int) < endH l then 2 else
  if tabV (gN l 104 8) (gN l 112 8) (gN l 88 8) (endH l) ≠ 0 then tabV (gN l 104 8) (gN l 112 8) (gN l 88 8) (endH l) else
  tabV (gN l 120 8) (gN l 128 8) (gN l 88 8) (endH l)
/-- The ways behind the signature. -/
def HeadWay (fl st z r e n t1 t2 C : Int) (ok : Bool) : Prop :=
  ((fl != 0) = true ∧ C = 7) ∨
  ((fl != 0) = false ∧ 2 < st ∧ C = 8) ∨
  ((fl != 0) = false ∧ st ≤ 2 ∧ z < 272 ∧ C = 5) ∨
  ((fl != 0) = false ∧ st ≤ 2 ∧ 272 ≤ z ∧ (z % 8 != 0) = true ∧ C = 5) ∨
  ((fl != 0) = false ∧ st ≤ 2 ∧ 272 ≤ z ∧ (z % 8 != 0) = false ∧ (r % 8 != 0) = true ∧ C = 5) ∨
  ((fl != 0) = false ∧ st ≤ 2 ∧ 272 ≤ z ∧ (z % 8 != 0) = false ∧ (r % 8 != 0) = false ∧ ok = false ∧ C = 2) ∨
  ((fl != 0) = false ∧ st ≤ 2 ∧ 272 ≤ z ∧ (z % 8 != 0) = false ∧ (r % 8 != 0) = false ∧ ok = true ∧ n < e ∧ C = 2) ∨
  ((fl != 0) = false ∧ st ≤ 2 ∧ 272 ≤ z ∧ (z % 8 != 0) = false ∧ (r % 8 != 0) = false ∧ ok = true ∧ e ≤ n ∧ (t1 != 0) = true ∧ C = t1) ∨
  ((fl != 0) = false ∧ st ≤ 2 ∧ 272 ≤ z ∧ (z % 8 != 0) = false ∧ (r % 8 != 0) = false ∧ ok = true ∧ e ≤ n ∧ (t1 != 0) = false ∧ (t2 != 0) = true ∧ C = t2) ∨
  ((fl != 0) = false ∧ st ≤ 2 ∧ 272 ≤ z ∧ (z % 8 != 0) = false ∧ (r % 8 != 0) = false ∧ ok = true ∧ e ≤ n ∧ (t1 != 0) = false ∧ (t2 != 0) = false ∧ C = 0)
theorem headWay (l : List Int) (h1 : 272 ≤ l.length) (h2 : l.take 8 = signL) :
    HeadWay (flI (gN l 12 4)) (l[16]?.getD 0) (gN l 88 8) (gN l 96 8) (endH l) l.length (tabV (gN l 104 8) (gN l 112 8) (gN l 88 8) (endH l)) (tabV (gN l 120 8) (gN l 128 8) (gN l 88 8) (endH l)) (headC l) (endB (gN l 88 8) (gN l 96 8)) := by
  unfold HeadWay headC
  rw [if_neg (by omega), if_neg (by simpa using h2)]
  generalize flI (gN l 12 4) = fl
  generalize l[16]?.getD 0 = st
  generalize endB (gN l 88 8) (gN l 96 8) = ok
  generalize tabV (gN l 104 8) (gN l 112 8) (gN l 88 8) (endH l) = t1
  generalize tabV (gN l 120 8) (gN l 128 8) (gN l 88 8) (endH l) = t2
  generalize endH l = e
  generalize gN l 88 8 = z
  generalize gN l 96 8 = r
  by_cases q1 : fl ≠ 0
  · exact .inl ⟨by simpa using q1, if_pos q1⟩
  rw [if_neg q1]
  have q1' : (fl != 0) = false := by simpa using q1
  by_cases q2 : 2 < st
  · exact .inr (.inl ⟨q1', q2, if_pos q2⟩)
  rw [if_neg q2]
  have q2' : st ≤ 2 := by omega
  by_cases q3 : z < 272
  · exact .inr (.inr (.inl ⟨q1', q2', q3, if_pos q3⟩))
  rw [if_neg q3]
  have q3' : 272 ≤ z := by omega
  by_cases q4 : z % 8 ≠ 0
  · exact .inr (.inr (.inr (.inl ⟨q1', q2', q3', by simpa using q4, if_pos q4⟩)))
  rw [if_neg q4]
  have q4' : (z % 8 != 0) = false := by simpa using q4
  by_cases q5 : r % 8 ≠ 0
  · exact .inr (.inr (.inr (.inr (.inl ⟨q1', q2', q3', q4', by simpa using q5, if_pos q5⟩))))
  rw [if_neg q5]
  have q5' : (r % 8 != 0) = false := by simpa using q5
  cases ok with
  | false => exact .inr (.inr (.inr (.inr (.inr (.inl ⟨q1', q2', q3', q4', q5', rfl, if_pos rfl⟩)))))
  | true =>
    rw [if_neg (by decide)]
    by_cases q6 : (l.length : Int) < e
    · exact .inr (.inr (.inr (.inr (.inr (.inr (.inl ⟨q1', q2', q3', q4', q5', rfl, q6, if_pos q6⟩))))))
    rw [if_neg q6]
    have q6' : e ≤ (l.length : Int) := by omega
    by_cases q7 : t1 ≠ 0
    · exact .inr (.inr (.inr (.inr (.inr (.inr (.inr (.inl ⟨q1', q2', q3', q4', q5', rfl, q6', by simpa using q7, if_pos q7⟩)))))))
    rw [if_neg q7]
    have q7' : (t1 != 0) = false := by simpa using q7
    by_cases q8 : t2 ≠ 0
    · exact .inr (.inr (.inr (.inr (.inr (.inr (.inr (.inr (.inl ⟨q1', q2', q3', q4', q5', rfl, q6', q7', by simpa using q8, rfl⟩))))))))
    · exact .inr (.inr (.inr (.inr (.inr (.inr (.inr (.inr (.inr ⟨q1', q2', q3', q4', q5', rfl, q6', q7', by simpa using q8, by simpa using q8⟩))))))))
/-- What head.Read hands back. -/
def headR (l : List Int) : List Value := if headC l = 0 then parseL l else zeroH

set_option maxRecDepth 100000 in
set_option maxHeartbeats 4000000 in
theorem headread_magic (a : Option Addr) (n c : Nat) (l : List Int) (w : World) (hr : RdB w a n c l) (hn : n ≤ 1000000) (hlo : 272 ≤ n) (hs : l.take 8 ≠ signL) :
    Calls Try.prog 8 #[.slice a n c] w (HeadE zeroH 6 w) := by
  have hlt : decide ((n : Int) < 272) = false := by simp; omega
  have HD := Lib.hid (show decide (l.take 8 = signL) = false by simpa using hs)
  have HR := Lib.hid hr
  clear hr hs
  go_enter Try.func8, Try.ntmps8
  go_upto_region 1 with fail
  have hZ1 := heap_alloc_new w (.cells Try.zeroCells29 29)
  have HB1 := Lib.hid (below_alloc w (.cells Try.zeroCells29 29))
  generalize w.alloc (.cells Try.zeroCells29 29) = w1 at hZ1 HB1 ⊢
  have HZ1 := Lib.hid hZ1
  clear hZ1
  have kc := Lib.run_convert_bytes_const (P := Try.prog) w1 22 5 #[.int .u8 76, .int .u8 80, .int .u8 75, .int .u8 83, .int .u8 72, .int .u8 72, .int .u8 82, .int .u8 72] 8 8 Try.underlying22 Try.underlying5
  have HL8 := Lib.hid (RdB.marked w1 signL 5 (8, 9) #[.int .u8 76, .int .u8 80, .int .u8 75, .int .u8 83, .int .u8 72, .int .u8 72, .int .u8 82, .int .u8 72] 8 8 rfl rfl (by omega) (by decide) (by unfold signL IsB; simp))
  have HBA := Lib.hid (below_alloc w1 (.cells #[.int .u8 76, .int .u8 80, .int .u8 75, .int .u8 83, .int .u8 72, .int .u8 72, .int .u8 82, .int .u8 72] 5 (8, 9)))
  have HRA := Lib.hid (HR.out.mono (HB1.out.trans (HBA.out.mono HB1.out.size)))
  go_wp2_with (first
    | (go_at_call 19; refine (prefix_any _ _ _ _ _ l signL _ HRA.out HL8.out (by omega) hn).mono ?_; rintro e w2 ⟨rfl, hw2⟩; rw [HD.out]; have HB2 := Lib.hid (hw2 ▸ HB1.out.trans (HBA.out.mono HB1.out.size)); have HZ2 := Lib.hid (hw2 ▸ row_below HBA.out (lt_of_heap HZ1.out) HZ1.out); clear hw2 kc)
    | (refine wpList_buildS rfl rfl (cells := zeroH.toArray) (by kernel_rfl) ?_)
    | (with_reducible refine wpList_storeS rfl rfl Try.headI rfl rfl HZ2.out (by with_unfolding_all rfl) zeroH_size zeroH_one ?_; intro w3 hX3 hu3))
  refine bodyPost_ret (v := .tuple #[.agg zeroH.toArray, .int .i64 6]) (results_S1 rfl Try.headI rfl rfl hX3.out zeroH_size) rfl ?_
  exact ⟨rfl, HB2.out.trans (hu3.below HB2.out.size (fun j hj => by omega))⟩

section
variable {l : List Int}
theorem parseL_size (h : 272 ≤ l.length) : (parseL l).toArray.size = 91 := headL_size (n := 21) (idsP_length h) (numsP_length l 21)
theorem parseL_one : (parseL l).toArray.all (·.oneCell') = true := headL_one
theorem parse_num {w : World} {S : Nat} {T : TypeId} (hl : 272 ≤ l.length) (h : w.heap[S]? = some (.cells (parseL l).toArray T (0, 0))) (k : Nat) (hk : k < 21) : w.cell? ⟨S, 67 + k, none⟩ = some (.int .u64 (gN l (88 + 8 * k) 8)) :=
  cell_of_heap h (67 + k) _ (headL_N (idsP_length hl) k _ (numsP_at l 21 k hk))
theorem endparse_any (hb : IsB l) (hl : 272 ≤ l.length) (w : World) :
    Calls Try.prog 11 #[.agg (parseL l).toArray] w fun e w' => e = .returned (.tuple #[.int .u64 (endH l), .bool (endB (gN l 88 8) (gN l 96 8))]) ∧ Below w.heap.size w w' :=
  headend_any _ _ _ _ _ _ _ _ (gN l 88 8) (gN l 96 8) w (idsP_length hl) (numsP_at l 21 0 (by omega)) (numsP_at l 21 1 (by omega)) (gN_u64 hb 88) (gN_u64 hb 96)
theorem tabparse_any (hb : IsB l) (hl : 272 ≤ l.length) (p q : Nat) (e_ : Int) (he : U64 e_) (w : World) :
    Calls Try.prog 21 #[.agg (parseL l).toArray, .int .u64 (gN l p 8), .int .u64 (gN l q 8), .int .u64 e_] w fun e w' => e = .returned (.int .i64 (tabV (gN l p 8) (gN l q 8) (gN l 88 8) e_)) ∧ Below w.heap.size w w' :=
  headtable_any _ _ _ _ _ _ _ _ _ _ (gN l 88 8) _ w (idsP_length hl) (numsP_at l 21 0 (by omega)) (gN_u64 hb p) (gN_u64 hb q) (gN_u64 hb 88) he
theorem endH_u64 (hb : IsB l) : U64 (endH l) := by
  unfold endH endV
  have h1 := gN_u64 hb 88
  have h2 := gN_u64 hb 96
  obtain ⟨z0, z1⟩ := h1
  obtain ⟨r0, r1⟩ := h2
  split
  · exact ⟨by omega, by omega⟩
  · exact ⟨by omega, by omega⟩
end

set_option maxRecDepth 100000 in
set_option maxHeartbeats 8000000 in
theorem headread_sign (a : Option Addr) (n c : Nat) (l : List Int) (w : World) (hr : RdB w a n c l) (hn : n ≤ 1000000) (hlo : 272 ≤ n) (hs : l.take 8 = signL) :
    Calls Try.prog 8 #[.slice a n c] w (HeadE (headR l) (headC l) w) := by
  obtain rfl : l.length = n := hr.len
  have HWay := Lib.hid (headWay l hlo hs)
  have hlt : decide ((l.length : Int) < 272) = false := by simp; omega
  have HD := Lib.hid (show decide (l.take 8 = signL) = true by simpa using hs)
  have HR := Lib.hid hr
  have HU := Lib.hid (endH_u64 hr.1)
  have HE := Lib.hid (fun w => endparse_any hr.1 hlo w)
  have HT1 := Lib.hid (fun w => tabparse_any hr.1 hlo 104 112 (endH l) (endH_u64 hr.1) w)
  have HT2 := Lib.hid (fun w => tabparse_any hr.1 hlo 120 128 (endH l) (endH_u64 hr.1) w)
  have HSz := Lib.hid (parseL_size hlo)
  have HIsB := Lib.hid hr.1
  have HCC := Lib.hid (show headR l = if headC l = 0 then parseL l else zeroH from rfl)
  generalize headC l = C at HCC HWay ⊢
  generalize headR l = RR at HCC ⊢
  clear hr hs
  go_enter Try.func8, Try.ntmps8
  go_upto_region 1 with fail
  have hZ1 := heap_alloc_new w (.cells Try.zeroCells29 29)
  have HB1 := Lib.hid (below_alloc w (.cells Try.zeroCells29 29))
  obtain ⟨Z, hZ⟩ : ∃ Z, w.heap.size = Z := ⟨_, rfl⟩
  have HZ := Lib.hid hZ
  rw [hZ] at hZ1 ⊢
  clear hZ
  generalize w.alloc (.cells Try.zeroCells29 29) = w1 at hZ1 HB1 ⊢
  have HZ1 := Lib.hid hZ1
  clear hZ1
  have kc := Lib.run_convert_bytes_const (P := Try.prog) w1 22 5 #[.int .u8 76, .int .u8 80, .int .u8 75, .int .u8 83, .int .u8 72, .int .u8 72, .int .u8 82, .int .u8 72] 8 8 Try.underlying22 Try.underlying5
  have HL8 := Lib.hid (RdB.marked w1 signL 5 (8, 9) #[.int .u8 76, .int .u8 80, .int .u8 75, .int .u8 83, .int .u8 72, .int .u8 72, .int .u8 82, .int .u8 72] 8 8 rfl rfl (by omega) (by decide) (by unfold signL IsB; simp))
  have HBA := Lib.hid (below_alloc w1 (.cells #[.int .u8 76, .int .u8 80, .int .u8 75, .int .u8 83, .int .u8 72, .int .u8 72, .int .u8 82, .int .u8 72] 5 (8, 9)))
  have HRA := Lib.hid (HR.out.mono (HB1.out.trans (HBA.out.mono HB1.out.size)))
  go_upto_region 5 with (go_at_call 19; refine (prefix_any _ _ _ _ _ l signL _ HRA.out HL8.out (by omega) hn).mono ?_; rintro e w2 ⟨rfl, hw2⟩; rw [HD.out]; have HB2 := Lib.hid (hw2 ▸ HB1.out.trans (HBA.out.mono HB1.out.size)); have HZ2 := Lib.hid (hw2 ▸ row_below HBA.out (lt_of_heap HZ1.out) HZ1.out); clear hw2 kc)
  go_upto_region 6 with (first
    | (go_at_call 20; refine (parse_any _ _ _ l _ (HR.out.mono HB2.out) hn hlo).mono ?_; rintro e w3 ⟨rfl, hb3⟩; have HB3 := Lib.hid (HB2.out.trans (hb3.mono HB2.out.size)); have HZ3 := Lib.hid (row_below hb3 (lt_of_heap HZ2.out) HZ2.out); clear hb3)
    | (with_reducible refine wpList_storeS rfl rfl Try.headI rfl rfl (heap_alloc_new w3 _) (by with_unfolding_all rfl) HSz.out parseL_one ?_; intro w4 hX4 hu4))
  have HUp := Lib.hid ((Upd.ofBelow (F := (· = w3.heap.size)) (below_alloc w3 _)).trans hu4 (fun _ _ h => h))
  have HB4 := Lib.hid (HB3.out.trans (HUp.out.below (B := w.heap.size) HB3.out.size (fun j hj => by have := HB3.out.size; omega)))
  have HZ4 := Lib.hid (row_upd HUp.out (by have := lt_of_heap HZ3.out; omega) HZ3.out)
  obtain ⟨H, hH⟩ : ∃ H, w3.heap.size = H := ⟨_, rfl⟩
  rw [hH] at hX4 ⊢
  have HX4 := Lib.hid hX4.out
  clear hX4 hu4 hH HUp HR HRA HL8 HBA HB2 HZ2 HZ1
  go_upto_region 7 with (first
    | (with_reducible refine wpList_loadS rfl rfl Try.headI rfl HX4.out HSz.out ?_)
    | (go_at_call 11; refine (HE.out _).mono ?_; rintro e w5 ⟨rfl, hb5⟩; have HB5 := Lib.hid (HB4.out.trans (hb5.mono HB4.out.size)); have HZ5 := Lib.hid (row_below hb5 (lt_of_heap HZ4.out) HZ4.out); have HX5 := Lib.hid (row_below hb5 (lt_of_heap HX4.out) HX4.out); clear hb5))
  clear HX4 HZ4 HB4 HB3 HE
  have j1 := headl_1 HX5.out
  have j2 := headl_2 HX5.out
  have j67 := parse_num hlo HX5.out 0 (by omega)
  have j68 := parse_num hlo HX5.out 1 (by omega)
  have j69 := parse_num hlo HX5.out 2 (by omega)
  have j70 := parse_num hlo HX5.out 3 (by omega)
  have j71 := parse_num hlo HX5.out 4 (by omega)
  have j72 := parse_num hlo HX5.out 5 (by omega)
  have HX5' := Lib.hid HX5.out
  have HSz' := HSz.out
  unfold flI at HWay
  simp only [Nat.mul_zero, Nat.add_zero, Nat.mul_one, Nat.reduceMul, Nat.reduceAdd] at j67 j68 j69 j70 j71 j72
  have hz := gN_u64 (l := l) (HIsB.out) 88
  have hz2 := gN_u64 (l := l) (HIsB.out) 96
  have hen := HU.out
  have HN1 := Lib.hid hlo
  generalize tabV (gN l 104 8) (gN l 112 8) (gN l 88 8) (endH l) = t1 at HWay HT1
  generalize tabV (gN l 120 8) (gN l 128 8) (gN l 88 8) (endH l) = t2 at HWay HT2
  generalize endH l = en at *
  generalize endB (gN l 88 8) (gN l 96 8) = ok at *
  generalize gN l 12 4 = inc at *
  generalize l[16]?.getD 0 = st at *
  generalize gN l 88 8 = z at *
  generalize gN l 96 8 = r at *
  generalize gN l 104 8 = dt at *
  generalize gN l 112 8 = ds at *
  generalize gN l 120 8 = ft at *
  generalize gN l 128 8 = fs at *
  obtain ⟨z0, z1⟩ := hz
  obtain ⟨r0, r1⟩ := hz2
  obtain ⟨e0, e1⟩ := hen
  have HZ9 := HZ.out
  clear HZ9 HU HIsB
  rcases HWay.out with ⟨q1, hC⟩ | ⟨q1, q2, hC⟩ | ⟨q1, q2, q3, hC⟩ | ⟨q1, q2, q3, q4, hC⟩ | ⟨q1, q2, q3, q4, q5, hC⟩ | ⟨q1, q2, q3, q4, q5, q6, hC⟩ | ⟨q1, q2, q3, q4, q5, q6, q7, hC⟩ | ⟨q1, q2, q3, q4, q5, q6, q7, q8, hC⟩ | ⟨q1, q2, q3, q4, q5, q6, q7, q8, q9, hC⟩ | ⟨q1, q2, q3, q4, q5, q6, q7, q8, q9, hC⟩
  · have HC := Lib.hid hC
    have HRz := Lib.hid (show RR = zeroH by rw [HCC.out, if_neg (by rw [hC]; decide)])
    clear hC HWay HCC
    go_wp2_with (first
      | (refine wpList_buildS rfl rfl (cells := zeroH.toArray) (by kernel_rfl) ?_)
      | (with_reducible refine wpList_storeS rfl rfl Try.headI rfl rfl HZ5.out (by with_unfolding_all rfl) zeroH_size zeroH_one ?_; intro w6 hX6 hu6))
    have HB6 := Lib.hid (HB5.out.trans (hu6.below HB5.out.size (fun j hj => by have := HZ.out; omega)))
    refine bodyPost_ret (v := .tuple #[.agg zeroH.toArray, .int .i64 7]) (results_S1 rfl Try.headI rfl rfl hX6.out zeroH_size) rfl ?_
    exact ⟨by rw [HC.out, HRz.out], HB6.out⟩
  · have HC := Lib.hid hC
    have HRz := Lib.hid (show RR = zeroH by rw [HCC.out, if_neg (by rw [hC]; decide)])
    clear hC HWay HCC
    have q2' : decide (2 < st) = true := by simpa using q2
    go_wp2_with (first
      | (refine wpList_buildS rfl rfl (cells := zeroH.toArray) (by kernel_rfl) ?_)
      | (with_reducible refine wpList_storeS rfl rfl Try.headI rfl rfl HZ5.out (by with_unfolding_all rfl) zeroH_size zeroH_one ?_; intro w6 hX6 hu6))
    have HB6 := Lib.hid (HB5.out.trans (hu6.below HB5.out.size (fun j hj => by have := HZ.out; omega)))
    refine bodyPost_ret (v := .tuple #[.agg zeroH.toArray, .int .i64 8]) (results_S1 rfl Try.headI rfl rfl hX6.out zeroH_size) rfl ?_
    exact ⟨by rw [HC.out, HRz.out], HB6.out⟩
  · have HC := Lib.hid hC
    have HRz := Lib.hid (show RR = zeroH by rw [HCC.out, if_neg (by rw [hC]; decide)])
    clear hC HWay HCC
    have q2' : decide (2 < st) = false := by simp; omega
    have q3' : decide (z < 272) = true := by simpa using q3
    go_wp2_with (first
      | (refine wpList_buildS rfl rfl (cells := zeroH.toArray) (by kernel_rfl) ?_)
      | (with_reducible refine wpList_storeS rfl rfl Try.headI rfl rfl HZ5.out (by with_unfolding_all rfl) zeroH_size zeroH_one ?_; intro w6 hX6 hu6))
    have HB6 := Lib.hid (HB5.out.trans (hu6.below HB5.out.size (fun j hj => by have := HZ.out; omega)))
    refine bodyPost_ret (v := .tuple #[.agg zeroH.toArray, .int .i64 5]) (results_S1 rfl Try.headI rfl rfl hX6.out zeroH_size) rfl ?_
    exact ⟨by rw [HC.out, HRz.out], HB6.out⟩
  · have HC := Lib.hid hC
    have HRz := Lib.hid (show RR = zeroH by rw [HCC.out, if_neg (by rw [hC]; decide)])
    clear hC HWay HCC
    have q2' : decide (2 < st) = false := by simp; omega
    have q3' : decide (z < 272) = false := by simp; omega
    go_wp2_with (first
      | (refine wpList_buildS rfl rfl (cells := zeroH.toArray) (by kernel_rfl) ?_)
      | (with_reducible refine wpList_storeS rfl rfl Try.headI rfl rfl HZ5.out (by with_unfolding_all rfl) zeroH_size zeroH_one ?_; intro w6 hX6 hu6))
    have HB6 := Lib.hid (HB5.out.trans (hu6.below HB5.out.size (fun j hj => by have := HZ.out; omega)))
    refine bodyPost_ret (v := .tuple #[.agg zeroH.toArray, .int .i64 5]) (results_S1 rfl Try.headI rfl rfl hX6.out zeroH_size) rfl ?_
    exact ⟨by rw [HC.out, HRz.out], HB6.out⟩
  · have HC := Lib.hid hC
    have HRz := Lib.hid (show RR = zeroH by rw [HCC.out, if_neg (by rw [hC]; decide)])
    clear hC HWay HCC
    have q2' : decide (2 < st) = false := by simp; omega
    have q3' : decide (z < 272) = false := by simp; omega
    go_wp2_with (first
      | (refine wpList_buildS rfl rfl (cells := zeroH.toArray) (by kernel_rfl) ?_)
      | (with_reducible refine wpList_storeS rfl rfl Try.headI rfl rfl HZ5.out (by with_unfolding_all rfl) zeroH_size zeroH_one ?_; intro w6 hX6 hu6))
    have HB6 := Lib.hid (HB5.out.trans (hu6.below HB5.out.size (fun j hj => by have := HZ.out; omega)))
    refine bodyPost_ret (v := .tuple #[.agg zeroH.toArray, .int .i64 5]) (results_S1 rfl Try.headI rfl rfl hX6.out zeroH_size) rfl ?_
    exact ⟨by rw [HC.out, HRz.out], HB6.out⟩
  · have HC := Lib.hid hC
    have HRz := Lib.hid (show RR = zeroH by rw [HCC.out, if_neg (by rw [hC]; decide)])
    clear hC HWay HCC
    have q2' : decide (2 < st) = false := by simp; omega
    have q3' : decide (z < 272) = false := by simp; omega
    subst q6
    go_wp2_with (first
      | (refine wpList_buildS rfl rfl (cells := zeroH.toArray) (by kernel_rfl) ?_)
      | (with_reducible refine wpList_storeS rfl rfl Try.headI rfl rfl HZ5.out (by with_unfolding_all rfl) zeroH_size zeroH_one ?_; intro w6 hX6 hu6))
    have HB6 := Lib.hid (HB5.out.trans (hu6.below HB5.out.size (fun j hj => by have := HZ.out; omega)))
    refine bodyPost_ret (v := .tuple #[.agg zeroH.toArray, .int .i64 2]) (results_S1 rfl Try.headI rfl rfl hX6.out zeroH_size) rfl ?_
    exact ⟨by rw [HC.out, HRz.out], HB6.out⟩
  · have HC := Lib.hid hC
    have HRz := Lib.hid (show RR = zeroH by rw [HCC.out, if_neg (by rw [hC]; decide)])
    clear hC HWay HCC
    have q2' : decide (2 < st) = false := by simp; omega
    have q3' : decide (z < 272) = false := by simp; omega
    subst q6
    have q7' : decide ((l.length : Int) < en) = true := by simpa using q7
    go_wp2_with (first
      | (refine wpList_buildS rfl rfl (cells := zeroH.toArray) (by kernel_rfl) ?_)
      | (with_reducible refine wpList_storeS rfl rfl Try.headI rfl rfl HZ5.out (by with_unfolding_all rfl) zeroH_size zeroH_one ?_; intro w6 hX6 hu6))
    have HB6 := Lib.hid (HB5.out.trans (hu6.below HB5.out.size (fun j hj => by have := HZ.out; omega)))
    refine bodyPost_ret (v := .tuple #[.agg zeroH.toArray, .int .i64 2]) (results_S1 rfl Try.headI rfl rfl hX6.out zeroH_size) rfl ?_
    exact ⟨by rw [HC.out, HRz.out], HB6.out⟩
  · have HC := Lib.hid hC
    have HRz := Lib.hid (show RR = zeroH by rw [HCC.out, if_neg (by rw [hC]; simpa using q8)])
    clear hC HWay HCC
    have q2' : decide (2 < st) = false := by simp; omega
    have q3' : decide (z < 272) = false := by simp; omega
    subst q6
    have q7' : decide ((l.length : Int) < en) = false := by simp; omega
    go_upto_region 16 with (first
      | (with_reducible refine wpList_loadS rfl rfl Try.headI rfl HX5.out HSz.out ?_)
      | (go_at_call 21; refine (HT1.out _).mono ?_; rintro e w6 ⟨rfl, hb6⟩; have HB6 := Lib.hid (HB5.out.trans (hb6.mono HB5.out.size)); have HZ6 := Lib.hid (row_below hb6 (lt_of_heap HZ5.out) HZ5.out); have HX6 := Lib.hid (row_below hb6 (lt_of_heap HX5.out) HX5.out); have j71' := bcell hb6 (lt_of_heap HX5.out) j71; have j72' := bcell hb6 (lt_of_heap HX5.out) j72; clear hb6))
    clear j1 j2 j67 j68 j69 j70 j71 j72
    go_wp2_with (first
      | (refine wpList_buildS rfl rfl (cells := zeroH.toArray) (by kernel_rfl) ?_)
      | (with_reducible refine wpList_storeS rfl rfl Try.headI rfl rfl HZ6.out (by with_unfolding_all rfl) zeroH_size zeroH_one ?_; intro w7 hX7 hu7))
    have HB7 := Lib.hid (HB6.out.trans (hu7.below HB6.out.size (fun j hj => by have := HZ.out; omega)))
    refine bodyPost_ret (v := .tuple #[.agg zeroH.toArray, .int .i64 t1]) (results_S1 rfl Try.headI rfl rfl hX7.out zeroH_size) rfl ?_
    exact ⟨by rw [HC.out, HRz.out], HB7.out⟩
  · have HC := Lib.hid hC
    have HRz := Lib.hid (show RR = zeroH by rw [HCC.out, if_neg (by rw [hC]; simpa using q9)])
    clear hC HWay HCC
    have q2' : decide (2 < st) = false := by simp; omega
    have q3' : decide (z < 272) = false := by simp; omega
    subst q6
    have q7' : decide ((l.length : Int) < en) = false := by simp; omega
    go_upto_region 16 with (first
      | (with_reducible refine wpList_loadS rfl rfl Try.headI rfl HX5.out HSz.out ?_)
      | (go_at_call 21; refine (HT1.out _).mono ?_; rintro e w6 ⟨rfl, hb6⟩; have HB6 := Lib.hid (HB5.out.trans (hb6.mono HB5.out.size)); have HZ6 := Lib.hid (row_below hb6 (lt_of_heap HZ5.out) HZ5.out); have HX6 := Lib.hid (row_below hb6 (lt_of_heap HX5.out) HX5.out); have j71' := bcell hb6 (lt_of_heap HX5.out) j71; have j72' := bcell hb6 (lt_of_heap HX5.out) j72; clear hb6))
    clear j1 j2 j67 j68 j69 j70 j71 j72
    go_upto_region 19 with (first
      | (with_reducible refine wpList_loadS rfl rfl Try.headI rfl HX6.out HSz.out ?_)
      | (go_at_call 21; refine (HT2.out _).mono ?_; rintro e w7 ⟨rfl, hb7⟩; have HB7 := Lib.hid (HB6.out.trans (hb7.mono HB6.out.size)); have HZ7 := Lib.hid (row_below hb7 (lt_of_heap HZ6.out) HZ6.out); have HX7 := Lib.hid (row_below hb7 (lt_of_heap HX6.out) HX6.out); clear hb7))
    clear j71' j72'
    go_wp2_with (first
      | (refine wpList_buildS rfl rfl (cells := zeroH.toArray) (by kernel_rfl) ?_)
      | (with_reducible refine wpList_storeS rfl rfl Try.headI rfl rfl HZ7.out (by with_unfolding_all rfl) zeroH_size zeroH_one ?_; intro w8 hX8 hu8))
    have HB8 := Lib.hid (HB7.out.trans (hu8.below HB7.out.size (fun j hj => by have := HZ.out; omega)))
    refine bodyPost_ret (v := .tuple #[.agg zeroH.toArray, .int .i64 t2]) (results_S1 rfl Try.headI rfl rfl hX8.out zeroH_size) rfl ?_
    exact ⟨by rw [HC.out, HRz.out], HB8.out⟩
  · have HC := Lib.hid hC
    have HRz := Lib.hid (show RR = parseL l by rw [HCC.out, if_pos hC])
    clear hC HWay HCC
    have q2' : decide (2 < st) = false := by simp; omega
    have q3' : decide (z < 272) = false := by simp; omega
    subst q6
    have q7' : decide ((l.length : Int) < en) = false := by simp; omega
    go_upto_region 16 with (first
      | (with_reducible refine wpList_loadS rfl rfl Try.headI rfl HX5.out HSz.out ?_)
      | (go_at_call 21; refine (HT1.out _).mono ?_; rintro e w6 ⟨rfl, hb6⟩; have HB6 := Lib.hid (HB5.out.trans (hb6.mono HB5.out.size)); have HZ6 := Lib.hid (row_below hb6 (lt_of_heap HZ5.out) HZ5.out); have HX6 := Lib.hid (row_below hb6 (lt_of_heap HX5.out) HX5.out); have j71' := bcell hb6 (lt_of_heap HX5.out) j71; have j72' := bcell hb6 (lt_of_heap HX5.out) j72; clear hb6))
    clear j1 j2 j67 j68 j69 j70 j71 j72
    go_upto_region 19 with (first
      | (with_reducible refine wpList_loadS rfl rfl Try.headI rfl HX6.out HSz.out ?_)
      | (go_at_call 21; refine (HT2.out _).mono ?_; rintro e w7 ⟨rfl, hb7⟩; have HB7 := Lib.hid (HB6.out.trans (hb7.mono HB6.out.size)); have HZ7 := Lib.hid (row_below hb7 (lt_of_heap HZ6.out) HZ6.out); have HX7 := Lib.hid (row_below hb7 (lt_of_heap HX6.out) HX6.out); clear hb7))
    clear j71' j72'
    go_wp2_with (first
      | (with_reducible refine wpList_loadS rfl rfl Try.headI rfl HX7.out HSz.out ?_)
      | (with_reducible refine wpList_storeS rfl rfl Try.headI rfl rfl HZ7.out (by with_unfolding_all rfl) HSz.out parseL_one ?_; intro w8 hX8 hu8))
    have HB8 := Lib.hid (HB7.out.trans (hu8.below HB7.out.size (fun j hj => by have := HZ.out; omega)))
    refine bodyPost_ret (v := .tuple #[.agg (parseL l).toArray, .int .i64 0]) (results_S1 rfl Try.headI rfl rfl hX8.out HSz.out) rfl ?_
    exact ⟨by rw [HC.out, HRz.out], HB8.out⟩
end Go.Proofs.Ytpkmdnfkeebgbaa

/- What the document's own End computes. Conditions stand as premises. -/
namespace Go.Proofs.Ytpkmdnfkeebgbaa
open Go.ChangeShapes Go.WideShapes Go.ChangeAt Go.RowKit
set_option linter.unusedVariables false
set_option linter.unusedSimpArgs false

set_option maxRecDepth 100000 in
set_option maxHeartbeats 1000000 in
theorem refend_any (co inc st : Int) (I Ns : List Int) (ta ti te z r : Int) (w : World) (hI : I.length = 64) (hz : Ns[0]? = some z) (hr : Ns[1]? = some r) (hz0 : 0 ≤ z ∧ z ≤ 18446744073709551615) (hr0 : 0 ≤ r ∧ r ≤ 18446744073709551615) :
    Calls Try.prog 12 #[.agg (headL co inc st I Ns ta ti te).toArray] w fun e w' => e = .returned (.tuple #[.int .u64 (endV z r), .bool (endB z r)]) ∧ Below w.heap.size w w' := by
  have hX := heap_alloc_new w (.cells (headL co inc st I Ns ta ti te).toArray 34)
  have hB := below_alloc w (.cells (headL co inc st I Ns ta ti te).toArray 34)
  have i0 := cell_of_heap hX 67 _ (headL_N hI 0 z hz)
  have i1 := cell_of_heap hX 68 _ (headL_N hI 1 r hr)
  have HB := Lib.hid hB
  obtain ⟨z0, z1⟩ := hz0
  obtain ⟨r0, r1⟩ := hr0
  clear hz hr hI hX hB
  have hw0 : IntKind.u64.wrap (18446744073709551615 - z) = 18446744073709551615 - z := by rw [IntKind.wrap_u64]; omega
  by_cases hbig : 18446744073709551615 < z + r
  · have h1 : endV z r = 0 := if_pos hbig
    have h2 : endB z r = false := by unfold endB; simp; omega
    have H1 := Lib.hid h1
    have H2 := Lib.hid h2
    have hlt : decide (18446744073709551615 - z < r) = true := by simp; omega
    clear h1 h2
    go_enter Try.func12, Try.ntmps12
    go_upto_region 1 with fail
    generalize w.alloc (.cells (headL co inc st I Ns ta ti te).toArray 34) = w1 at i0 i1 HB ⊢
    go_wp2_with fail
    refine bodyPost_ret (v := .tuple #[.int .u64 (0), .bool false]) (by simp [results, Try.results12, go_sem]) rfl ?_
    exact ⟨by rw [H1.out, H2.out], HB.out⟩
  · have hw : IntKind.u64.wrap (z + r) = z + r := by rw [IntKind.wrap_u64]; omega
    have h1 : endV z r = z + r := if_neg hbig
    have h2 : endB z r = true := by unfold endB; simp; omega
    have H1 := Lib.hid h1
    have H2 := Lib.hid h2
    have hlt : decide (18446744073709551615 - z < r) = false := by simp; omega
    clear h1 h2
    go_enter Try.func12, Try.ntmps12
    go_upto_region 1 with fail
    generalize w.alloc (.cells (headL co inc st I Ns ta ti te).toArray 34) = w1 at i0 i1 HB ⊢
    go_wp2_with fail
    refine bodyPost_ret (v := .tuple #[.int .u64 (z + r), .bool true]) (by simp [results, Try.results12, go_sem]) rfl ?_
    exact ⟨by rw [H1.out, H2.out], HB.out⟩
end Go.Proofs.Ytpkmdnfkeebgbaa

/- What the document's own ReadHead computes: the same. Conditions stand as premises. -/
namespace Go.Proofs.Ytpkmdnfkeebgbaa
open Go.ChangeShapes Go.WideShapes Go.ChangeAt Go.RowKit
set_option linter.unusedVariables false
set_option linter.unusedSimpArgs false

section
variable {P : Program} {w : World}
/-- A struct's cells and two slots handed back. -/
theorem results_S2 {fn : Func} {tmps : Array Value} {s k m : Nat} {ty : TypeId} (hf : fn.results = #[.cell s ty, .tmp k, .tmp m]) {S n : Nat} {cs : Array Value} {T : TypeId} {v u : Value} (hI : RowInfo P ty n)
    (hs : tmps.getD s undef = .pointer (some ⟨S, 0, none⟩)) (hk : tmps.getD k undef = v) (hm : tmps.getD m undef = u) (hg : w.heap[S]? = some (.cells cs T (0, 0))) (hn : cs.size = n) : (results fn tmps).run P w = .ok (.tuple #[.agg cs, v, u]) w := by
  obtain ⟨d, hu, hd⟩ := hI.desc
  have hl := run_loadVar_row w S T ty cs (0, 0) d hg hu (by revert hd; cases d <;> simp) (by rw [hI.2, hn])
  rw [Array.getD_eq_getD_getElem?] at hs hk hm
  simp [results, hf, hs, hk, hm, asAddr, hl, Sem.run_bind, Result.andThen]
end
def zeroR : List Value := headL 0 0 0 (List.replicate 64 0) z20 0 0 0
theorem zeroR_one : zeroR.toArray.all (·.oneCell') = true := headL_one
theorem zeroR_size : zeroR.toArray.size = 90 := headL_size (n := 20) rfl rfl
/-- The document's head that bytes begin with. -/
def rawL (l : List Int) : List Value := headL (gN l 8 4) (gN l 12 4) (l[16]?.getD 0) (idsP l) (numsP l 20) (gN l 256 4) (gN l 260 4) (gN l 264 8)
theorem rawL_one {l : List Int} : (rawL l).toArray.all (·.oneCell') = true := headL_one
theorem rawL_size {l : List Int} (h : 272 ≤ l.length) : (rawL l).toArray.size = 90 := headL_size (n := 20) (idsP_length h) (numsP_length l 20)
/-- What ReadHead answers. -/
def HeadRE (cs : List Value) (d c : Int) (w : World) (e : Ending) (w' : World) : Prop := e = .returned (.tuple #[.agg cs.toArray, .int .u64 d, .int .i64 c]) ∧ Below w.heap.size w w'
def headRR (l : List Int) : List Value := if headC l = 0 then rawL l else zeroR
def headRD (l : List Int) : Int := if headC l = 0 then gN l 248 8 else 0
theorem Try.builtZR : Try.prog.built 34 [] = some zeroR.toArray := by kernel_rfl
theorem raw_num {l : List Int} {w : World} {S : Nat} {T : TypeId} (hl : 272 ≤ l.length) (h : w.heap[S]? = some (.cells (rawL l).toArray T (0, 0))) (k : Nat) (hk : k < 20) : w.cell? ⟨S, 67 + k, none⟩ = some (.int .u64 (gN l (88 + 8 * k) 8)) :=
  cell_of_heap h (67 + k) _ (headL_N (idsP_length hl) k _ (numsP_at l 20 k hk))
theorem endraw_any {l : List Int} (hb : IsB l) (hl : 272 ≤ l.length) (w : World) :
    Calls Try.prog 12 #[.agg (rawL l).toArray] w fun e w' => e = .returned (.tuple #[.int .u64 (endH l), .bool (endB (gN l 88 8) (gN l 96 8))]) ∧ Below w.heap.size w w' :=
  refend_any _ _ _ _ _ _ _ _ (gN l 88 8) (gN l 96 8) w (idsP_length hl) (numsP_at l 20 0 (by omega)) (numsP_at l 20 1 (by omega)) (gN_u64 hb 88) (gN_u64 hb 96)

set_option maxRecDepth 100000 in
set_option maxHeartbeats 4000000 in
theorem readhead_short (a : Option Addr) (n c : Nat) (w : World) (hn : n < 272) :
    Calls Try.prog 9 #[.slice a n c] w (HeadRE zeroR 0 22 w) := by
  have hlt : decide ((n : Int) < 272) = true := by simp; omega
  go_enter Try.func9, Try.ntmps9
  go_upto_region 1 with fail
  have hZ1 := heap_alloc_new w (.cells Try.zeroCells34 34)
  have HB1 := Lib.hid (below_alloc w (.cells Try.zeroCells34 34))
  generalize w.alloc (.cells Try.zeroCells34 34) = w1 at hZ1 HB1 ⊢
  have HZ1 := Lib.hid hZ1
  clear hZ1
  go_wp2_with (first
    | (refine wpList_buildS rfl rfl (cells := zeroR.toArray) (by kernel_rfl) ?_)
    | (with_reducible refine wpList_storeS rfl rfl Try.refheadI rfl rfl HZ1.out (by with_unfolding_all rfl) zeroR_size zeroR_one ?_; intro w2 hX2 hu2))
  refine bodyPost_ret (v := .tuple #[.agg zeroR.toArray, .int .u64 0, .int .i64 22]) (results_S2 rfl Try.refheadI rfl rfl rfl hX2.out zeroR_size) rfl ?_
  exact ⟨rfl, HB1.out.trans (hu2.below HB1.out.size (fun j hj => by omega))⟩

theorem sign_isB : IsB signL := by unfold signL IsB; simp
theorem sign_eq (l : List Int) (hb : IsB l) : ((bstr (l.take 8)).toList == ([76, 80, 75, 83, 72, 72, 82, 72] : List UInt8)) = decide (l.take 8 = signL) := by
  have h := bstr_same (hb.take 8) sign_isB
  have e : (bstr signL).toList = ([76, 80, 75, 83, 72, 72, 82, 72] : List UInt8) := by rw [bstr_toList]; rfl
  rwa [e] at h

set_option maxRecDepth 100000 in
set_option maxHeartbeats 4000000 in
theorem readhead_magic (a : Option Addr) (n c : Nat) (l : List Int) (w : World) (hr : RdB w a n c l) (hn : n ≤ 1000000) (hlo : 272 ≤ n) (hs : l.take 8 ≠ signL) :
    Calls Try.prog 9 #[.slice a n c] w (HeadRE zeroR 0 6 w) := by
  have hlt : decide ((n : Int) < 272) = false := by simp; omega
  have hq := sign_eq l hr.1
  rw [decide_eq_false hs] at hq
  have hd3 : ¬ ((c : Int) < 8) := by have := hr.2.2.1; omega
  have hd4 : (8 : Int) ≤ (c : Int) := by omega
  have HR := Lib.hid hr
  clear hr hs
  go_enter Try.func9, Try.ntmps9
  go_upto_region 1 with fail
  have hZ1 := heap_alloc_new w (.cells Try.zeroCells34 34)
  have HB1 := Lib.hid (below_alloc w (.cells Try.zeroCells34 34))
  generalize w.alloc (.cells Try.zeroCells34 34) = w1 at hZ1 HB1 ⊢
  have HZ1 := Lib.hid hZ1
  have HR1 := Lib.hid ((HR.out.mono HB1.out).take 8 (by omega))
  clear hZ1
  go_wp2_with (first
    | (with_reducible refine wpList_bytesString rfl rfl Try.underlying22 Try.underlying5 Try.underlying9 rfl HR1.out ?_)
    | (refine wpList_buildS rfl rfl (cells := zeroR.toArray) (by kernel_rfl) ?_)
    | (with_reducible refine wpList_storeS rfl rfl Try.refheadI rfl rfl HZ1.out (by with_unfolding_all rfl) zeroR_size zeroR_one ?_; intro w2 hX2 hu2))
  refine bodyPost_ret (v := .tuple #[.agg zeroR.toArray, .int .u64 0, .int .i64 6]) (results_S2 rfl Try.refheadI rfl rfl rfl hX2.out zeroR_size) rfl ?_
  exact ⟨rfl, HB1.out.trans (hu2.below HB1.out.size (fun j hj => by omega))⟩

set_option maxRecDepth 100000 in
set_option maxHeartbeats 8000000 in
theorem readhead_sign (a : Option Addr) (n c : Nat) (l : List Int) (w : World) (hr : RdB w a n c l) (hn : n ≤ 1000000) (hlo : 272 ≤ n) (hs : l.take 8 = signL) :
    Calls Try.prog 9 #[.slice a n c] w (HeadRE (headRR l) (headRD l) (headC l) w) := by
  obtain rfl : l.length = n := hr.len
  have HWay := Lib.hid (headWay l hlo hs)
  have hlt : decide ((l.length : Int) < 272) = false := by simp; omega
  have hq := sign_eq l hr.1
  rw [decide_eq_true hs] at hq
  have hd3 : ¬ ((c : Int) < 8) := by have := hr.2.2.1; omega
  have hd4 : (8 : Int) ≤ (c : Int) := by omega
  have HR := Lib.hid hr
  have HU := Lib.hid (endH_u64 hr.1)
  have HIsB := Lib.hid hr.1
  have HE := Lib.hid (fun w => endraw_any hr.1 hlo w)
  have HT1 := Lib.hid (fun w => reftable_any (gN l 104 8) (gN l 112 8) (gN l 88 8) (endH l) w (gN_u64 hr.1 104) (gN_u64 hr.1 112) (gN_u64 hr.1 88) (endH_u64 hr.1))
  have HT2 := Lib.hid (fun w => reftable_any (gN l 120 8) (gN l 128 8) (gN l 88 8) (endH l) w (gN_u64 hr.1 120) (gN_u64 hr.1 128) (gN_u64 hr.1 88) (endH_u64 hr.1))
  have HSz := Lib.hid (rawL_size hlo)
  have HCC := Lib.hid (show headRR l = if headC l = 0 then rawL l else zeroR from rfl)
  have HCD := Lib.hid (show headRD l = if headC l = 0 then gN l 248 8 else 0 from rfl)
  generalize headC l = C at HCC HCD HWay ⊢
  generalize headRR l = RR at HCC ⊢
  generalize headRD l = RD at HCD ⊢
  clear hr hs
  go_enter Try.func9, Try.ntmps9
  go_upto_region 1 with fail
  have hZ1 := heap_alloc_new w (.cells Try.zeroCells34 34)
  have HB1 := Lib.hid (below_alloc w (.cells Try.zeroCells34 34))
  obtain ⟨Z, hZ⟩ : ∃ Z, w.heap.size = Z := ⟨_, rfl⟩
  have HZ := Lib.hid hZ
  rw [hZ] at hZ1 ⊢
  clear hZ
  generalize w.alloc (.cells Try.zeroCells34 34) = w1 at hZ1 HB1 ⊢
  have HZ1 := Lib.hid hZ1
  have HR1 := Lib.hid ((HR.out.mono HB1.out).take 8 (by omega))
  clear hZ1
  go_upto_region 5 with (with_reducible refine wpList_bytesString rfl rfl Try.underlying22 Try.underlying5 Try.underlying9 rfl HR1.out ?_)
  go_upto_region 6 with (first
    | (go_at_call 22; refine (raw_any _ _ _ l _ (HR.out.mono HB1.out) hn hlo).mono ?_; rintro e w3 ⟨rfl, hb3⟩; have HB3 := Lib.hid (HB1.out.trans (hb3.mono HB1.out.size)); have HZ3 := Lib.hid (row_below hb3 (lt_of_heap HZ1.out) HZ1.out); clear hb3)
    | (with_reducible refine wpList_storeS (cells := (rawL l).toArray) rfl rfl Try.refheadI rfl rfl (heap_alloc_new w3 _) (by with_unfolding_all rfl) HSz.out rawL_one ?_; intro w4 hX4 hu4))
  have HUp := Lib.hid ((Upd.ofBelow (F := (· = w3.heap.size)) (below_alloc w3 _)).trans hu4 (fun _ _ h => h))
  have HB4 := Lib.hid (HB3.out.trans (HUp.out.below (B := w.heap.size) HB3.out.size (fun j hj => by have := HB3.out.size; omega)))
  have HZ4 := Lib.hid (row_upd HUp.out (by have := lt_of_heap HZ3.out; omega) HZ3.out)
  obtain ⟨H, hH⟩ : ∃ H, w3.heap.size = H := ⟨_, rfl⟩
  rw [hH] at hX4 ⊢
  have HX4 := Lib.hid hX4.out
  clear hX4 hu4 hH HUp HR HR1 HZ1 hq hd3 hd4
  go_upto_region 7 with (first
    | (with_reducible refine wpList_loadS rfl rfl Try.refheadI rfl HX4.out HSz.out ?_)
    | (go_at_call 12; refine (HE.out _).mono ?_; rintro e w5 ⟨rfl, hb5⟩; have HB5 := Lib.hid (HB4.out.trans (hb5.mono HB4.out.size)); have HZ5 := Lib.hid (row_below hb5 (lt_of_heap HZ4.out) HZ4.out); have HX5 := Lib.hid (row_below hb5 (lt_of_heap HX4.out) HX4.out); clear hb5))
  clear HX4 HZ4 HB4 HB3 HE
  have j1 := headl_1 HX5.out
  have j2 := headl_2 HX5.out
  have j67 := raw_num hlo HX5.out 0 (by omega)
  have j68 := raw_num hlo HX5.out 1 (by omega)
  have j69 := raw_num hlo HX5.out 2 (by omega)
  have j70 := raw_num hlo HX5.out 3 (by omega)
  have j71 := raw_num hlo HX5.out 4 (by omega)
  have j72 := raw_num hlo HX5.out 5 (by omega)
  unfold flI at HWay
  simp only [Nat.mul_zero, Nat.add_zero, Nat.mul_one, Nat.reduceMul, Nat.reduceAdd] at j67 j68 j69 j70 j71 j72
  have hz := gN_u64 (l := l) (HIsB.out) 88
  have hz2 := gN_u64 (l := l) (HIsB.out) 96
  have hen := HU.out
  generalize tabV (gN l 104 8) (gN l 112 8) (gN l 88 8) (endH l) = t1 at HWay HT1
  generalize tabV (gN l 120 8) (gN l 128 8) (gN l 88 8) (endH l) = t2 at HWay HT2
  generalize endH l = en at *
  generalize endB (gN l 88 8) (gN l 96 8) = ok at *
  generalize gN l 12 4 = inc at *
  generalize l[16]?.getD 0 = st at *
  generalize gN l 88 8 = z at *
  generalize gN l 96 8 = r at *
  generalize gN l 104 8 = dt at *
  generalize gN l 112 8 = ds at *
  generalize gN l 120 8 = ft at *
  generalize gN l 128 8 = fs at *
  generalize gN l 248 8 = dep at *
  obtain ⟨z0, z1⟩ := hz
  obtain ⟨r0, r1⟩ := hz2
  obtain ⟨e0, e1⟩ := hen
  clear HU HIsB
  rcases HWay.out with ⟨q1, hC⟩ | ⟨q1, q2, hC⟩ | ⟨q1, q2, q3, hC⟩ | ⟨q1, q2, q3, q4, hC⟩ | ⟨q1, q2, q3, q4, q5, hC⟩ | ⟨q1, q2, q3, q4, q5, q6, hC⟩ | ⟨q1, q2, q3, q4, q5, q6, q7, hC⟩ | ⟨q1, q2, q3, q4, q5, q6, q7, q8, hC⟩ | ⟨q1, q2, q3, q4, q5, q6, q7, q8, q9, hC⟩ | ⟨q1, q2, q3, q4, q5, q6, q7, q8, q9, hC⟩
  · have HC := Lib.hid hC
    have HRz := Lib.hid (show RR = zeroR by rw [HCC.out, if_neg (by rw [hC]; decide)])
    have HRd := Lib.hid (show RD = 0 by rw [HCD.out, if_neg (by rw [hC]; decide)])
    clear hC HWay HCC HCD
    go_wp2_with (first
      | (refine wpList_buildS rfl rfl (cells := zeroR.toArray) (by kernel_rfl) ?_)
      | (with_reducible refine wpList_storeS rfl rfl Try.refheadI rfl rfl HZ5.out (by with_unfolding_all rfl) zeroR_size zeroR_one ?_; intro w6 hX6 hu6))
    have HB6 := Lib.hid (HB5.out.trans (hu6.below HB5.out.size (fun j hj => by have := HZ.out; omega)))
    refine bodyPost_ret (v := .tuple #[.agg zeroR.toArray, .int .u64 0, .int .i64 7]) (results_S2 rfl Try.refheadI rfl rfl rfl hX6.out zeroR_size) rfl ?_
    exact ⟨by rw [HC.out, HRz.out, HRd.out], HB6.out⟩
  · have HC := Lib.hid hC
    have HRz := Lib.hid (show RR = zeroR by rw [HCC.out, if_neg (by rw [hC]; decide)])
    have HRd := Lib.hid (show RD = 0 by rw [HCD.out, if_neg (by rw [hC]; decide)])
    clear hC HWay HCC HCD
    have q2' : decide (2 < st) = true := by simpa using q2
    go_wp2_with (first
      | (refine wpList_buildS rfl rfl (cells := zeroR.toArray) (by kernel_rfl) ?_)
      | (with_reducible refine wpList_storeS rfl rfl Try.refheadI rfl rfl HZ5.out (by with_unfolding_all rfl) zeroR_size zeroR_one ?_; intro w6 hX6 hu6))
    have HB6 := Lib.hid (HB5.out.trans (hu6.below HB5.out.size (fun j hj => by have := HZ.out; omega)))
    refine bodyPost_ret (v := .tuple #[.agg zeroR.toArray, .int .u64 0, .int .i64 8]) (results_S2 rfl Try.refheadI rfl rfl rfl hX6.out zeroR_size) rfl ?_
    exact ⟨by rw [HC.out, HRz.out, HRd.out], HB6.out⟩
  · have HC := Lib.hid hC
    have HRz := Lib.hid (show RR = zeroR by rw [HCC.out, if_neg (by rw [hC]; decide)])
    have HRd := Lib.hid (show RD = 0 by rw [HCD.out, if_neg (by rw [hC]; decide)])
    clear hC HWay HCC HCD
    have q2' : decide (2 < st) = false := by simp; omega
    have q3' : decide (z < 272) = true := by simpa using q3
    go_wp2_with (first
      | (refine wpList_buildS rfl rfl (cells := zeroR.toArray) (by kernel_rfl) ?_)
      | (with_reducible refine wpList_storeS rfl rfl Try.refheadI rfl rfl HZ5.out (by with_unfolding_all rfl) zeroR_size zeroR_one ?_; intro w6 hX6 hu6))
    have HB6 := Lib.hid (HB5.out.trans (hu6.below HB5.out.size (fun j hj => by have := HZ.out; omega)))
    refine bodyPost_ret (v := .tuple #[.agg zeroR.toArray, .int .u64 0, .int .i64 5]) (results_S2 rfl Try.refheadI rfl rfl rfl hX6.out zeroR_size) rfl ?_
    exact ⟨by rw [HC.out, HRz.out, HRd.out], HB6.out⟩
  · have HC := Lib.hid hC
    have HRz := Lib.hid (show RR = zeroR by rw [HCC.out, if_neg (by rw [hC]; decide)])
    have HRd := Lib.hid (show RD = 0 by rw [HCD.out, if_neg (by rw [hC]; decide)])
    clear hC HWay HCC HCD
    have q2' : decide (2 < st) = false := by simp; omega
    have q3' : decide (z < 272) = false := by simp; omega
    go_wp2_with (first
      | (refine wpList_buildS rfl rfl (cells := zeroR.toArray) (by kernel_rfl) ?_)
      | (with_reducible refine wpList_storeS rfl rfl Try.refheadI rfl rfl HZ5.out (by with_unfolding_all rfl) zeroR_size zeroR_one ?_; intro w6 hX6 hu6))
    have HB6 := Lib.hid (HB5.out.trans (hu6.below HB5.out.size (fun j hj => by have := HZ.out; omega)))
    refine bodyPost_ret (v := .tuple #[.agg zeroR.toArray, .int .u64 0, .int .i64 5]) (results_S2 rfl Try.refheadI rfl rfl rfl hX6.out zeroR_size) rfl ?_
    exact ⟨by rw [HC.out, HRz.out, HRd.out], HB6.out⟩
  · have HC := Lib.hid hC
    have HRz := Lib.hid (show RR = zeroR by rw [HCC.out, if_neg (by rw [hC]; decide)])
    have HRd := Lib.hid (show RD = 0 by rw [HCD.out, if_neg (by rw [hC]; decide)])
    clear hC HWay HCC HCD
    have q2' : decide (2 < st) = false := by simp; omega
    have q3' : decide (z < 272) = false := by simp; omega
    go_wp2_with (first
      | (refine wpList_buildS rfl rfl (cells := zeroR.toArray) (by kernel_rfl) ?_)
      | (with_reducible refine wpList_storeS rfl rfl Try.refheadI rfl rfl HZ5.out (by with_unfolding_all rfl) zeroR_size zeroR_one ?_; intro w6 hX6 hu6))
    have HB6 := Lib.hid (HB5.out.trans (hu6.below HB5.out.size (fun j hj => by have := HZ.out; omega)))
    refine bodyPost_ret (v := .tuple #[.agg zeroR.toArray, .int .u64 0, .int .i64 5]) (results_S2 rfl Try.refheadI rfl rfl rfl hX6.out zeroR_size) rfl ?_
    exact ⟨by rw [HC.out, HRz.out, HRd.out], HB6.out⟩
  · have HC := Lib.hid hC
    have HRz := Lib.hid (show RR = zeroR by rw [HCC.out, if_neg (by rw [hC]; decide)])
    have HRd := Lib.hid (show RD = 0 by rw [HCD.out, if_neg (by rw [hC]; decide)])
    clear hC HWay HCC HCD
    have q2' : decide (2 < st) = false := by simp; omega
    have q3' : decide (z < 272) = false := by simp; omega
    subst q6
    go_wp2_with (first
      | (refine wpList_buildS rfl rfl (cells := zeroR.toArray) (by kernel_rfl) ?_)
      | (with_reducible refine wpList_storeS rfl rfl Try.refheadI rfl rfl HZ5.out (by with_unfolding_all rfl) zeroR_size zeroR_one ?_; intro w6 hX6 hu6))
    have HB6 := Lib.hid (HB5.out.trans (hu6.below HB5.out.size (fun j hj => by have := HZ.out; omega)))
    refine bodyPost_ret (v := .tuple #[.agg zeroR.toArray, .int .u64 0, .int .i64 2]) (results_S2 rfl Try.refheadI rfl rfl rfl hX6.out zeroR_size) rfl ?_
    exact ⟨by rw [HC.out, HRz.out, HRd.out], HB6.out⟩
  · have HC := Lib.hid hC
    have HRz := Lib.hid (show RR = zeroR by rw [HCC.out, if_neg (by rw [hC]; decide)])
    have HRd := Lib.hid (show RD = 0 by rw [HCD.out, if_neg (by rw [hC]; decide)])
    clear hC HWay HCC HCD
    have q2' : decide (2 < st) = false := by simp; omega
    have q3' : decide (z < 272) = false := by simp; omega
    subst q6
    have q7' : decide ((l.length : Int) < en) = true := by simpa using q7
    go_wp2_with (first
      | (refine wpList_buildS rfl rfl (cells := zeroR.toArray) (by kernel_rfl) ?_)
      | (with_reducible refine wpList_storeS rfl rfl Try.refheadI rfl rfl HZ5.out (by with_unfolding_all rfl) zeroR_size zeroR_one ?_; intro w6 hX6 hu6))
    have HB6 := Lib.hid (HB5.out.trans (hu6.below HB5.out.size (fun j hj => by have := HZ.out; omega)))
    refine bodyPost_ret (v := .tuple #[.agg zeroR.toArray, .int .u64 0, .int .i64 2]) (results_S2 rfl Try.refheadI rfl rfl rfl hX6.out zeroR_size) rfl ?_
    exact ⟨by rw [HC.out, HRz.out, HRd.out], HB6.out⟩
  · have HC := Lib.hid hC
    have HRz := Lib.hid (show RR = zeroR by rw [HCC.out, if_neg (by rw [hC]; simpa using q8)])
    have HRd := Lib.hid (show RD = 0 by rw [HCD.out, if_neg (by rw [hC]; simpa using q8)])
    clear hC HWay HCC HCD
    have q2' : decide (2 < st) = false := by simp; omega
    have q3' : decide (z < 272) = false := by simp; omega
    subst q6
    have q7' : decide ((l.length : Int) < en) = false := by simp; omega
    have q8' : (t1 == 0) = false := by simpa using q8
    go_upto_region 9 with (go_at_call 23; refine (HT1.out _).mono ?_; rintro e w6 ⟨rfl, rfl⟩)
    go_wp2_with (first
      | (refine wpList_buildS rfl rfl (cells := zeroR.toArray) (by kernel_rfl) ?_)
      | (with_reducible refine wpList_storeS rfl rfl Try.refheadI rfl rfl HZ5.out (by with_unfolding_all rfl) zeroR_size zeroR_one ?_; intro w6 hX6 hu6))
    have HB6 := Lib.hid (HB5.out.trans (hu6.below HB5.out.size (fun j hj => by have := HZ.out; omega)))
    refine bodyPost_ret (v := .tuple #[.agg zeroR.toArray, .int .u64 0, .int .i64 t1]) (results_S2 rfl Try.refheadI rfl rfl rfl hX6.out zeroR_size) rfl ?_
    exact ⟨by rw [HC.out, HRz.out, HRd.out], HB6.out⟩
  · have HC := Lib.hid hC
    have HRz := Lib.hid (show RR = zeroR by rw [HCC.out, if_neg (by rw [hC]; simpa using q9)])
    have HRd := Lib.hid (show RD = 0 by rw [HCD.out, if_neg (by rw [hC]; simpa using q9)])
    clear hC HWay HCC HCD
    have q2' : decide (2 < st) = false := by simp; omega
    have q3' : decide (z < 272) = false := by simp; omega
    subst q6
    have q7' : decide ((l.length : Int) < en) = false := by simp; omega
    have q8' : (t1 == 0) = true := by simpa using q8
    go_upto_region 9 with (go_at_call 23; refine (HT1.out _).mono ?_; rintro e w6 ⟨rfl, rfl⟩)
    go_upto_region 19 with (go_at_call 23; refine (HT2.out _).mono ?_; rintro e w7 ⟨rfl, rfl⟩)
    go_wp2_with (first
      | (refine wpList_buildS rfl rfl (cells := zeroR.toArray) (by kernel_rfl) ?_)
      | (with_reducible refine wpList_storeS rfl rfl Try.refheadI rfl rfl HZ5.out (by with_unfolding_all rfl) zeroR_size zeroR_one ?_; intro w6 hX6 hu6))
    have HB6 := Lib.hid (HB5.out.trans (hu6.below HB5.out.size (fun j hj => by have := HZ.out; omega)))
    refine bodyPost_ret (v := .tuple #[.agg zeroR.toArray, .int .u64 0, .int .i64 t2]) (results_S2 rfl Try.refheadI rfl rfl rfl hX6.out zeroR_size) rfl ?_
    exact ⟨by rw [HC.out, HRz.out, HRd.out], HB6.out⟩
  · have HC := Lib.hid hC
    have HRz := Lib.hid (show RR = rawL l by rw [HCC.out, if_pos hC])
    have HRd := Lib.hid (show RD = dep by rw [HCD.out, if_pos hC])
    clear hC HWay HCC HCD
    have q2' : decide (2 < st) = false := by simp; omega
    have q3' : decide (z < 272) = false := by simp; omega
    subst q6
    have q7' : decide ((l.length : Int) < en) = false := by simp; omega
    have q8' : (t1 == 0) = true := by simpa using q8
    go_upto_region 9 with (go_at_call 23; refine (HT1.out _).mono ?_; rintro e w6 ⟨rfl, rfl⟩)
    go_upto_region 19 with (go_at_call 23; refine (HT2.out _).mono ?_; rintro e w7 ⟨rfl, rfl⟩)
    go_wp2_with (first
      | (with_reducible refine wpList_loadS rfl rfl Try.refheadI rfl HX5.out HSz.out ?_)
      | (with_reducible refine wpList_storeS rfl rfl Try.refheadI rfl rfl HZ5.out (by with_unfolding_all rfl) HSz.out rawL_one ?_; intro w6 hX6 hu6))
    have HB6 := Lib.hid (HB5.out.trans (hu6.below HB5.out.size (fun j hj => by have := HZ.out; omega)))
    refine bodyPost_ret (v := .tuple #[.agg (rawL l).toArray, .int .u64 dep, .int .i64 0]) (results_S2 rfl Try.refheadI rfl rfl rfl hX6.out HSz.out) rfl ?_
    exact ⟨by rw [HC.out, HRz.out, HRd.out], HB6.out⟩
end Go.Proofs.Ytpkmdnfkeebgbaa

/- A writer's cells; one made out of numbers. Conditions stand as premises. -/
namespace Go.Proofs.Ytpkmdnfkeebgbaa
open Go.ChangeShapes Go.WideShapes Go.ChangeAt Go.RowKit
set_option linter.unusedVariables false
set_option linter.unusedSimpArgs false
def cfgL (A B C : List Int) (D F : Nat) (kd : Bool) : List Value := A.map (Value.int .u8) ++ (B.map (Value.int .u8) ++ (C.map (Value.int .u8) ++ [.int .i64 (D : Int), .int .i64 (F : Int), .int .i64 32768, .bool kd]))
theorem cfgL_length {A B C : List Int} {D F : Nat} {kd : Bool} (hA : A.length = 16) (hB : B.length = 16) (hC : C.length = 16) : (cfgL A B C D F kd).length = 52 := by simp [cfgL, hA, hB, hC]
theorem cfgL_one {A B C : List Int} {D F : Nat} {kd : Bool} : ∀ v ∈ cfgL A B C D F kd, v.oneCell' = true := by
  intro v hv
  simp only [cfgL, List.mem_append, List.mem_map, List.mem_cons, List.not_mem_nil, or_false] at hv
  rcases hv with ⟨_, _, rfl⟩ | ⟨_, _, rfl⟩ | ⟨_, _, rfl⟩ | rfl | rfl | rfl | rfl <;> rfl
theorem cfgL_tail {A B C : List Int} {D F : Nat} {kd : Bool} (hA : A.length = 16) (hB : B.length = 16) (hC : C.length = 16) (i : Nat) : (cfgL A B C D F kd)[48 + i]? = ([.int .i64 (D : Int), .int .i64 (F : Int), .int .i64 32768, .bool kd] : List Value)[i]? := by
  unfold cfgL
  rw [List.getElem?_append_right (by rw [List.length_map, hA]; omega), List.length_map, hA, List.getElem?_append_right (by rw [List.length_map, hB]; omega), List.length_map, hB, List.getElem?_append_right (by rw [List.length_map, hC]; omega), List.length_map, hC, show 48 + i - 16 - 16 - 16 = i by omega]
theorem cfgL_A {A B C : List Int} {D F : Nat} {kd : Bool} (j : Nat) (v : Value) (h : (A.map (Value.int .u8))[j]? = some v) : (cfgL A B C D F kd)[j]? = some v := by
  unfold cfgL
  rw [List.getElem?_append_left (List.getElem?_eq_some_iff.1 h).1]; exact h
theorem cfgL_B {A B C : List Int} {D F : Nat} {kd : Bool} (hA : A.length = 16) (j : Nat) (v : Value) (h : (B.map (Value.int .u8))[j]? = some v) : (cfgL A B C D F kd)[16 + j]? = some v := by
  unfold cfgL
  rw [List.getElem?_append_right (by rw [List.length_map, hA]; omega), List.length_map, hA, Nat.add_sub_cancel_left, List.getElem?_append_left (List.getElem?_eq_some_iff.1 h).1]; exact h
theorem cfgL_C {A B C : List Int} {D F : Nat} {kd : Bool} (hA : A.length = 16) (hB : B.length = 16) (j : Nat) (v : Value) (h : (C.map (Value.int .u8))[j]? = some v) : (cfgL A B C D F kd)[32 + j]? = some v := by
  unfold cfgL
  rw [List.getElem?_append_right (by rw [List.length_map, hA]; omega), List.length_map, hA, List.getElem?_append_right (by rw [List.length_map, hB]; omega), List.length_map, hB, show 32 + j - 16 - 16 = j by omega, List.getElem?_append_left (List.getElem?_eq_some_iff.1 h).1]; exact h
theorem Try.cfgI : RowInfo Try.prog 83 52 := ⟨by kernel_rfl, by kernel_rfl⟩
theorem Try.builtC0 (a0 a1 a2 a3 a4 a5 a6 a7 a8 a9 a10 a11 a12 a13 a14 a15 b0 b1 b2 b3 b4 b5 b6 b7 b8 b9 b10 b11 b12 b13 b14 b15 c0 c1 c2 c3 c4 c5 c6 c7 c8 c9 c10 c11 c12 c13 c14 c15 : Int) (D F : Nat) (kd : Bool) : Try.prog.built 83 [(0, .agg ([a0, a1, a2, a3, a4, a5, a6, a7, a8, a9, a10, a11, a12, a13, a14, a15].map (Value.int .u8)).toArray), (1, .agg ([b0, b1, b2, b3, b4, b5, b6, b7, b8, b9, b10, b11, b12, b13, b14, b15].map (Value.int .u8)).toArray), (2, .agg ([c0, c1, c2, c3, c4, c5, c6, c7, c8, c9, c10, c11, c12, c13, c14, c15].map (Value.int .u8)).toArray), (3, .int .i64 (D : Int)), (4, .int .i64 (F : Int)), (5, .int .i64 32768), (6, .bool kd)] = some (cfgL [a0, a1, a2, a3, a4, a5, a6, a7, a8, a9, a10, a11, a12, a13, a14, a15] [b0, b1, b2, b3, b4, b5, b6, b7, b8, b9, b10, b11, b12, b13, b14, b15] [c0, c1, c2, c3, c4, c5, c6, c7, c8, c9, c10, c11, c12, c13, c14, c15] D F kd).toArray := by kernel_rfl
theorem Try.builtC (A B C : List Int) (D F : Nat) (kd : Bool) (hA : A.length = 16) (hB : B.length = 16) (hC : C.length = 16) : Try.prog.built 83 [(0, .agg (A.map (Value.int .u8)).toArray), (1, .agg (B.map (Value.int .u8)).toArray), (2, .agg (C.map (Value.int .u8)).toArray), (3, .int .i64 (D : Int)), (4, .int .i64 (F : Int)), (5, .int .i64 32768), (6, .bool kd)] = some (cfgL A B C D F kd).toArray := by
  obtain ⟨a0, a1, a2, a3, a4, a5, a6, a7, a8, a9, a10, a11, a12, a13, a14, a15, rfl⟩ := list16 hA
  obtain ⟨b0, b1, b2, b3, b4, b5, b6, b7, b8, b9, b10, b11, b12, b13, b14, b15, rfl⟩ := list16 hB
  obtain ⟨c0, c1, c2, c3, c4, c5, c6, c7, c8, c9, c10, c11, c12, c13, c14, c15, rfl⟩ := list16 hC
  exact Try.builtC0 a0 a1 a2 a3 a4 a5 a6 a7 a8 a9 a10 a11 a12 a13 a14 a15 b0 b1 b2 b3 b4 b5 b6 b7 b8 b9 b10 b11 b12 b13 b14 b15 c0 c1 c2 c3 c4 c5 c6 c7 c8 c9 c10 c11 c12 c13 c14 c15 D F kd
def ConfE (B Q : Nat) (w : World) (e : Ending) (w' : World) : Prop := ∃ (X Y Z : List Int) (D F : Nat) (kd : Bool), e = .returned (.agg (cfgL X Y Z D F kd).toArray) ∧ IsB X ∧ IsB Y ∧ IsB Z ∧ X.length = 16 ∧ Y.length = 16 ∧ Z.length = 16 ∧ (1 ≤ D ∧ D ≤ 7) ∧ (1 ≤ F ∧ F ≤ 4) ∧ QS B Q w' ∧ Upd (· = Q) w w'
set_option maxRecDepth 100000 in
set_option maxHeartbeats 4000000 in
theorem config_lo (B Q : Nat) (w : World) (hq : QS B Q w) : Calls Try.prog 39 #[.pointer (some ⟨Q, 0, none⟩)] w (ConfE B Q w) := by
  have HQ := Lib.hid hq
  clear hq
  go_enter Try.func39, Try.ntmps39
  go_upto_region 1 with fail
  have hZ := heap_alloc_new w (.cells #[Value.int .u8 0, Value.int .u8 0, Value.int .u8 0, Value.int .u8 0, Value.int .u8 0, Value.int .u8 0, Value.int .u8 0, Value.int .u8 0, Value.int .u8 0, Value.int .u8 0, Value.int .u8 0, Value.int .u8 0, Value.int .u8 0, Value.int .u8 0, Value.int .u8 0, Value.int .u8 0, Value.int .u8 0, Value.int .u8 0, Value.int .u8 0, Value.int .u8 0, Value.int .u8 0, Value.int .u8 0, Value.int .u8 0, Value.int .u8 0, Value.int .u8 0, Value.int .u8 0, Value.int .u8 0, Value.int .u8 0, Value.int .u8 0, Value.int .u8 0, Value.int .u8 0, Value.int .u8 0, Value.int .u8 0, Value.int .u8 0, Value.int .u8 0, Value.int .u8 0, Value.int .u8 0, Value.int .u8 0, Value.int .u8 0, Value.int .u8 0, Value.int .u8 0, Value.int .u8 0, Value.int .u8 0, Value.int .u8 0, Value.int .u8 0, Value.int .u8 0, Value.int .u8 0, Value.int .u8 0, Value.int .i64 0, Value.int .i64 0, Value.int .i64 0, Value.bool false] 83)
  have HB1 := Lib.hid (below_alloc w (.cells #[Value.int .u8 0, Value.int .u8 0, Value.int .u8 0, Value.int .u8 0, Value.int .u8 0, Value.int .u8 0, Value.int .u8 0, Value.int .u8 0, Value.int .u8 0, Value.int .u8 0, Value.int .u8 0, Value.int .u8 0, Value.int .u8 0, Value.int .u8 0, Value.int .u8 0, Value.int .u8 0, Value.int .u8 0, Value.int .u8 0, Value.int .u8 0, Value.int .u8 0, Value.int .u8 0, Value.int .u8 0, Value.int .u8 0, Value.int .u8 0, Value.int .u8 0, Value.int .u8 0, Value.int .u8 0, Value.int .u8 0, Value.int .u8 0, Value.int .u8 0, Value.int .u8 0, Value.int .u8 0, Value.int .u8 0, Value.int .u8 0, Value.int .u8 0, Value.int .u8 0, Value.int .u8 0, Value.int .u8 0, Value.int .u8 0, Value.int .u8 0, Value.int .u8 0, Value.int .u8 0, Value.int .u8 0, Value.int .u8 0, Value.int .u8 0, Value.int .u8 0, Value.int .u8 0, Value.int .u8 0, Value.int .i64 0, Value.int .i64 0, Value.int .i64 0, Value.bool false] 83))
  obtain ⟨R, hR⟩ : ∃ R, w.heap.size = R := ⟨_, rfl⟩
  have HRR := Lib.hid hR
  generalize w.alloc (.cells #[Value.int .u8 0, Value.int .u8 0, Value.int .u8 0, Value.int .u8 0, Value.int .u8 0, Value.int .u8 0, Value.int .u8 0, Value.int .u8 0, Value.int .u8 0, Value.int .u8 0, Value.int .u8 0, Value.int .u8 0, Value.int .u8 0, Value.int .u8 0, Value.int .u8 0, Value.int .u8 0, Value.int .u8 0, Value.int .u8 0, Value.int .u8 0, Value.int .u8 0, Value.int .u8 0, Value.int .u8 0, Value.int .u8 0, Value.int .u8 0, Value.int .u8 0, Value.int .u8 0, Value.int .u8 0, Value.int .u8 0, Value.int .u8 0, Value.int .u8 0, Value.int .u8 0, Value.int .u8 0, Value.int .u8 0, Value.int .u8 0, Value.int .u8 0, Value.int .u8 0, Value.int .u8 0, Value.int .u8 0, Value.int .u8 0, Value.int .u8 0, Value.int .u8 0, Value.int .u8 0, Value.int .u8 0, Value.int .u8 0, Value.int .u8 0, Value.int .u8 0, Value.int .u8 0, Value.int .u8 0, Value.int .i64 0, Value.int .i64 0, Value.int .i64 0, Value.bool false] 83) = w1 at hZ HB1 ⊢
  rw [hR] at hZ ⊢
  have HZ1 := Lib.hid hZ
  have HQ1 := Lib.hid (HQ.out.below HB1.out HQ.out.lt)
  have HU1 := Lib.hid (Upd.ofBelow (F := (· = Q)) HB1.out)
  have hQR : ¬ R = Q := by have := HQ.out.lt; omega
  have hsR : w.heap.size ≤ R := by omega
  clear hZ hR
  go_wp2_with fail
  refine (seqn_any B Q 5 (by omega) (by omega) _ HQ1.out).mono ?_
  rintro e w2 ⟨k1, rfl, hk1, hq1, hu1⟩
  have HQ2 := Lib.hid hq1
  have HU2 := Lib.hid (HU1.out.trans hu1 (fun _ _ h => h))
  have HZ2 := Lib.hid (row_upd hu1 hQR HZ1.out)
  clear hq1 hu1 HQ1 HU1 HZ1
  go_wp2_with fail
  refine (id_lo (k1 : Int) ⟨by omega, by omega⟩ _).mono ?_
  rintro e w3 ⟨X, rfl, hX, hXl, hb1⟩
  have HQ3 := Lib.hid (HQ2.out.below hb1 HQ2.out.lt)
  have HU3 := Lib.hid (HU2.out.trans (Upd.ofBelow (F := (· = Q)) hb1) (fun _ _ h => h))
  have HZ3 := Lib.hid (row_below hb1 (lt_of_heap HZ2.out) HZ2.out)
  have HX := Lib.hid hX
  have HXl := Lib.hid hXl
  clear hb1 HQ2 HU2 HZ2 hX hXl
  go_wp2_with fail
  refine (seqn_any B Q 5 (by omega) (by omega) _ HQ3.out).mono ?_
  rintro e w4 ⟨k3, rfl, hk3, hq3, hu3⟩
  have HQ4 := Lib.hid hq3
  have HU4 := Lib.hid (HU3.out.trans hu3 (fun _ _ h => h))
  have HZ4 := Lib.hid (row_upd hu3 hQR HZ3.out)
  clear hq3 hu3 HQ3 HU3 HZ3
  go_wp2_with fail
  refine (id_lo (k3 : Int) ⟨by omega, by omega⟩ _).mono ?_
  rintro e w5 ⟨Y, rfl, hY, hYl, hb3⟩
  have HQ5 := Lib.hid (HQ4.out.below hb3 HQ4.out.lt)
  have HU5 := Lib.hid (HU4.out.trans (Upd.ofBelow (F := (· = Q)) hb3) (fun _ _ h => h))
  have HZ5 := Lib.hid (row_below hb3 (lt_of_heap HZ4.out) HZ4.out)
  have HY := Lib.hid hY
  have HYl := Lib.hid hYl
  clear hb3 HQ4 HU4 HZ4 hY hYl
  go_wp2_with fail
  refine (seqn_any B Q 5 (by omega) (by omega) _ HQ5.out).mono ?_
  rintro e w6 ⟨k5, rfl, hk5, hq5, hu5⟩
  have HQ6 := Lib.hid hq5
  have HU6 := Lib.hid (HU5.out.trans hu5 (fun _ _ h => h))
  have HZ6 := Lib.hid (row_upd hu5 hQR HZ5.out)
  clear hq5 hu5 HQ5 HU5 HZ5
  go_wp2_with fail
  refine (id_lo (k5 : Int) ⟨by omega, by omega⟩ _).mono ?_
  rintro e w7 ⟨Z, rfl, hZ, hZl, hb5⟩
  have HQ7 := Lib.hid (HQ6.out.below hb5 HQ6.out.lt)
  have HU7 := Lib.hid (HU6.out.trans (Upd.ofBelow (F := (· = Q)) hb5) (fun _ _ h => h))
  have HZ7 := Lib.hid (row_below hb5 (lt_of_heap HZ6.out) HZ6.out)
  have HZ := Lib.hid hZ
  have HZl := Lib.hid hZl
  clear hb5 HQ6 HU6 HZ6 hZ hZl
  go_wp2_with fail
  refine (seqn_any B Q 7 (by omega) (by omega) _ HQ7.out).mono ?_
  rintro e w8 ⟨D, rfl, hD, hq7, hu7⟩
  have HQ8 := Lib.hid hq7
  have HU8 := Lib.hid (HU7.out.trans hu7 (fun _ _ h => h))
  have HZ8 := Lib.hid (row_upd hu7 hQR HZ7.out)
  clear hq7 hu7 HQ7 HU7 HZ7
  have hwD : IntKind.i64.wrap ((D : Int) + 1) = (D : Int) + 1 := by rw [IntKind.wrap_i64]; omega
  go_wp2_with fail
  refine (seqn_any B Q 4 (by omega) (by omega) _ HQ8.out).mono ?_
  rintro e w9 ⟨F, rfl, hF, hq8, hu8⟩
  have HQ9 := Lib.hid hq8
  have HU9 := Lib.hid (HU8.out.trans hu8 (fun _ _ h => h))
  have HZ9 := Lib.hid (row_upd hu8 hQR HZ8.out)
  clear hq8 hu8 HQ8 HU8 HZ8
  have hwF : IntKind.i64.wrap ((F : Int) + 1) = (F : Int) + 1 := by rw [IntKind.wrap_i64]; omega
  go_wp2_with fail
  refine (seqn_any B Q 2 (by omega) (by omega) _ HQ9.out).mono ?_
  rintro e w10 ⟨G, rfl, hG, hq9, hu9⟩
  have HQ10 := Lib.hid hq9
  have HU10 := Lib.hid (HU9.out.trans hu9 (fun _ _ h => h))
  have HZ10 := Lib.hid (row_upd hu9 hQR HZ9.out)
  clear hq9 hu9 HQ9 HU9 HZ9
  obtain ⟨kd, hkd⟩ : ∃ kd : Bool, ((G : Int) == 1) = kd := ⟨_, rfl⟩
  have hkd2 : (G == 1) = kd := by rw [← hkd]; rcases (by omega : G = 0 ∨ G = 1) with h | h <;> rw [h] <;> rfl
  have hB := Try.builtC X Y Z (D + 1) (F + 1) kd HXl.out HYl.out HZl.out
  have eD : ((D + 1 : Nat) : Int) = (D : Int) + 1 := by omega
  have eF : ((F + 1 : Nat) : Int) = (F : Int) + 1 := by omega
  rw [eD, eF] at hB
  have HBu := Lib.hid hB
  have hsz : (cfgL X Y Z (D + 1) (F + 1) kd).toArray.size = 52 := cfgL_length HXl.out HYl.out HZl.out
  have HSz := Lib.hid hsz
  have HOne := Lib.hid (all_oneCell_toArray (cfgL_one (A := X) (B := Y) (C := Z) (D := D + 1) (F := F + 1) (kd := kd)))
  clear hB hsz eD eF
  go_wp2_with (first
    | (refine wpList_buildS (cells := (cfgL X Y Z (D + 1) (F + 1) kd).toArray) rfl rfl (by have h0 := HBu.out; go_simp) ?_)
    | (with_reducible refine wpList_storeS rfl rfl Try.cfgI rfl rfl HZ10.out (by with_unfolding_all rfl) HSz.out HOne.out ?_; intro wL hXL huL))
  refine bodyPost_ret (v := .agg (cfgL X Y Z (D + 1) (F + 1) kd).toArray) (results_S rfl Try.cfgI rfl hXL.out HSz.out) rfl ?_
  exact ⟨X, Y, Z, D + 1, F + 1, kd, rfl, HX.out, HY.out, HZ.out, HXl.out, HYl.out, HZl.out, ⟨by omega, by omega⟩, ⟨by omega, by omega⟩, HQ10.out.below (huL.below (B := R) (Nat.le_of_lt (lt_of_heap HZ10.out)) (fun k hk => by rw [hk]; exact Nat.le_refl _)) (by have := HQ.out.lt; omega), HU10.out.trans huL (fun j hj e => by omega)⟩
end Go.Proofs.Ytpkmdnfkeebgbaa

/- A Maker that is being made. Conditions stand as premises. -/
namespace Go.Proofs.Ytpkmdnfkeebgbaa
open Go.ChangeShapes Go.WideShapes Go.ChangeAt Go.RowKit
set_option linter.unusedVariables false
set_option linter.unusedSimpArgs false
def mk0 (cfg hd : List Value) (b : SL) (bl : List Int) : Mk := ⟨cfg, hd, 0, b, (none, 0, 0), (none, 0, 0), (none, 0, 0), bl, [], [], []⟩
structure NM (w0 : World) (M CB : Nat) (cfg hd : List Value) (b : SL) (bl : List Int) (w : World) : Prop where
  row : w.heap[M]? = some (.cells (mkL (mk0 cfg hd b bl)).toArray 96 (0, 0))
  cl : cfg.length = 52
  hl : hd.length = 90
  bB : IsB bl
  bO : Own (Value.int .u8) 5 w w0.heap.size b.1 b.2.1 b.2.2 bl
  nb : M ∉ blk b.1
  cb : w.heap[CB]? = some (.cells cfg.toArray 83 (0, 0))
  nc : CB ∉ blk b.1
  ne : CB ≠ M
  bM : w0.heap.size ≤ M
  bC : w0.heap.size ≤ CB
  bel : Below w0.heap.size w0 w
section
variable {w0 w w' : World} {M CB : Nat} {cfg hd : List Value} {b : SL} {bl : List Int}
theorem NM.below (h : NM w0 M CB cfg hd b bl w) (hb : Below w.heap.size w w') : NM w0 M CB cfg hd b bl w' :=
  { h with row := row_below hb (lt_of_heap h.row) h.row, bO := h.bO.mono hb, cb := row_below hb (lt_of_heap h.cb) h.cb, bel := h.bel.trans (hb.mono h.bel.size) }
theorem NM.c143 (h : NM w0 M CB cfg hd b bl w) : w.cell? ⟨M, 143, none⟩ = some (.slice b.1 b.2.1 b.2.2) := cell_of_heap h.row 143 _ (mkL_get (x := mk0 cfg hd b bl) h.cl h.hl 1)
theorem NM.free (h : NM w0 M CB cfg hd b bl w) (j : Nat) : w.frozen? ⟨M, j, none⟩ = false := free_of_heap h.row j
theorem NM.cH (h : NM w0 M CB cfg hd b bl w) (i : Nat) (hi : i < 90) : ∃ v, hd[i]? = some v ∧ w.cell? ⟨M, 52 + i, none⟩ = some v := by
  obtain ⟨v, hv⟩ : ∃ v, hd[i]? = some v := ⟨_, List.getElem?_eq_getElem (by rw [h.hl]; exact hi)⟩
  exact ⟨v, hv, cell_of_heap h.row (52 + i) v (mkL_hget (x := mk0 cfg hd b bl) h.cl i v hv)⟩
theorem NM.cC (h : NM w0 M CB cfg hd b bl w) (i : Nat) (v : Value) (hv : cfg[i]? = some v) : w.cell? ⟨CB, i, none⟩ = some v := cell_of_heap h.cb i v (by simpa using hv)
/-- A cell of the head. -/
theorem NM.set (h : NM w0 M CB cfg hd b bl w) (i : Nat) (hi : i < 90) (v : Value) : NM w0 M CB cfg (hd.set i v) b bl (w.setCell ⟨M, 52 + i, none⟩ v) := by
  have hu := Upd.setCell (F := (· = M)) w ⟨M, 52 + i, none⟩ v rfl
  have hr := row_set h.row (52 + i) v
  rw [mkL_hd (x := mk0 cfg hd b bl) h.cl i (by show i < hd.length; rw [h.hl]; exact hi)] at hr
  exact { h with row := hr, hl := by rw [List.length_set]; exact h.hl, bO := h.bO.upd hu (fun z hz e => h.nb (mem_blk.2 ⟨z, hz, e⟩)), cb := row_upd hu h.ne h.cb, bel := h.bel.trans (hu.below h.bel.size (fun k e => by rw [e]; exact h.bM)) }
/-- The head, whole. -/
theorem NM.all (h : NM w0 M CB cfg hd b bl w) (hd' : List Value) (hl : hd'.length = 90) : NM w0 M CB cfg hd' b bl (w.setCells M 52 hd') := by
  have hu := upd_sets M hd' 52 w
  have hr := row_sets hd' 52 w _ h.row (by rw [mkL_size (x := mk0 cfg hd b bl) h.cl h.hl, hl]; omega)
  have he : ((mkL (mk0 cfg hd b bl)).toArray.toList.take 52 ++ (hd' ++ (mkL (mk0 cfg hd b bl)).toArray.toList.drop (52 + hd'.length))) = mkL (mk0 cfg hd' b bl) := by
    have hc := h.cl
    have hh := h.hl
    unfold mkL mk0
    simp only [hl]
    rw [List.take_append, List.take_of_length_le (by omega), hc, List.drop_append, List.drop_of_length_le (by omega), List.nil_append, hc, List.drop_append, List.drop_of_length_le (by omega), List.nil_append, hh]
    simp
  rw [he] at hr
  exact { h with row := hr, hl := hl, bO := h.bO.upd hu (fun z hz e => h.nb (mem_blk.2 ⟨z, hz, e⟩)), cb := row_upd hu h.ne h.cb, bel := h.bel.trans (hu.below h.bel.size (fun k e => by rw [e]; exact h.bM)) }
theorem NM.setN {co inc st : Int} {I Ns : List Int} {ta ti te : Int} (h : NM w0 M CB cfg (headL co inc st I Ns ta ti te) b bl w) (hI : I.length = 64) (hN : Ns.length = 20) (k : Nat) (hk : k < 20) (v : Int) : NM w0 M CB cfg (headL co inc st I (Ns.set k v) ta ti te) b bl (w.setCell ⟨M, 119 + k, none⟩ (.int .u64 v)) := by
  have h1 := h.set (67 + k) (by omega) (.int .u64 v)
  have h2 := headL_setN (co := co) (inc := inc) (st := st) (Ns := Ns) (ta := ta) (ti := ti) (te := te) hI k (by omega) v
  rw [List.setIfInBounds_toArray] at h2
  rw [List.toArray_inj h2, show 52 + (67 + k) = 119 + k by omega] at h1
  exact h1
theorem NM.there (h : NM w0 M CB cfg hd b bl w) : w.there M 52 90 := fun j hj => by
  have hs := mkL_size (x := mk0 cfg hd b bl) h.cl h.hl
  exact ⟨by rw [cell_of_heap h.row (52 + j) _ (Array.getElem?_eq_getElem (by omega))]; rfl, h.free (52 + j)⟩
/-- Its bytes have grown. -/
theorem NM.newB (h : NM w0 M CB cfg hd b bl w) {a' : Option Addr} {n' c' : Nat} {l' : List Int} (ho : Own (Value.int .u8) 5 w' w0.heap.size a' n' c' l') (hl : IsB l') (hu : Upd (· ∈ blk b.1) w w') (hn : ∀ k ∈ blk a', k ∈ blk b.1 ∨ w.heap.size ≤ k) :
    NM w0 M CB cfg hd (a', n', c') l' (w'.setCell ⟨M, 143, none⟩ (.slice a' n' c')) := by
  have hML := lt_of_heap h.row
  have hCL := lt_of_heap h.cb
  have hu2 := Upd.setCell (F := (· = M)) w' ⟨M, 143, none⟩ (.slice a' n' c') rfl
  have hr := row_set (row_upd hu h.nb h.row) 143 (.slice a' n' c')
  rw [mkL_tail (x := mk0 cfg hd b bl) h.cl h.hl 1] at hr
  have nMa : M ∉ blk a' := fun e => by rcases hn M e with e | e; exact h.nb e; omega
  have nCa : CB ∉ blk a' := fun e => by rcases hn CB e with e | e; exact h.nc e; omega
  exact { row := hr, cl := h.cl, hl := h.hl, bB := hl, bO := ho.upd hu2 (fun z hz e => nMa (mem_blk.2 ⟨z, hz, e⟩)), nb := nMa, cb := row_upd hu2 h.ne (row_upd hu h.nc h.cb), nc := nCa, ne := h.ne, bM := h.bM, bC := h.bC
          bel := h.bel.trans ((hu.below h.bel.size (fun k hk => by obtain ⟨z, hz, rfl⟩ := mem_blk.1 hk; exact (h.bO.lt z hz).1)).trans (hu2.below (Nat.le_trans h.bel.size hu.size) (fun k e => by rw [e]; exact h.bM))) }
/-- It is made. -/
theorem NM.mi {D F : Nat} {kd : Bool} (h : NM w0 M CB cfg hd b bl w) (hc : CfgOK cfg D F kd) (hh : HdI hd D F 0) : MI w0.heap.size M D F kd 0 (mk0 cfg hd b bl) w :=
  { row := h.row, bM := h.bM, cfg := hc, hd := hh, dp := ⟨by show (0:Int) ≤ 0; omega, by show (0:Int) ≤ _; omega⟩, bB := h.bB, bO := h.bO, dO := OwnK.nil _ _ _ _ _, fO := OwnK.nil _ _ _ _ _, mO := Own.nil _ _ _ _
    mU := fun v hv => (by cases hv), arr := fun k hk => (by cases hk), nb := h.nb, nd := fun e => (by simp [mk0, blk] at e), nf := fun e => (by simp [mk0, blk] at e), nm := fun e => (by simp [mk0, blk] at e)
    bd := fun k _ e => (by simp [mk0, blk] at e), bf := fun k _ e => (by simp [mk0, blk] at e), bm := fun k _ e => (by simp [mk0, blk] at e), df := fun k e => (by simp [mk0, blk] at e), dm := fun k e => (by simp [mk0, blk] at e), fm := fun k e => (by simp [mk0, blk] at e) }
end
theorem toList_madeCells_two (v : Value) (n : Nat) : (madeCells #[v, v] n).toList = List.replicate n v := by
  apply List.ext_getElem?
  intro j
  by_cases hj : j < n
  · rcases (by omega : j % 2 = 0 ∨ j % 2 = 1) with h | h <;> simp [madeCells, hj, h]
  · simp [madeCells, hj]
theorem flat2_zeros (n : Nat) : flat2 (List.replicate n ((0, 0) : PR)) = List.replicate (n * 2) (.int .u64 0) := by
  induction n with
  | zero => rfl
  | succ n ih =>
    rw [List.replicate_succ, show flat2 (((0, 0) : PR) :: List.replicate n (0, 0)) = .int .u64 0 :: .int .u64 0 :: flat2 (List.replicate n (0, 0)) from rfl, ih, Nat.succ_mul, List.replicate_succ, List.replicate_succ]
section
variable {P : Program} {w : World} {ops : Array Oper} {rest : List Oper} {o : Oper} {a : Act} {Q : Exit → Act → World → Prop}
theorem step_makePD {K : Act → World → Prop} {E : Prop} {d : Option Nat} (hd : o.dst = d) (hgd : o.guard = none) {l c : Operand} {t : TypeId} (hop : o.op = Op.makeSlice t l c)
    {e : TypeId} {bytes : Nat} (hI : TwoInfo P t e bytes) (hz0 : (P.info? e).map (fun i => i.zero) = some (some (.agg #[.int .u64 0, .int .u64 0]))) {n : Nat} (hl : a.eval l = .int .i64 (n : Int)) (hc : a.eval c = .int .i64 (n : Int)) (b2 : bytes * n ≤ 281474976710656) (b3 : n ≤ 281474976710656)
    (h : ∀ w', OwnP e w' w.heap.size (some ⟨w.heap.size, 0, none⟩) n n (List.replicate n (0, 0)) → Below w.heap.size w w' → K (a.put d (.slice (some ⟨w.heap.size, 0, none⟩) n n)) w') :
    if Region.wanted o (yielded ops a.tmps) = true then Oper.wp P o a w K Q else E := by
  subst hd
  have hw : Region.wanted o (yielded ops a.tmps) = true := by simp [Region.wanted, hgd]
  rw [if_pos hw]
  obtain ⟨ht, i, z, hi, hz, hsize, hby, hzs⟩ := hI
  have hze : z = .agg #[.int .u64 0, .int .u64 0] := by
    rw [hi] at hz0
    simp only [Option.map_some, Option.some.injEq] at hz0
    rw [hz] at hz0
    exact Option.some.inj hz0
  subst hze
  obtain ⟨w', hrun, r1, r2⟩ := run_make_full (P := P) w w.heap.size t e i _ 2 ht hi hz hsize .i64 .i64 n (by rw [hby]; exact b2) (by unfold maxLen; omega) (Nat.le_refl _)
  rw [show (Value.agg #[.int .u64 0, .int .u64 0]).cells = #[.int .u64 0, .int .u64 0] from rfl, toList_madeCells_two, ← flat2_zeros] at r1
  unfold Oper.wp
  simp [execOp, hop, hl, hc, hrun, Result.andThen]
  exact h w' ⟨by simp, r1⟩ ((Below.refl _ _).grown r2 (Nat.le_refl _) (fun k hk => by cases hk))
theorem step_appAtD {α : Type} {enc : α → Value} {K : Act → World → Prop} {E : Prop} {d : Option Nat} (hd : o.dst = d) (hgd : o.guard = none) {s x : Operand} {t : TypeId} (ho : o.op = .call { callee := .builtin .append, args := #[s, x], argTypes := #[t, t] })
    {base : Nat} {e : TypeId} {bytes : Nat} (hI : OneInfo P t e bytes) {sa xa : Option Addr} {sn sc xn xc : Nat} (hs : a.eval s = .slice sa sn sc) (hx : a.eval x = .slice xa xn xc)
    {l1 l2 : List α} (hown : Own enc e w base sa sn sc l1) (hr : Rd enc w xa xn xc l2) (h1 : ∀ y, (enc y).oneCell' = true)
    (hfit : (sn + xn) * bytes ≤ 140737488355328) (hfit2 : sn + xn ≤ 140737488355328) (hbase : base ≤ w.heap.size)
    (h : ∀ a' c' w', Own enc e w' base a' (sn + xn) c' (l1 ++ l2) → Upd (· ∈ blk sa) w w' → (∀ k ∈ blk a', k ∈ blk sa ∨ w.heap.size ≤ k) → K (a.put d (.slice a' (sn + xn) c')) w') :
    if Region.wanted o (yielded ops a.tmps) = true then Oper.wp P o a w K Q else E := by
  subst hd
  exact step_appAt hgd ho hI hs hx hown hr h1 hfit hfit2 hbase h
end
theorem putTab_kind {kind : Int} (h : tableF kind = true) : 1 ≤ kind ∧ kind ≤ 7 := by
  unfold tableF at h
  simp at h
  omega
theorem putTab_len (kind : Int) (n : Nat) (h : tableF kind = true) : (putTabL kind (List.replicate n (0, 0))).length = 16 + 16 * n := by
  unfold putTabL putO
  rw [if_pos h, if_pos (putTab_kind h), objL_length, numsL_length, flatN_length, List.length_replicate]
  omega
theorem putTab_isB (kind : Int) (n : Nat) (h : tableF kind = true) : IsB (putTabL kind (List.replicate n (0, 0))) := by
  unfold putTabL putO
  rw [if_pos h, if_pos (putTab_kind h)]
  exact objL_isB (putTab_kind h) (numsL_isB _)
end Go.Proofs.Ytpkmdnfkeebgbaa
