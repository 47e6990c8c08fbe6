/- What the document's own HeadBytes computes: the same bytes. Conditions stand as premises. -/
import Derived.Test.YtpkmdnfkeebgbaaHeadPut
import Derived.Test.YtpkmdnfkeebgbaaRefNumsA
import Derived.Test.YtpkmdnfkeebgbaaAppGrow
namespace Go.Proofs.Ytpkmdnfkeebgbaa
open Go.ChangeShapes Go.WideShapes Go.ChangeAt Go.RowKit
set_option linter.unusedVariables false
set_option linter.unusedSimpArgs false

theorem low4_any (v : Int) (w : World) (hv : U32 v) :
    Calls Try.prog 27 #[.int .u64 v, .int .i64 4] w fun e w' => ∃ a c, e = .returned (.slice a 4 c) ∧ OwnB 5 w' w.heap.size a 4 c (digs 4 v) ∧ Below w.heap.size w w' := by
  refine (low_any v 4 w ⟨hv.1, by have := hv.2; omega⟩ (by omega)).mono ?_
  rintro e w' ⟨a, c, rfl, ho, hb⟩
  rw [digs_length] at ho ⊢
  exact ⟨a, c, rfl, ho, hb⟩
theorem numsn_any (a2 : Option Addr) (n2 c2 m : Nat) (vs : List Int) (w : World) (hr2 : Rd (Value.int .u64) w a2 n2 c2 vs) (hv : ∀ v ∈ vs, U64 v) (hlen2 : n2 ≤ 1000) (hm : m = 8 * n2) :
    Calls Try.prog 28 #[.slice a2 n2 c2] w fun e w' => ∃ a c, e = .returned (.slice a m c) ∧ OwnB 5 w' w.heap.size a m c (numsL vs) ∧ Below w.heap.size w w' := by
  refine (nums_any a2 n2 c2 vs w hr2 hv hlen2).mono ?_
  rintro e w' ⟨a, c, rfl, ho, hb⟩
  have hl : (numsL vs).length = m := by rw [numsL_length, hr2.1, hm]
  rw [hl] at ho ⊢
  exact ⟨a, c, rfl, ho, hb⟩
theorem headr_ta {w : World} {S : Nat} {co inc st : Int} {I Ns : List Int} {ta ti te : Int} {T : TypeId} (h : w.heap[S]? = some (.cells (headL co inc st I Ns ta ti te).toArray T (0, 0))) (hI : I.length = 64) (hN : Ns.length = 20) : w.cell? ⟨S, 87, none⟩ = some (.int .u32 ta) := cell_of_heap h 87 _ (headL_ta hI hN)
theorem headr_ti {w : World} {S : Nat} {co inc st : Int} {I Ns : List Int} {ta ti te : Int} {T : TypeId} (h : w.heap[S]? = some (.cells (headL co inc st I Ns ta ti te).toArray T (0, 0))) (hI : I.length = 64) (hN : Ns.length = 20) : w.cell? ⟨S, 88, none⟩ = some (.int .u32 ti) := cell_of_heap h 88 _ (headL_ti hI hN)
theorem headr_te {w : World} {S : Nat} {co inc st : Int} {I Ns : List Int} {ta ti te : Int} {T : TypeId} (h : w.heap[S]? = some (.cells (headL co inc st I Ns ta ti te).toArray T (0, 0))) (hI : I.length = 64) (hN : Ns.length = 20) : w.cell? ⟨S, 89, none⟩ = some (.int .u64 te) := cell_of_heap h 89 _ (headL_te hI hN)
theorem four_ids (I : List Int) (hI : I.length = 64) : idN I 0 ++ idN I 16 ++ idN I 32 ++ idN I 48 = I := by
  have h := take_id I 3
  have h2 := take_id I 2
  have h1 := take_id I 1
  have h0 := take_id I 0
  simp only [Nat.reduceMul, Nat.reduceAdd, List.take_zero, List.nil_append] at h h2 h1 h0
  rw [← h0, ← h1, ← h2, ← h, List.take_of_length_le (by omega)]
theorem headL_nums {w : World} {S : Nat} {co inc st : Int} {I Ns : List Int} {ta ti te : Int} {T : TypeId} (h : w.heap[S]? = some (.cells (headL co inc st I Ns ta ti te).toArray T (0, 0))) (hI : I.length = 64) (n : Nat) (hN : Ns.length = n) (hn : n ≤ 1000) : Rd (Value.int .u64) w (some ⟨S, 67, none⟩) n n Ns :=
  ⟨hN, Nat.le_refl _, by unfold maxLen; omega, fun h => (by cases h), .inr ⟨S, 67, rfl, lt_of_heap h, fun i x hx => cell_of_heap h (67 + i) _ (headL_N hI i x hx)⟩⟩

set_option maxRecDepth 100000 in
set_option maxHeartbeats 4000000 in
theorem refheadb_any (co inc st : Int) (I Ns : List Int) (ta ti te d : Int) (w : World) (hI : I.length = 64) (hN : Ns.length = 20) (hIB : IsB I) (h1 : U32 co) (h2 : U32 inc) (h3 : ∀ v ∈ Ns, U64 v) (h4 : U32 ta) (h5 : U32 ti) (h6 : U64 te) (h7 : U64 d) :
    Calls Try.prog 15 #[.agg (headL co inc st I Ns ta ti te).toArray, .int .u64 d] w (NewB w.heap.size w (headB co inc st I (Ns ++ [d]) ta ti te)) := by
  have HI := Lib.hid hI
  have HN := Lib.hid hN
  have HIB := Lib.hid hIB
  have H1 := Lib.hid h1
  have H2 := Lib.hid h2
  have H3 := Lib.hid h3
  have H4 := Lib.hid h4
  have H5 := Lib.hid h5
  have H6 := Lib.hid h6
  have H7 := Lib.hid h7
  obtain ⟨c0, c1⟩ := h1
  obtain ⟨n0, n1⟩ := h2
  obtain ⟨a0, a1⟩ := h4
  obtain ⟨t0, t1⟩ := h5
  have HW1 := Lib.hid (show IntKind.u64.wrap co = co by rw [IntKind.wrap_u64]; omega)
  have HW2 := Lib.hid (show IntKind.u64.wrap inc = inc by rw [IntKind.wrap_u64]; omega)
  have HW4 := Lib.hid (show IntKind.u64.wrap ta = ta by rw [IntKind.wrap_u64]; omega)
  have HW5 := Lib.hid (show IntKind.u64.wrap ti = ti by rw [IntKind.wrap_u64]; omega)
  clear hI hN hIB h3 h6 h7
  go_enter Try.func15, Try.ntmps15
  go_upto_region 1 with fail
  have hX1 := heap_alloc_new w (.cells (headL co inc st I Ns ta ti te).toArray 34)
  have HB1 := Lib.hid (below_alloc w (.cells (headL co inc st I Ns ta ti te).toArray 34))
  generalize w.alloc (.cells (headL co inc st I Ns ta ti te).toArray 34) = w1 at hX1 HB1 ⊢
  obtain ⟨S, hS⟩ : ∃ S, w.heap.size = S := ⟨_, rfl⟩
  have HS := Lib.hid hS
  rw [hS] at hX1 ⊢
  clear hS
  have hSw1 := lt_of_heap hX1
  have HX1 := Lib.hid hX1
  have i0 := headl_0 hX1
  clear hX1
  have kc := Lib.run_convert_bytes_const (P := Try.prog) w1 22 5 #[.int .u8 76, .int .u8 80, .int .u8 75, .int .u8 83, .int .u8 72, .int .u8 72, .int .u8 82, .int .u8 72] 8 8 Try.underlying22 Try.underlying5
  have HL8 := Lib.hid (RdB.marked w1 signL 5 (8, 9) #[.int .u8 76, .int .u8 80, .int .u8 75, .int .u8 83, .int .u8 72, .int .u8 72, .int .u8 82, .int .u8 72] 8 8 rfl rfl (by omega) (by decide) (by unfold signL IsB; simp))
  have HBA := Lib.hid (below_alloc w1 (.cells #[.int .u8 76, .int .u8 80, .int .u8 75, .int .u8 83, .int .u8 72, .int .u8 72, .int .u8 82, .int .u8 72] 5 (8, 9)))
  have hY1 : (w1.alloc (.cells #[.int .u8 76, .int .u8 80, .int .u8 75, .int .u8 83, .int .u8 72, .int .u8 72, .int .u8 82, .int .u8 72] 5 (8, 9))).cell? ⟨S, 0, none⟩ = some (.int .u32 co) := bcell HBA.out hSw1 i0
  go_upto_region 2 with (first
    | (go_at_call 27; refine (low4_any co _ H1.out).mono ?_; rintro e w2 ⟨a2, c2, rfl, ho2, hb2⟩; have HB2 := Lib.hid (HBA.out.trans (hb2.mono HBA.out.size)); have HR2 := Lib.hid ho2.rd; have HL2 := Lib.hid (HL8.out.mono hb2); clear ho2 hb2 kc hY1 i0)
    | (at_builtin; go_must (refine wpList_appGrow rfl rfl Try.oneB rfl rfl HL2.out.2 HR2.out.2 (fun _ => rfl) (by omega) (by omega) (by omega) ?_); intro a3 c3 w3 ho3 hb3))
  have HB3 := Lib.hid (HB2.out.trans (hb3.mono HB2.out.size))
  have HO3 := Lib.hid (show OwnB 5 w3 w1.heap.size a3 12 c3 (signL ++ digs 4 co) from ⟨HL2.out.1.append HR2.out.1, ho3.base HB2.out.size⟩)
  have i1 := headl_1 (row_below HB3.out hSw1 HX1.out)
  clear ho3 hb3 HL2 HR2 HB2 HL8 HBA
  go_upto_region 3 with (first
    | (go_at_call 27; refine (low4_any inc _ H2.out).mono ?_; rintro e w4 ⟨a4, c4, rfl, ho4, hb4⟩; have HB4 := Lib.hid (HB3.out.trans (hb4.mono HB3.out.size)); have HR4 := Lib.hid ho4.rd; have HO4 := Lib.hid (HO3.out.mono hb4); clear ho4 hb4)
    | (at_builtin; go_must (refine wpList_appOwn rfl rfl Try.oneB rfl rfl HO4.out.2 HR4.out.2 (fun _ => rfl) (by omega) (by omega) HB4.out.size ?_); intro a5 c5 w5 ho5 hb5 _ _))
  have HB5 := Lib.hid (HB4.out.trans hb5)
  have HO5 := Lib.hid ho5
  have i2 := headl_2 (row_below HB5.out hSw1 HX1.out)
  clear ho5 hb5 HR4 HO4 HB4 HO3 HB3 i1
  have HRL := Lib.hid (Rd.lits (Value.int .u8) 5 w5 [st % 256, 0, 0, 0, 0, 0, 0, 0] #[.int .u8 (st % 256), .int .u8 0, .int .u8 0, .int .u8 0, .int .u8 0, .int .u8 0, .int .u8 0, .int .u8 0] 8 rfl rfl (by omega))
  have HBL := Lib.hid (below_alloc w5 (.cells #[.int .u8 (st % 256), .int .u8 0, .int .u8 0, .int .u8 0, .int .u8 0, .int .u8 0, .int .u8 0, .int .u8 0] 5))
  have hz5 := Nat.le_trans HB5.out.size HBL.out.size
  go_upto_region 4 with (at_builtin; go_must (refine wpList_appOwn rfl rfl Try.oneB rfl rfl (HO5.out.mono HBL.out) HRL.out (fun _ => rfl) (by omega) (by omega) hz5 ?_); intro a6 c6 w6 ho6 hb6 _ _)
  have HB6 := Lib.hid ((HB5.out.trans (HBL.out.mono HB5.out.size)).trans hb6).drew
  have HO6 := Lib.hid (show Own (Value.int .u8) 5 w6.drew w1.heap.size a6 24 c6 (headA co inc st) from Own.mono ho6 (below_drew w6))
  clear ho6 hb6 HRL HBL HO5 HB5 hz5 i2
  have hC : w6.drew.heap[S]? = some (.cells (headL co inc st I Ns ta ti te).toArray 34 (0, 0)) := row_below HB6.out hSw1 HX1.out
  refine wp_region_held (S := fun w' => w'.heap[S]? = some (.cells (headL co inc st I Ns ta ti te).toArray 34 (0, 0))) (by kernel_rfl) ?_
  change wpAnyH _ _ _ _ _ _ _ _ w6.drew
  refine held_take 0 (d := some 25) (v := (.slice a6 24 c6)) rfl rfl (by kernel_rfl) (by kernel_rfl) (by kernel_rfl) (fun _ _ _ h => h) hC (by kernel_rfl) (fun w hSw => by have x0 := hSw; go_simp) ?_
  try simp only [Act.put, List.setIfInBounds_toArray, List.set_cons_zero, List.set_cons_succ]
  refine held_take 1 (d := some 26) (v := (.pointer (some ⟨S, 3, none⟩))) rfl rfl (by kernel_rfl) (by kernel_rfl) (by kernel_rfl) (fun _ _ _ h => h) hC (by kernel_rfl) (fun w hSw => by have x0 := hSw; go_simp) ?_
  try simp only [Act.put, List.setIfInBounds_toArray, List.set_cons_zero, List.set_cons_succ]
  refine held_take 2 (d := some 27) (v := (.slice (some ⟨S, 3, none⟩) 16 16)) rfl rfl (by kernel_rfl) (by kernel_rfl) (by kernel_rfl) (fun _ _ _ h => h) hC (by kernel_rfl) (fun w hSw => by have x0 := hSw; go_simp) ?_
  try simp only [Act.put, List.setIfInBounds_toArray, List.set_cons_zero, List.set_cons_succ]
  refine held_take 4 (d := some 29) (v := (.pointer (some ⟨S, 19, none⟩))) rfl rfl (by kernel_rfl) (by kernel_rfl) (by kernel_rfl) (fun _ _ _ h => h) hC (by kernel_rfl) (fun w hSw => by have x0 := hSw; go_simp) ?_
  try simp only [Act.put, List.setIfInBounds_toArray, List.set_cons_zero, List.set_cons_succ]
  refine held_take 5 (d := some 30) (v := (.slice (some ⟨S, 19, none⟩) 16 16)) rfl rfl (by kernel_rfl) (by kernel_rfl) (by kernel_rfl) (fun _ _ _ h => h) hC (by kernel_rfl) (fun w hSw => by have x0 := hSw; go_simp) ?_
  try simp only [Act.put, List.setIfInBounds_toArray, List.set_cons_zero, List.set_cons_succ]
  refine held_take 7 (d := some 32) (v := (.pointer (some ⟨S, 35, none⟩))) rfl rfl (by kernel_rfl) (by kernel_rfl) (by kernel_rfl) (fun _ _ _ h => h) hC (by kernel_rfl) (fun w hSw => by have x0 := hSw; go_simp) ?_
  try simp only [Act.put, List.setIfInBounds_toArray, List.set_cons_zero, List.set_cons_succ]
  refine held_take 8 (d := some 33) (v := (.slice (some ⟨S, 35, none⟩) 16 16)) rfl rfl (by kernel_rfl) (by kernel_rfl) (by kernel_rfl) (fun _ _ _ h => h) hC (by kernel_rfl) (fun w hSw => by have x0 := hSw; go_simp) ?_
  try simp only [Act.put, List.setIfInBounds_toArray, List.set_cons_zero, List.set_cons_succ]
  refine held_take 10 (d := some 35) (v := (.pointer (some ⟨S, 51, none⟩))) rfl rfl (by kernel_rfl) (by kernel_rfl) (by kernel_rfl) (fun _ _ _ h => h) hC (by kernel_rfl) (fun w hSw => by have x0 := hSw; go_simp) ?_
  try simp only [Act.put, List.setIfInBounds_toArray, List.set_cons_zero, List.set_cons_succ]
  refine held_take 11 (d := some 36) (v := (.slice (some ⟨S, 51, none⟩) 16 16)) rfl rfl (by kernel_rfl) (by kernel_rfl) (by kernel_rfl) (fun _ _ _ h => h) hC (by kernel_rfl) (fun w hSw => by have x0 := hSw; go_simp) ?_
  try simp only [Act.put, List.setIfInBounds_toArray, List.set_cons_zero, List.set_cons_succ]
  refine held_one 3 rfl (by kernel_rfl) (fun K hK => ?_)
  have HS0 := Lib.hid ((row_range (o := 3) hC (idN I 0) (fun j v h => headL_id 0 j v h)).rd (idN_length HI.out _ (by omega)) (lt_of_heap hC) (by omega))
  refine step_appOwn rfl rfl Try.oneB rfl rfl HO6.out HS0.out (fun _ => rfl) (by omega) (by omega) HB6.out.size ?_
  intro a7 c7 w7 ho7 hb7 _ _
  have HB7 := Lib.hid (HB6.out.trans hb7)
  have HO7 := Lib.hid (show Own (Value.int .u8) 5 w7 w1.heap.size a7 40 c7 (headA co inc st ++ idN I 0) from ho7)
  have hC7 := row_below HB7.out hSw1 HX1.out
  clear hC ho7 hb7 HS0 HO6 HB6
  refine hK _ _ hC7 ?_
  clear hK K
  try simp only [Act.put, List.setIfInBounds_toArray, List.set_cons_zero, List.set_cons_succ]
  refine held_one 6 rfl (by kernel_rfl) (fun K hK => ?_)
  have HS1 := Lib.hid ((row_range (o := 19) hC7 (idN I 16) (fun j v h => headL_id 16 j v h)).rd (idN_length HI.out _ (by omega)) (lt_of_heap hC7) (by omega))
  refine step_appOwn rfl rfl Try.oneB rfl rfl HO7.out HS1.out (fun _ => rfl) (by omega) (by omega) HB7.out.size ?_
  intro a8 c8 w8 ho8 hb8 _ _
  have HB8 := Lib.hid (HB7.out.trans hb8)
  have HO8 := Lib.hid (show Own (Value.int .u8) 5 w8 w1.heap.size a8 56 c8 (headA co inc st ++ idN I 0 ++ idN I 16) from ho8)
  have hC8 := row_below HB8.out hSw1 HX1.out
  clear hC7 ho8 hb8 HS1 HO7 HB7
  refine hK _ _ hC8 ?_
  clear hK K
  try simp only [Act.put, List.setIfInBounds_toArray, List.set_cons_zero, List.set_cons_succ]
  refine held_one 9 rfl (by kernel_rfl) (fun K hK => ?_)
  have HS2 := Lib.hid ((row_range (o := 35) hC8 (idN I 32) (fun j v h => headL_id 32 j v h)).rd (idN_length HI.out _ (by omega)) (lt_of_heap hC8) (by omega))
  refine step_appOwn rfl rfl Try.oneB rfl rfl HO8.out HS2.out (fun _ => rfl) (by omega) (by omega) HB8.out.size ?_
  intro a9 c9 w9 ho9 hb9 _ _
  have HB9 := Lib.hid (HB8.out.trans hb9)
  have HO9 := Lib.hid (show Own (Value.int .u8) 5 w9 w1.heap.size a9 72 c9 (headA co inc st ++ idN I 0 ++ idN I 16 ++ idN I 32) from ho9)
  have hC9 := row_below HB9.out hSw1 HX1.out
  clear hC8 ho9 hb9 HS2 HO8 HB8
  refine hK _ _ hC9 ?_
  clear hK K
  try simp only [Act.put, List.setIfInBounds_toArray, List.set_cons_zero, List.set_cons_succ]
  refine held_one 12 rfl (by kernel_rfl) (fun K hK => ?_)
  have HS3 := Lib.hid ((row_range (o := 51) hC9 (idN I 48) (fun j v h => headL_id 48 j v h)).rd (idN_length HI.out _ (by omega)) (lt_of_heap hC9) (by omega))
  refine step_appOwn rfl rfl Try.oneB rfl rfl HO9.out HS3.out (fun _ => rfl) (by omega) (by omega) HB9.out.size ?_
  intro a10 c10 w10 ho10 hb10 _ _
  have HB10 := Lib.hid (HB9.out.trans hb10)
  have HO10 := Lib.hid (show Own (Value.int .u8) 5 w10 w1.heap.size a10 88 c10 (headA co inc st ++ idN I 0 ++ idN I 16 ++ idN I 32 ++ idN I 48) from ho10)
  have hC10 := row_below HB10.out hSw1 HX1.out
  clear hC9 ho10 hb10 HS3 HO9 HB9
  refine hK _ _ hC10 ?_
  clear hK K
  try simp only [Act.put, List.setIfInBounds_toArray, List.set_cons_zero, List.set_cons_succ]
  refine held_take 13 (d := some 5) (v := (.slice a10 88 c10)) rfl rfl (by kernel_rfl) (by kernel_rfl) (by kernel_rfl) (fun _ _ _ h => h) hC10 (by kernel_rfl) (fun w hSw => by clear hSw; go_simp) ?_
  try simp only [Act.put, List.setIfInBounds_toArray, List.set_cons_zero, List.set_cons_succ]
  refine wpAnyH_done (by kernel_rfl) ?_ _
  have HOI := Lib.hid (show Own (Value.int .u8) 5 w10 w1.heap.size a10 88 c10 (headA co inc st ++ I) from by have h := HO10.out; rw [List.append_assoc, List.append_assoc, List.append_assoc] at h; have e := four_ids I HI.out; rw [List.append_assoc, List.append_assoc] at e; rw [e] at h; exact h)
  have HN10 := Lib.hid (headL_nums hC10 HI.out 20 HN.out (by omega))
  clear HO10
  go_upto_region 5 with fail
  go_upto_region 6 with (first
    | (go_at_call 28; with_reducible refine (numsn_any _ 20 20 160 Ns _ HN10.out H3.out (by omega) (by omega)).mono ?_; rintro e w11 ⟨a11, c11, rfl, ho11, hb11⟩; have HB11 := Lib.hid (HB10.out.trans (hb11.mono HB10.out.size)); have HR11 := Lib.hid ho11.rd; have HO11 := Lib.hid (HOI.out.mono hb11); clear ho11 hb11)
    | (at_builtin; refine wpList_appOwn rfl rfl Try.oneB rfl rfl HO13.out HR13.out.2 (fun _ => rfl) (by omega) (by omega) HB13.out.size ?_; intro a14 c14 w14 ho14 hb14 _ _; have HB14 := Lib.hid (HB13.out.trans hb14).drew; have HO14 := Lib.hid (Own.mono ho14 (below_drew w14)); clear ho14 hb14 HR13 HO13 HB13 HB12 HO12)
    | (at_builtin; go_must (refine wpList_appOwn rfl rfl Try.oneB rfl rfl HO11.out HR11.out.2 (fun _ => rfl) (by omega) (by omega) HB11.out.size ?_); intro a12 c12 w12 ho12 hb12 _ _; have HB12 := Lib.hid (HB11.out.trans hb12); have HO12 := Lib.hid ho12; clear ho12 hb12 HR11 HO11 HB11; have HRd := Lib.hid (Rd.one (Value.int .u64) 27 w12 d); have HAd := Lib.hid (below_alloc w12 (.cells #[.int .u64 d] 27)); have HBd := Lib.hid (HB12.out.trans (HAd.out.mono HB12.out.size)); have HOd := Lib.hid (HO12.out.mono HAd.out))
    | (go_at_call 28; with_reducible refine (numsn_any _ 1 1 8 [d] _ HRd.out (by intro v hv; simp at hv; subst hv; exact H7.out) (by omega) (by omega)).mono ?_; rintro e w13 ⟨a13, c13, rfl, ho13, hb13⟩; have HB13 := Lib.hid (HBd.out.trans (hb13.mono HBd.out.size)); have HR13 := Lib.hid ho13.rd; have HO13 := Lib.hid (HOd.out.mono hb13); clear ho13 hb13))
  have hC : w14.drew.heap[S]? = some (.cells (headL co inc st I Ns ta ti te).toArray 34 (0, 0)) := row_below HB14.out hSw1 HX1.out
  refine wp_region_held (S := fun w' => w'.heap[S]? = some (.cells (headL co inc st I Ns ta ti te).toArray 34 (0, 0))) (by kernel_rfl) ?_
  change wpAnyH _ _ _ _ _ _ _ _ w14.drew
  refine held_take 0 (d := some 47) (v := (.slice a14 256 c14)) rfl rfl (by kernel_rfl) (by kernel_rfl) (by kernel_rfl) (fun _ _ _ h => h) hC (by kernel_rfl) (fun w hSw => by have x0 := headr_ta hSw HI.out HN.out; have x1 := headr_ti hSw HI.out HN.out; clear hSw; go_simp) ?_
  try simp only [Act.put, List.setIfInBounds_toArray, List.set_cons_zero, List.set_cons_succ]
  refine held_take 1 (d := some 48) (v := (.pointer (some ⟨S, 87, none⟩))) rfl rfl (by kernel_rfl) (by kernel_rfl) (by kernel_rfl) (fun _ _ _ h => h) hC (by kernel_rfl) (fun w hSw => by have x0 := headr_ta hSw HI.out HN.out; have x1 := headr_ti hSw HI.out HN.out; clear hSw; go_simp) ?_
  try simp only [Act.put, List.setIfInBounds_toArray, List.set_cons_zero, List.set_cons_succ]
  refine held_take 2 (d := some 49) (v := (.int .u32 ta)) rfl rfl (by kernel_rfl) (by kernel_rfl) (by kernel_rfl) (fun _ _ _ h => h) hC (by kernel_rfl) (fun w hSw => by have x0 := headr_ta hSw HI.out HN.out; have x1 := headr_ti hSw HI.out HN.out; clear hSw; go_simp) ?_
  try simp only [Act.put, List.setIfInBounds_toArray, List.set_cons_zero, List.set_cons_succ]
  refine held_take 3 (d := some 50) (v := (.int .u64 ta)) rfl rfl (by kernel_rfl) (by kernel_rfl) (by kernel_rfl) (fun _ _ _ h => h) hC (by kernel_rfl) (fun w hSw => by go_simp; exact HW4.out) ?_
  try simp only [Act.put, List.setIfInBounds_toArray, List.set_cons_zero, List.set_cons_succ]
  refine held_take 6 (d := some 53) (v := (.pointer (some ⟨S, 88, none⟩))) rfl rfl (by kernel_rfl) (by kernel_rfl) (by kernel_rfl) (fun _ _ _ h => h) hC (by kernel_rfl) (fun w hSw => by have x0 := headr_ta hSw HI.out HN.out; have x1 := headr_ti hSw HI.out HN.out; clear hSw; go_simp) ?_
  try simp only [Act.put, List.setIfInBounds_toArray, List.set_cons_zero, List.set_cons_succ]
  refine held_take 7 (d := some 54) (v := (.int .u32 ti)) rfl rfl (by kernel_rfl) (by kernel_rfl) (by kernel_rfl) (fun _ _ _ h => h) hC (by kernel_rfl) (fun w hSw => by have x0 := headr_ta hSw HI.out HN.out; have x1 := headr_ti hSw HI.out HN.out; clear hSw; go_simp) ?_
  try simp only [Act.put, List.setIfInBounds_toArray, List.set_cons_zero, List.set_cons_succ]
  refine held_take 8 (d := some 55) (v := (.int .u64 ti)) rfl rfl (by kernel_rfl) (by kernel_rfl) (by kernel_rfl) (fun _ _ _ h => h) hC (by kernel_rfl) (fun w hSw => by go_simp; exact HW5.out) ?_
  try simp only [Act.put, List.setIfInBounds_toArray, List.set_cons_zero, List.set_cons_succ]
  clear HN10 HOI HRd HAd HBd HOd HB10
  refine held_one 4 rfl (by kernel_rfl) (fun K hK => ?_)
  go_simp
  go_at_call 27
  refine (low4_any ta _ H4.out).mono ?_
  rintro e w15 ⟨a15, c15, rfl, ho15, hb15⟩
  have HB15 := Lib.hid (HB14.out.trans (hb15.mono HB14.out.size))
  have HO15 := Lib.hid (HO14.out.mono hb15)
  have HR15 := Lib.hid ho15.rd.2
  have hC15 := row_below HB15.out hSw1 HX1.out
  clear hC ho15 hb15 HO14 HB14
  go_simp
  refine hK _ _ hC15 ?_
  clear hK K
  try simp only [Act.put, List.setIfInBounds_toArray, List.set_cons_zero, List.set_cons_succ]
  refine held_one 5 rfl (by kernel_rfl) (fun K hK => ?_)
  refine step_appOwn rfl rfl Try.oneB rfl rfl HO15.out HR15.out (fun _ => rfl) (by omega) (by omega) HB15.out.size ?_
  intro a16 c16 w16 ho16 hb16 _ _
  have HB16 := Lib.hid (HB15.out.trans hb16)
  have HO16 := Lib.hid ho16
  have hC16 := row_below HB16.out hSw1 HX1.out
  clear hC15 ho16 hb16 HO15 HB15 HR15
  refine hK _ _ hC16 ?_
  clear hK K
  try simp only [Act.put, List.setIfInBounds_toArray, List.set_cons_zero, List.set_cons_succ]
  refine held_one 9 rfl (by kernel_rfl) (fun K hK => ?_)
  go_simp
  go_at_call 27
  refine (low4_any ti _ H5.out).mono ?_
  rintro e w17 ⟨a17, c17, rfl, ho17, hb17⟩
  have HB17 := Lib.hid (HB16.out.trans (hb17.mono HB16.out.size))
  have HO17 := Lib.hid (HO16.out.mono hb17)
  have HR17 := Lib.hid ho17.rd.2
  have hC17 := row_below HB17.out hSw1 HX1.out
  clear hC16 ho17 hb17 HO16 HB16
  go_simp
  refine hK _ _ hC17 ?_
  clear hK K
  try simp only [Act.put, List.setIfInBounds_toArray, List.set_cons_zero, List.set_cons_succ]
  refine held_one 10 rfl (by kernel_rfl) (fun K hK => ?_)
  refine step_appOwn rfl rfl Try.oneB rfl rfl HO17.out HR17.out (fun _ => rfl) (by omega) (by omega) HB17.out.size ?_
  intro a18 c18 w18 ho18 hb18 _ _
  have HB18 := Lib.hid (HB17.out.trans hb18)
  have HO18 := Lib.hid ho18
  have hC18 := row_below HB18.out hSw1 HX1.out
  clear hC17 ho18 hb18 HO17 HB17 HR17
  refine hK _ _ hC18 ?_
  clear hK K
  try simp only [Act.put, List.setIfInBounds_toArray, List.set_cons_zero, List.set_cons_succ]
  refine held_take 11 (d := some 5) (v := (.slice a18 264 c18)) rfl rfl (by kernel_rfl) (by kernel_rfl) (by kernel_rfl) (fun _ _ _ h => h) hC18 (by kernel_rfl) (fun w hSw => by clear hSw; go_simp) ?_
  try simp only [Act.put, List.setIfInBounds_toArray, List.set_cons_zero, List.set_cons_succ]
  refine wpAnyH_done (by kernel_rfl) ?_ _
  have i89 := headr_te hC18 HI.out HN.out
  have HRe := Lib.hid (Rd.one (Value.int .u64) 27 w18 te)
  have HAe := Lib.hid (below_alloc w18 (.cells #[.int .u64 te] 27))
  have HBe := Lib.hid (HB18.out.trans (HAe.out.mono HB18.out.size))
  have HOe := Lib.hid (HO18.out.mono HAe.out)
  clear hC18 HAe HO18
  go_wp2_with (first
    | (go_at_call 28; with_reducible refine (numsn_any _ 1 1 8 [te] _ HRe.out (by intro v hv; simp at hv; subst hv; exact H6.out) (by omega) (by omega)).mono ?_; rintro e w19 ⟨a19, c19, rfl, ho19, hb19⟩; have HB19 := Lib.hid (HBe.out.trans (hb19.mono HBe.out.size)); have HR19 := Lib.hid ho19.rd; have HO19 := Lib.hid (HOe.out.mono hb19); clear ho19 hb19)
    | (at_builtin; go_must (refine wpList_appOwn rfl rfl Try.oneB rfl rfl HO19.out HR19.out.2 (fun _ => rfl) (by omega) (by omega) HB19.out.size ?_); intro a20 c20 w20 ho20 hb20 _ _; have HB20 := Lib.hid (HB19.out.trans hb20); have HO20 := Lib.hid ho20))
  go_ret
  have hlen : (headB co inc st I (Ns ++ [d]) ta ti te).length = 272 := by rw [headB_length HI.out, List.length_append, HN.out]; rfl
  have hBf := HB1.out.trans (HB20.out.mono HB1.out.size)
  have he : headA co inc st ++ I ++ numsL Ns ++ numsL [d] ++ digs 4 ta ++ digs 4 ti ++ numsL [te] = headB co inc st I (Ns ++ [d]) ta ti te := by simp [headB, numsL]
  refine ⟨a20, c20, by rw [hlen]; rfl, ⟨headB_isB HIB.out, ?_⟩, hBf⟩
  rw [hlen, ← he]
  exact HO20.out.base HB1.out.size
end Go.Proofs.Ytpkmdnfkeebgbaa
