/- What head.Put computes: a head's bytes. Conditions stand as premises. -/
import Derived.Test.YtpkmdnfkeebgbaaHeadLong
import Derived.Test.YtpkmdnfkeebgbaaPutN
import Derived.Test.YtpkmdnfkeebgbaaIdT
import Derived.OrdersHeld
namespace Go.Proofs.Ytpkmdnfkeebgbaa
open Go.ChangeShapes Go.WideShapes Go.ChangeAt Go.RowKit
set_option linter.unusedVariables false
set_option linter.unusedSimpArgs false

def U32 (v : Int) : Prop := 0 ≤ v ∧ v ≤ 4294967295
/-- What a journal begins with. -/
def signL : List Int := [76, 80, 75, 83, 72, 72, 82, 72]
def headA (co inc st : Int) : List Int := signL ++ digs 4 co ++ digs 4 inc ++ [st % 256, 0, 0, 0, 0, 0, 0, 0]
/-- A head's bytes. -/
def headB (co inc st : Int) (I Ns : List Int) (ta ti te : Int) : List Int := headA co inc st ++ I ++ numsL Ns ++ digs 4 ta ++ digs 4 ti ++ digs 8 te
theorem headA_length (co inc st : Int) : (headA co inc st).length = 24 := by simp [headA, signL, digs_length]
theorem headA_isB (co inc st : Int) : IsB (headA co inc st) := by
  unfold headA
  refine (((show IsB signL from by unfold signL IsB; simp).append (digs_isB _ _)).append (digs_isB _ _)).append ?_
  exact IsB.cons (by omega) (IsB.replicate 7)
theorem headB_length {co inc st : Int} {I Ns : List Int} {ta ti te : Int} (hI : I.length = 64) : (headB co inc st I Ns ta ti te).length = 104 + 8 * Ns.length := by
  simp [headB, headA_length, numsL_length, digs_length, hI]; omega
theorem headB_isB {co inc st : Int} {I Ns : List Int} {ta ti te : Int} (hI : IsB I) : IsB (headB co inc st I Ns ta ti te) :=
  (((((headA_isB _ _ _).append hI).append (numsL_isB _)).append (digs_isB _ _)).append (digs_isB _ _)).append (digs_isB _ _)

theorem headl_0 {w : World} {S : Nat} {co inc st : Int} {I Ns : List Int} {ta ti te : Int} {T : TypeId} (h : w.heap[S]? = some (.cells (headL co inc st I Ns ta ti te).toArray T (0, 0))) : w.cell? ⟨S, 0, none⟩ = some (.int .u32 co) := cell_of_heap h 0 _ rfl
theorem headl_1 {w : World} {S : Nat} {co inc st : Int} {I Ns : List Int} {ta ti te : Int} {T : TypeId} (h : w.heap[S]? = some (.cells (headL co inc st I Ns ta ti te).toArray T (0, 0))) : w.cell? ⟨S, 1, none⟩ = some (.int .u32 inc) := cell_of_heap h 1 _ rfl
theorem headl_2 {w : World} {S : Nat} {co inc st : Int} {I Ns : List Int} {ta ti te : Int} {T : TypeId} (h : w.heap[S]? = some (.cells (headL co inc st I Ns ta ti te).toArray T (0, 0))) : w.cell? ⟨S, 2, none⟩ = some (.int .i64 st) := cell_of_heap h 2 _ rfl
theorem headl_ta {w : World} {S : Nat} {co inc st : Int} {I Ns : List Int} {ta ti te : Int} {T : TypeId} (h : w.heap[S]? = some (.cells (headL co inc st I Ns ta ti te).toArray T (0, 0))) (hI : I.length = 64) (hN : Ns.length = 21) : w.cell? ⟨S, 88, none⟩ = some (.int .u32 ta) := cell_of_heap h 88 _ (headL_ta hI hN)
theorem headl_ti {w : World} {S : Nat} {co inc st : Int} {I Ns : List Int} {ta ti te : Int} {T : TypeId} (h : w.heap[S]? = some (.cells (headL co inc st I Ns ta ti te).toArray T (0, 0))) (hI : I.length = 64) (hN : Ns.length = 21) : w.cell? ⟨S, 89, none⟩ = some (.int .u32 ti) := cell_of_heap h 89 _ (headL_ti hI hN)
theorem headl_te {w : World} {S : Nat} {co inc st : Int} {I Ns : List Int} {ta ti te : Int} {T : TypeId} (h : w.heap[S]? = some (.cells (headL co inc st I Ns ta ti te).toArray T (0, 0))) (hI : I.length = 64) (hN : Ns.length = 21) : w.cell? ⟨S, 90, none⟩ = some (.int .u64 te) := cell_of_heap h 90 _ (headL_te hI hN)
theorem idPs_at (k : Nat) (h : k < 4) : idPs[k]? = some (3 + 16 * k) := by
  rcases k with _ | _ | _ | _ | k
  · rfl
  · rfl
  · rfl
  · rfl
  · omega
theorem longPs_at (k : Nat) (h : k < 21) : longPs[k]? = some (67 + k) := by
  have e : longPs = (List.range 21).map (67 + ·) := rfl
  rw [e, List.getElem?_map, List.getElem?_range h]; rfl
theorem take_id (I : List Int) (k : Nat) : I.take (16 * (k + 1)) = I.take (16 * k) ++ idN I (16 * k) := by
  unfold idN
  rw [Nat.mul_succ, List.take_add]

theorem ids4_any (S : Nat) (w : World) :
    Calls Try.prog 25 #[.pointer (some ⟨S, 0, none⟩)] w fun e w' => ∃ a, e = .returned (.slice a 4 4) ∧ Rd (encP S) w' a 4 4 idPs ∧ Below w.heap.size w w' ∧ (∀ x, a = some x → w.heap.size ≤ x.block) := ids_any S w
theorem long21_any (S : Nat) (w : World) :
    Calls Try.prog 26 #[.pointer (some ⟨S, 0, none⟩)] w fun e w' => ∃ a, e = .returned (.slice a 21 21) ∧ Rd (encP S) w' a 21 21 longPs ∧ Below w.heap.size w w' ∧ (∀ x, a = some x → w.heap.size ≤ x.block) := long_any S w
/-- le.Add with the length told. -/
theorem addn_any (a : Option Addr) (len cap : Nat) (l : List Int) (n : Nat) (v : Int) (w : World) (hr : RdB w a len cap l) (hlen : len ≤ 140737488351000) (hs : okSize n = true) (hv : 0 ≤ v ∧ v ≤ 18446744073709551615) :
    Calls Try.prog 24 #[.slice a len cap, .int .i64 n, .int .u64 v] w fun e w' => ∃ a' c', e = .returned (.slice a' (len + n) c') ∧ OwnB 5 w' w.heap.size a' (len + n) c' (l ++ digs n v) ∧ Below w.heap.size w w' := by
  refine (add_yes a len cap l n v w hr hlen hs hv).mono ?_
  rintro e w' ⟨a', c', rfl, ho, hb⟩
  have hl : (l ++ digs n v).length = len + n := by rw [List.length_append, digs_length, hr.len]
  rw [hl] at ho ⊢
  exact ⟨a', c', rfl, ho, hb⟩
theorem add4_any (a : Option Addr) (len cap : Nat) (l : List Int) (v : Int) (w : World) (hr : RdB w a len cap l) (hlen : len ≤ 140737488351000) (hv : U32 v) :
    Calls Try.prog 24 #[.slice a len cap, .int .i64 4, .int .u64 v] w fun e w' => ∃ a' c', e = .returned (.slice a' (len + 4) c') ∧ OwnB 5 w' w.heap.size a' (len + 4) c' (l ++ digs 4 v) ∧ Below w.heap.size w w' :=
  addn_any a len cap l 4 v w hr hlen rfl ⟨hv.1, by have := hv.2; omega⟩
theorem add8_any (a : Option Addr) (len cap : Nat) (l : List Int) (v : Int) (w : World) (hr : RdB w a len cap l) (hlen : len ≤ 140737488351000) (hv : U64 v) :
    Calls Try.prog 24 #[.slice a len cap, .int .i64 8, .int .u64 v] w fun e w' => ∃ a' c', e = .returned (.slice a' (len + 8) c') ∧ OwnB 5 w' w.heap.size a' (len + 8) c' (l ++ digs 8 v) ∧ Below w.heap.size w w' :=
  addn_any a len cap l 8 v w hr hlen rfl hv

set_option maxRecDepth 100000 in
set_option maxHeartbeats 4000000 in
theorem headput_any (co inc st : Int) (I Ns : List Int) (ta ti te : Int) (w : World) (hI : I.length = 64) (hN : Ns.length = 21) (hIB : IsB I) (h1 : U32 co) (h2 : U32 inc) (h3 : ∀ v ∈ Ns, U64 v) (h4 : U32 ta) (h5 : U32 ti) (h6 : U64 te) :
    Calls Try.prog 14 #[.agg (headL co inc st I Ns ta ti te).toArray] w (NewB w.heap.size w (headB co inc st I Ns ta ti te)) := by
  have HI := Lib.hid hI
  have HN := Lib.hid hN
  have HIB := Lib.hid hIB
  have H1 := Lib.hid h1
  have H2 := Lib.hid h2
  have H3 := Lib.hid h3
  have H4 := Lib.hid h4
  have H5 := Lib.hid h5
  have H6 := Lib.hid h6
  obtain ⟨c0, c1⟩ := h1
  obtain ⟨n0, n1⟩ := h2
  obtain ⟨a0, a1⟩ := h4
  obtain ⟨t0, t1⟩ := h5
  have HW1 := Lib.hid (show IntKind.u64.wrap co = co by rw [IntKind.wrap_u64]; omega)
  have HW2 := Lib.hid (show IntKind.u64.wrap inc = inc by rw [IntKind.wrap_u64]; omega)
  have HW4 := Lib.hid (show IntKind.u64.wrap ta = ta by rw [IntKind.wrap_u64]; omega)
  have HW5 := Lib.hid (show IntKind.u64.wrap ti = ti by rw [IntKind.wrap_u64]; omega)
  have HSt := Lib.hid (show IntKind.u8.wrap st = st % 256 by rw [IntKind.wrap_u8])
  clear hI hN hIB h3 h6
  go_enter Try.func14, Try.ntmps14
  go_upto_region 1 with fail
  have hX1 := heap_alloc_new w (.cells (headL co inc st I Ns ta ti te).toArray 29)
  have HB1 := Lib.hid (below_alloc w (.cells (headL co inc st I Ns ta ti te).toArray 29))
  generalize w.alloc (.cells (headL co inc st I Ns ta ti te).toArray 29) = w1 at hX1 HB1 ⊢
  obtain ⟨S, hS⟩ : ∃ S, w.heap.size = S := ⟨_, rfl⟩
  have HS := Lib.hid hS
  rw [hS] at hX1 ⊢
  clear hS
  have hSw1 := lt_of_heap hX1
  have HX1 := Lib.hid hX1
  have kc : (convert 22 22 (.slice (some ⟨w1.heap.size, 0, none⟩) 8 8)).run Try.prog ((w1.alloc (.cells #[.int .u8 76, .int .u8 80, .int .u8 75, .int .u8 83, .int .u8 72, .int .u8 72, .int .u8 82, .int .u8 72] 5)).drew) = .ok (.slice (some ⟨w1.heap.size, 0, none⟩) 8 8) ((w1.alloc (.cells #[.int .u8 76, .int .u8 80, .int .u8 75, .int .u8 83, .int .u8 72, .int .u8 72, .int .u8 82, .int .u8 72] 5 (8, 9))).drew) :=
    Lib.run_convert_bytes_const (P := Try.prog) w1.drew 22 5 #[.int .u8 76, .int .u8 80, .int .u8 75, .int .u8 83, .int .u8 72, .int .u8 72, .int .u8 82, .int .u8 72] 8 8 Try.underlying22 Try.underlying5
  have HL8 := Lib.hid (RdB.marked w1.drew signL 5 (8, 9) #[.int .u8 76, .int .u8 80, .int .u8 75, .int .u8 83, .int .u8 72, .int .u8 72, .int .u8 82, .int .u8 72] 8 8 rfl rfl (by omega) (by decide) (by unfold signL IsB; simp))
  have HBU := Lib.hid ((below_drew w1).alloc (Nat.le_refl _) (.cells #[.int .u8 76, .int .u8 80, .int .u8 75, .int .u8 83, .int .u8 72, .int .u8 72, .int .u8 82, .int .u8 72] 5))
  have HBA := Lib.hid ((below_drew w1).alloc (Nat.le_refl _) (.cells #[.int .u8 76, .int .u8 80, .int .u8 75, .int .u8 83, .int .u8 72, .int .u8 72, .int .u8 82, .int .u8 72] 5 (8, 9)))
  have hC : w1.drew.heap[S]? = some (.cells (headL co inc st I Ns ta ti te).toArray 29 (0, 0)) := hX1
  refine wp_region_held (S := fun w' => w'.heap[S]? = some (.cells (headL co inc st I Ns ta ti te).toArray 29 (0, 0))) (by kernel_rfl) ?_
  change wpAnyH _ _ _ _ _ _ _ _ w1.drew
  clear hX1
  refine held_take 2 (d := some 10) (v := (.pointer (some ⟨S, 0, none⟩))) rfl rfl (by kernel_rfl) (by kernel_rfl) (by kernel_rfl) (fun _ _ _ h => h) hC (by kernel_rfl) (fun w hSw => by have x0 := headl_0 hSw; have x1 := headl_1 hSw; clear hSw; go_simp) ?_
  try simp only [Act.put, List.setIfInBounds_toArray, List.set_cons_zero, List.set_cons_succ]
  refine held_take 3 (d := some 11) (v := (.int .u32 co)) rfl rfl (by kernel_rfl) (by kernel_rfl) (by kernel_rfl) (fun _ _ _ h => h) hC (by kernel_rfl) (fun w hSw => by have x0 := headl_0 hSw; have x1 := headl_1 hSw; clear hSw; go_simp) ?_
  try simp only [Act.put, List.setIfInBounds_toArray, List.set_cons_zero, List.set_cons_succ]
  refine held_take 4 (d := some 12) (v := (.int .u64 co)) rfl rfl (by kernel_rfl) (by kernel_rfl) (by kernel_rfl) (fun _ _ _ h => h) hC (by kernel_rfl) (fun w hSw => by go_simp; exact HW1.out) ?_
  try simp only [Act.put, List.setIfInBounds_toArray, List.set_cons_zero, List.set_cons_succ]
  refine held_take 6 (d := some 14) (v := (.pointer (some ⟨S, 1, none⟩))) rfl rfl (by kernel_rfl) (by kernel_rfl) (by kernel_rfl) (fun _ _ _ h => h) hC (by kernel_rfl) (fun w hSw => by have x0 := headl_0 hSw; have x1 := headl_1 hSw; clear hSw; go_simp) ?_
  try simp only [Act.put, List.setIfInBounds_toArray, List.set_cons_zero, List.set_cons_succ]
  refine held_take 7 (d := some 15) (v := (.int .u32 inc)) rfl rfl (by kernel_rfl) (by kernel_rfl) (by kernel_rfl) (fun _ _ _ h => h) hC (by kernel_rfl) (fun w hSw => by have x0 := headl_0 hSw; have x1 := headl_1 hSw; clear hSw; go_simp) ?_
  try simp only [Act.put, List.setIfInBounds_toArray, List.set_cons_zero, List.set_cons_succ]
  refine held_take 8 (d := some 16) (v := (.int .u64 inc)) rfl rfl (by kernel_rfl) (by kernel_rfl) (by kernel_rfl) (fun _ _ _ h => h) hC (by kernel_rfl) (fun w hSw => by go_simp; exact HW2.out) ?_
  try simp only [Act.put, List.setIfInBounds_toArray, List.set_cons_zero, List.set_cons_succ]
  refine held_one 0 rfl (by kernel_rfl) (fun K hK => ?_)
  go_simp
  have hC1 := row_below HBU.out hSw1 HX1.out
  clear hC
  refine hK _ _ hC1 ?_
  clear hK K
  try simp only [Act.put, List.setIfInBounds_toArray, List.set_cons_zero, List.set_cons_succ]
  refine held_one 1 rfl (by kernel_rfl) (fun K hK => ?_)
  go_simp
  have hC2 := row_below HBA.out hSw1 HX1.out
  clear hC1
  refine hK _ _ hC2 ?_
  clear hK K
  try simp only [Act.put, List.setIfInBounds_toArray, List.set_cons_zero, List.set_cons_succ]
  refine held_one 5 rfl (by kernel_rfl) (fun K hK => ?_)
  go_simp
  go_at_call 24
  refine (add4_any _ 8 8 signL co _ HL8.out (by omega) H1.out).mono ?_
  rintro e w2 ⟨a2, c2, rfl, ho2, hb2⟩
  have HB2 := Lib.hid (HBA.out.trans (hb2.mono HBA.out.size))
  have hC3 := row_below hb2 (lt_of_heap hC2) hC2
  have HR2 := Lib.hid ho2.rd
  clear hC2 ho2 hb2
  go_simp
  refine hK _ _ hC3 ?_
  clear hK K
  try simp only [Act.put, List.setIfInBounds_toArray, List.set_cons_zero, List.set_cons_succ]
  refine held_one 9 rfl (by kernel_rfl) (fun K hK => ?_)
  go_simp
  go_at_call 24
  refine (add4_any a2 12 c2 _ inc _ HR2.out (by omega) H2.out).mono ?_
  rintro e w3 ⟨a3, c3, rfl, ho3, hb3⟩
  have HB3 := Lib.hid (HB2.out.trans (hb3.mono HB2.out.size))
  have hC4 := row_below hb3 (lt_of_heap hC3) hC3
  have HO3 := Lib.hid (ho3.base HB2.out.size)
  clear hC3 ho3 hb3
  go_simp
  refine hK _ _ hC4 ?_
  clear hK K
  try simp only [Act.put, List.setIfInBounds_toArray, List.set_cons_zero, List.set_cons_succ]
  refine held_take 10 (d := some 3) (v := (.slice a3 16 c3)) rfl rfl (by kernel_rfl) (by kernel_rfl) (by kernel_rfl) (fun _ _ _ h => h) hC4 (by kernel_rfl) (fun w hSw => by clear hSw; go_simp) ?_
  try simp only [Act.put, List.setIfInBounds_toArray, List.set_cons_zero, List.set_cons_succ]
  refine wpAnyH_done (by kernel_rfl) ?_ _
  have i2 := headl_2 hC4
  have HX3 := Lib.hid hC4
  have hz3 : w1.heap.size ≤ w3.heap.size := HB3.out.size
  clear hC4 HL8 HBU HBA kc
  have HRL := Lib.hid (Rd.lits (Value.int .u8) 5 w3 [st % 256, 0, 0, 0, 0, 0, 0, 0] #[.int .u8 (st % 256), .int .u8 0, .int .u8 0, .int .u8 0, .int .u8 0, .int .u8 0, .int .u8 0, .int .u8 0] 8 rfl rfl (by omega))
  have HBL := Lib.hid (below_alloc w3 (.cells #[.int .u8 (st % 256), .int .u8 0, .int .u8 0, .int .u8 0, .int .u8 0, .int .u8 0, .int .u8 0, .int .u8 0] 5))
  have hz4 := Nat.le_trans hz3 HBL.out.size
  go_upto_region 3 with (at_builtin; go_must (refine wpList_appOwn rfl rfl Try.oneB rfl rfl (HO3.out.2.mono HBL.out) HRL.out (fun _ => rfl) (by omega) (by omega) hz4 ?_); intro a4 c4 w4 ho4 hb4 _ _)
  have HB4 := Lib.hid ((HB3.out.trans (HBL.out.mono hz3)).trans hb4)
  have HO4 := Lib.hid (show Own (Value.int .u8) 5 w4 w1.heap.size a4 24 c4 (headA co inc st) from ho4)
  clear ho4 hb4 HO3 HRL HBL hz4 hz3 i2 HX3 HB3 HB2 HR2
  go_upto_region 4 with (go_at_call 25; refine (ids4_any S _).mono ?_; rintro e w5 ⟨a5, rfl, hr5, hb5, hg5⟩)
  have HB5 := Lib.hid (HB4.out.trans (hb5.mono HB4.out.size))
  have HO5 := Lib.hid (HO4.out.mono hb5)
  have HR5 := Lib.hid hr5
  have HN5 := Lib.hid (show ∀ x, a5 = some x → x.block ∉ blk a4 from fun x hx h => by obtain ⟨z, hz, hb⟩ := mem_blk.1 h; have := hg5 x hx; have := (HO4.out.lt z hz).2; omega)
  clear HO4 HB4 hr5 hb5 hg5
  go_loopw [3, 26] (fun s_ i wr => ∃ (k : Nat) (a' : Option Addr) (c' : Nat), k ≤ 4 ∧ i = .int .i64 (k : Int) ∧ s_ = .slice a' (24 + 16 * k) c' ∧ Own (Value.int .u8) 5 wr w1.heap.size a' (24 + 16 * k) c' (headA co inc st ++ I.take (16 * k)) ∧ Rd (encP S) wr a5 4 4 idPs ∧ (∀ x, a5 = some x → x.block ∉ blk a') ∧ Below w1.heap.size w1 wr) (fun _ i _ => 4 - (intOf i).toNat)
  case atStart => exact ⟨0, a4, c4, Nat.zero_le _, rfl, rfl, by simpa using HO5.out, HR5.out, HN5.out, HB5.out⟩
  case round =>
    obtain ⟨k, a', c', hk, rfl, rfl, ho, hri, hni, hB⟩ := hrel
    have HO := Lib.hid ho
    have HB := Lib.hid hB
    have HRI := Lib.hid hri
    have HNI := Lib.hid hni
    have hXr := row_below hB hSw1 HX1.out
    clear ho hB hni
    by_cases hlt : k < 4
    · have hlt' : (k : Int) < 4 := by omega
      obtain ⟨b, off, rfl, hbk, hcs⟩ := hri.at (by omega)
      have hc := hcs k _ (idPs_at k hlt)
      have hsrc := (row_range (o := 3 + 16 * k) hXr (idN I (16 * k)) (fun j v h => headL_id (16 * k) j v h)).rd (idN_length HI.out _ (by omega)) (lt_of_heap hXr) (by omega)
      have HSR := Lib.hid hsrc
      have hzr := HB.out.size
      have HNB := Lib.hid (HNI.out _ rfl)
      have HTK := Lib.hid (take_id I k)
      clear hcs hri hXr hsrc
      unfold encP at hc
      go_wp2_with (at_builtin; go_must (refine wpList_appAt rfl rfl Try.oneB rfl rfl HO.out HSR.out (fun _ => rfl) (by omega) (by omega) hzr ?_); intro a6 c6 w6 ho6 hu6 hn6)
      have HO6 := Lib.hid (show Own (Value.int .u8) 5 w6 w1.heap.size a6 (24 + 16 * (k + 1)) c6 (headA co inc st ++ I.take (16 * (k + 1))) from by rw [HTK.out, ← List.append_assoc]; exact ho6)
      have HU6 := Lib.hid hu6
      have HN6 := Lib.hid hn6
      clear ho6 hu6 hn6 hc
      go_roundw
      case rel =>
        refine ⟨k + 1, a6, c6, by omega, by congr 1, by congr 1, HO6.out, HRI.out.upd HU6.out (fun x hx => by cases hx; exact HNB.out), ?_, HB.out.trans (HU6.out.below hzr (fun j hj => by obtain ⟨z, hz, rfl⟩ := mem_blk.1 hj; exact (HO.out.lt z hz).1))⟩
        intro x hx h
        cases hx
        rcases HN6.out _ h with h | h
        · exact HNB.out h
        · have h' : wr.heap.size ≤ b := h
          omega
      case measure => simp [intOf]; omega
    · obtain rfl : k = 4 := by omega
      have hge : ¬ ((4 : Int) < 4) := by omega
      have HOI := Lib.hid (show Own (Value.int .u8) 5 wr w1.heap.size a' 88 c' (headA co inc st ++ I) from by have := HO.out; rwa [List.take_of_length_le (by rw [HI.out]; omega)] at this)
      clear HO HRI HNI hri HN5 HR5 HO5 HB5
      go_upto_region 8 with fail
      go_upto_region 9 with (go_at_call 26; refine (long21_any S _).mono ?_; rintro e w7 ⟨a7, rfl, hr7, hb7, -⟩)
      have HR7 := Lib.hid hr7
      have HB7 := Lib.hid hb7
      have HO7 := Lib.hid (RdB.mk2 ((headA_isB co inc st).append HIB.out) ((HOI.out.mono hb7).rd))
      have HX7 := Lib.hid (row_below (HB.out.trans (hb7.mono HB.out.size)) hSw1 HX1.out)
      clear hr7 hb7 HOI
      have HBB := Lib.hid (HB.out.trans (HB7.out.mono HB.out.size))
      clear HB HB7
      go_loopw [3, 38] (fun s_ i wr => ∃ (k : Nat) (a' : Option Addr) (c' : Nat), k ≤ 21 ∧ i = .int .i64 (k : Int) ∧ s_ = .slice a' (88 + 8 * k) c' ∧ RdB wr a' (88 + 8 * k) c' (headA co inc st ++ I ++ numsL (Ns.take k)) ∧ Below w7.heap.size w7 wr) (fun _ i _ => 21 - (intOf i).toNat)
      case atStart => exact ⟨0, a', c', Nat.zero_le _, rfl, rfl, by simpa [numsL] using HO7.out, Below.refl _ _⟩
      case round =>
        obtain ⟨k, a8, c8, hk, rfl, rfl, ho, hB⟩ := hrel
        have HO := Lib.hid ho
        have HB := Lib.hid hB
        have hXr := row_below hB (lt_of_heap HX7.out) HX7.out
        clear ho hB
        by_cases hlt : k < 21
        · have hlt' : (k : Int) < 21 := by omega
          obtain ⟨b, off, hab, hbk, hcs⟩ := (HR7.out.mono HB.out).at (by omega)
          subst hab
          have hc := hcs k _ (longPs_at k hlt)
          have hkN : k < Ns.length := by rw [HN.out]; exact hlt
          have hv := cell_of_heap hXr (67 + k) _ (headL_N HI.out k _ (List.getElem?_eq_getElem hkN))
          have HV := Lib.hid (H3.out _ (List.getElem_mem hkN))
          have HSN := Lib.hid (numsL_snoc Ns k hkN)
          generalize Ns[k] = v at hv HV HSN
          clear hcs hXr hkN
          unfold encP at hc
          go_wp2_with (go_at_call 24; refine (add8_any a8 (88 + 8 * k) c8 _ v _ HO.out (by omega) HV.out).mono ?_; rintro e w9 ⟨a9, c9, rfl, ho9, hb9⟩)
          have HO9 := Lib.hid ho9.rd
          have HB9 := Lib.hid (HB.out.trans (hb9.mono HB.out.size))
          clear ho9 hb9
          go_roundw
          case rel => exact ⟨k + 1, a9, c9, by omega, by congr 1, by congr 1, by rw [HSN.out, ← List.append_assoc]; exact HO9.out, HB9.out⟩
          case measure => simp [intOf]; omega
        · obtain rfl : k = 21 := by omega
          have hge : ¬ ((21 : Int) < 21) := by omega
          have HOI := Lib.hid (show RdB wr a8 256 c8 (headA co inc st ++ I ++ numsL Ns) from by have := HO.out; rwa [List.take_of_length_le (by rw [HN.out]; omega)] at this)
          clear HO
          go_upto_region 13 with fail
          have hC : wr.drew.heap[S]? = some (.cells (headL co inc st I Ns ta ti te).toArray 29 (0, 0)) := hXr
          have HOd := Lib.hid (HOI.out.drewd)
          refine wp_region_held (S := fun w' => w'.heap[S]? = some (.cells (headL co inc st I Ns ta ti te).toArray 29 (0, 0))) (by kernel_rfl) ?_
          change wpAnyH _ _ _ _ _ _ _ _ wr.drew
          clear hXr
          refine held_take 0 (d := some 48) (v := (.slice a8 256 c8)) rfl rfl (by kernel_rfl) (by kernel_rfl) (by kernel_rfl) (fun _ _ _ h => h) hC (by kernel_rfl) (fun w hSw => by have x0 := headl_ta hSw HI.out HN.out; have x1 := headl_ti hSw HI.out HN.out; clear hSw; go_simp) ?_
          try simp only [Act.put, List.setIfInBounds_toArray, List.set_cons_zero, List.set_cons_succ]
          refine held_take 1 (d := some 49) (v := (.pointer (some ⟨S, 88, none⟩))) rfl rfl (by kernel_rfl) (by kernel_rfl) (by kernel_rfl) (fun _ _ _ h => h) hC (by kernel_rfl) (fun w hSw => by have x0 := headl_ta hSw HI.out HN.out; have x1 := headl_ti hSw HI.out HN.out; clear hSw; go_simp) ?_
          try simp only [Act.put, List.setIfInBounds_toArray, List.set_cons_zero, List.set_cons_succ]
          refine held_take 2 (d := some 50) (v := (.int .u32 ta)) rfl rfl (by kernel_rfl) (by kernel_rfl) (by kernel_rfl) (fun _ _ _ h => h) hC (by kernel_rfl) (fun w hSw => by have x0 := headl_ta hSw HI.out HN.out; have x1 := headl_ti hSw HI.out HN.out; clear hSw; go_simp) ?_
          try simp only [Act.put, List.setIfInBounds_toArray, List.set_cons_zero, List.set_cons_succ]
          refine held_take 3 (d := some 51) (v := (.int .u64 ta)) rfl rfl (by kernel_rfl) (by kernel_rfl) (by kernel_rfl) (fun _ _ _ h => h) hC (by kernel_rfl) (fun w hSw => by go_simp; exact HW4.out) ?_
          try simp only [Act.put, List.setIfInBounds_toArray, List.set_cons_zero, List.set_cons_succ]
          refine held_take 5 (d := some 53) (v := (.pointer (some ⟨S, 89, none⟩))) rfl rfl (by kernel_rfl) (by kernel_rfl) (by kernel_rfl) (fun _ _ _ h => h) hC (by kernel_rfl) (fun w hSw => by have x0 := headl_ta hSw HI.out HN.out; have x1 := headl_ti hSw HI.out HN.out; clear hSw; go_simp) ?_
          try simp only [Act.put, List.setIfInBounds_toArray, List.set_cons_zero, List.set_cons_succ]
          refine held_take 6 (d := some 54) (v := (.int .u32 ti)) rfl rfl (by kernel_rfl) (by kernel_rfl) (by kernel_rfl) (fun _ _ _ h => h) hC (by kernel_rfl) (fun w hSw => by have x0 := headl_ta hSw HI.out HN.out; have x1 := headl_ti hSw HI.out HN.out; clear hSw; go_simp) ?_
          try simp only [Act.put, List.setIfInBounds_toArray, List.set_cons_zero, List.set_cons_succ]
          refine held_take 7 (d := some 55) (v := (.int .u64 ti)) rfl rfl (by kernel_rfl) (by kernel_rfl) (by kernel_rfl) (fun _ _ _ h => h) hC (by kernel_rfl) (fun w hSw => by go_simp; exact HW5.out) ?_
          try simp only [Act.put, List.setIfInBounds_toArray, List.set_cons_zero, List.set_cons_succ]
          refine held_one 4 rfl (by kernel_rfl) (fun K hK => ?_)
          go_simp
          go_at_call 24
          refine (add4_any a8 256 c8 _ ta _ HOd.out (by omega) H4.out).mono ?_
          rintro e wa ⟨aa, ca, rfl, hoa, hba⟩
          have HBa := Lib.hid (((below_drew wr)).trans hba)
          have hCa := row_below hba (lt_of_heap hC) hC
          have HRa := Lib.hid hoa.rd
          clear hC hoa hba
          go_simp
          refine hK _ _ hCa ?_
          clear hK K
          try simp only [Act.put, List.setIfInBounds_toArray, List.set_cons_zero, List.set_cons_succ]
          refine held_one 8 rfl (by kernel_rfl) (fun K hK => ?_)
          go_simp
          go_at_call 24
          refine (add4_any aa 260 ca _ ti _ HRa.out (by omega) H5.out).mono ?_
          rintro e wb ⟨ab, cb, rfl, hob, hbb⟩
          have HBb := Lib.hid (HBa.out.trans (hbb.mono HBa.out.size))
          have hCb := row_below hbb (lt_of_heap hCa) hCa
          have HRb := Lib.hid hob.rd
          clear hCa hob hbb
          go_simp
          refine hK _ _ hCb ?_
          clear hK K
          try simp only [Act.put, List.setIfInBounds_toArray, List.set_cons_zero, List.set_cons_succ]
          refine held_take 9 (d := some 3) (v := (.slice ab 264 cb)) rfl rfl (by kernel_rfl) (by kernel_rfl) (by kernel_rfl) (fun _ _ _ h => h) hCb (by kernel_rfl) (fun w hSw => by clear hSw; go_simp) ?_
          try simp only [Act.put, List.setIfInBounds_toArray, List.set_cons_zero, List.set_cons_succ]
          refine wpAnyH_done (by kernel_rfl) ?_ _
          have i30 := headl_te hCb HI.out HN.out
          have HB1r := Lib.hid (HB1.out.trans (HBB.out.mono HB1.out.size))
          have HBr := Lib.hid (HB1r.out.trans (HB.out.mono HB1r.out.size))
          have HBbb := Lib.hid (HBr.out.trans (HBb.out.mono HBr.out.size))
          clear hCb
          go_wp2_with (go_at_call 24; refine (add8_any ab 264 cb _ te _ HRb.out (by omega) H6.out).mono ?_; rintro e wc ⟨ac, cc, rfl, hoc, hbc⟩)
          go_ret
          have hlen : (headB co inc st I Ns ta ti te).length = 272 := by rw [headB_length HI.out, HN.out]
          refine ⟨ac, cc, by rw [hlen]; rfl, ⟨headB_isB HIB.out, ?_⟩, ?_⟩
          · rw [hlen]; exact hoc.2.base HBbb.out.size
          · exact HBbb.out.trans (hbc.mono HBbb.out.size)
end Go.Proofs.Ytpkmdnfkeebgbaa
