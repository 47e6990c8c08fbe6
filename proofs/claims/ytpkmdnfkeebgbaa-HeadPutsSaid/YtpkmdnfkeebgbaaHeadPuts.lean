/- The law HeadPuts answers yes. Conditions stand as premises. -/
import Derived.Test.YtpkmdnfkeebgbaaHeadNil
import Derived.Test.YtpkmdnfkeebgbaaRefEnd
import Derived.Test.YtpkmdnfkeebgbaaSame
namespace Go.Proofs.Ytpkmdnfkeebgbaa
open Go.ChangeShapes Go.WideShapes Go.ChangeAt Go.RowKit
set_option linter.unusedVariables false
set_option linter.unusedSimpArgs false

theorem headput_of (co inc st : Int) (I Ns : List Int) (ta ti te d : Int) (w : World) (hI : I.length = 64) (hN : Ns.length = 20) (hIB : IsB I) (h1 : U32 co) (h2 : U32 inc) (h3 : ∀ v ∈ Ns, U64 v) (h4 : U32 ta) (h5 : U32 ti) (h6 : U64 te) (h7 : U64 d) :
    Calls Try.prog 14 #[.agg (headL co inc st I (Ns ++ [d]) ta ti te).toArray] w fun e w' => ∃ a c, e = .returned (.slice a 272 c) ∧ RdB w' a 272 c (headB co inc st I (Ns ++ [d]) ta ti te) ∧ Below w.heap.size w w' := by
  have hN' : (Ns ++ [d]).length = 21 := by rw [List.length_append, hN]; rfl
  refine (headput_any co inc st I (Ns ++ [d]) ta ti te w hI hN' hIB h1 h2 (by
    intro v hv
    rcases List.mem_append.1 hv with hv | hv
    · exact h3 v hv
    · rw [List.mem_singleton] at hv; subst hv; exact h7) h4 h5 h6).mono ?_
  rintro e w' ⟨a, c, rfl, ho, hb⟩
  rw [headB_length hI, hN'] at ho ⊢
  exact ⟨a, c, rfl, ho.rd, hb⟩
theorem refheadb_of (co inc st : Int) (I Ns : List Int) (ta ti te d : Int) (w : World) (hI : I.length = 64) (hN : Ns.length = 20) (hIB : IsB I) (h1 : U32 co) (h2 : U32 inc) (h3 : ∀ v ∈ Ns, U64 v) (h4 : U32 ta) (h5 : U32 ti) (h6 : U64 te) (h7 : U64 d) :
    Calls Try.prog 15 #[.agg (headL co inc st I Ns ta ti te).toArray, .int .u64 d] w fun e w' => ∃ a c, e = .returned (.slice a 272 c) ∧ RdB w' a 272 c (headB co inc st I (Ns ++ [d]) ta ti te) ∧ Below w.heap.size w w' := by
  have hN' : (Ns ++ [d]).length = 21 := by rw [List.length_append, hN]; rfl
  refine (refheadb_any co inc st I Ns ta ti te d w hI hN hIB h1 h2 h3 h4 h5 h6 h7).mono ?_
  rintro e w' ⟨a, c, rfl, ho, hb⟩
  rw [headB_length hI, hN'] at ho ⊢
  exact ⟨a, c, rfl, ho.rd, hb⟩

set_option maxRecDepth 100000 in
set_option maxHeartbeats 4000000 in
theorem headputs_yes (co inc st : Int) (I Ns : List Int) (ta ti te d : Int) (w : World) (hI : I.length = 64) (hN : Ns.length = 20) (hIB : IsB I) (h1 : U32 co) (h2 : U32 inc) (h3 : ∀ v ∈ Ns, U64 v) (h4 : U32 ta) (h5 : U32 ti) (h6 : U64 te) (h7 : U64 d) :
    Calls Try.prog 4 #[.agg (headL co inc st I Ns ta ti te).toArray, .int .u64 d] w fun e w' => e = .returned (.bool true) ∧ Below w.heap.size w w' := by
  have HI := Lib.hid hI
  have HN := Lib.hid hN
  have hN' : (Ns ++ [d]).length = 21 := by rw [List.length_append, hN]; rfl
  obtain ⟨z, hz⟩ : ∃ z, Ns[0]? = some z := ⟨_, List.getElem?_eq_getElem (by omega)⟩
  obtain ⟨r, hr⟩ : ∃ r, Ns[1]? = some r := ⟨_, List.getElem?_eq_getElem (by omega)⟩
  have HEnd := Lib.hid (fun w => headend_any co inc st I (Ns ++ [d]) ta ti te z r w hI (by rw [List.getElem?_append_left (by omega)]; exact hz) (by rw [List.getElem?_append_left (by omega)]; exact hr) (h3 z (List.mem_of_getElem? hz)) (h3 r (List.mem_of_getElem? hr)))
  have HRef := Lib.hid (fun w => refend_any co inc st I Ns ta ti te z r w hI hz hr (h3 z (List.mem_of_getElem? hz)) (h3 r (List.mem_of_getElem? hr)))
  have HOf := Lib.hid (fun w => of_any co inc st I Ns ta ti te d w hI hN)
  have HPut := Lib.hid (fun w => headput_of co inc st I Ns ta ti te d w hI hN hIB h1 h2 h3 h4 h5 h6 h7)
  have HRpt := Lib.hid (fun w => refheadb_of co inc st I Ns ta ti te d w hI hN hIB h1 h2 h3 h4 h5 h6 h7)
  have HSz := Lib.hid (show (headL co inc st I Ns ta ti te).toArray.size = 90 from headL_size (n := 20) hI hN)
  generalize headB co inc st I (Ns ++ [d]) ta ti te = PB at *
  clear hI hN hN' hIB h1 h2 h3 h4 h5 h6 h7 hz hr
  go_enter Try.func4, Try.ntmps4
  go_upto_region 1 with fail
  have hX1 := heap_alloc_new w (.cells (headL co inc st I Ns ta ti te).toArray 34)
  have HB1 := Lib.hid (below_alloc w (.cells (headL co inc st I Ns ta ti te).toArray 34))
  generalize w.alloc (.cells (headL co inc st I Ns ta ti te).toArray 34) = w1 at hX1 HB1 ⊢
  obtain ⟨S, hS⟩ : ∃ S, w.heap.size = S := ⟨_, rfl⟩
  have HS := Lib.hid hS
  rw [hS] at hX1 ⊢
  clear hS
  have HX1 := Lib.hid hX1
  clear hX1
  go_upto_region 2 with (go_at_call 7; refine (first_any _).mono ?_; rintro e w2 ⟨rfl, hb2⟩)
  have HX2 := Lib.hid (row_below hb2 (lt_of_heap HX1.out) HX1.out)
  have HB2 := Lib.hid (HB1.out.trans (hb2.mono HB1.out.size))
  clear hb2
  go_upto_region 5 with (first
    | (with_reducible refine wpList_loadS rfl rfl Try.refheadI rfl HX2.out HSz.out ?_)
    | (go_at_call 10; refine (HOf.out _).mono ?_; rintro e w3 ⟨rfl, hb3⟩; have HX3 := Lib.hid (row_below hb3 (lt_of_heap HX2.out) HX2.out); have HB3 := Lib.hid (HB2.out.trans (hb3.mono HB2.out.size)); clear hb3)
    | (go_at_call 11; refine (HEnd.out _).mono ?_; rintro e w4 ⟨rfl, hb4⟩; have HX4 := Lib.hid (row_below hb4 (lt_of_heap HX3.out) HX3.out); have HB4 := Lib.hid (HB3.out.trans (hb4.mono HB3.out.size)); clear hb4))
  go_upto_region 6 with (first
    | (with_reducible refine wpList_loadS rfl rfl Try.refheadI rfl HX4.out HSz.out ?_)
    | (go_at_call 12; refine (HRef.out _).mono ?_; rintro e w5 ⟨rfl, hb5⟩; have HX5 := Lib.hid (row_below hb5 (lt_of_heap HX4.out) HX4.out); have HB5 := Lib.hid (HB4.out.trans (hb5.mono HB4.out.size)).drew; clear hb5))
  have hC : w5.drew.heap[S]? = some (.cells (headL co inc st I Ns ta ti te).toArray 34 (0, 0)) := HX5.out
  refine wp_region_held (S := fun w' => w'.heap[S]? = some (.cells (headL co inc st I Ns ta ti te).toArray 34 (0, 0))) (by kernel_rfl) ?_
  change wpAnyH _ _ _ _ _ _ _ _ w5.drew
  refine held_take 0 (d := some 25) (v := (.bool true)) rfl rfl (by kernel_rfl) (by kernel_rfl) (by kernel_rfl) (fun _ _ _ h => h) hC (by kernel_rfl) (fun w hSw => by have x0 := hSw; go_simp) ?_
  try simp only [Act.put, List.setIfInBounds_toArray, List.set_cons_zero, List.set_cons_succ]
  refine held_take 1 (d := some 26) (v := (.bool true)) rfl rfl (by kernel_rfl) (by kernel_rfl) (by kernel_rfl) (fun _ _ _ h => h) hC (by kernel_rfl) (fun w hSw => by have x0 := hSw; go_simp) ?_
  try simp only [Act.put, List.setIfInBounds_toArray, List.set_cons_zero, List.set_cons_succ]
  refine held_take 2 (d := some 27) (v := (.agg (headL co inc st I Ns ta ti te).toArray)) rfl rfl (by kernel_rfl) (by kernel_rfl) (by kernel_rfl) (fun _ _ _ h => h) hC (by kernel_rfl) (fun w hSw => by exact exec_loadS rfl Try.refheadI rfl hSw HSz.out) ?_
  try simp only [Act.put, List.setIfInBounds_toArray, List.set_cons_zero, List.set_cons_succ]
  refine held_take 3 (d := some 28) (v := (.int .u64 d)) rfl rfl (by kernel_rfl) (by kernel_rfl) (by kernel_rfl) (fun _ _ _ h => h) hC (by kernel_rfl) (fun w hSw => by have x0 := hSw; go_simp) ?_
  try simp only [Act.put, List.setIfInBounds_toArray, List.set_cons_zero, List.set_cons_succ]
  refine held_take 6 (d := some 31) (v := (.agg (headL co inc st I Ns ta ti te).toArray)) rfl rfl (by kernel_rfl) (by kernel_rfl) (by kernel_rfl) (fun _ _ _ h => h) hC (by kernel_rfl) (fun w hSw => by exact exec_loadS rfl Try.refheadI rfl hSw HSz.out) ?_
  try simp only [Act.put, List.setIfInBounds_toArray, List.set_cons_zero, List.set_cons_succ]
  refine held_take 7 (d := some 32) (v := (.int .u64 d)) rfl rfl (by kernel_rfl) (by kernel_rfl) (by kernel_rfl) (fun _ _ _ h => h) hC (by kernel_rfl) (fun w hSw => by have x0 := hSw; go_simp) ?_
  try simp only [Act.put, List.setIfInBounds_toArray, List.set_cons_zero, List.set_cons_succ]
  refine held_one 4 rfl (by kernel_rfl) (fun K hK => ?_)
  go_simp
  go_at_call 10
  refine (HOf.out _).mono ?_
  rintro e w6 ⟨rfl, hb6⟩
  have hC6 := row_below hb6 (lt_of_heap hC) hC
  have HB6 := Lib.hid (HB5.out.trans (hb6.mono HB5.out.size))
  clear hC hb6
  go_simp
  refine hK _ _ hC6 ?_
  clear hK K
  try simp only [Act.put, List.setIfInBounds_toArray, List.set_cons_zero, List.set_cons_succ]
  refine held_one 5 rfl (by kernel_rfl) (fun K hK => ?_)
  go_simp
  go_at_call 14
  refine (HPut.out _).mono ?_
  rintro e w7 ⟨a7, c7, rfl, hr7, hb7⟩
  have hC7 := row_below hb7 (lt_of_heap hC6) hC6
  have HB7 := Lib.hid (HB6.out.trans (hb7.mono HB6.out.size))
  have HR7 := Lib.hid hr7
  clear hC6 hb7 hr7
  go_simp
  refine hK _ _ hC7 ?_
  clear hK K
  try simp only [Act.put, List.setIfInBounds_toArray, List.set_cons_zero, List.set_cons_succ]
  refine held_one 8 rfl (by kernel_rfl) (fun K hK => ?_)
  go_simp
  go_at_call 15
  refine (HRpt.out _).mono ?_
  rintro e w8 ⟨a8, c8, rfl, hr8, hb8⟩
  have hC8 := row_below hb8 (lt_of_heap hC7) hC7
  have HB8 := Lib.hid (HB7.out.trans (hb8.mono HB7.out.size))
  have HR8 := Lib.hid hr8
  have HR7' := Lib.hid (HR7.out.mono hb8)
  clear hC7 hb8 hr8
  go_simp
  refine hK _ _ hC8 ?_
  clear hK K
  try simp only [Act.put, List.setIfInBounds_toArray, List.set_cons_zero, List.set_cons_succ]
  refine held_one 9 rfl (by kernel_rfl) (fun K hK => ?_)
  go_simp
  go_at_call 13
  refine (same_any a7 a8 272 c7 272 c8 _ _ _ HR7'.out HR8.out).mono ?_
  rintro e w9 ⟨rfl, hw9⟩
  have hC9 : w9.heap[S]? = some (.cells (headL co inc st I Ns ta ti te).toArray 34 (0, 0)) := hw9 ▸ hC8
  have HB9 := Lib.hid (hw9 ▸ HB8.out)
  clear hC8 hw9
  go_simp
  refine hK _ _ hC9 ?_
  clear hK K
  try simp only [Act.put, List.setIfInBounds_toArray, List.set_cons_zero, List.set_cons_succ]
  refine held_take 10 (d := some 35) (v := (.bool true)) rfl rfl (by kernel_rfl) (by kernel_rfl) (by kernel_rfl) (fun _ _ _ h => h) hC9 (by kernel_rfl) (fun w hSw => by have x0 := hSw; go_simp) ?_
  try simp only [Act.put, List.setIfInBounds_toArray, List.set_cons_zero, List.set_cons_succ]
  refine held_take 11 (d := some 36) (v := (.bool true)) rfl rfl (by kernel_rfl) (by kernel_rfl) (by kernel_rfl) (fun _ _ _ h => h) hC9 (by kernel_rfl) (fun w hSw => by have x0 := hSw; go_simp) ?_
  try simp only [Act.put, List.setIfInBounds_toArray, List.set_cons_zero, List.set_cons_succ]
  refine held_take 12 (d := some 37) (v := (.int .u64 (endV z r))) rfl rfl (by kernel_rfl) (by kernel_rfl) (by kernel_rfl) (fun _ _ _ h => h) hC9 (by kernel_rfl) (fun w hSw => by have x0 := hSw; go_simp) ?_
  try simp only [Act.put, List.setIfInBounds_toArray, List.set_cons_zero, List.set_cons_succ]
  refine held_take 13 (d := some 38) (v := (.int .u64 (endV z r))) rfl rfl (by kernel_rfl) (by kernel_rfl) (by kernel_rfl) (fun _ _ _ h => h) hC9 (by kernel_rfl) (fun w hSw => by have x0 := hSw; go_simp) ?_
  try simp only [Act.put, List.setIfInBounds_toArray, List.set_cons_zero, List.set_cons_succ]
  refine held_take 14 (d := some 39) (v := (.bool true)) rfl rfl (by kernel_rfl) (by kernel_rfl) (by kernel_rfl) (fun _ _ _ h => h) hC9 (by kernel_rfl) (fun w hSw => by have x0 := hSw; go_simp) ?_
  try simp only [Act.put, List.setIfInBounds_toArray, List.set_cons_zero, List.set_cons_succ]
  refine held_take 15 (d := some 40) (v := (.bool true)) rfl rfl (by kernel_rfl) (by kernel_rfl) (by kernel_rfl) (fun _ _ _ h => h) hC9 (by kernel_rfl) (fun w hSw => by have x0 := hSw; go_simp) ?_
  try simp only [Act.put, List.setIfInBounds_toArray, List.set_cons_zero, List.set_cons_succ]
  refine held_take 16 (d := some 41) (v := (.bool true)) rfl rfl (by kernel_rfl) (by kernel_rfl) (by kernel_rfl) (fun _ _ _ h => h) hC9 (by kernel_rfl) (fun w hSw => by have x0 := hSw; go_simp) ?_
  try simp only [Act.put, List.setIfInBounds_toArray, List.set_cons_zero, List.set_cons_succ]
  refine held_take 17 (d := some 42) (v := (.bool (endB z r))) rfl rfl (by kernel_rfl) (by kernel_rfl) (by kernel_rfl) (fun _ _ _ h => h) hC9 (by kernel_rfl) (fun w hSw => by have x0 := hSw; go_simp) ?_
  try simp only [Act.put, List.setIfInBounds_toArray, List.set_cons_zero, List.set_cons_succ]
  refine held_take 18 (d := some 43) (v := (.bool (endB z r))) rfl rfl (by kernel_rfl) (by kernel_rfl) (by kernel_rfl) (fun _ _ _ h => h) hC9 (by kernel_rfl) (fun w hSw => by have x0 := hSw; go_simp) ?_
  try simp only [Act.put, List.setIfInBounds_toArray, List.set_cons_zero, List.set_cons_succ]
  refine held_take 19 (d := some 44) (v := (.bool true)) rfl rfl (by kernel_rfl) (by kernel_rfl) (by kernel_rfl) (fun _ _ _ h => h) hC9 (by kernel_rfl) (fun w hSw => by have x0 := hSw; go_simp) ?_
  try simp only [Act.put, List.setIfInBounds_toArray, List.set_cons_zero, List.set_cons_succ]
  refine held_take 20 (d := some 45) (v := (.bool true)) rfl rfl (by kernel_rfl) (by kernel_rfl) (by kernel_rfl) (fun _ _ _ h => h) hC9 (by kernel_rfl) (fun w hSw => by have x0 := hSw; go_simp) ?_
  try simp only [Act.put, List.setIfInBounds_toArray, List.set_cons_zero, List.set_cons_succ]
  refine held_take 21 (d := some 4) (v := (.bool true)) rfl rfl (by kernel_rfl) (by kernel_rfl) (by kernel_rfl) (fun _ _ _ h => h) hC9 (by kernel_rfl) (fun w hSw => by have x0 := hSw; go_simp) ?_
  try simp only [Act.put, List.setIfInBounds_toArray, List.set_cons_zero, List.set_cons_succ]
  refine wpAnyH_done (by kernel_rfl) ?_ _
  go_wp2_with fail
  go_ret
  exact ⟨rfl, HB9.out⟩
end Go.Proofs.Ytpkmdnfkeebgbaa
