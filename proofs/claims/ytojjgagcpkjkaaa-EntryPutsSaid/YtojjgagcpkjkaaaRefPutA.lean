/- What the document's own PutArray, PutEntry compute. Conditions stand as premises. -/
import Derived.Test.YtojjgagcpkjkaaaRefPutT
import Derived.Test.YtojjgagcpkjkaaaEntPutE
import Derived.Test.YtojjgagcpkjkaaaRefReadE
namespace Go.Proofs.Ytojjgagcpkjkaaa
open Go.ChangeShapes Go.WideShapes Go.ChangeAt Go.RowKit
set_option linter.unusedVariables false
set_option linter.unusedSimpArgs false

theorem numsN_any (a : Option Addr) (n c : Nat) (vs : List Int) (w : World) (hr : Rd (Value.int .u64) w a n c vs) (hv : ∀ v ∈ vs, U64 v) (hn : n ≤ 1000) :
    Calls Try.prog 32 #[.slice a n c] w fun e w' => ∃ a1 c1, e = .returned (.slice a1 (8 * n) c1) ∧ OwnB 5 w' w.heap.size a1 (8 * n) c1 (numsL vs) ∧ Below w.heap.size w w' := by
  obtain rfl : vs.length = n := hr.1
  refine (nums_any a vs.length c vs w hr hv hn).mono ?_
  rintro e w' ⟨a1, c1, rfl, ho, hb⟩
  rw [numsL_length] at ho ⊢
  exact ⟨a1, c1, rfl, ho, hb⟩

set_option maxRecDepth 100000 in
set_option maxHeartbeats 2000000 in
theorem refputarray_any (next : Int) (a : Option Addr) (n c : Nat) (vs : List Int) (w : World) (hr : Rd (Value.int .u64) w a n c vs) (hx : U64 next) (hv : ∀ v ∈ vs, U64 v) (hn : n ≤ 1000) :
    Calls Try.prog 14 #[.agg #[.int .u64 next, .slice a n c]] w (NewB w.heap.size w (putArrL next vs)) := by
  obtain rfl : vs.length = n := hr.1
  have HX := Lib.hid hx
  obtain ⟨x0, x1⟩ := hx
  have HR := Lib.hid hr
  have HV := Lib.hid hv
  have HPL := Lib.hid (show putArrL next vs = putO 6 (numsL [next] ++ numsL vs) by unfold putArrL; rw [show numsL (next :: vs) = numsL [next] ++ numsL vs from by rw [← numsL_append]; rfl])
  generalize putArrL next vs = PL at *
  clear hr hv
  go_enter Try.func14, Try.ntmps14
  go_upto_region 1 with fail
  have hB1 := below_alloc w (.cells #[.int .u64 next, .slice a vs.length c] 52)
  have hq0 : (w.alloc (.cells #[.int .u64 next, .slice a vs.length c] 52)).cell? ⟨w.heap.size, 0, none⟩ = some (.int .u64 next) := cell_of_heap (heap_alloc_new w _) 0 _ rfl
  have hq1 : (w.alloc (.cells #[.int .u64 next, .slice a vs.length c] 52)).cell? ⟨w.heap.size, 1, none⟩ = some (.slice a vs.length c) := cell_of_heap (heap_alloc_new w _) 1 _ rfl
  have hlt := lt_of_heap (heap_alloc_new w (.cells #[.int .u64 next, .slice a vs.length c] 52))
  generalize w.alloc (.cells #[.int .u64 next, .slice a vs.length c] 52) = w1 at hB1 hq0 hq1 hlt ⊢
  have hB2 := (below_alloc w1 (.cells #[.int .u64 next] 25)).drew
  have HB2 := Lib.hid (hB1.trans (hB2.mono hB1.size))
  have hq1b := bcell hB2 hlt hq1
  have HRN := Lib.hid ((Rd.one (Value.int .u64) 25 w1 next).mono (below_drew _))
  have HB2' := Lib.hid hB2
  have hfit : 8 + 8 * vs.length ≤ 140737488350000 := by omega
  have hf1 : (8 + 8 * vs.length) * 1 ≤ 140737488355328 := by omega
  have hf2 : 8 + 8 * vs.length ≤ 140737488355328 := by omega
  have HPT := Lib.hid (fun (a5 : Option Addr) (c5 : Nat) (w5 : World) (h : RdB w5 a5 (8 + 8 * vs.length) c5 (numsL [next] ++ numsL vs)) => show Calls Try.prog 33 #[.int .i64 6, .slice a5 (8 + 8 * vs.length) c5] w5 (NewB w5.heap.size w5 PL) from HPL.out ▸ refput_obj a5 (8 + 8 * vs.length) c5 6 _ w5 h hfit)
  have hw1 := hB1.size
  clear hB1 hB2
  go_region_law (first
    | (refine step_appAt rfl rfl Try.oneB rfl rfl HO3.out.2 HR3.out.2 (fun _ => rfl) hf1 hf2 hz3 ?_; intro a5 c5 w5 ho5 hu5 _; have HB5 := Lib.hid (HB3.out.trans (hu5.below HB3.out.size (fun j hj => by obtain ⟨z, hz, rfl⟩ := mem_blk.1 hj; have := (HO3.out.2.lt z hz).1; omega))); have HR5 := Lib.hid (RdB.mk2 ((numsL_isB [next]).append (numsL_isB vs)) ho5.rd); clear ho5 hu5)
    | (go_simp; go_at_call 32; (with_reducible refine (nums1_any _ 1 next _ HRN.out HX.out).mono ?_); rintro e w2 ⟨a2, c2, rfl, ho2, hb2⟩; have HB2b := Lib.hid (HB2.out.trans (hb2.mono HB2.out.size)); have hq1c := bcell hb2 (Nat.lt_of_lt_of_le hlt HB2'.out.size) hq1b; have HRV := Lib.hid (HR.out.mono HB2b.out); have HO2 := Lib.hid (show OwnB 5 w2 w1.heap.size a2 8 c2 (numsL [next]) from ⟨ho2.1, ho2.2.base HB2'.out.size⟩); have hz2 := Nat.le_trans HB2'.out.size hb2.size; clear ho2 hb2)
    | (go_simp; go_at_call 32; (with_reducible refine (numsN_any a vs.length c vs w2 HRV.out HV.out hn).mono ?_); rintro e w3 ⟨a3, c3, rfl, ho3, hb3⟩; have HB3 := Lib.hid (HB2b.out.trans (hb3.mono HB2b.out.size)); have HO3 := Lib.hid (show OwnB 5 w3 w1.heap.size a2 8 c2 (numsL [next]) from ⟨HO2.out.1, HO2.out.2.mono hb3⟩); have HR3 := Lib.hid ho3.rd; have hz3 := Nat.le_trans hz2 hb3.size; clear ho3 hb3)
    | (go_simp; go_at_call 33; go_must (with_reducible refine (HPT.out a5 c5 w5 HR5.out).mono ?_); rintro e w6 ⟨a6, c6, rfl, ho6, hb6⟩; have HO6 := Lib.hid ho6; have HB6 := Lib.hid (HB5.out.trans (hb6.mono HB5.out.size)); clear ho6 hb6))
  all_goals
    go_wp2_with fail
    go_ret
    exact ⟨a6, c6, rfl, ⟨HO6.out.1, HO6.out.2.base HB5.out.size⟩, HB6.out⟩
end Go.Proofs.Ytojjgagcpkjkaaa
