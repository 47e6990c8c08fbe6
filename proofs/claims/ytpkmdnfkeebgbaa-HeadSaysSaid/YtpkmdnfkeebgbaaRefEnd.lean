/- What the document's own End computes. Conditions stand as premises. -/
import Derived.Test.YtpkmdnfkeebgbaaHeadPtr
namespace Go.Proofs.Ytpkmdnfkeebgbaa
open Go.ChangeShapes Go.WideShapes Go.ChangeAt Go.RowKit
set_option linter.unusedVariables false
set_option linter.unusedSimpArgs false

set_option maxRecDepth 100000 in
set_option maxHeartbeats 1000000 in
theorem refend_any (co inc st : Int) (I Ns : List Int) (ta ti te z r : Int) (w : World) (hI : I.length = 64) (hz : Ns[0]? = some z) (hr : Ns[1]? = some r) (hz0 : 0 ≤ z ∧ z ≤ 18446744073709551615) (hr0 : 0 ≤ r ∧ r ≤ 18446744073709551615) :
    Calls Try.prog 12 #[.agg (headL co inc st I Ns ta ti te).toArray] w fun e w' => e = .returned (.tuple #[.int .u64 (endV z r), .bool (endB z r)]) ∧ Below w.heap.size w w' := by
  have hX := heap_alloc_new w (.cells (headL co inc st I Ns ta ti te).toArray 34)
  have hB := below_alloc w (.cells (headL co inc st I Ns ta ti te).toArray 34)
  have i0 := cell_of_heap hX 67 _ (headL_N hI 0 z hz)
  have i1 := cell_of_heap hX 68 _ (headL_N hI 1 r hr)
  have HB := Lib.hid hB
  obtain ⟨z0, z1⟩ := hz0
  obtain ⟨r0, r1⟩ := hr0
  clear hz hr hI hX hB
  have hw0 : IntKind.u64.wrap (18446744073709551615 - z) = 18446744073709551615 - z := by rw [IntKind.wrap_u64]; omega
  by_cases hbig : 18446744073709551615 < z + r
  · have h1 : endV z r = 0 := if_pos hbig
    have h2 : endB z r = false := by unfold endB; simp; omega
    have H1 := Lib.hid h1
    have H2 := Lib.hid h2
    have hlt : decide (18446744073709551615 - z < r) = true := by simp; omega
    clear h1 h2
    go_enter Try.func12, Try.ntmps12
    go_upto_region 1 with fail
    generalize w.alloc (.cells (headL co inc st I Ns ta ti te).toArray 34) = w1 at i0 i1 HB ⊢
    go_wp2_with fail
    refine bodyPost_ret (v := .tuple #[.int .u64 (0), .bool false]) (by simp [results, Try.results12, go_sem]) rfl ?_
    exact ⟨by rw [H1.out, H2.out], HB.out⟩
  · have hw : IntKind.u64.wrap (z + r) = z + r := by rw [IntKind.wrap_u64]; omega
    have h1 : endV z r = z + r := if_neg hbig
    have h2 : endB z r = true := by unfold endB; simp; omega
    have H1 := Lib.hid h1
    have H2 := Lib.hid h2
    have hlt : decide (18446744073709551615 - z < r) = false := by simp; omega
    clear h1 h2
    go_enter Try.func12, Try.ntmps12
    go_upto_region 1 with fail
    generalize w.alloc (.cells (headL co inc st I Ns ta ti te).toArray 34) = w1 at i0 i1 HB ⊢
    go_wp2_with fail
    refine bodyPost_ret (v := .tuple #[.int .u64 (z + r), .bool true]) (by simp [results, Try.results12, go_sem]) rfl ?_
    exact ⟨by rw [H1.out, H2.out], HB.out⟩
end Go.Proofs.Ytpkmdnfkeebgbaa
