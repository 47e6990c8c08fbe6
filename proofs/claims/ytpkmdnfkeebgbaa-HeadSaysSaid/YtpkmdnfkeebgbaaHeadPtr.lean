/- What a head's ids, long, End compute. Conditions stand as premises. -/
import Derived.Test.YtpkmdnfkeebgbaaHeadRep
import Derived.Test.YtpkmdnfkeebgbaaLeAdd
import Derived.Deep.CutBlock
import Derived.Deep.RegionLaw
namespace Go.Proofs.Ytpkmdnfkeebgbaa
open Go.ChangeShapes Go.WideShapes Go.ChangeAt Go.RowKit
set_option linter.unusedVariables false
set_option linter.unusedSimpArgs false

/-- A place in a block, as a pointer. -/
def encP (S : Nat) (o : Nat) : Value := .pointer (some ⟨S, o, none⟩)
def idPs : List Nat := [3, 19, 35, 51]
def longPs : List Nat := [67, 68, 69, 70, 71, 72, 73, 74, 75, 76, 77, 78, 79, 80, 81, 82, 83, 84, 85, 86, 87]
def PtrE (S : Nat) (ps : List Nat) (w : World) (e : Ending) (w' : World) : Prop := ∃ a, e = .returned (.slice a ps.length ps.length) ∧ Rd (encP S) w' a ps.length ps.length ps ∧ Below w.heap.size w w' ∧ (∀ x, a = some x → w.heap.size ≤ x.block)
theorem ptr_lits (S : Nat) (e : TypeId) (w : World) (ps : List Nat) (cs : Array Value) (hcs : cs = (ps.map (encP S)).toArray) (hm : ps.length ≤ 1000) : Rd (encP S) (w.alloc (.cells cs e)) (some ⟨w.heap.size, 0, none⟩) ps.length ps.length ps :=
  (Own.lit (base := 0) (e := e) ps cs ps.length hcs rfl (Nat.zero_le _) (by unfold maxLen; omega)).rd

set_option maxRecDepth 100000 in
set_option maxHeartbeats 1000000 in
theorem ids_any (S : Nat) (w : World) :
    Calls Try.prog 25 #[.pointer (some ⟨S, 0, none⟩)] w (PtrE S idPs w) := by
  go_enter Try.func25, Try.ntmps25
  go_upto_region 1 with fail
  go_region_law fail
  all_goals
    go_wp2_with fail
    go_ret
    exact ⟨_, rfl, (ptr_lits S _ w idPs _ rfl (by decide)).mono (below_drew _), (below_alloc w _).drew, fun x h => by cases h; exact Nat.le_refl _⟩

/-- Where a journal ends. -/
def endV (z r : Int) : Int := if 18446744073709551615 < z + r then 0 else z + r
def endB (z r : Int) : Bool := !decide (18446744073709551615 < z + r)
set_option maxRecDepth 100000 in
set_option maxHeartbeats 1000000 in
theorem headend_any (co inc st : Int) (I Ns : List Int) (ta ti te z r : Int) (w : World) (hI : I.length = 64) (hz : Ns[0]? = some z) (hr : Ns[1]? = some r) (hz0 : 0 ≤ z ∧ z ≤ 18446744073709551615) (hr0 : 0 ≤ r ∧ r ≤ 18446744073709551615) :
    Calls Try.prog 11 #[.agg (headL co inc st I Ns ta ti te).toArray] w fun e w' => e = .returned (.tuple #[.int .u64 (endV z r), .bool (endB z r)]) ∧ Below w.heap.size w w' := by
  have hX := heap_alloc_new w (.cells (headL co inc st I Ns ta ti te).toArray 29)
  have hB := below_alloc w (.cells (headL co inc st I Ns ta ti te).toArray 29)
  have i0 := cell_of_heap hX 67 _ (headL_N hI 0 z hz)
  have i1 := cell_of_heap hX 68 _ (headL_N hI 1 r hr)
  have HB := Lib.hid hB
  obtain ⟨z0, z1⟩ := hz0
  obtain ⟨r0, r1⟩ := hr0
  clear hz hr hI hX hB
  by_cases hbig : 18446744073709551615 < z + r
  · have hw : IntKind.u64.wrap (z + r) = z + r - 18446744073709551616 := by rw [IntKind.wrap_u64]; omega
    have h1 : endV z r = 0 := if_pos hbig
    have h2 : endB z r = false := by unfold endB; simp; omega
    have H1 := Lib.hid h1
    have H2 := Lib.hid h2
    have hlt : decide (z + r - 18446744073709551616 < z) = true := by simp; omega
    clear h1 h2
    go_enter Try.func11, Try.ntmps11
    go_upto_region 1 with fail
    generalize w.alloc (.cells (headL co inc st I Ns ta ti te).toArray 29) = w1 at i0 i1 HB ⊢
    go_wp2_with fail
    refine bodyPost_ret (v := .tuple #[.int .u64 (0), .bool false]) (by simp [results, Try.results11, go_sem]) rfl ?_
    exact ⟨by rw [H1.out, H2.out], HB.out⟩
  · have hw : IntKind.u64.wrap (z + r) = z + r := by rw [IntKind.wrap_u64]; omega
    have h1 : endV z r = z + r := if_neg hbig
    have h2 : endB z r = true := by unfold endB; simp; omega
    have H1 := Lib.hid h1
    have H2 := Lib.hid h2
    have hlt : decide (z + r < z) = false := by simp; omega
    have hlt2 : decide (r < 0) = false := by simp; omega
    clear h1 h2
    go_enter Try.func11, Try.ntmps11
    go_upto_region 1 with fail
    generalize w.alloc (.cells (headL co inc st I Ns ta ti te).toArray 29) = w1 at i0 i1 HB ⊢
    go_wp2_with fail
    refine bodyPost_ret (v := .tuple #[.int .u64 (z + r), .bool true]) (by simp [results, Try.results11, go_sem]) rfl ?_
    exact ⟨by rw [H1.out, H2.out], HB.out⟩
end Go.Proofs.Ytpkmdnfkeebgbaa
