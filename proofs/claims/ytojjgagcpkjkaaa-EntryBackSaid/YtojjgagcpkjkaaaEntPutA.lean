/- What entry.PutArray computes. Conditions stand as premises. -/
import Derived.Test.YtojjgagcpkjkaaaEntPutT
import Derived.OrdersHeld
namespace Go.Proofs.Ytojjgagcpkjkaaa
open Go.ChangeShapes Go.WideShapes Go.ChangeAt Go.RowKit
set_option linter.unusedVariables false

def putArrL (next : Int) (vs : List Int) : List Int := putO 6 (numsL (next :: vs))

theorem num1_any (a2 : Option Addr) (c2 : Nat) (next : Int) (w : World) (hr : Rd (Value.int .u64) w a2 1 c2 [next]) (hx : U64 next) :
    Calls Try.prog 30 #[.slice none 0 0, .slice a2 1 c2] w fun e w' => ∃ a1 c1, e = .returned (.slice a1 8 c1) ∧ RdB w' a1 8 c1 (numsL [next]) ∧ Below w.heap.size w w' := by
  refine (entnums_any none 0 0 [] a2 1 c2 [next] w ⟨IsB.nil, (Own.nil (Value.int .u8) 5 w 0).rd⟩ hr (by intro v hv; simp at hv; subst hv; exact hx) (by omega) (by omega)).mono ?_
  rintro e w' ⟨a1, c1, rfl, hr1, hb1, -⟩
  exact ⟨a1, c1, rfl, by simpa using hr1, hb1⟩
theorem num2_any (a1 : Option Addr) (c1 : Nat) (a : Option Addr) (n c : Nat) (next : Int) (vs : List Int) (w : World) (hr1 : RdB w a1 8 c1 (numsL [next])) (hr : Rd (Value.int .u64) w a n c vs) (hv : ∀ v ∈ vs, U64 v) (hn : n ≤ 1000) :
    Calls Try.prog 30 #[.slice a1 8 c1, .slice a n c] w fun e w' => ∃ a3 c3, e = .returned (.slice a3 (8 + 8 * n) c3) ∧ RdB w' a3 (8 + 8 * n) c3 (numsL (next :: vs)) ∧ Below w.heap.size w w' := by
  obtain rfl : vs.length = n := hr.1
  refine (entnums_any a1 8 c1 _ a vs.length c vs w hr1 hr hv (by omega) hn).mono ?_
  rintro e w' ⟨a3, c3, rfl, hr3, hb3, -⟩
  rw [hr1.len] at hr3 ⊢
  rw [← numsL_append] at hr3
  exact ⟨a3, c3, rfl, hr3, hb3⟩

set_option maxHeartbeats 1000000 in
theorem putarray_any (next : Int) (a : Option Addr) (n c : Nat) (vs : List Int) (w : World) (hr : Rd (Value.int .u64) w a n c vs) (hx : U64 next) (hv : ∀ v ∈ vs, U64 v) (hn : n ≤ 1000) :
    Calls Try.prog 13 #[.agg #[.int .u64 next, .slice a n c]] w (NewB w.heap.size w (putArrL next vs)) := by
  obtain rfl : vs.length = n := hr.1
  have HX := Lib.hid hx
  obtain ⟨x0, x1⟩ := hx
  have HR := Lib.hid hr
  have HV := Lib.hid hv
  clear hr hv
  go_enter Try.func13, Try.ntmps13
  go_upto_region 1 with fail
  have hB1 := below_alloc w (.cells #[.int .u64 next, .slice a vs.length c] 35)
  have hq0 : (w.alloc (.cells #[.int .u64 next, .slice a vs.length c] 35)).cell? ⟨w.heap.size, 0, none⟩ = some (.int .u64 next) := cell_of_heap (heap_alloc_new w _) 0 _ rfl
  have hq1 : (w.alloc (.cells #[.int .u64 next, .slice a vs.length c] 35)).cell? ⟨w.heap.size, 1, none⟩ = some (.slice a vs.length c) := cell_of_heap (heap_alloc_new w _) 1 _ rfl
  have hlt := lt_of_heap (heap_alloc_new w (.cells #[.int .u64 next, .slice a vs.length c] 35))
  generalize w.alloc (.cells #[.int .u64 next, .slice a vs.length c] 35) = w1 at hB1 hq0 hq1 hlt ⊢
  have HB1 := Lib.hid hB1
  have hB2 := (below_alloc w1 (.cells #[.int .u64 next] 25)).drew
  have HB2 := Lib.hid (hB1.trans (hB2.mono hB1.size))
  have hq1b := bcell hB2 hlt hq1
  have HRN := Lib.hid ((Rd.one (Value.int .u64) 25 w1 next).mono (below_drew _))
  have HRV := Lib.hid (HR.out.mono HB2.out)
  have HB2' := Lib.hid hB2
  clear hB1 hB2
  have hfit : 8 + 8 * vs.length ≤ 140737488350000 := by omega
  go_region_law (first | (go_simp; go_at_call 30; with_reducible refine (num1_any (some ⟨w1.heap.size, 0, none⟩) 1 next (w1.alloc (.cells #[.int .u64 next] 25)).drew HRN.out HX.out).mono ?_; rintro e w2 ⟨a2, c2, rfl, hr2, hb2⟩; have hB3 := HB2.out.trans (hb2.mono HB2.out.size); have hq1c := bcell hb2 (Nat.lt_of_lt_of_le hlt HB2'.out.size) hq1b; have hrv2 := HR.out.mono hB3) | (go_simp; go_at_call 30; with_reducible refine (num2_any a2 c2 a vs.length c next vs w2 hr2 hrv2 HV.out hn).mono ?_; rintro e w3 ⟨a3, c3, rfl, hr3, hb3⟩; have hB4 := hB3.trans (hb3.mono hB3.size)) | (go_simp; go_at_call 31; go_must (with_reducible refine (put_obj a3 (8 + 8 * vs.length) c3 6 _ w3 hr3 hfit).mono ?_); rintro e w4 ⟨a4, c4, rfl, ho4, hb4⟩))
  all_goals
    go_wp2_with fail
    go_ret
    exact ⟨a4, c4, rfl, ⟨ho4.1, ho4.2.base hB4.size⟩, hB4.trans (hb4.mono hB4.size)⟩
end Go.Proofs.Ytojjgagcpkjkaaa
