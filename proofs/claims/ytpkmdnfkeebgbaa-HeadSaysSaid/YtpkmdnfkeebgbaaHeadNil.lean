/- What head.Read tells of too few bytes; the law's first. Conditions stand as premises. -/
import Derived.Test.YtpkmdnfkeebgbaaHeadOf
namespace Go.Proofs.Ytpkmdnfkeebgbaa
open Go.ChangeShapes Go.WideShapes Go.ChangeAt Go.RowKit
set_option linter.unusedVariables false
set_option linter.unusedSimpArgs false

def zeroH : List Value := headL 0 0 0 (List.replicate 64 0) (List.replicate 21 0) 0 0 0
theorem zeroH_one : zeroH.toArray.all (·.oneCell') = true := headL_one
theorem zeroH_size : zeroH.toArray.size = 91 := headL_size (n := 21) rfl rfl
/-- What head.Read answers. -/
def HeadE (cs : List Value) (c : Int) (w : World) (e : Ending) (w' : World) : Prop := e = .returned (.tuple #[.agg cs.toArray, .int .i64 c]) ∧ Below w.heap.size w w'

set_option maxRecDepth 100000 in
set_option maxHeartbeats 4000000 in
theorem headread_short (a : Option Addr) (n c : Nat) (w : World) (hn : n < 272) :
    Calls Try.prog 8 #[.slice a n c] w (HeadE zeroH 22 w) := by
  have hlt : decide ((n : Int) < 272) = true := by simp; omega
  go_enter Try.func8, Try.ntmps8
  go_upto_region 1 with fail
  have hZ1 := heap_alloc_new w (.cells Try.zeroCells29 29)
  have HB1 := Lib.hid (below_alloc w (.cells Try.zeroCells29 29))
  generalize w.alloc (.cells Try.zeroCells29 29) = w1 at hZ1 HB1 ⊢
  have HZ1 := Lib.hid hZ1
  clear hZ1
  go_wp2_with (first
    | (refine wpList_buildS rfl rfl (cells := zeroH.toArray) (by kernel_rfl) ?_)
    | (with_reducible refine wpList_storeS rfl rfl Try.headI rfl rfl HZ1.out (by with_unfolding_all rfl) zeroH_size zeroH_one ?_; intro w2 hX2 hu2))
  refine bodyPost_ret (v := .tuple #[.agg zeroH.toArray, .int .i64 22]) (results_S1 rfl Try.headI rfl rfl hX2.out zeroH_size) rfl ?_
  exact ⟨rfl, HB1.out.trans (hu2.below HB1.out.size (fun j hj => by omega))⟩

theorem headput_zero (w : World) : Calls Try.prog 14 #[.agg zeroH.toArray] w fun e w' => ∃ a c, e = .returned (.slice a 272 c) ∧ Below w.heap.size w w' := by
  refine (headput_any 0 0 0 (List.replicate 64 0) (List.replicate 21 0) 0 0 0 w (List.length_replicate ..) (List.length_replicate ..) (IsB.replicate 64) ⟨by omega, by omega⟩ ⟨by omega, by omega⟩ (fun v hv => by obtain ⟨_, rfl⟩ := List.mem_replicate.1 hv; exact ⟨by omega, by omega⟩) ⟨by omega, by omega⟩ ⟨by omega, by omega⟩ ⟨by omega, by omega⟩).mono ?_
  rintro e w' ⟨a, c, rfl, ho, hb⟩
  refine ⟨a, c, by rw [headB_length (List.length_replicate ..), List.length_replicate], hb⟩

set_option maxRecDepth 100000 in
set_option maxHeartbeats 4000000 in
theorem first_any (w : World) : Calls Try.prog 7 #[] w fun e w' => e = .returned (.bool true) ∧ Below w.heap.size w w' := by
  go_enter Try.func7, Try.ntmps7
  have hn0 : (0 : Nat) < 272 := by omega
  go_wp2_with (first
    | (go_at_call 8; refine (headread_short none 0 0 _ hn0).mono ?_; rintro e w1 ⟨rfl, hb1⟩; have HB1 := Lib.hid hb1; clear hb1; have hZ2 := heap_alloc_new w1 (.cells Try.zeroCells29 29); have HB2 := Lib.hid (HB1.out.alloc HB1.out.size (.cells Try.zeroCells29 29)))
    | (refine wpList_buildS rfl rfl (cells := zeroH.toArray) (by kernel_rfl) ?_)
    | (with_reducible refine wpList_storeS rfl rfl Try.headI rfl rfl hZ2 (by with_unfolding_all rfl) zeroH_size zeroH_one ?_; intro w3 hX3 hu3)
    | (go_at_call 14; refine (headput_zero _).mono ?_; rintro e w4 ⟨a4, c4, rfl, hb4⟩))
  go_ret
  have hz := HB1.out.size
  have hb3 := HB2.out.trans (hu3.below HB2.out.size (fun j hj => by omega))
  exact ⟨rfl, hb3.trans (hb4.mono hb3.size)⟩
end Go.Proofs.Ytpkmdnfkeebgbaa
