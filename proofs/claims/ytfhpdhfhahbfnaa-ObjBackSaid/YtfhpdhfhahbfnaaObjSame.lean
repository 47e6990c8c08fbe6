/- frame, sameData, sameField of the laws on objects. Conditions stand as premises. -/
import Derived.Test.YtfhpdhfhahbfnaaRefRd
import Derived.Test.YtfhpdhfhahbfnaaSame
namespace Go.Proofs.Ytfhpdhfhahbfnaa
open Go.ChangeShapes Go.WideShapes Go.ChangeAt Go.RowKit
set_option linter.unusedVariables false

theorem frame_any (k f s : Int) (w : World) :
    Calls Try.prog 24 #[.agg #[.int .i64 k, .int .i64 f, .int .u64 s]] w fun e w' => e = .returned (.agg #[.int .i64 k, .int .i64 f, .int .u64 s]) ∧ Below w.heap.size w w' := by
  go_enter Try.func24, Try.ntmps24
  go_wp2_with fail
  refine bodyPost_ret (v := .agg #[.int .i64 k, .int .i64 f, .int .u64 s]) (by simp [results, Try.results24, go_sem]) rfl ⟨rfl, ?_⟩
  exact (below_alloc w _).alloc (by simp) _

set_option maxHeartbeats 2000000 in
theorem sameData_any (v0 v1 v2 v3 v4 v5 : Int) (a a' : Option Addr) (n c n' c' : Nat) (l : List Int) (w : World) (hr : RdB w a n c l) (hr' : RdB w a' n' c' l) :
    Calls Try.prog 25 #[.agg #[.int .u64 v0, .int .u64 v1, .int .u64 v2, .int .u64 v3, .int .u64 v4, .int .u64 v5, .slice a n c], .agg #[.int .u64 v0, .int .u64 v1, .int .u64 v2, .int .u64 v3, .int .u64 v4, .int .u64 v5, .slice a' n' c']] w fun e w' => e = .returned (.bool true) ∧ Below w.heap.size w w' := by
  have hb : Below w.heap.size w ((w.alloc (.cells #[.int .u64 v0, .int .u64 v1, .int .u64 v2, .int .u64 v3, .int .u64 v4, .int .u64 v5, .slice a n c] 25)).alloc (.cells #[.int .u64 v0, .int .u64 v1, .int .u64 v2, .int .u64 v3, .int .u64 v4, .int .u64 v5, .slice a' n' c'] 29)) := (below_alloc w _).alloc (by simp) _
  have HS := Lib.hid (same_any _ _ _ _ _ _ _ _ _ (hr.mono hb) (hr'.mono hb))
  clear hr hr'
  go_enter Try.func25, Try.ntmps25
  go_wp2_with fail
  refine HS.out.mono ?_
  rintro e w' ⟨rfl, rfl⟩
  go_wp2_with fail
  go_ret
  exact ⟨rfl, hb⟩

set_option maxHeartbeats 2000000 in
theorem sameField_any (v0 v1 v2 : Int) (a a' : Option Addr) (n c n' c' : Nat) (l : List Int) (w : World) (hr : RdB w a n c l) (hr' : RdB w a' n' c' l) :
    Calls Try.prog 26 #[.agg #[.int .u64 v0, .int .u64 v1, .int .u64 v2, .slice a n c], .agg #[.int .u64 v0, .int .u64 v1, .int .u64 v2, .slice a' n' c']] w fun e w' => e = .returned (.bool true) ∧ Below w.heap.size w w' := by
  have hb : Below w.heap.size w ((w.alloc (.cells #[.int .u64 v0, .int .u64 v1, .int .u64 v2, .slice a n c] 27)).alloc (.cells #[.int .u64 v0, .int .u64 v1, .int .u64 v2, .slice a' n' c'] 30)) := (below_alloc w _).alloc (by simp) _
  have HS := Lib.hid (same_any _ _ _ _ _ _ _ _ _ (hr.mono hb) (hr'.mono hb))
  clear hr hr'
  go_enter Try.func26, Try.ntmps26
  go_wp2_with fail
  refine HS.out.mono ?_
  rintro e w' ⟨rfl, rfl⟩
  go_wp2_with fail
  go_ret
  exact ⟨rfl, hb⟩

/-- A frame in a box. -/
structure FrameB (w : World) (B : Nat) (k f s : Int) : Prop where
  lt : B < w.heap.size
  d0 : w.cell? ⟨B, 0, none⟩ = some (.int .i64 k)
  d1 : w.cell? ⟨B, 1, none⟩ = some (.int .i64 f)
  d2 : w.cell? ⟨B, 2, none⟩ = some (.int .u64 s)
theorem FrameB.mono {w w' : World} {B : Nat} {k f s : Int} (h : FrameB w B k f s) {M : Nat} (hb : Below M w w') (hM : B < M) : FrameB w' B k f s :=
  ⟨Nat.lt_of_lt_of_le h.lt hb.size, bcell hb hM h.d0, bcell hb hM h.d1, bcell hb hM h.d2⟩
theorem FrameB.new (w : World) (T : TypeId) (k f s : Int) : FrameB (w.alloc (.cells #[.int .i64 k, .int .i64 f, .int .u64 s] T)) w.heap.size k f s := by
  have h := heap_alloc_new w (.cells #[.int .i64 k, .int .i64 f, .int .u64 s] T)
  exact ⟨by simp, cell_of_heap h 0 _ rfl, cell_of_heap h 1 _ rfl, cell_of_heap h 2 _ rfl⟩
end Go.Proofs.Ytfhpdhfhahbfnaa
