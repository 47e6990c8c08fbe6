/- What the document's own ReadHead computes: the same. Conditions stand as premises. -/
import Derived.Test.YtpkmdnfkeebgbaaRefRaw
import Derived.Test.YtpkmdnfkeebgbaaHeadRead
import Derived.Test.YtpkmdnfkeebgbaaRefEnd
namespace Go.Proofs.Ytpkmdnfkeebgbaa
open Go.ChangeShapes Go.WideShapes Go.ChangeAt Go.RowKit
set_option linter.unusedVariables false
set_option linter.unusedSimpArgs false

section
variable {P : Program} {w : World}
/-- A struct's cells and two slots handed back. -/
theorem results_S2 {fn : Func} {tmps : Array Value} {s k m : Nat} {ty : TypeId} (hf : fn.results = #[.cell s ty, .tmp k, .tmp m]) {S n : Nat} {cs : Array Value} {T : TypeId} {v u : Value} (hI : RowInfo P ty n)
    (hs : tmps.getD s undef = .pointer (some ⟨S, 0, none⟩)) (hk : tmps.getD k undef = v) (hm : tmps.getD m undef = u) (hg : w.heap[S]? = some (.cells cs T (0, 0))) (hn : cs.size = n) : (results fn tmps).run P w = .ok (.tuple #[.agg cs, v, u]) w := by
  obtain ⟨d, hu, hd⟩ := hI.desc
  have hl := run_loadVar_row w S T ty cs (0, 0) d hg hu (by revert hd; cases d <;> simp) (by rw [hI.2, hn])
  rw [Array.getD_eq_getD_getElem?] at hs hk hm
  simp [results, hf, hs, hk, hm, asAddr, hl, Sem.run_bind, Result.andThen]
end
def zeroR : List Value := headL 0 0 0 (List.replicate 64 0) z20 0 0 0
theorem zeroR_one : zeroR.toArray.all (·.oneCell') = true := headL_one
theorem zeroR_size : zeroR.toArray.size = 90 := headL_size (n := 20) rfl rfl
/-- The document's head that bytes begin with. -/
def rawL (l : List Int) : List Value := headL (gN l 8 4) (gN l 12 4) (l[16]?.getD 0) (idsP l) (numsP l 20) (gN l 256 4) (gN l 260 4) (gN l 264 8)
theorem rawL_one {l : List Int} : (rawL l).toArray.all (·.oneCell') = true := headL_one
theorem rawL_size {l : List Int} (h : 272 ≤ l.length) : (rawL l).toArray.size = 90 := headL_size (n := 20) (idsP_length h) (numsP_length l 20)
/-- What ReadHead answers. -/
def HeadRE (cs : List Value) (d c : Int) (w : World) (e : Ending) (w' : World) : Prop := e = .returned (.tuple #[.agg cs.toArray, .int .u64 d, .int .i64 c]) ∧ Below w.heap.size w w'
def headRR (l : List Int) : List Value := if headC l = 0 then rawL l else zeroR
def headRD (l : List Int) : Int := if headC l = 0 then gN l 248 8 else 0
theorem Try.builtZR : Try.prog.built 34 [] = some zeroR.toArray := by kernel_rfl
theorem raw_num {l : List Int} {w : World} {S : Nat} {T : TypeId} (hl : 272 ≤ l.length) (h : w.heap[S]? = some (.cells (rawL l).toArray T (0, 0))) (k : Nat) (hk : k < 20) : w.cell? ⟨S, 67 + k, none⟩ = some (.int .u64 (gN l (88 + 8 * k) 8)) :=
  cell_of_heap h (67 + k) _ (headL_N (idsP_length hl) k _ (numsP_at l 20 k hk))
theorem endraw_any {l : List Int} (hb : IsB l) (hl : 272 ≤ l.length) (w : World) :
    Calls Try.prog 12 #[.agg (rawL l).toArray] w fun e w' => e = .returned (.tuple #[.int .u64 (endH l), .bool (endB (gN l 88 8) (gN l 96 8))]) ∧ Below w.heap.size w w' :=
  refend_any _ _ _ _ _ _ _ _ (gN l 88 8) (gN l 96 8) w (idsP_length hl) (numsP_at l 20 0 (by omega)) (numsP_at l 20 1 (by omega)) (gN_u64 hb 88) (gN_u64 hb 96)

set_option maxRecDepth 100000 in
set_option maxHeartbeats 4000000 in
theorem readhead_short (a : Option Addr) (n c : Nat) (w : World) (hn : n < 272) :
    Calls Try.prog 9 #[.slice a n c] w (HeadRE zeroR 0 22 w) := by
  have hlt : decide ((n : Int) < 272) = true := by simp; omega
  go_enter Try.func9, Try.ntmps9
  go_upto_region 1 with fail
  have hZ1 := heap_alloc_new w (.cells Try.zeroCells34 34)
  have HB1 := Lib.hid (below_alloc w (.cells Try.zeroCells34 34))
  generalize w.alloc (.cells Try.zeroCells34 34) = w1 at hZ1 HB1 ⊢
  have HZ1 := Lib.hid hZ1
  clear hZ1
  go_wp2_with (first
    | (refine wpList_buildS rfl rfl (cells := zeroR.toArray) (by kernel_rfl) ?_)
    | (with_reducible refine wpList_storeS rfl rfl Try.refheadI rfl rfl HZ1.out (by with_unfolding_all rfl) zeroR_size zeroR_one ?_; intro w2 hX2 hu2))
  refine bodyPost_ret (v := .tuple #[.agg zeroR.toArray, .int .u64 0, .int .i64 22]) (results_S2 rfl Try.refheadI rfl rfl rfl hX2.out zeroR_size) rfl ?_
  exact ⟨rfl, HB1.out.trans (hu2.below HB1.out.size (fun j hj => by omega))⟩

theorem sign_isB : IsB signL := by unfold signL IsB; simp
theorem sign_eq (l : List Int) (hb : IsB l) : ((bstr (l.take 8)).toList == ([76, 80, 75, 83, 72, 72, 82, 72] : List UInt8)) = decide (l.take 8 = signL) := by
  have h := bstr_same (hb.take 8) sign_isB
  have e : (bstr signL).toList = ([76, 80, 75, 83, 72, 72, 82, 72] : List UInt8) := by rw [bstr_toList]; rfl
  rwa [e] at h

set_option maxRecDepth 100000 in
set_option maxHeartbeats 4000000 in
theorem readhead_magic (a : Option Addr) (n c : Nat) (l : List Int) (w : World) (hr : RdB w a n c l) (hn : n ≤ 1000000) (hlo : 272 ≤ n) (hs : l.take 8 ≠ signL) :
    Calls Try.prog 9 #[.slice a n c] w (HeadRE zeroR 0 6 w) := by
  have hlt : decide ((n : Int) < 272) = false := by simp; omega
  have hq := sign_eq l hr.1
  rw [decide_eq_false hs] at hq
  have hd3 : ¬ ((c : Int) < 8) := by have := hr.2.2.1; omega
  have hd4 : (8 : Int) ≤ (c : Int) := by omega
  have HR := Lib.hid hr
  clear hr hs
  go_enter Try.func9, Try.ntmps9
  go_upto_region 1 with fail
  have hZ1 := heap_alloc_new w (.cells Try.zeroCells34 34)
  have HB1 := Lib.hid (below_alloc w (.cells Try.zeroCells34 34))
  generalize w.alloc (.cells Try.zeroCells34 34) = w1 at hZ1 HB1 ⊢
  have HZ1 := Lib.hid hZ1
  have HR1 := Lib.hid ((HR.out.mono HB1.out).take 8 (by omega))
  clear hZ1
  go_wp2_with (first
    | (with_reducible refine wpList_bytesString rfl rfl Try.underlying22 Try.underlying5 Try.underlying9 rfl HR1.out ?_)
    | (refine wpList_buildS rfl rfl (cells := zeroR.toArray) (by kernel_rfl) ?_)
    | (with_reducible refine wpList_storeS rfl rfl Try.refheadI rfl rfl HZ1.out (by with_unfolding_all rfl) zeroR_size zeroR_one ?_; intro w2 hX2 hu2))
  refine bodyPost_ret (v := .tuple #[.agg zeroR.toArray, .int .u64 0, .int .i64 6]) (results_S2 rfl Try.refheadI rfl rfl rfl hX2.out zeroR_size) rfl ?_
  exact ⟨rfl, HB1.out.trans (hu2.below HB1.out.size (fun j hj => by omega))⟩

set_option maxRecDepth 100000 in
set_option maxHeartbeats 8000000 in
theorem readhead_sign (a : Option Addr) (n c : Nat) (l : List Int) (w : World) (hr : RdB w a n c l) (hn : n ≤ 1000000) (hlo : 272 ≤ n) (hs : l.take 8 = signL) :
    Calls Try.prog 9 #[.slice a n c] w (HeadRE (headRR l) (headRD l) (headC l) w) := by
  obtain rfl : l.length = n := hr.len
  have HWay := Lib.hid (headWay l hlo hs)
  have hlt : decide ((l.length : Int) < 272) = false := by simp; omega
  have hq := sign_eq l hr.1
  rw [decide_eq_true hs] at hq
  have hd3 : ¬ ((c : Int) < 8) := by have := hr.2.2.1; omega
  have hd4 : (8 : Int) ≤ (c : Int) := by omega
  have HR := Lib.hid hr
  have HU := Lib.hid (endH_u64 hr.1)
  have HIsB := Lib.hid hr.1
  have HE := Lib.hid (fun w => endraw_any hr.1 hlo w)
  have HT1 := Lib.hid (fun w => reftable_any (gN l 104 8) (gN l 112 8) (gN l 88 8) (endH l) w (gN_u64 hr.1 104) (gN_u64 hr.1 112) (gN_u64 hr.1 88) (endH_u64 hr.1))
  have HT2 := Lib.hid (fun w => reftable_any (gN l 120 8) (gN l 128 8) (gN l 88 8) (endH l) w (gN_u64 hr.1 120) (gN_u64 hr.1 128) (gN_u64 hr.1 88) (endH_u64 hr.1))
  have HSz := Lib.hid (rawL_size hlo)
  have HCC := Lib.hid (show headRR l = if headC l = 0 then rawL l else zeroR from rfl)
  have HCD := Lib.hid (show headRD l = if headC l = 0 then gN l 248 8 else 0 from rfl)
  generalize headC l = C at HCC HCD HWay ⊢
  generalize headRR l = RR at HCC ⊢
  generalize headRD l = RD at HCD ⊢
  clear hr hs
  go_enter Try.func9, Try.ntmps9
  go_upto_region 1 with fail
  have hZ1 := heap_alloc_new w (.cells Try.zeroCells34 34)
  have HB1 := Lib.hid (below_alloc w (.cells Try.zeroCells34 34))
  obtain ⟨Z, hZ⟩ : ∃ Z, w.heap.size = Z := ⟨_, rfl⟩
  have HZ := Lib.hid hZ
  rw [hZ] at hZ1 ⊢
  clear hZ
  generalize w.alloc (.cells Try.zeroCells34 34) = w1 at hZ1 HB1 ⊢
  have HZ1 := Lib.hid hZ1
  have HR1 := Lib.hid ((HR.out.mono HB1.out).take 8 (by omega))
  clear hZ1
  go_upto_region 5 with (with_reducible refine wpList_bytesString rfl rfl Try.underlying22 Try.underlying5 Try.underlying9 rfl HR1.out ?_)
  go_upto_region 6 with (first
    | (go_at_call 22; refine (raw_any _ _ _ l _ (HR.out.mono HB1.out) hn hlo).mono ?_; rintro e w3 ⟨rfl, hb3⟩; have HB3 := Lib.hid (HB1.out.trans (hb3.mono HB1.out.size)); have HZ3 := Lib.hid (row_below hb3 (lt_of_heap HZ1.out) HZ1.out); clear hb3)
    | (with_reducible refine wpList_storeS (cells := (rawL l).toArray) rfl rfl Try.refheadI rfl rfl (heap_alloc_new w3 _) (by with_unfolding_all rfl) HSz.out rawL_one ?_; intro w4 hX4 hu4))
  have HUp := Lib.hid ((Upd.ofBelow (F := (· = w3.heap.size)) (below_alloc w3 _)).trans hu4 (fun _ _ h => h))
  have HB4 := Lib.hid (HB3.out.trans (HUp.out.below (B := w.heap.size) HB3.out.size (fun j hj => by have := HB3.out.size; omega)))
  have HZ4 := Lib.hid (row_upd HUp.out (by have := lt_of_heap HZ3.out; omega) HZ3.out)
  obtain ⟨H, hH⟩ : ∃ H, w3.heap.size = H := ⟨_, rfl⟩
  rw [hH] at hX4 ⊢
  have HX4 := Lib.hid hX4.out
  clear hX4 hu4 hH HUp HR HR1 HZ1 hq hd3 hd4
  go_upto_region 7 with (first
    | (with_reducible refine wpList_loadS rfl rfl Try.refheadI rfl HX4.out HSz.out ?_)
    | (go_at_call 12; refine (HE.out _).mono ?_; rintro e w5 ⟨rfl, hb5⟩; have HB5 := Lib.hid (HB4.out.trans (hb5.mono HB4.out.size)); have HZ5 := Lib.hid (row_below hb5 (lt_of_heap HZ4.out) HZ4.out); have HX5 := Lib.hid (row_below hb5 (lt_of_heap HX4.out) HX4.out); clear hb5))
  clear HX4 HZ4 HB4 HB3 HE
  have j1 := headl_1 HX5.out
  have j2 := headl_2 HX5.out
  have j67 := raw_num hlo HX5.out 0 (by omega)
  have j68 := raw_num hlo HX5.out 1 (by omega)
  have j69 := raw_num hlo HX5.out 2 (by omega)
  have j70 := raw_num hlo HX5.out 3 (by omega)
  have j71 := raw_num hlo HX5.out 4 (by omega)
  have j72 := raw_num hlo HX5.out 5 (by omega)
  unfold flI at HWay
  simp only [Nat.mul_zero, Nat.add_zero, Nat.mul_one, Nat.reduceMul, Nat.reduceAdd] at j67 j68 j69 j70 j71 j72
  have hz := gN_u64 (l := l) (HIsB.out) 88
  have hz2 := gN_u64 (l := l) (HIsB.out) 96
  have hen := HU.out
  generalize tabV (gN l 104 8) (gN l 112 8) (gN l 88 8) (endH l) = t1 at HWay HT1
  generalize tabV (gN l 120 8) (gN l 128 8) (gN l 88 8) (endH l) = t2 at HWay HT2
  generalize endH l = en at *
  generalize endB (gN l 88 8) (gN l 96 8) = ok at *
  generalize gN l 12 4 = inc at *
  generalize l[16]?.getD 0 = st at *
  generalize gN l 88 8 = z at *
  generalize gN l 96 8 = r at *
  generalize gN l 104 8 = dt at *
  generalize gN l 112 8 = ds at *
  generalize gN l 120 8 = ft at *
  generalize gN l 128 8 = fs at *
  generalize gN l 248 8 = dep at *
  obtain ⟨z0, z1⟩ := hz
  obtain ⟨r0, r1⟩ := hz2
  obtain ⟨e0, e1⟩ := hen
  clear HU HIsB
  rcases HWay.out with ⟨q1, hC⟩ | ⟨q1, q2, hC⟩ | ⟨q1, q2, q3, hC⟩ | ⟨q1, q2, q3, q4, hC⟩ | ⟨q1, q2, q3, q4, q5, hC⟩ | ⟨q1, q2, q3, q4, q5, q6, hC⟩ | ⟨q1, q2, q3, q4, q5, q6, q7, hC⟩ | ⟨q1, q2, q3, q4, q5, q6, q7, q8, hC⟩ | ⟨q1, q2, q3, q4, q5, q6, q7, q8, q9, hC⟩ | ⟨q1, q2, q3, q4, q5, q6, q7, q8, q9, hC⟩
  · have HC := Lib.hid hC
    have HRz := Lib.hid (show RR = zeroR by rw [HCC.out, if_neg (by rw [hC]; decide)])
    have HRd := Lib.hid (show RD = 0 by rw [HCD.out, if_neg (by rw [hC]; decide)])
    clear hC HWay HCC HCD
    go_wp2_with (first
      | (refine wpList_buildS rfl rfl (cells := zeroR.toArray) (by kernel_rfl) ?_)
      | (with_reducible refine wpList_storeS rfl rfl Try.refheadI rfl rfl HZ5.out (by with_unfolding_all rfl) zeroR_size zeroR_one ?_; intro w6 hX6 hu6))
    have HB6 := Lib.hid (HB5.out.trans (hu6.below HB5.out.size (fun j hj => by have := HZ.out; omega)))
    refine bodyPost_ret (v := .tuple #[.agg zeroR.toArray, .int .u64 0, .int .i64 7]) (results_S2 rfl Try.refheadI rfl rfl rfl hX6.out zeroR_size) rfl ?_
    exact ⟨by rw [HC.out, HRz.out, HRd.out], HB6.out⟩
  · have HC := Lib.hid hC
    have HRz := Lib.hid (show RR = zeroR by rw [HCC.out, if_neg (by rw [hC]; decide)])
    have HRd := Lib.hid (show RD = 0 by rw [HCD.out, if_neg (by rw [hC]; decide)])
    clear hC HWay HCC HCD
    have q2' : decide (2 < st) = true := by simpa using q2
    go_wp2_with (first
      | (refine wpList_buildS rfl rfl (cells := zeroR.toArray) (by kernel_rfl) ?_)
      | (with_reducible refine wpList_storeS rfl rfl Try.refheadI rfl rfl HZ5.out (by with_unfolding_all rfl) zeroR_size zeroR_one ?_; intro w6 hX6 hu6))
    have HB6 := Lib.hid (HB5.out.trans (hu6.below HB5.out.size (fun j hj => by have := HZ.out; omega)))
    refine bodyPost_ret (v := .tuple #[.agg zeroR.toArray, .int .u64 0, .int .i64 8]) (results_S2 rfl Try.refheadI rfl rfl rfl hX6.out zeroR_size) rfl ?_
    exact ⟨by rw [HC.out, HRz.out, HRd.out], HB6.out⟩
  · have HC := Lib.hid hC
    have HRz := Lib.hid (show RR = zeroR by rw [HCC.out, if_neg (by rw [hC]; decide)])
    have HRd := Lib.hid (show RD = 0 by rw [HCD.out, if_neg (by rw [hC]; decide)])
    clear hC HWay HCC HCD
    have q2' : decide (2 < st) = false := by simp; omega
    have q3' : decide (z < 272) = true := by simpa using q3
    go_wp2_with (first
      | (refine wpList_buildS rfl rfl (cells := zeroR.toArray) (by kernel_rfl) ?_)
      | (with_reducible refine wpList_storeS rfl rfl Try.refheadI rfl rfl HZ5.out (by with_unfolding_all rfl) zeroR_size zeroR_one ?_; intro w6 hX6 hu6))
    have HB6 := Lib.hid (HB5.out.trans (hu6.below HB5.out.size (fun j hj => by have := HZ.out; omega)))
    refine bodyPost_ret (v := .tuple #[.agg zeroR.toArray, .int .u64 0, .int .i64 5]) (results_S2 rfl Try.refheadI rfl rfl rfl hX6.out zeroR_size) rfl ?_
    exact ⟨by rw [HC.out, HRz.out, HRd.out], HB6.out⟩
  · have HC := Lib.hid hC
    have HRz := Lib.hid (show RR = zeroR by rw [HCC.out, if_neg (by rw [hC]; decide)])
    have HRd := Lib.hid (show RD = 0 by rw [HCD.out, if_neg (by rw [hC]; decide)])
    clear hC HWay HCC HCD
    have q2' : decide (2 < st) = false := by simp; omega
    have q3' : decide (z < 272) = false := by simp; omega
    go_wp2_with (first
      | (refine wpList_buildS rfl rfl (cells := zeroR.toArray) (by kernel_rfl) ?_)
      | (with_reducible refine wpList_storeS rfl rfl Try.refheadI rfl rfl HZ5.out (by with_unfolding_all rfl) zeroR_size zeroR_one ?_; intro w6 hX6 hu6))
    have HB6 := Lib.hid (HB5.out.trans (hu6.below HB5.out.size (fun j hj => by have := HZ.out; omega)))
    refine bodyPost_ret (v := .tuple #[.agg zeroR.toArray, .int .u64 0, .int .i64 5]) (results_S2 rfl Try.refheadI rfl rfl rfl hX6.out zeroR_size) rfl ?_
    exact ⟨by rw [HC.out, HRz.out, HRd.out], HB6.out⟩
  · have HC := Lib.hid hC
    have HRz := Lib.hid (show RR = zeroR by rw [HCC.out, if_neg (by rw [hC]; decide)])
    have HRd := Lib.hid (show RD = 0 by rw [HCD.out, if_neg (by rw [hC]; decide)])
    clear hC HWay HCC HCD
    have q2' : decide (2 < st) = false := by simp; omega
    have q3' : decide (z < 272) = false := by simp; omega
    go_wp2_with (first
      | (refine wpList_buildS rfl rfl (cells := zeroR.toArray) (by kernel_rfl) ?_)
      | (with_reducible refine wpList_storeS rfl rfl Try.refheadI rfl rfl HZ5.out (by with_unfolding_all rfl) zeroR_size zeroR_one ?_; intro w6 hX6 hu6))
    have HB6 := Lib.hid (HB5.out.trans (hu6.below HB5.out.size (fun j hj => by have := HZ.out; omega)))
    refine bodyPost_ret (v := .tuple #[.agg zeroR.toArray, .int .u64 0, .int .i64 5]) (results_S2 rfl Try.refheadI rfl rfl rfl hX6.out zeroR_size) rfl ?_
    exact ⟨by rw [HC.out, HRz.out, HRd.out], HB6.out⟩
  · have HC := Lib.hid hC
    have HRz := Lib.hid (show RR = zeroR by rw [HCC.out, if_neg (by rw [hC]; decide)])
    have HRd := Lib.hid (show RD = 0 by rw [HCD.out, if_neg (by rw [hC]; decide)])
    clear hC HWay HCC HCD
    have q2' : decide (2 < st) = false := by simp; omega
    have q3' : decide (z < 272) = false := by simp; omega
    subst q6
    go_wp2_with (first
      | (refine wpList_buildS rfl rfl (cells := zeroR.toArray) (by kernel_rfl) ?_)
      | (with_reducible refine wpList_storeS rfl rfl Try.refheadI rfl rfl HZ5.out (by with_unfolding_all rfl) zeroR_size zeroR_one ?_; intro w6 hX6 hu6))
    have HB6 := Lib.hid (HB5.out.trans (hu6.below HB5.out.size (fun j hj => by have := HZ.out; omega)))
    refine bodyPost_ret (v := .tuple #[.agg zeroR.toArray, .int .u64 0, .int .i64 2]) (results_S2 rfl Try.refheadI rfl rfl rfl hX6.out zeroR_size) rfl ?_
    exact ⟨by rw [HC.out, HRz.out, HRd.out], HB6.out⟩
  · have HC := Lib.hid hC
    have HRz := Lib.hid (show RR = zeroR by rw [HCC.out, if_neg (by rw [hC]; decide)])
    have HRd := Lib.hid (show RD = 0 by rw [HCD.out, if_neg (by rw [hC]; decide)])
    clear hC HWay HCC HCD
    have q2' : decide (2 < st) = false := by simp; omega
    have q3' : decide (z < 272) = false := by simp; omega
    subst q6
    have q7' : decide ((l.length : Int) < en) = true := by simpa using q7
    go_wp2_with (first
      | (refine wpList_buildS rfl rfl (cells := zeroR.toArray) (by kernel_rfl) ?_)
      | (with_reducible refine wpList_storeS rfl rfl Try.refheadI rfl rfl HZ5.out (by with_unfolding_all rfl) zeroR_size zeroR_one ?_; intro w6 hX6 hu6))
    have HB6 := Lib.hid (HB5.out.trans (hu6.below HB5.out.size (fun j hj => by have := HZ.out; omega)))
    refine bodyPost_ret (v := .tuple #[.agg zeroR.toArray, .int .u64 0, .int .i64 2]) (results_S2 rfl Try.refheadI rfl rfl rfl hX6.out zeroR_size) rfl ?_
    exact ⟨by rw [HC.out, HRz.out, HRd.out], HB6.out⟩
  · have HC := Lib.hid hC
    have HRz := Lib.hid (show RR = zeroR by rw [HCC.out, if_neg (by rw [hC]; simpa using q8)])
    have HRd := Lib.hid (show RD = 0 by rw [HCD.out, if_neg (by rw [hC]; simpa using q8)])
    clear hC HWay HCC HCD
    have q2' : decide (2 < st) = false := by simp; omega
    have q3' : decide (z < 272) = false := by simp; omega
    subst q6
    have q7' : decide ((l.length : Int) < en) = false := by simp; omega
    have q8' : (t1 == 0) = false := by simpa using q8
    go_upto_region 9 with (go_at_call 23; refine (HT1.out _).mono ?_; rintro e w6 ⟨rfl, rfl⟩)
    go_wp2_with (first
      | (refine wpList_buildS rfl rfl (cells := zeroR.toArray) (by kernel_rfl) ?_)
      | (with_reducible refine wpList_storeS rfl rfl Try.refheadI rfl rfl HZ5.out (by with_unfolding_all rfl) zeroR_size zeroR_one ?_; intro w6 hX6 hu6))
    have HB6 := Lib.hid (HB5.out.trans (hu6.below HB5.out.size (fun j hj => by have := HZ.out; omega)))
    refine bodyPost_ret (v := .tuple #[.agg zeroR.toArray, .int .u64 0, .int .i64 t1]) (results_S2 rfl Try.refheadI rfl rfl rfl hX6.out zeroR_size) rfl ?_
    exact ⟨by rw [HC.out, HRz.out, HRd.out], HB6.out⟩
  · have HC := Lib.hid hC
    have HRz := Lib.hid (show RR = zeroR by rw [HCC.out, if_neg (by rw [hC]; simpa using q9)])
    have HRd := Lib.hid (show RD = 0 by rw [HCD.out, if_neg (by rw [hC]; simpa using q9)])
    clear hC HWay HCC HCD
    have q2' : decide (2 < st) = false := by simp; omega
    have q3' : decide (z < 272) = false := by simp; omega
    subst q6
    have q7' : decide ((l.length : Int) < en) = false := by simp; omega
    have q8' : (t1 == 0) = true := by simpa using q8
    go_upto_region 9 with (go_at_call 23; refine (HT1.out _).mono ?_; rintro e w6 ⟨rfl, rfl⟩)
    go_upto_region 19 with (go_at_call 23; refine (HT2.out _).mono ?_; rintro e w7 ⟨rfl, rfl⟩)
    go_wp2_with (first
      | (refine wpList_buildS rfl rfl (cells := zeroR.toArray) (by kernel_rfl) ?_)
      | (with_reducible refine wpList_storeS rfl rfl Try.refheadI rfl rfl HZ5.out (by with_unfolding_all rfl) zeroR_size zeroR_one ?_; intro w6 hX6 hu6))
    have HB6 := Lib.hid (HB5.out.trans (hu6.below HB5.out.size (fun j hj => by have := HZ.out; omega)))
    refine bodyPost_ret (v := .tuple #[.agg zeroR.toArray, .int .u64 0, .int .i64 t2]) (results_S2 rfl Try.refheadI rfl rfl rfl hX6.out zeroR_size) rfl ?_
    exact ⟨by rw [HC.out, HRz.out, HRd.out], HB6.out⟩
  · have HC := Lib.hid hC
    have HRz := Lib.hid (show RR = rawL l by rw [HCC.out, if_pos hC])
    have HRd := Lib.hid (show RD = dep by rw [HCD.out, if_pos hC])
    clear hC HWay HCC HCD
    have q2' : decide (2 < st) = false := by simp; omega
    have q3' : decide (z < 272) = false := by simp; omega
    subst q6
    have q7' : decide ((l.length : Int) < en) = false := by simp; omega
    have q8' : (t1 == 0) = true := by simpa using q8
    go_upto_region 9 with (go_at_call 23; refine (HT1.out _).mono ?_; rintro e w6 ⟨rfl, rfl⟩)
    go_upto_region 19 with (go_at_call 23; refine (HT2.out _).mono ?_; rintro e w7 ⟨rfl, rfl⟩)
    go_wp2_with (first
      | (with_reducible refine wpList_loadS rfl rfl Try.refheadI rfl HX5.out HSz.out ?_)
      | (with_reducible refine wpList_storeS rfl rfl Try.refheadI rfl rfl HZ5.out (by with_unfolding_all rfl) HSz.out rawL_one ?_; intro w6 hX6 hu6))
    have HB6 := Lib.hid (HB5.out.trans (hu6.below HB5.out.size (fun j hj => by have := HZ.out; omega)))
    refine bodyPost_ret (v := .tuple #[.agg (rawL l).toArray, .int .u64 dep, .int .i64 0]) (results_S2 rfl Try.refheadI rfl rfl rfl hX6.out HSz.out) rfl ?_
    exact ⟨by rw [HC.out, HRz.out, HRd.out], HB6.out⟩
end Go.Proofs.Ytpkmdnfkeebgbaa
