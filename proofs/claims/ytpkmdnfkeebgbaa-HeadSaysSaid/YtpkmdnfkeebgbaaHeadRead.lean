/- What head.Read computes: the head that bytes begin with, or why they are none. Conditions stand as premises. -/
import Derived.Test.YtpkmdnfkeebgbaaHeadPre
import Derived.Test.YtpkmdnfkeebgbaaHeadTab
import Derived.Test.YtpkmdnfkeebgbaaHeadNil
namespace Go.Proofs.Ytpkmdnfkeebgbaa
open Go.ChangeShapes Go.WideShapes Go.ChangeAt Go.RowKit
set_option linter.unusedVariables false
set_option linter.unusedSimpArgs false

/-- Of the flags those that nobody knows. -/
def flI (x : Int) : Int := bits .andNot .u32 x 4
def endH (l : List Int) : Int := endV (gN l 88 8) (gN l 96 8)
/-- Why bytes are no head, so many bytes there are at least. -/
def headC (l : List Int) : Int :=
  if l.length < 272 then 22 else if l.take 8 ≠ signL then 6 else
  if flI (gN l 12 4) ≠ 0 then 7 else if (2 : Int) < l[16]?.getD 0 then 8 else
  if gN l 88 8 < 272 then 5 else if gN l 88 8 % 8 ≠ 0 then 5 else if gN l 96 8 % 8 ≠ 0 then 5 else
  if endB (gN l 88 8) (gN l 96 8) = false then 2 else if (l.length : Int) < endH l then 2 else
  if tabV (gN l 104 8) (gN l 112 8) (gN l 88 8) (endH l) ≠ 0 then tabV (gN l 104 8) (gN l 112 8) (gN l 88 8) (endH l) else
  tabV (gN l 120 8) (gN l 128 8) (gN l 88 8) (endH l)
/-- The ways behind the signature. -/
def HeadWay (fl st z r e n t1 t2 C : Int) (ok : Bool) : Prop :=
  ((fl != 0) = true ∧ C = 7) ∨
  ((fl != 0) = false ∧ 2 < st ∧ C = 8) ∨
  ((fl != 0) = false ∧ st ≤ 2 ∧ z < 272 ∧ C = 5) ∨
  ((fl != 0) = false ∧ st ≤ 2 ∧ 272 ≤ z ∧ (z % 8 != 0) = true ∧ C = 5) ∨
  ((fl != 0) = false ∧ st ≤ 2 ∧ 272 ≤ z ∧ (z % 8 != 0) = false ∧ (r % 8 != 0) = true ∧ C = 5) ∨
  ((fl != 0) = false ∧ st ≤ 2 ∧ 272 ≤ z ∧ (z % 8 != 0) = false ∧ (r % 8 != 0) = false ∧ ok = false ∧ C = 2) ∨
  ((fl != 0) = false ∧ st ≤ 2 ∧ 272 ≤ z ∧ (z % 8 != 0) = false ∧ (r % 8 != 0) = false ∧ ok = true ∧ n < e ∧ C = 2) ∨
  ((fl != 0) = false ∧ st ≤ 2 ∧ 272 ≤ z ∧ (z % 8 != 0) = false ∧ (r % 8 != 0) = false ∧ ok = true ∧ e ≤ n ∧ (t1 != 0) = true ∧ C = t1) ∨
  ((fl != 0) = false ∧ st ≤ 2 ∧ 272 ≤ z ∧ (z % 8 != 0) = false ∧ (r % 8 != 0) = false ∧ ok = true ∧ e ≤ n ∧ (t1 != 0) = false ∧ (t2 != 0) = true ∧ C = t2) ∨
  ((fl != 0) = false ∧ st ≤ 2 ∧ 272 ≤ z ∧ (z % 8 != 0) = false ∧ (r % 8 != 0) = false ∧ ok = true ∧ e ≤ n ∧ (t1 != 0) = false ∧ (t2 != 0) = false ∧ C = 0)
theorem headWay (l : List Int) (h1 : 272 ≤ l.length) (h2 : l.take 8 = signL) :
    HeadWay (flI (gN l 12 4)) (l[16]?.getD 0) (gN l 88 8) (gN l 96 8) (endH l) l.length (tabV (gN l 104 8) (gN l 112 8) (gN l 88 8) (endH l)) (tabV (gN l 120 8) (gN l 128 8) (gN l 88 8) (endH l)) (headC l) (endB (gN l 88 8) (gN l 96 8)) := by
  unfold HeadWay headC
  rw [if_neg (by omega), if_neg (by simpa using h2)]
  generalize flI (gN l 12 4) = fl
  generalize l[16]?.getD 0 = st
  generalize endB (gN l 88 8) (gN l 96 8) = ok
  generalize tabV (gN l 104 8) (gN l 112 8) (gN l 88 8) (endH l) = t1
  generalize tabV (gN l 120 8) (gN l 128 8) (gN l 88 8) (endH l) = t2
  generalize endH l = e
  generalize gN l 88 8 = z
  generalize gN l 96 8 = r
  by_cases q1 : fl ≠ 0
  · exact .inl ⟨by simpa using q1, if_pos q1⟩
  rw [if_neg q1]
  have q1' : (fl != 0) = false := by simpa using q1
  by_cases q2 : 2 < st
  · exact .inr (.inl ⟨q1', q2, if_pos q2⟩)
  rw [if_neg q2]
  have q2' : st ≤ 2 := by omega
  by_cases q3 : z < 272
  · exact .inr (.inr (.inl ⟨q1', q2', q3, if_pos q3⟩))
  rw [if_neg q3]
  have q3' : 272 ≤ z := by omega
  by_cases q4 : z % 8 ≠ 0
  · exact .inr (.inr (.inr (.inl ⟨q1', q2', q3', by simpa using q4, if_pos q4⟩)))
  rw [if_neg q4]
  have q4' : (z % 8 != 0) = false := by simpa using q4
  by_cases q5 : r % 8 ≠ 0
  · exact .inr (.inr (.inr (.inr (.inl ⟨q1', q2', q3', q4', by simpa using q5, if_pos q5⟩))))
  rw [if_neg q5]
  have q5' : (r % 8 != 0) = false := by simpa using q5
  cases ok with
  | false => exact .inr (.inr (.inr (.inr (.inr (.inl ⟨q1', q2', q3', q4', q5', rfl, if_pos rfl⟩)))))
  | true =>
    rw [if_neg (by decide)]
    by_cases q6 : (l.length : Int) < e
    · exact .inr (.inr (.inr (.inr (.inr (.inr (.inl ⟨q1', q2', q3', q4', q5', rfl, q6, if_pos q6⟩))))))
    rw [if_neg q6]
    have q6' : e ≤ (l.length : Int) := by omega
    by_cases q7 : t1 ≠ 0
    · exact .inr (.inr (.inr (.inr (.inr (.inr (.inr (.inl ⟨q1', q2', q3', q4', q5', rfl, q6', by simpa using q7, if_pos q7⟩)))))))
    rw [if_neg q7]
    have q7' : (t1 != 0) = false := by simpa using q7
    by_cases q8 : t2 ≠ 0
    · exact .inr (.inr (.inr (.inr (.inr (.inr (.inr (.inr (.inl ⟨q1', q2', q3', q4', q5', rfl, q6', q7', by simpa using q8, rfl⟩))))))))
    · exact .inr (.inr (.inr (.inr (.inr (.inr (.inr (.inr (.inr ⟨q1', q2', q3', q4', q5', rfl, q6', q7', by simpa using q8, by simpa using q8⟩))))))))
/-- What head.Read hands back. -/
def headR (l : List Int) : List Value := if headC l = 0 then parseL l else zeroH

set_option maxRecDepth 100000 in
set_option maxHeartbeats 4000000 in
theorem headread_magic (a : Option Addr) (n c : Nat) (l : List Int) (w : World) (hr : RdB w a n c l) (hn : n ≤ 1000000) (hlo : 272 ≤ n) (hs : l.take 8 ≠ signL) :
    Calls Try.prog 8 #[.slice a n c] w (HeadE zeroH 6 w) := by
  have hlt : decide ((n : Int) < 272) = false := by simp; omega
  have HD := Lib.hid (show decide (l.take 8 = signL) = false by simpa using hs)
  have HR := Lib.hid hr
  clear hr hs
  go_enter Try.func8, Try.ntmps8
  go_upto_region 1 with fail
  have hZ1 := heap_alloc_new w (.cells Try.zeroCells29 29)
  have HB1 := Lib.hid (below_alloc w (.cells Try.zeroCells29 29))
  generalize w.alloc (.cells Try.zeroCells29 29) = w1 at hZ1 HB1 ⊢
  have HZ1 := Lib.hid hZ1
  clear hZ1
  have kc := Lib.run_convert_bytes_const (P := Try.prog) w1 22 5 #[.int .u8 76, .int .u8 80, .int .u8 75, .int .u8 83, .int .u8 72, .int .u8 72, .int .u8 82, .int .u8 72] 8 8 Try.underlying22 Try.underlying5
  have HL8 := Lib.hid (RdB.marked w1 signL 5 (8, 9) #[.int .u8 76, .int .u8 80, .int .u8 75, .int .u8 83, .int .u8 72, .int .u8 72, .int .u8 82, .int .u8 72] 8 8 rfl rfl (by omega) (by decide) (by unfold signL IsB; simp))
  have HBA := Lib.hid (below_alloc w1 (.cells #[.int .u8 76, .int .u8 80, .int .u8 75, .int .u8 83, .int .u8 72, .int .u8 72, .int .u8 82, .int .u8 72] 5 (8, 9)))
  have HRA := Lib.hid (HR.out.mono (HB1.out.trans (HBA.out.mono HB1.out.size)))
  go_wp2_with (first
    | (go_at_call 19; refine (prefix_any _ _ _ _ _ l signL _ HRA.out HL8.out (by omega) hn).mono ?_; rintro e w2 ⟨rfl, hw2⟩; rw [HD.out]; have HB2 := Lib.hid (hw2 ▸ HB1.out.trans (HBA.out.mono HB1.out.size)); have HZ2 := Lib.hid (hw2 ▸ row_below HBA.out (lt_of_heap HZ1.out) HZ1.out); clear hw2 kc)
    | (refine wpList_buildS rfl rfl (cells := zeroH.toArray) (by kernel_rfl) ?_)
    | (with_reducible refine wpList_storeS rfl rfl Try.headI rfl rfl HZ2.out (by with_unfolding_all rfl) zeroH_size zeroH_one ?_; intro w3 hX3 hu3))
  refine bodyPost_ret (v := .tuple #[.agg zeroH.toArray, .int .i64 6]) (results_S1 rfl Try.headI rfl rfl hX3.out zeroH_size) rfl ?_
  exact ⟨rfl, HB2.out.trans (hu3.below HB2.out.size (fun j hj => by omega))⟩

section
variable {l : List Int}
theorem parseL_size (h : 272 ≤ l.length) : (parseL l).toArray.size = 91 := headL_size (n := 21) (idsP_length h) (numsP_length l 21)
theorem parseL_one : (parseL l).toArray.all (·.oneCell') = true := headL_one
theorem parse_num {w : World} {S : Nat} {T : TypeId} (hl : 272 ≤ l.length) (h : w.heap[S]? = some (.cells (parseL l).toArray T (0, 0))) (k : Nat) (hk : k < 21) : w.cell? ⟨S, 67 + k, none⟩ = some (.int .u64 (gN l (88 + 8 * k) 8)) :=
  cell_of_heap h (67 + k) _ (headL_N (idsP_length hl) k _ (numsP_at l 21 k hk))
theorem endparse_any (hb : IsB l) (hl : 272 ≤ l.length) (w : World) :
    Calls Try.prog 11 #[.agg (parseL l).toArray] w fun e w' => e = .returned (.tuple #[.int .u64 (endH l), .bool (endB (gN l 88 8) (gN l 96 8))]) ∧ Below w.heap.size w w' :=
  headend_any _ _ _ _ _ _ _ _ (gN l 88 8) (gN l 96 8) w (idsP_length hl) (numsP_at l 21 0 (by omega)) (numsP_at l 21 1 (by omega)) (gN_u64 hb 88) (gN_u64 hb 96)
theorem tabparse_any (hb : IsB l) (hl : 272 ≤ l.length) (p q : Nat) (e_ : Int) (he : U64 e_) (w : World) :
    Calls Try.prog 21 #[.agg (parseL l).toArray, .int .u64 (gN l p 8), .int .u64 (gN l q 8), .int .u64 e_] w fun e w' => e = .returned (.int .i64 (tabV (gN l p 8) (gN l q 8) (gN l 88 8) e_)) ∧ Below w.heap.size w w' :=
  headtable_any _ _ _ _ _ _ _ _ _ _ (gN l 88 8) _ w (idsP_length hl) (numsP_at l 21 0 (by omega)) (gN_u64 hb p) (gN_u64 hb q) (gN_u64 hb 88) he
theorem endH_u64 (hb : IsB l) : U64 (endH l) := by
  unfold endH endV
  have h1 := gN_u64 hb 88
  have h2 := gN_u64 hb 96
  obtain ⟨z0, z1⟩ := h1
  obtain ⟨r0, r1⟩ := h2
  split
  · exact ⟨by omega, by omega⟩
  · exact ⟨by omega, by omega⟩
end

set_option maxRecDepth 100000 in
set_option maxHeartbeats 8000000 in
theorem headread_sign (a : Option Addr) (n c : Nat) (l : List Int) (w : World) (hr : RdB w a n c l) (hn : n ≤ 1000000) (hlo : 272 ≤ n) (hs : l.take 8 = signL) :
    Calls Try.prog 8 #[.slice a n c] w (HeadE (headR l) (headC l) w) := by
  obtain rfl : l.length = n := hr.len
  have HWay := Lib.hid (headWay l hlo hs)
  have hlt : decide ((l.length : Int) < 272) = false := by simp; omega
  have HD := Lib.hid (show decide (l.take 8 = signL) = true by simpa using hs)
  have HR := Lib.hid hr
  have HU := Lib.hid (endH_u64 hr.1)
  have HE := Lib.hid (fun w => endparse_any hr.1 hlo w)
  have HT1 := Lib.hid (fun w => tabparse_any hr.1 hlo 104 112 (endH l) (endH_u64 hr.1) w)
  have HT2 := Lib.hid (fun w => tabparse_any hr.1 hlo 120 128 (endH l) (endH_u64 hr.1) w)
  have HSz := Lib.hid (parseL_size hlo)
  have HIsB := Lib.hid hr.1
  have HCC := Lib.hid (show headR l = if headC l = 0 then parseL l else zeroH from rfl)
  generalize headC l = C at HCC HWay ⊢
  generalize headR l = RR at HCC ⊢
  clear hr hs
  go_enter Try.func8, Try.ntmps8
  go_upto_region 1 with fail
  have hZ1 := heap_alloc_new w (.cells Try.zeroCells29 29)
  have HB1 := Lib.hid (below_alloc w (.cells Try.zeroCells29 29))
  obtain ⟨Z, hZ⟩ : ∃ Z, w.heap.size = Z := ⟨_, rfl⟩
  have HZ := Lib.hid hZ
  rw [hZ] at hZ1 ⊢
  clear hZ
  generalize w.alloc (.cells Try.zeroCells29 29) = w1 at hZ1 HB1 ⊢
  have HZ1 := Lib.hid hZ1
  clear hZ1
  have kc := Lib.run_convert_bytes_const (P := Try.prog) w1 22 5 #[.int .u8 76, .int .u8 80, .int .u8 75, .int .u8 83, .int .u8 72, .int .u8 72, .int .u8 82, .int .u8 72] 8 8 Try.underlying22 Try.underlying5
  have HL8 := Lib.hid (RdB.marked w1 signL 5 (8, 9) #[.int .u8 76, .int .u8 80, .int .u8 75, .int .u8 83, .int .u8 72, .int .u8 72, .int .u8 82, .int .u8 72] 8 8 rfl rfl (by omega) (by decide) (by unfold signL IsB; simp))
  have HBA := Lib.hid (below_alloc w1 (.cells #[.int .u8 76, .int .u8 80, .int .u8 75, .int .u8 83, .int .u8 72, .int .u8 72, .int .u8 82, .int .u8 72] 5 (8, 9)))
  have HRA := Lib.hid (HR.out.mono (HB1.out.trans (HBA.out.mono HB1.out.size)))
  go_upto_region 5 with (go_at_call 19; refine (prefix_any _ _ _ _ _ l signL _ HRA.out HL8.out (by omega) hn).mono ?_; rintro e w2 ⟨rfl, hw2⟩; rw [HD.out]; have HB2 := Lib.hid (hw2 ▸ HB1.out.trans (HBA.out.mono HB1.out.size)); have HZ2 := Lib.hid (hw2 ▸ row_below HBA.out (lt_of_heap HZ1.out) HZ1.out); clear hw2 kc)
  go_upto_region 6 with (first
    | (go_at_call 20; refine (parse_any _ _ _ l _ (HR.out.mono HB2.out) hn hlo).mono ?_; rintro e w3 ⟨rfl, hb3⟩; have HB3 := Lib.hid (HB2.out.trans (hb3.mono HB2.out.size)); have HZ3 := Lib.hid (row_below hb3 (lt_of_heap HZ2.out) HZ2.out); clear hb3)
    | (with_reducible refine wpList_storeS rfl rfl Try.headI rfl rfl (heap_alloc_new w3 _) (by with_unfolding_all rfl) HSz.out parseL_one ?_; intro w4 hX4 hu4))
  have HUp := Lib.hid ((Upd.ofBelow (F := (· = w3.heap.size)) (below_alloc w3 _)).trans hu4 (fun _ _ h => h))
  have HB4 := Lib.hid (HB3.out.trans (HUp.out.below (B := w.heap.size) HB3.out.size (fun j hj => by have := HB3.out.size; omega)))
  have HZ4 := Lib.hid (row_upd HUp.out (by have := lt_of_heap HZ3.out; omega) HZ3.out)
  obtain ⟨H, hH⟩ : ∃ H, w3.heap.size = H := ⟨_, rfl⟩
  rw [hH] at hX4 ⊢
  have HX4 := Lib.hid hX4.out
  clear hX4 hu4 hH HUp HR HRA HL8 HBA HB2 HZ2 HZ1
  go_upto_region 7 with (first
    | (with_reducible refine wpList_loadS rfl rfl Try.headI rfl HX4.out HSz.out ?_)
    | (go_at_call 11; refine (HE.out _).mono ?_; rintro e w5 ⟨rfl, hb5⟩; have HB5 := Lib.hid (HB4.out.trans (hb5.mono HB4.out.size)); have HZ5 := Lib.hid (row_below hb5 (lt_of_heap HZ4.out) HZ4.out); have HX5 := Lib.hid (row_below hb5 (lt_of_heap HX4.out) HX4.out); clear hb5))
  clear HX4 HZ4 HB4 HB3 HE
  have j1 := headl_1 HX5.out
  have j2 := headl_2 HX5.out
  have j67 := parse_num hlo HX5.out 0 (by omega)
  have j68 := parse_num hlo HX5.out 1 (by omega)
  have j69 := parse_num hlo HX5.out 2 (by omega)
  have j70 := parse_num hlo HX5.out 3 (by omega)
  have j71 := parse_num hlo HX5.out 4 (by omega)
  have j72 := parse_num hlo HX5.out 5 (by omega)
  have HX5' := Lib.hid HX5.out
  have HSz' := HSz.out
  unfold flI at HWay
  simp only [Nat.mul_zero, Nat.add_zero, Nat.mul_one, Nat.reduceMul, Nat.reduceAdd] at j67 j68 j69 j70 j71 j72
  have hz := gN_u64 (l := l) (HIsB.out) 88
  have hz2 := gN_u64 (l := l) (HIsB.out) 96
  have hen := HU.out
  have HN1 := Lib.hid hlo
  generalize tabV (gN l 104 8) (gN l 112 8) (gN l 88 8) (endH l) = t1 at HWay HT1
  generalize tabV (gN l 120 8) (gN l 128 8) (gN l 88 8) (endH l) = t2 at HWay HT2
  generalize endH l = en at *
  generalize endB (gN l 88 8) (gN l 96 8) = ok at *
  generalize gN l 12 4 = inc at *
  generalize l[16]?.getD 0 = st at *
  generalize gN l 88 8 = z at *
  generalize gN l 96 8 = r at *
  generalize gN l 104 8 = dt at *
  generalize gN l 112 8 = ds at *
  generalize gN l 120 8 = ft at *
  generalize gN l 128 8 = fs at *
  obtain ⟨z0, z1⟩ := hz
  obtain ⟨r0, r1⟩ := hz2
  obtain ⟨e0, e1⟩ := hen
  have HZ9 := HZ.out
  clear HZ9 HU HIsB
  rcases HWay.out with ⟨q1, hC⟩ | ⟨q1, q2, hC⟩ | ⟨q1, q2, q3, hC⟩ | ⟨q1, q2, q3, q4, hC⟩ | ⟨q1, q2, q3, q4, q5, hC⟩ | ⟨q1, q2, q3, q4, q5, q6, hC⟩ | ⟨q1, q2, q3, q4, q5, q6, q7, hC⟩ | ⟨q1, q2, q3, q4, q5, q6, q7, q8, hC⟩ | ⟨q1, q2, q3, q4, q5, q6, q7, q8, q9, hC⟩ | ⟨q1, q2, q3, q4, q5, q6, q7, q8, q9, hC⟩
  · have HC := Lib.hid hC
    have HRz := Lib.hid (show RR = zeroH by rw [HCC.out, if_neg (by rw [hC]; decide)])
    clear hC HWay HCC
    go_wp2_with (first
      | (refine wpList_buildS rfl rfl (cells := zeroH.toArray) (by kernel_rfl) ?_)
      | (with_reducible refine wpList_storeS rfl rfl Try.headI rfl rfl HZ5.out (by with_unfolding_all rfl) zeroH_size zeroH_one ?_; intro w6 hX6 hu6))
    have HB6 := Lib.hid (HB5.out.trans (hu6.below HB5.out.size (fun j hj => by have := HZ.out; omega)))
    refine bodyPost_ret (v := .tuple #[.agg zeroH.toArray, .int .i64 7]) (results_S1 rfl Try.headI rfl rfl hX6.out zeroH_size) rfl ?_
    exact ⟨by rw [HC.out, HRz.out], HB6.out⟩
  · have HC := Lib.hid hC
    have HRz := Lib.hid (show RR = zeroH by rw [HCC.out, if_neg (by rw [hC]; decide)])
    clear hC HWay HCC
    have q2' : decide (2 < st) = true := by simpa using q2
    go_wp2_with (first
      | (refine wpList_buildS rfl rfl (cells := zeroH.toArray) (by kernel_rfl) ?_)
      | (with_reducible refine wpList_storeS rfl rfl Try.headI rfl rfl HZ5.out (by with_unfolding_all rfl) zeroH_size zeroH_one ?_; intro w6 hX6 hu6))
    have HB6 := Lib.hid (HB5.out.trans (hu6.below HB5.out.size (fun j hj => by have := HZ.out; omega)))
    refine bodyPost_ret (v := .tuple #[.agg zeroH.toArray, .int .i64 8]) (results_S1 rfl Try.headI rfl rfl hX6.out zeroH_size) rfl ?_
    exact ⟨by rw [HC.out, HRz.out], HB6.out⟩
  · have HC := Lib.hid hC
    have HRz := Lib.hid (show RR = zeroH by rw [HCC.out, if_neg (by rw [hC]; decide)])
    clear hC HWay HCC
    have q2' : decide (2 < st) = false := by simp; omega
    have q3' : decide (z < 272) = true := by simpa using q3
    go_wp2_with (first
      | (refine wpList_buildS rfl rfl (cells := zeroH.toArray) (by kernel_rfl) ?_)
      | (with_reducible refine wpList_storeS rfl rfl Try.headI rfl rfl HZ5.out (by with_unfolding_all rfl) zeroH_size zeroH_one ?_; intro w6 hX6 hu6))
    have HB6 := Lib.hid (HB5.out.trans (hu6.below HB5.out.size (fun j hj => by have := HZ.out; omega)))
    refine bodyPost_ret (v := .tuple #[.agg zeroH.toArray, .int .i64 5]) (results_S1 rfl Try.headI rfl rfl hX6.out zeroH_size) rfl ?_
    exact ⟨by rw [HC.out, HRz.out], HB6.out⟩
  · have HC := Lib.hid hC
    have HRz := Lib.hid (show RR = zeroH by rw [HCC.out, if_neg (by rw [hC]; decide)])
    clear hC HWay HCC
    have q2' : decide (2 < st) = false := by simp; omega
    have q3' : decide (z < 272) = false := by simp; omega
    go_wp2_with (first
      | (refine wpList_buildS rfl rfl (cells := zeroH.toArray) (by kernel_rfl) ?_)
      | (with_reducible refine wpList_storeS rfl rfl Try.headI rfl rfl HZ5.out (by with_unfolding_all rfl) zeroH_size zeroH_one ?_; intro w6 hX6 hu6))
    have HB6 := Lib.hid (HB5.out.trans (hu6.below HB5.out.size (fun j hj => by have := HZ.out; omega)))
    refine bodyPost_ret (v := .tuple #[.agg zeroH.toArray, .int .i64 5]) (results_S1 rfl Try.headI rfl rfl hX6.out zeroH_size) rfl ?_
    exact ⟨by rw [HC.out, HRz.out], HB6.out⟩
  · have HC := Lib.hid hC
    have HRz := Lib.hid (show RR = zeroH by rw [HCC.out, if_neg (by rw [hC]; decide)])
    clear hC HWay HCC
    have q2' : decide (2 < st) = false := by simp; omega
    have q3' : decide (z < 272) = false := by simp; omega
    go_wp2_with (first
      | (refine wpList_buildS rfl rfl (cells := zeroH.toArray) (by kernel_rfl) ?_)
      | (with_reducible refine wpList_storeS rfl rfl Try.headI rfl rfl HZ5.out (by with_unfolding_all rfl) zeroH_size zeroH_one ?_; intro w6 hX6 hu6))
    have HB6 := Lib.hid (HB5.out.trans (hu6.below HB5.out.size (fun j hj => by have := HZ.out; omega)))
    refine bodyPost_ret (v := .tuple #[.agg zeroH.toArray, .int .i64 5]) (results_S1 rfl Try.headI rfl rfl hX6.out zeroH_size) rfl ?_
    exact ⟨by rw [HC.out, HRz.out], HB6.out⟩
  · have HC := Lib.hid hC
    have HRz := Lib.hid (show RR = zeroH by rw [HCC.out, if_neg (by rw [hC]; decide)])
    clear hC HWay HCC
    have q2' : decide (2 < st) = false := by simp; omega
    have q3' : decide (z < 272) = false := by simp; omega
    subst q6
    go_wp2_with (first
      | (refine wpList_buildS rfl rfl (cells := zeroH.toArray) (by kernel_rfl) ?_)
      | (with_reducible refine wpList_storeS rfl rfl Try.headI rfl rfl HZ5.out (by with_unfolding_all rfl) zeroH_size zeroH_one ?_; intro w6 hX6 hu6))
    have HB6 := Lib.hid (HB5.out.trans (hu6.below HB5.out.size (fun j hj => by have := HZ.out; omega)))
    refine bodyPost_ret (v := .tuple #[.agg zeroH.toArray, .int .i64 2]) (results_S1 rfl Try.headI rfl rfl hX6.out zeroH_size) rfl ?_
    exact ⟨by rw [HC.out, HRz.out], HB6.out⟩
  · have HC := Lib.hid hC
    have HRz := Lib.hid (show RR = zeroH by rw [HCC.out, if_neg (by rw [hC]; decide)])
    clear hC HWay HCC
    have q2' : decide (2 < st) = false := by simp; omega
    have q3' : decide (z < 272) = false := by simp; omega
    subst q6
    have q7' : decide ((l.length : Int) < en) = true := by simpa using q7
    go_wp2_with (first
      | (refine wpList_buildS rfl rfl (cells := zeroH.toArray) (by kernel_rfl) ?_)
      | (with_reducible refine wpList_storeS rfl rfl Try.headI rfl rfl HZ5.out (by with_unfolding_all rfl) zeroH_size zeroH_one ?_; intro w6 hX6 hu6))
    have HB6 := Lib.hid (HB5.out.trans (hu6.below HB5.out.size (fun j hj => by have := HZ.out; omega)))
    refine bodyPost_ret (v := .tuple #[.agg zeroH.toArray, .int .i64 2]) (results_S1 rfl Try.headI rfl rfl hX6.out zeroH_size) rfl ?_
    exact ⟨by rw [HC.out, HRz.out], HB6.out⟩
  · have HC := Lib.hid hC
    have HRz := Lib.hid (show RR = zeroH by rw [HCC.out, if_neg (by rw [hC]; simpa using q8)])
    clear hC HWay HCC
    have q2' : decide (2 < st) = false := by simp; omega
    have q3' : decide (z < 272) = false := by simp; omega
    subst q6
    have q7' : decide ((l.length : Int) < en) = false := by simp; omega
    go_upto_region 16 with (first
      | (with_reducible refine wpList_loadS rfl rfl Try.headI rfl HX5.out HSz.out ?_)
      | (go_at_call 21; refine (HT1.out _).mono ?_; rintro e w6 ⟨rfl, hb6⟩; have HB6 := Lib.hid (HB5.out.trans (hb6.mono HB5.out.size)); have HZ6 := Lib.hid (row_below hb6 (lt_of_heap HZ5.out) HZ5.out); have HX6 := Lib.hid (row_below hb6 (lt_of_heap HX5.out) HX5.out); have j71' := bcell hb6 (lt_of_heap HX5.out) j71; have j72' := bcell hb6 (lt_of_heap HX5.out) j72; clear hb6))
    clear j1 j2 j67 j68 j69 j70 j71 j72
    go_wp2_with (first
      | (refine wpList_buildS rfl rfl (cells := zeroH.toArray) (by kernel_rfl) ?_)
      | (with_reducible refine wpList_storeS rfl rfl Try.headI rfl rfl HZ6.out (by with_unfolding_all rfl) zeroH_size zeroH_one ?_; intro w7 hX7 hu7))
    have HB7 := Lib.hid (HB6.out.trans (hu7.below HB6.out.size (fun j hj => by have := HZ.out; omega)))
    refine bodyPost_ret (v := .tuple #[.agg zeroH.toArray, .int .i64 t1]) (results_S1 rfl Try.headI rfl rfl hX7.out zeroH_size) rfl ?_
    exact ⟨by rw [HC.out, HRz.out], HB7.out⟩
  · have HC := Lib.hid hC
    have HRz := Lib.hid (show RR = zeroH by rw [HCC.out, if_neg (by rw [hC]; simpa using q9)])
    clear hC HWay HCC
    have q2' : decide (2 < st) = false := by simp; omega
    have q3' : decide (z < 272) = false := by simp; omega
    subst q6
    have q7' : decide ((l.length : Int) < en) = false := by simp; omega
    go_upto_region 16 with (first
      | (with_reducible refine wpList_loadS rfl rfl Try.headI rfl HX5.out HSz.out ?_)
      | (go_at_call 21; refine (HT1.out _).mono ?_; rintro e w6 ⟨rfl, hb6⟩; have HB6 := Lib.hid (HB5.out.trans (hb6.mono HB5.out.size)); have HZ6 := Lib.hid (row_below hb6 (lt_of_heap HZ5.out) HZ5.out); have HX6 := Lib.hid (row_below hb6 (lt_of_heap HX5.out) HX5.out); have j71' := bcell hb6 (lt_of_heap HX5.out) j71; have j72' := bcell hb6 (lt_of_heap HX5.out) j72; clear hb6))
    clear j1 j2 j67 j68 j69 j70 j71 j72
    go_upto_region 19 with (first
      | (with_reducible refine wpList_loadS rfl rfl Try.headI rfl HX6.out HSz.out ?_)
      | (go_at_call 21; refine (HT2.out _).mono ?_; rintro e w7 ⟨rfl, hb7⟩; have HB7 := Lib.hid (HB6.out.trans (hb7.mono HB6.out.size)); have HZ7 := Lib.hid (row_below hb7 (lt_of_heap HZ6.out) HZ6.out); have HX7 := Lib.hid (row_below hb7 (lt_of_heap HX6.out) HX6.out); clear hb7))
    clear j71' j72'
    go_wp2_with (first
      | (refine wpList_buildS rfl rfl (cells := zeroH.toArray) (by kernel_rfl) ?_)
      | (with_reducible refine wpList_storeS rfl rfl Try.headI rfl rfl HZ7.out (by with_unfolding_all rfl) zeroH_size zeroH_one ?_; intro w8 hX8 hu8))
    have HB8 := Lib.hid (HB7.out.trans (hu8.below HB7.out.size (fun j hj => by have := HZ.out; omega)))
    refine bodyPost_ret (v := .tuple #[.agg zeroH.toArray, .int .i64 t2]) (results_S1 rfl Try.headI rfl rfl hX8.out zeroH_size) rfl ?_
    exact ⟨by rw [HC.out, HRz.out], HB8.out⟩
  · have HC := Lib.hid hC
    have HRz := Lib.hid (show RR = parseL l by rw [HCC.out, if_pos hC])
    clear hC HWay HCC
    have q2' : decide (2 < st) = false := by simp; omega
    have q3' : decide (z < 272) = false := by simp; omega
    subst q6
    have q7' : decide ((l.length : Int) < en) = false := by simp; omega
    go_upto_region 16 with (first
      | (with_reducible refine wpList_loadS rfl rfl Try.headI rfl HX5.out HSz.out ?_)
      | (go_at_call 21; refine (HT1.out _).mono ?_; rintro e w6 ⟨rfl, hb6⟩; have HB6 := Lib.hid (HB5.out.trans (hb6.mono HB5.out.size)); have HZ6 := Lib.hid (row_below hb6 (lt_of_heap HZ5.out) HZ5.out); have HX6 := Lib.hid (row_below hb6 (lt_of_heap HX5.out) HX5.out); have j71' := bcell hb6 (lt_of_heap HX5.out) j71; have j72' := bcell hb6 (lt_of_heap HX5.out) j72; clear hb6))
    clear j1 j2 j67 j68 j69 j70 j71 j72
    go_upto_region 19 with (first
      | (with_reducible refine wpList_loadS rfl rfl Try.headI rfl HX6.out HSz.out ?_)
      | (go_at_call 21; refine (HT2.out _).mono ?_; rintro e w7 ⟨rfl, hb7⟩; have HB7 := Lib.hid (HB6.out.trans (hb7.mono HB6.out.size)); have HZ7 := Lib.hid (row_below hb7 (lt_of_heap HZ6.out) HZ6.out); have HX7 := Lib.hid (row_below hb7 (lt_of_heap HX6.out) HX6.out); clear hb7))
    clear j71' j72'
    go_wp2_with (first
      | (with_reducible refine wpList_loadS rfl rfl Try.headI rfl HX7.out HSz.out ?_)
      | (with_reducible refine wpList_storeS rfl rfl Try.headI rfl rfl HZ7.out (by with_unfolding_all rfl) HSz.out parseL_one ?_; intro w8 hX8 hu8))
    have HB8 := Lib.hid (HB7.out.trans (hu8.below HB7.out.size (fun j hj => by have := HZ.out; omega)))
    refine bodyPost_ret (v := .tuple #[.agg (parseL l).toArray, .int .i64 0]) (results_S1 rfl Try.headI rfl rfl hX8.out HSz.out) rfl ?_
    exact ⟨by rw [HC.out, HRz.out], HB8.out⟩
end Go.Proofs.Ytpkmdnfkeebgbaa
