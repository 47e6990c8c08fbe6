/- What obj.ReadData, obj.ReadField compute. Conditions stand as premises. -/
import Derived.Test.YtfhpdhfhahbfnaaObjBody
import Derived.Test.YtfhpdhfhahbfnaaRefData
namespace Go.Proofs.Ytfhpdhfhahbfnaa
open Go.ChangeShapes Go.WideShapes Go.ChangeAt Go.RowKit
set_option linter.unusedVariables false

/-- A number, the bytes of an object; 0, none where there is none. -/
def objN (l : List Int) (p kind : Int) (n i : Nat) : Int := if objC l p kind n = 0 then numAt (bodyL l p) i else 0
theorem numsAt_cell {w : World} {b off : Nat} {X : List Int} {n : Nat} (hc : Cells (Value.int .u64) w b off (numsAt X n)) (i : Nat) (hi : i < n) : w.cell? ⟨b, off + i, none⟩ = some (.int .u64 (numAt X i)) := by
  have := cellInt hc i (by rw [numsAt_length]; exact hi)
  rwa [show (numsAt X n)[i]?.getD 0 = numAt X i by simp [numsAt, hi]] at this
def objP (l : List Int) (p kind : Int) (n : Nat) : List Int := if objC l p kind n = 0 then (bodyL l p).drop (8 * n) else []

set_option maxRecDepth 100000 in
set_option maxHeartbeats 4000000 in
theorem readdata_any (p : Int) (a : Option Addr) (m c : Nat) (l : List Int) (w : World) (hr : RdB w a m c l) (hm : m ≤ 140737488351232) (h0 : 0 ≤ p) (h1 : p ≤ 18446744073709551615) :
    Calls Try.prog 20 #[.slice a m c, .int .u64 p] w fun e w' => ∃ a2 n2 c2, e = .returned (.tuple #[.agg #[.int .u64 (objN l p 1 6 0), .int .u64 (objN l p 1 6 1), .int .u64 (objN l p 1 6 2), .int .u64 (objN l p 1 6 3), .int .u64 (objN l p 1 6 4), .int .u64 (objN l p 1 6 5), .slice a2 n2 c2], .int .i64 (objC l p 1 6)]) ∧ RdB w' a2 n2 c2 (objP l p 1 6) ∧ Below w.heap.size w w' := by
  have hb0 := below_alloc w (.cells #[.int .u64 0, .int .u64 0, .int .u64 0, .int .u64 0, .int .u64 0, .int .u64 0, .slice none 0 0] 25)
  have HB := Lib.hid (objbody_any p 1 6 a m c l _ (hr.mono hb0) hm h0 h1 (by omega))
  have hD0 := heap_alloc_new w (.cells #[.int .u64 0, .int .u64 0, .int .u64 0, .int .u64 0, .int .u64 0, .int .u64 0, .slice none 0 0] 25)
  have hDlt : w.heap.size < (w.alloc (.cells #[.int .u64 0, .int .u64 0, .int .u64 0, .int .u64 0, .int .u64 0, .int .u64 0, .slice none 0 0] 25)).heap.size := by simp
  obtain ⟨B, hBe⟩ : ∃ B, w.heap.size = B := ⟨_, rfl⟩
  have HBe := Lib.hid hBe
  rw [hBe] at hD0 hDlt
  have HD0 := Lib.hid hD0
  have HDlt := Lib.hid hDlt
  clear hD0 hDlt hBe
  have hsz1 : (w.alloc (.cells #[.int .u64 0, .int .u64 0, .int .u64 0, .int .u64 0, .int .u64 0, .int .u64 0, .slice none 0 0] 25)).heap.size = w.heap.size + 1 := by simp
  by_cases q0 : objC l p 1 6 = 0
  case neg =>
    obtain ⟨C, hC⟩ : ∃ C, objC l p 1 6 = C := ⟨_, rfl⟩
    have e1 : objP l p 1 6 = [] := by unfold objP; rw [if_neg q0]
    have e2 : ∀ i, objN l p 1 6 i = 0 := fun i => by unfold objN; rw [if_neg q0]
    simp only [e2, e1, hC] at *
    have q1 : (C != 0) = true := by simpa using q0
    clear q0 e1 e2 hC
    go_enter Try.func20, Try.ntmps20
    go_wp2_with fail
    refine HB.out.mono ?_
    rintro e w1 ⟨a1, n1, c1, a2, n2, c2, rfl, _, hb⟩
    have hH := (hb.block _ HDlt.out).trans HD0.out
    have f0 := free_of_heap hH 0
    have d0 : w1.cell? ⟨B, 0, none⟩ = some (.int .u64 0) := cell_of_heap hH 0 _ rfl
    have f1 := free_of_heap hH 1
    have d1 : w1.cell? ⟨B, 1, none⟩ = some (.int .u64 0) := cell_of_heap hH 1 _ rfl
    have f2 := free_of_heap hH 2
    have d2 : w1.cell? ⟨B, 2, none⟩ = some (.int .u64 0) := cell_of_heap hH 2 _ rfl
    have f3 := free_of_heap hH 3
    have d3 : w1.cell? ⟨B, 3, none⟩ = some (.int .u64 0) := cell_of_heap hH 3 _ rfl
    have f4 := free_of_heap hH 4
    have d4 : w1.cell? ⟨B, 4, none⟩ = some (.int .u64 0) := cell_of_heap hH 4 _ rfl
    have f5 := free_of_heap hH 5
    have d5 : w1.cell? ⟨B, 5, none⟩ = some (.int .u64 0) := cell_of_heap hH 5 _ rfl
    have f6 := free_of_heap hH 6
    have d6 : w1.cell? ⟨B, 6, none⟩ = some (.slice none 0 0) := cell_of_heap hH 6 _ rfl
    rw [HBe.out]
    go_wp2_with fail
    refine bodyPost_ret (v := .tuple #[.agg #[.int .u64 0, .int .u64 0, .int .u64 0, .int .u64 0, .int .u64 0, .int .u64 0, .slice none 0 0], .int .i64 C]) (by simp [results, Try.results20, go_sem, d0, d1, d2, d3, d4, d5, d6]) rfl ⟨none, 0, 0, rfl, ⟨IsB.nil, rfl, Nat.le_refl _, Nat.zero_le _, fun _ => rfl, .inl rfl⟩, ?_⟩
    have hBB := hb0.trans (hb.mono hb0.size)
    have hle : w.heap.size ≤ B := Nat.le_of_eq HBe.out
    repeat (first | (refine Below.setCell ?_ hle _) | exact hBB)
  have HV := Lib.hid (fun i => show objN l p 1 6 i = numAt (bodyL l p) i by unfold objN; rw [if_pos q0])
  have HP := Lib.hid (show objP l p 1 6 = (bodyL l p).drop (8 * 6) by unfold objP; rw [if_pos q0])
  have HQ := Lib.hid q0
  rw [q0] at HB ⊢
  clear q0
  go_enter Try.func20, Try.ntmps20
  go_wp2_with fail
  refine HB.out.mono ?_
  rintro e w1 ⟨a1, n1, c1, a2, n2, c2, rfl, hq, hb⟩
  obtain ⟨h1, hrp⟩ := hq trivial
  have hH := (hb.block _ HDlt.out).trans HD0.out
  have hBB := hb0.trans (hb.mono hb0.size)
  obtain rfl : 6 = n1 := (numsAt_length _ _).symm.trans h1.1
  obtain ⟨b, rfl, hbge, hlt⟩ := h1.at (by omega)
  have hc : Cells (Value.int .u64) w1 b 0 (numsAt (bodyL l p) 6) := by obtain ⟨x, y, hx, _, hc⟩ := h1.rd.at (by omega); cases hx; exact hc
  have hne : b ≠ B := by have := HDlt.out; omega
  have hne' : B ≠ b := fun h => hne h.symm
  have e0 : w1.cell? ⟨b, 0, none⟩ = some (.int .u64 (numAt (bodyL l p) 0)) := by have := numsAt_cell hc 0 (by omega); rwa [Nat.zero_add] at this
  have e1 : w1.cell? ⟨b, 1, none⟩ = some (.int .u64 (numAt (bodyL l p) 1)) := by have := numsAt_cell hc 1 (by omega); rwa [Nat.zero_add] at this
  have e2 : w1.cell? ⟨b, 2, none⟩ = some (.int .u64 (numAt (bodyL l p) 2)) := by have := numsAt_cell hc 2 (by omega); rwa [Nat.zero_add] at this
  have e3 : w1.cell? ⟨b, 3, none⟩ = some (.int .u64 (numAt (bodyL l p) 3)) := by have := numsAt_cell hc 3 (by omega); rwa [Nat.zero_add] at this
  have e4 : w1.cell? ⟨b, 4, none⟩ = some (.int .u64 (numAt (bodyL l p) 4)) := by have := numsAt_cell hc 4 (by omega); rwa [Nat.zero_add] at this
  have e5 : w1.cell? ⟨b, 5, none⟩ = some (.int .u64 (numAt (bodyL l p) 5)) := by have := numsAt_cell hc 5 (by omega); rwa [Nat.zero_add] at this
  clear h1 hc hq hb
  generalize numAt (bodyL l p) = V at *
  have f0 := free_of_heap hH 0
  have d0 : w1.cell? ⟨B, 0, none⟩ = some (.int .u64 0) := cell_of_heap hH 0 _ rfl
  have f1 := free_of_heap hH 1
  have d1 : w1.cell? ⟨B, 1, none⟩ = some (.int .u64 0) := cell_of_heap hH 1 _ rfl
  have f2 := free_of_heap hH 2
  have d2 : w1.cell? ⟨B, 2, none⟩ = some (.int .u64 0) := cell_of_heap hH 2 _ rfl
  have f3 := free_of_heap hH 3
  have d3 : w1.cell? ⟨B, 3, none⟩ = some (.int .u64 0) := cell_of_heap hH 3 _ rfl
  have f4 := free_of_heap hH 4
  have d4 : w1.cell? ⟨B, 4, none⟩ = some (.int .u64 0) := cell_of_heap hH 4 _ rfl
  have f5 := free_of_heap hH 5
  have d5 : w1.cell? ⟨B, 5, none⟩ = some (.int .u64 0) := cell_of_heap hH 5 _ rfl
  have f6 := free_of_heap hH 6
  have d6 : w1.cell? ⟨B, 6, none⟩ = some (.slice none 0 0) := cell_of_heap hH 6 _ rfl
  rw [HBe.out]
  have hrp0 := Lib.hid hrp
  clear hrp hH
  go_wp2_with fail
  go_region_held3 (fun w' : World => w'.cell? ⟨b, 0, none⟩ = some (.int .u64 (V 0)) ∧ w'.cell? ⟨b, 1, none⟩ = some (.int .u64 (V 1)) ∧ w'.cell? ⟨b, 2, none⟩ = some (.int .u64 (V 2)) ∧ w'.cell? ⟨b, 3, none⟩ = some (.int .u64 (V 3)) ∧ w'.cell? ⟨b, 4, none⟩ = some (.int .u64 (V 4)) ∧ w'.cell? ⟨b, 5, none⟩ = some (.int .u64 (V 5))) (first | go_keep | exact ⟨e0, e1, e2, e3, e4, e5⟩) (fail)
  go_wp2_with fail
  simp only [HV.out, HP.out]
  refine bodyPost_ret (v := .tuple #[.agg #[.int .u64 (V 0), .int .u64 (V 1), .int .u64 (V 2), .int .u64 (V 3), .int .u64 (V 4), .int .u64 (V 5), .slice a2 n2 c2], .int .i64 0]) (by simp [results, Try.results20, go_sem, d0, d1, d2, d3, d4, d5, d6]) rfl ⟨a2, n2, c2, rfl, ?_, ?_⟩
  · refine hrp0.out.rd.grown (r := some B) ?_ ?_
    · repeat (first | with_reducible exact grown_setCell _ _ _ _ | with_reducible refine grown_drew ?_ | with_reducible refine grown_trans ?_ (grown_setCell _ _ _ _))
    · intro x hx h
      have hg := hrp0.out.2.ge x hx
      have := HDlt.out
      injection h
      omega
  · have hle : w.heap.size ≤ B := Nat.le_of_eq HBe.out
    repeat (first | (with_reducible refine Below.setCell ?_ hle _) | with_reducible refine Below.drew ?_ | with_reducible exact hBB)

set_option maxRecDepth 100000 in
set_option maxHeartbeats 4000000 in
theorem readfield_any (p : Int) (a : Option Addr) (m c : Nat) (l : List Int) (w : World) (hr : RdB w a m c l) (hm : m ≤ 140737488351232) (h0 : 0 ≤ p) (h1 : p ≤ 18446744073709551615) :
    Calls Try.prog 22 #[.slice a m c, .int .u64 p] w fun e w' => ∃ a2 n2 c2, e = .returned (.tuple #[.agg #[.int .u64 (objN l p 2 3 0), .int .u64 (objN l p 2 3 1), .int .u64 (objN l p 2 3 2), .slice a2 n2 c2], .int .i64 (objC l p 2 3)]) ∧ RdB w' a2 n2 c2 (objP l p 2 3) ∧ Below w.heap.size w w' := by
  have hb0 := below_alloc w (.cells #[.int .u64 0, .int .u64 0, .int .u64 0, .slice none 0 0] 27)
  have HB := Lib.hid (objbody_any p 2 3 a m c l _ (hr.mono hb0) hm h0 h1 (by omega))
  have hD0 := heap_alloc_new w (.cells #[.int .u64 0, .int .u64 0, .int .u64 0, .slice none 0 0] 27)
  have hDlt : w.heap.size < (w.alloc (.cells #[.int .u64 0, .int .u64 0, .int .u64 0, .slice none 0 0] 27)).heap.size := by simp
  obtain ⟨B, hBe⟩ : ∃ B, w.heap.size = B := ⟨_, rfl⟩
  have HBe := Lib.hid hBe
  rw [hBe] at hD0 hDlt
  have HD0 := Lib.hid hD0
  have HDlt := Lib.hid hDlt
  clear hD0 hDlt hBe
  have hsz1 : (w.alloc (.cells #[.int .u64 0, .int .u64 0, .int .u64 0, .slice none 0 0] 27)).heap.size = w.heap.size + 1 := by simp
  by_cases q0 : objC l p 2 3 = 0
  case neg =>
    obtain ⟨C, hC⟩ : ∃ C, objC l p 2 3 = C := ⟨_, rfl⟩
    have e1 : objP l p 2 3 = [] := by unfold objP; rw [if_neg q0]
    have e2 : ∀ i, objN l p 2 3 i = 0 := fun i => by unfold objN; rw [if_neg q0]
    simp only [e2, e1, hC] at *
    have q1 : (C != 0) = true := by simpa using q0
    clear q0 e1 e2 hC
    go_enter Try.func22, Try.ntmps22
    go_wp2_with fail
    refine HB.out.mono ?_
    rintro e w1 ⟨a1, n1, c1, a2, n2, c2, rfl, _, hb⟩
    have hH := (hb.block _ HDlt.out).trans HD0.out
    have f0 := free_of_heap hH 0
    have d0 : w1.cell? ⟨B, 0, none⟩ = some (.int .u64 0) := cell_of_heap hH 0 _ rfl
    have f1 := free_of_heap hH 1
    have d1 : w1.cell? ⟨B, 1, none⟩ = some (.int .u64 0) := cell_of_heap hH 1 _ rfl
    have f2 := free_of_heap hH 2
    have d2 : w1.cell? ⟨B, 2, none⟩ = some (.int .u64 0) := cell_of_heap hH 2 _ rfl
    have f3 := free_of_heap hH 3
    have d3 : w1.cell? ⟨B, 3, none⟩ = some (.slice none 0 0) := cell_of_heap hH 3 _ rfl
    rw [HBe.out]
    go_wp2_with fail
    refine bodyPost_ret (v := .tuple #[.agg #[.int .u64 0, .int .u64 0, .int .u64 0, .slice none 0 0], .int .i64 C]) (by simp [results, Try.results22, go_sem, d0, d1, d2, d3]) rfl ⟨none, 0, 0, rfl, ⟨IsB.nil, rfl, Nat.le_refl _, Nat.zero_le _, fun _ => rfl, .inl rfl⟩, ?_⟩
    have hBB := hb0.trans (hb.mono hb0.size)
    have hle : w.heap.size ≤ B := Nat.le_of_eq HBe.out
    repeat (first | (refine Below.setCell ?_ hle _) | exact hBB)
  have HV := Lib.hid (fun i => show objN l p 2 3 i = numAt (bodyL l p) i by unfold objN; rw [if_pos q0])
  have HP := Lib.hid (show objP l p 2 3 = (bodyL l p).drop (8 * 3) by unfold objP; rw [if_pos q0])
  have HQ := Lib.hid q0
  rw [q0] at HB ⊢
  clear q0
  go_enter Try.func22, Try.ntmps22
  go_wp2_with fail
  refine HB.out.mono ?_
  rintro e w1 ⟨a1, n1, c1, a2, n2, c2, rfl, hq, hb⟩
  obtain ⟨h1, hrp⟩ := hq trivial
  have hH := (hb.block _ HDlt.out).trans HD0.out
  have hBB := hb0.trans (hb.mono hb0.size)
  obtain rfl : 3 = n1 := (numsAt_length _ _).symm.trans h1.1
  obtain ⟨b, rfl, hbge, hlt⟩ := h1.at (by omega)
  have hc : Cells (Value.int .u64) w1 b 0 (numsAt (bodyL l p) 3) := by obtain ⟨x, y, hx, _, hc⟩ := h1.rd.at (by omega); cases hx; exact hc
  have hne : b ≠ B := by have := HDlt.out; omega
  have hne' : B ≠ b := fun h => hne h.symm
  have e0 : w1.cell? ⟨b, 0, none⟩ = some (.int .u64 (numAt (bodyL l p) 0)) := by have := numsAt_cell hc 0 (by omega); rwa [Nat.zero_add] at this
  have e1 : w1.cell? ⟨b, 1, none⟩ = some (.int .u64 (numAt (bodyL l p) 1)) := by have := numsAt_cell hc 1 (by omega); rwa [Nat.zero_add] at this
  have e2 : w1.cell? ⟨b, 2, none⟩ = some (.int .u64 (numAt (bodyL l p) 2)) := by have := numsAt_cell hc 2 (by omega); rwa [Nat.zero_add] at this
  clear h1 hc hq hb
  generalize numAt (bodyL l p) = V at *
  have f0 := free_of_heap hH 0
  have d0 : w1.cell? ⟨B, 0, none⟩ = some (.int .u64 0) := cell_of_heap hH 0 _ rfl
  have f1 := free_of_heap hH 1
  have d1 : w1.cell? ⟨B, 1, none⟩ = some (.int .u64 0) := cell_of_heap hH 1 _ rfl
  have f2 := free_of_heap hH 2
  have d2 : w1.cell? ⟨B, 2, none⟩ = some (.int .u64 0) := cell_of_heap hH 2 _ rfl
  have f3 := free_of_heap hH 3
  have d3 : w1.cell? ⟨B, 3, none⟩ = some (.slice none 0 0) := cell_of_heap hH 3 _ rfl
  rw [HBe.out]
  have hrp0 := Lib.hid hrp
  clear hrp hH
  go_wp2_with fail
  go_region_held3 (fun w' : World => w'.cell? ⟨b, 0, none⟩ = some (.int .u64 (V 0)) ∧ w'.cell? ⟨b, 1, none⟩ = some (.int .u64 (V 1)) ∧ w'.cell? ⟨b, 2, none⟩ = some (.int .u64 (V 2))) (first | go_keep | exact ⟨e0, e1, e2⟩) (fail)
  go_wp2_with fail
  simp only [HV.out, HP.out]
  refine bodyPost_ret (v := .tuple #[.agg #[.int .u64 (V 0), .int .u64 (V 1), .int .u64 (V 2), .slice a2 n2 c2], .int .i64 0]) (by simp [results, Try.results22, go_sem, d0, d1, d2, d3]) rfl ⟨a2, n2, c2, rfl, ?_, ?_⟩
  · refine hrp0.out.rd.grown (r := some B) ?_ ?_
    · repeat (first | with_reducible exact grown_setCell _ _ _ _ | with_reducible refine grown_drew ?_ | with_reducible refine grown_trans ?_ (grown_setCell _ _ _ _))
    · intro x hx h
      have hg := hrp0.out.2.ge x hx
      have := HDlt.out
      injection h
      omega
  · have hle : w.heap.size ≤ B := Nat.le_of_eq HBe.out
    repeat (first | (with_reducible refine Below.setCell ?_ hle _) | with_reducible refine Below.drew ?_ | with_reducible exact hBB)
end Go.Proofs.Ytfhpdhfhahbfnaa
