/- What the document's own ReadData, ReadField compute. Conditions stand as premises. -/
import Derived.Test.YtfhpdhfhahbfnaaRefBody
namespace Go.Proofs.Ytfhpdhfhahbfnaa
open Go.ChangeShapes Go.WideShapes Go.ChangeAt Go.RowKit
set_option linter.unusedVariables false

theorem RdB.cutL {w : World} {g n c : Nat} {l : List Int} (h : RdB w (some ⟨g, 0, none⟩) n c l) (k : Nat) (hk : k < n) : RdB w (some ⟨g, k, none⟩) (n - k) (c - k) (l.drop k) := by
  have hc := h.2.2.1
  have hl := h.len
  have h2 := h.sliced k n (by omega) (Nat.le_refl _)
  rw [if_neg (by omega), List.take_of_length_le (by simp; omega), Option.map_some, addr_add, Nat.zero_add] at h2
  exact h2
theorem objC_body_no {l : List Int} {p k : Int} {n : Nat} (h : bodyC l p k ≠ 0) : objC l p k n = bodyC l p k := by
  unfold bodyC objC at *
  split
  · rfl
  · rw [if_neg (by assumption)] at h
    split
    · rfl
    · rw [if_neg (by assumption)] at h; exact absurd rfl h
theorem objC_body {l : List Int} {p k : Int} {n : Nat} (hp : 0 ≤ p) (h : bodyC l p k = 0) : ((bodyL l p).length ≤ 8 * n → objC l p k n = 5) ∧ (8 * n < (bodyL l p).length → objC l p k n = 0) := by
  unfold bodyC at h
  split at h
  · contradiction
  · split at h
    · exact absurd h (by decide)
    · have h1 : readC l p = 0 := Decidable.of_not_not (by assumption)
      have h2 : ¬ kindAt l p ≠ k := by assumption
      obtain ⟨g1, g2, g3, g4, g5, g6⟩ := readC_ok hp h1
      have hl : (bodyL l p).length = (sizeAt l p.toNat).toNat - 16 := by unfold bodyL; simp; omega
      unfold objC
      rw [if_neg (by simpa using h1), if_neg h2]
      exact ⟨fun h => if_pos (by omega), fun h => if_neg (by omega)⟩

set_option maxRecDepth 100000 in
set_option maxHeartbeats 4000000 in
theorem refreaddata_any (p : Int) (a : Option Addr) (m c : Nat) (l : List Int) (w : World) (hr : RdB w a m c l) (hm : m ≤ 140737488351232) (h0 : 0 ≤ p) (h1 : p ≤ 18446744073709551615) :
    Calls Try.prog 21 #[.slice a m c, .int .u64 p] w fun e w' => ∃ a2 n2 c2, e = .returned (.tuple #[.agg #[.int .u64 (objN l p 1 6 0), .int .u64 (objN l p 1 6 1), .int .u64 (objN l p 1 6 2), .int .u64 (objN l p 1 6 3), .int .u64 (objN l p 1 6 4), .int .u64 (objN l p 1 6 5), .slice a2 n2 c2], .int .i64 (objC l p 1 6)]) ∧ RdB w' a2 n2 c2 (objP l p 1 6) ∧ Below w.heap.size w w' := by
  have hl := hr.len
  have hb0 := below_alloc w (.cells #[.int .u64 0, .int .u64 0, .int .u64 0, .int .u64 0, .int .u64 0, .int .u64 0, .slice none 0 0] 29)
  have HB := Lib.hid (refbody_any p 1 a m c l _ (hr.mono hb0) hm h0 h1)
  have hD0 := heap_alloc_new w (.cells #[.int .u64 0, .int .u64 0, .int .u64 0, .int .u64 0, .int .u64 0, .int .u64 0, .slice none 0 0] 29)
  have hDlt : w.heap.size < (w.alloc (.cells #[.int .u64 0, .int .u64 0, .int .u64 0, .int .u64 0, .int .u64 0, .int .u64 0, .slice none 0 0] 29)).heap.size := by simp
  obtain ⟨B, hBe⟩ : ∃ B, w.heap.size = B := ⟨_, rfl⟩
  have HBe := Lib.hid hBe
  rw [hBe] at hD0 hDlt
  have HD0 := Lib.hid hD0
  have HDlt := Lib.hid hDlt
  clear hD0 hDlt hBe
  have hsz1 : (w.alloc (.cells #[.int .u64 0, .int .u64 0, .int .u64 0, .int .u64 0, .int .u64 0, .int .u64 0, .slice none 0 0] 29)).heap.size = w.heap.size + 1 := by simp
  by_cases q0 : bodyC l p 1 = 0
  case neg =>
    have q2 := objC_body_no (n := 6) q0
    have q3 : objC l p 1 6 ≠ 0 := by rw [q2]; exact q0
    have e1 : objP l p 1 6 = [] := by unfold objP; rw [if_neg q3]
    have e2 : ∀ i, objN l p 1 6 i = 0 := fun i => by unfold objN; rw [if_neg q3]
    simp only [e2, e1, q2] at *
    obtain ⟨C, hC⟩ : ∃ C, bodyC l p 1 = C := ⟨_, rfl⟩
    rw [hC] at q0 HB ⊢
    have q1 : (C != 0) = true := by simpa using q0
    clear q0 e1 e2 hC q2 q3
    go_enter Try.func21, Try.ntmps21
    go_wp2_with fail
    refine HB.out.mono ?_
    rintro e w1 ⟨a2, n2, c2, rfl, _, hb⟩
    have hH := (hb.block _ HDlt.out).trans HD0.out
    have f0 := free_of_heap hH 0
    have d0 : w1.cell? ⟨B, 0, none⟩ = some (.int .u64 0) := cell_of_heap hH 0 _ rfl
    have f1 := free_of_heap hH 1
    have d1 : w1.cell? ⟨B, 1, none⟩ = some (.int .u64 0) := cell_of_heap hH 1 _ rfl
    have f2 := free_of_heap hH 2
    have d2 : w1.cell? ⟨B, 2, none⟩ = some (.int .u64 0) := cell_of_heap hH 2 _ rfl
    have f3 := free_of_heap hH 3
    have d3 : w1.cell? ⟨B, 3, none⟩ = some (.int .u64 0) := cell_of_heap hH 3 _ rfl
    have f4 := free_of_heap hH 4
    have d4 : w1.cell? ⟨B, 4, none⟩ = some (.int .u64 0) := cell_of_heap hH 4 _ rfl
    have f5 := free_of_heap hH 5
    have d5 : w1.cell? ⟨B, 5, none⟩ = some (.int .u64 0) := cell_of_heap hH 5 _ rfl
    have f6 := free_of_heap hH 6
    have d6 : w1.cell? ⟨B, 6, none⟩ = some (.slice none 0 0) := cell_of_heap hH 6 _ rfl
    rw [HBe.out]
    go_wp2_with fail
    refine bodyPost_ret (v := .tuple #[.agg #[.int .u64 0, .int .u64 0, .int .u64 0, .int .u64 0, .int .u64 0, .int .u64 0, .slice none 0 0], .int .i64 C]) (by simp [results, Try.results21, go_sem, d0, d1, d2, d3, d4, d5, d6]) rfl ⟨none, 0, 0, rfl, ⟨IsB.nil, rfl, Nat.le_refl _, Nat.zero_le _, fun _ => rfl, .inl rfl⟩, ?_⟩
    have hBB := hb0.trans (hb.mono hb0.size)
    have hle : w.heap.size ≤ B := Nat.le_of_eq HBe.out
    repeat (first | (with_reducible refine Below.setCell ?_ hle _) | with_reducible exact hBB)
  obtain ⟨q5, q6⟩ := objC_body (n := 6) h0 q0
  rw [q0] at HB
  clear q0
  have hXl : (bodyL l p).length ≤ m := by unfold bodyL; simp; omega
  by_cases q7 : (bodyL l p).length ≤ 48
  · have q2 := q5 q7
    have q3 : objC l p 1 6 ≠ 0 := by rw [q2]; decide
    have e1 : objP l p 1 6 = [] := by unfold objP; rw [if_neg q3]
    have e2 : ∀ i, objN l p 1 6 i = 0 := fun i => by unfold objN; rw [if_neg q3]
    simp only [e2, e1, q2] at *
    clear q3 e1 e2 q2 q5 q6
    go_enter Try.func21, Try.ntmps21
    go_wp2_with fail
    refine HB.out.mono ?_
    rintro e w1 ⟨a2, n2, c2, rfl, ho, hb⟩
    obtain rfl := (ho trivial).len
    have hH := (hb.block _ HDlt.out).trans HD0.out
    have q8 : ((bodyL l p).length : Int) ≤ 48 := by omega
    clear ho
    have f0 := free_of_heap hH 0
    have d0 : w1.cell? ⟨B, 0, none⟩ = some (.int .u64 0) := cell_of_heap hH 0 _ rfl
    have f1 := free_of_heap hH 1
    have d1 : w1.cell? ⟨B, 1, none⟩ = some (.int .u64 0) := cell_of_heap hH 1 _ rfl
    have f2 := free_of_heap hH 2
    have d2 : w1.cell? ⟨B, 2, none⟩ = some (.int .u64 0) := cell_of_heap hH 2 _ rfl
    have f3 := free_of_heap hH 3
    have d3 : w1.cell? ⟨B, 3, none⟩ = some (.int .u64 0) := cell_of_heap hH 3 _ rfl
    have f4 := free_of_heap hH 4
    have d4 : w1.cell? ⟨B, 4, none⟩ = some (.int .u64 0) := cell_of_heap hH 4 _ rfl
    have f5 := free_of_heap hH 5
    have d5 : w1.cell? ⟨B, 5, none⟩ = some (.int .u64 0) := cell_of_heap hH 5 _ rfl
    have f6 := free_of_heap hH 6
    have d6 : w1.cell? ⟨B, 6, none⟩ = some (.slice none 0 0) := cell_of_heap hH 6 _ rfl
    rw [HBe.out]
    go_wp2_with fail
    refine bodyPost_ret (v := .tuple #[.agg #[.int .u64 0, .int .u64 0, .int .u64 0, .int .u64 0, .int .u64 0, .int .u64 0, .slice none 0 0], .int .i64 5]) (by simp [results, Try.results21, go_sem, d0, d1, d2, d3, d4, d5, d6]) rfl ⟨none, 0, 0, rfl, ⟨IsB.nil, rfl, Nat.le_refl _, Nat.zero_le _, fun _ => rfl, .inl rfl⟩, ?_⟩
    have hBB := hb0.trans (hb.mono hb0.size)
    have hle : w.heap.size ≤ B := Nat.le_of_eq HBe.out
    repeat (first | (with_reducible refine Below.setCell ?_ hle _) | with_reducible exact hBB)
  have q2 := q6 (by omega)
  have HV := Lib.hid (fun i => show objN l p 1 6 i = numAt (bodyL l p) i by unfold objN; rw [if_pos q2])
  have HP := Lib.hid (show objP l p 1 6 = (bodyL l p).drop (8 * 6) by unfold objP; rw [if_pos q2])
  rw [q2]
  clear q2 q5 q6
  generalize bodyL l p = X at *
  go_enter Try.func21, Try.ntmps21
  go_wp2_with fail
  refine HB.out.mono ?_
  rintro e w1 ⟨a2, n2, c2, rfl, ho, hb⟩
  have ho := ho trivial
  obtain rfl := ho.len
  obtain ⟨g, rfl, hge, hglt⟩ := ho.2.at (by omega)
  have hH := (hb.block _ HDlt.out).trans HD0.out
  have hBB := hb0.trans (hb.mono hb0.size)
  obtain ⟨V, hVV⟩ : ∃ V : Int → Int, ∀ q, V q = leN ((X.drop q.toNat).take 8) := ⟨fun q => leN ((X.drop q.toNat).take 8), fun _ => rfl⟩
  have HU := Lib.hid (show ∀ q : Int, 0 ≤ q → q + 8 ≤ X.length → ∀ w' : World, RdB w' (some ⟨g, 0, none⟩) X.length c2 X → Calls Try.prog 32 #[.slice (some ⟨g, 0, none⟩) X.length c2, .int .u64 q] w' fun e w'' => e = .returned (.int .u64 (V q)) ∧ w' = w'' from fun q h0 h1 w' h => by obtain ⟨k, rfl⟩ := Int.eq_ofNat_of_zero_le h0; rw [hVV]; exact u_any _ X.length c2 X k w' h (by omega) (by omega))
  have q8 : 48 < (X.length : Int) := by omega
  have q9 : 48 < X.length := by omega
  have hcc := ho.rd.2.2.1
  have hcA : (0 : Int) ≤ 48 := by decide
  have hcB : (48 : Int) ≤ (X.length : Int) := by omega
  have hXd := Lib.hid ho.rd.drewd
  have HH := Lib.hid ho
  have HVV := Lib.hid hVV
  have f0 := free_of_heap hH 0
  have d0 : w1.cell? ⟨B, 0, none⟩ = some (.int .u64 0) := cell_of_heap hH 0 _ rfl
  have f1 := free_of_heap hH 1
  have d1 : w1.cell? ⟨B, 1, none⟩ = some (.int .u64 0) := cell_of_heap hH 1 _ rfl
  have f2 := free_of_heap hH 2
  have d2 : w1.cell? ⟨B, 2, none⟩ = some (.int .u64 0) := cell_of_heap hH 2 _ rfl
  have f3 := free_of_heap hH 3
  have d3 : w1.cell? ⟨B, 3, none⟩ = some (.int .u64 0) := cell_of_heap hH 3 _ rfl
  have f4 := free_of_heap hH 4
  have d4 : w1.cell? ⟨B, 4, none⟩ = some (.int .u64 0) := cell_of_heap hH 4 _ rfl
  have f5 := free_of_heap hH 5
  have d5 : w1.cell? ⟨B, 5, none⟩ = some (.int .u64 0) := cell_of_heap hH 5 _ rfl
  have f6 := free_of_heap hH 6
  have d6 : w1.cell? ⟨B, 6, none⟩ = some (.slice none 0 0) := cell_of_heap hH 6 _ rfl
  rw [HBe.out]
  clear ho hH hVV q7
  go_wp2_with fail
  go_region_held3 (fun w' : World => w'.frozen? ⟨B, 0, none⟩ = false) (first | go_keep | assumption) ((first | (go_at_call 32; refine (HU.out _ (by decide) (by omega) _ hXd.out).mono ?_; rintro e w' ⟨rfl, rfl⟩)))
  go_wp2_with fail
  have hP : ∀ i : Nat, objN l p 1 6 i = V (8 * (i : Int)) := fun i => by
    rw [HV.out i, HVV.out]; unfold numAt; congr 2
  have hPs : objN l p 1 6 0 = V 0 ∧ objN l p 1 6 1 = V 8 ∧ objN l p 1 6 2 = V 16 ∧ objN l p 1 6 3 = V 24 ∧ objN l p 1 6 4 = V 32 ∧ objN l p 1 6 5 = V 40 := ⟨hP 0, hP 1, hP 2, hP 3, hP 4, hP 5⟩
  obtain ⟨p0, p1, p2, p3, p4, p5⟩ := hPs
  rw [p0, p1, p2, p3, p4, p5, HP.out]
  refine bodyPost_ret (v := .tuple #[.agg #[.int .u64 (V 0), .int .u64 (V 8), .int .u64 (V 16), .int .u64 (V 24), .int .u64 (V 32), .int .u64 (V 40), .slice (some ⟨g, 48, none⟩) (X.length - 48) (c2 - 48)], .int .i64 0]) (by simp [results, Try.results21, go_sem, d0, d1, d2, d3, d4, d5, d6]) rfl ⟨_, _, _, rfl, RdB.cutL (n := X.length) (c := c2) ⟨HH.out.1, ?_⟩ 48 q9, ?_⟩
  · refine HH.out.2.rd.grown (r := some B) ?_ ?_
    · repeat (first | with_reducible exact grown_setCell _ _ _ _ | with_reducible refine grown_drew ?_ | with_reducible refine grown_trans ?_ (grown_setCell _ _ _ _))
    · intro x hx h
      have hg := HH.out.2.ge x hx
      have := HDlt.out
      injection h
      omega
  · have hle : w.heap.size ≤ B := Nat.le_of_eq HBe.out
    repeat (first | (with_reducible refine Below.setCell ?_ hle _) | with_reducible refine Below.drew ?_ | with_reducible exact hBB)

set_option maxRecDepth 100000 in
set_option maxHeartbeats 4000000 in
theorem refreadfield_any (p : Int) (a : Option Addr) (m c : Nat) (l : List Int) (w : World) (hr : RdB w a m c l) (hm : m ≤ 140737488351232) (h0 : 0 ≤ p) (h1 : p ≤ 18446744073709551615) :
    Calls Try.prog 23 #[.slice a m c, .int .u64 p] w fun e w' => ∃ a2 n2 c2, e = .returned (.tuple #[.agg #[.int .u64 (objN l p 2 3 0), .int .u64 (objN l p 2 3 1), .int .u64 (objN l p 2 3 2), .slice a2 n2 c2], .int .i64 (objC l p 2 3)]) ∧ RdB w' a2 n2 c2 (objP l p 2 3) ∧ Below w.heap.size w w' := by
  have hl := hr.len
  have hb0 := below_alloc w (.cells #[.int .u64 0, .int .u64 0, .int .u64 0, .slice none 0 0] 30)
  have HB := Lib.hid (refbody_any p 2 a m c l _ (hr.mono hb0) hm h0 h1)
  have hD0 := heap_alloc_new w (.cells #[.int .u64 0, .int .u64 0, .int .u64 0, .slice none 0 0] 30)
  have hDlt : w.heap.size < (w.alloc (.cells #[.int .u64 0, .int .u64 0, .int .u64 0, .slice none 0 0] 30)).heap.size := by simp
  obtain ⟨B, hBe⟩ : ∃ B, w.heap.size = B := ⟨_, rfl⟩
  have HBe := Lib.hid hBe
  rw [hBe] at hD0 hDlt
  have HD0 := Lib.hid hD0
  have HDlt := Lib.hid hDlt
  clear hD0 hDlt hBe
  have hsz1 : (w.alloc (.cells #[.int .u64 0, .int .u64 0, .int .u64 0, .slice none 0 0] 30)).heap.size = w.heap.size + 1 := by simp
  by_cases q0 : bodyC l p 2 = 0
  case neg =>
    have q2 := objC_body_no (n := 3) q0
    have q3 : objC l p 2 3 ≠ 0 := by rw [q2]; exact q0
    have e1 : objP l p 2 3 = [] := by unfold objP; rw [if_neg q3]
    have e2 : ∀ i, objN l p 2 3 i = 0 := fun i => by unfold objN; rw [if_neg q3]
    simp only [e2, e1, q2] at *
    obtain ⟨C, hC⟩ : ∃ C, bodyC l p 2 = C := ⟨_, rfl⟩
    rw [hC] at q0 HB ⊢
    have q1 : (C != 0) = true := by simpa using q0
    clear q0 e1 e2 hC q2 q3
    go_enter Try.func23, Try.ntmps23
    go_wp2_with fail
    refine HB.out.mono ?_
    rintro e w1 ⟨a2, n2, c2, rfl, _, hb⟩
    have hH := (hb.block _ HDlt.out).trans HD0.out
    have f0 := free_of_heap hH 0
    have d0 : w1.cell? ⟨B, 0, none⟩ = some (.int .u64 0) := cell_of_heap hH 0 _ rfl
    have f1 := free_of_heap hH 1
    have d1 : w1.cell? ⟨B, 1, none⟩ = some (.int .u64 0) := cell_of_heap hH 1 _ rfl
    have f2 := free_of_heap hH 2
    have d2 : w1.cell? ⟨B, 2, none⟩ = some (.int .u64 0) := cell_of_heap hH 2 _ rfl
    have f3 := free_of_heap hH 3
    have d3 : w1.cell? ⟨B, 3, none⟩ = some (.slice none 0 0) := cell_of_heap hH 3 _ rfl
    rw [HBe.out]
    go_wp2_with fail
    refine bodyPost_ret (v := .tuple #[.agg #[.int .u64 0, .int .u64 0, .int .u64 0, .slice none 0 0], .int .i64 C]) (by simp [results, Try.results23, go_sem, d0, d1, d2, d3]) rfl ⟨none, 0, 0, rfl, ⟨IsB.nil, rfl, Nat.le_refl _, Nat.zero_le _, fun _ => rfl, .inl rfl⟩, ?_⟩
    have hBB := hb0.trans (hb.mono hb0.size)
    have hle : w.heap.size ≤ B := Nat.le_of_eq HBe.out
    repeat (first | (with_reducible refine Below.setCell ?_ hle _) | with_reducible exact hBB)
  obtain ⟨q5, q6⟩ := objC_body (n := 3) h0 q0
  rw [q0] at HB
  clear q0
  have hXl : (bodyL l p).length ≤ m := by unfold bodyL; simp; omega
  by_cases q7 : (bodyL l p).length ≤ 24
  · have q2 := q5 q7
    have q3 : objC l p 2 3 ≠ 0 := by rw [q2]; decide
    have e1 : objP l p 2 3 = [] := by unfold objP; rw [if_neg q3]
    have e2 : ∀ i, objN l p 2 3 i = 0 := fun i => by unfold objN; rw [if_neg q3]
    simp only [e2, e1, q2] at *
    clear q3 e1 e2 q2 q5 q6
    go_enter Try.func23, Try.ntmps23
    go_wp2_with fail
    refine HB.out.mono ?_
    rintro e w1 ⟨a2, n2, c2, rfl, ho, hb⟩
    obtain rfl := (ho trivial).len
    have hH := (hb.block _ HDlt.out).trans HD0.out
    have q8 : ((bodyL l p).length : Int) ≤ 24 := by omega
    clear ho
    have f0 := free_of_heap hH 0
    have d0 : w1.cell? ⟨B, 0, none⟩ = some (.int .u64 0) := cell_of_heap hH 0 _ rfl
    have f1 := free_of_heap hH 1
    have d1 : w1.cell? ⟨B, 1, none⟩ = some (.int .u64 0) := cell_of_heap hH 1 _ rfl
    have f2 := free_of_heap hH 2
    have d2 : w1.cell? ⟨B, 2, none⟩ = some (.int .u64 0) := cell_of_heap hH 2 _ rfl
    have f3 := free_of_heap hH 3
    have d3 : w1.cell? ⟨B, 3, none⟩ = some (.slice none 0 0) := cell_of_heap hH 3 _ rfl
    rw [HBe.out]
    go_wp2_with fail
    refine bodyPost_ret (v := .tuple #[.agg #[.int .u64 0, .int .u64 0, .int .u64 0, .slice none 0 0], .int .i64 5]) (by simp [results, Try.results23, go_sem, d0, d1, d2, d3]) rfl ⟨none, 0, 0, rfl, ⟨IsB.nil, rfl, Nat.le_refl _, Nat.zero_le _, fun _ => rfl, .inl rfl⟩, ?_⟩
    have hBB := hb0.trans (hb.mono hb0.size)
    have hle : w.heap.size ≤ B := Nat.le_of_eq HBe.out
    repeat (first | (with_reducible refine Below.setCell ?_ hle _) | with_reducible exact hBB)
  have q2 := q6 (by omega)
  have HV := Lib.hid (fun i => show objN l p 2 3 i = numAt (bodyL l p) i by unfold objN; rw [if_pos q2])
  have HP := Lib.hid (show objP l p 2 3 = (bodyL l p).drop (8 * 3) by unfold objP; rw [if_pos q2])
  rw [q2]
  clear q2 q5 q6
  generalize bodyL l p = X at *
  go_enter Try.func23, Try.ntmps23
  go_wp2_with fail
  refine HB.out.mono ?_
  rintro e w1 ⟨a2, n2, c2, rfl, ho, hb⟩
  have ho := ho trivial
  obtain rfl := ho.len
  obtain ⟨g, rfl, hge, hglt⟩ := ho.2.at (by omega)
  have hH := (hb.block _ HDlt.out).trans HD0.out
  have hBB := hb0.trans (hb.mono hb0.size)
  obtain ⟨V, hVV⟩ : ∃ V : Int → Int, ∀ q, V q = leN ((X.drop q.toNat).take 8) := ⟨fun q => leN ((X.drop q.toNat).take 8), fun _ => rfl⟩
  have HU := Lib.hid (show ∀ q : Int, 0 ≤ q → q + 8 ≤ X.length → ∀ w' : World, RdB w' (some ⟨g, 0, none⟩) X.length c2 X → Calls Try.prog 32 #[.slice (some ⟨g, 0, none⟩) X.length c2, .int .u64 q] w' fun e w'' => e = .returned (.int .u64 (V q)) ∧ w' = w'' from fun q h0 h1 w' h => by obtain ⟨k, rfl⟩ := Int.eq_ofNat_of_zero_le h0; rw [hVV]; exact u_any _ X.length c2 X k w' h (by omega) (by omega))
  have q8 : 24 < (X.length : Int) := by omega
  have q9 : 24 < X.length := by omega
  have hcc := ho.rd.2.2.1
  have hcA : (0 : Int) ≤ 24 := by decide
  have hcB : (24 : Int) ≤ (X.length : Int) := by omega
  have hXd := Lib.hid ho.rd.drewd
  have HH := Lib.hid ho
  have HVV := Lib.hid hVV
  have f0 := free_of_heap hH 0
  have d0 : w1.cell? ⟨B, 0, none⟩ = some (.int .u64 0) := cell_of_heap hH 0 _ rfl
  have f1 := free_of_heap hH 1
  have d1 : w1.cell? ⟨B, 1, none⟩ = some (.int .u64 0) := cell_of_heap hH 1 _ rfl
  have f2 := free_of_heap hH 2
  have d2 : w1.cell? ⟨B, 2, none⟩ = some (.int .u64 0) := cell_of_heap hH 2 _ rfl
  have f3 := free_of_heap hH 3
  have d3 : w1.cell? ⟨B, 3, none⟩ = some (.slice none 0 0) := cell_of_heap hH 3 _ rfl
  rw [HBe.out]
  clear ho hH hVV q7
  go_wp2_with fail
  go_region_held3 (fun w' : World => w'.frozen? ⟨B, 0, none⟩ = false) (first | go_keep | assumption) ((first | (go_at_call 32; refine (HU.out _ (by decide) (by omega) _ hXd.out).mono ?_; rintro e w' ⟨rfl, rfl⟩)))
  go_wp2_with fail
  have hP : ∀ i : Nat, objN l p 2 3 i = V (8 * (i : Int)) := fun i => by
    rw [HV.out i, HVV.out]; unfold numAt; congr 2
  have hPs : objN l p 2 3 0 = V 0 ∧ objN l p 2 3 1 = V 8 ∧ objN l p 2 3 2 = V 16 := ⟨hP 0, hP 1, hP 2⟩
  obtain ⟨p0, p1, p2⟩ := hPs
  rw [p0, p1, p2, HP.out]
  refine bodyPost_ret (v := .tuple #[.agg #[.int .u64 (V 0), .int .u64 (V 8), .int .u64 (V 16), .slice (some ⟨g, 24, none⟩) (X.length - 24) (c2 - 24)], .int .i64 0]) (by simp [results, Try.results23, go_sem, d0, d1, d2, d3]) rfl ⟨_, _, _, rfl, RdB.cutL (n := X.length) (c := c2) ⟨HH.out.1, ?_⟩ 24 q9, ?_⟩
  · refine HH.out.2.rd.grown (r := some B) ?_ ?_
    · repeat (first | with_reducible exact grown_setCell _ _ _ _ | with_reducible refine grown_drew ?_ | with_reducible refine grown_trans ?_ (grown_setCell _ _ _ _))
    · intro x hx h
      have hg := HH.out.2.ge x hx
      have := HDlt.out
      injection h
      omega
  · have hle : w.heap.size ≤ B := Nat.le_of_eq HBe.out
    repeat (first | (with_reducible refine Below.setCell ?_ hle _) | with_reducible refine Below.drew ?_ | with_reducible exact hBB)
end Go.Proofs.Ytfhpdhfhahbfnaa
