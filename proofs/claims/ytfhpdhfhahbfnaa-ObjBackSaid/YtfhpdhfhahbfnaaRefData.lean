/- What the document's own PutData, PutField compute. Conditions stand as premises. -/
import Derived.Test.YtfhpdhfhahbfnaaObjData
import Derived.Test.YtfhpdhfhahbfnaaUpd
import Derived.Deep.RegionHeld3
namespace Go.Proofs.Ytfhpdhfhahbfnaa
open Go.ChangeShapes Go.WideShapes Go.ChangeAt Go.RowKit
set_option linter.unusedVariables false

/-- A box of 6 numbers and bytes. -/
structure Box6 (w : World) (B : Nat) (v0 v1 v2 v3 v4 v5 : Int) (a : Option Addr) (n c : Nat) : Prop where
  lt : B < w.heap.size
  d0 : w.cell? ⟨B, 0, none⟩ = some (.int .u64 v0)
  d1 : w.cell? ⟨B, 1, none⟩ = some (.int .u64 v1)
  d2 : w.cell? ⟨B, 2, none⟩ = some (.int .u64 v2)
  d3 : w.cell? ⟨B, 3, none⟩ = some (.int .u64 v3)
  d4 : w.cell? ⟨B, 4, none⟩ = some (.int .u64 v4)
  d5 : w.cell? ⟨B, 5, none⟩ = some (.int .u64 v5)
  d6 : w.cell? ⟨B, 6, none⟩ = some (.slice a n c)
theorem Box6.mono {w w' : World} {B : Nat} {v0 v1 v2 v3 v4 v5 : Int} {a : Option Addr} {n c : Nat} (h : Box6 w B v0 v1 v2 v3 v4 v5 a n c) {M : Nat} (hb : Below M w w') (hM : B < M) : Box6 w' B v0 v1 v2 v3 v4 v5 a n c :=
  ⟨Nat.lt_of_lt_of_le h.lt hb.size, bcell hb hM h.d0, bcell hb hM h.d1, bcell hb hM h.d2, bcell hb hM h.d3, bcell hb hM h.d4, bcell hb hM h.d5, bcell hb hM h.d6⟩
theorem Box6.new (w : World) (T : TypeId) (v0 v1 v2 v3 v4 v5 : Int) (a : Option Addr) (n c : Nat) : Box6 (w.alloc (.cells #[.int .u64 v0, .int .u64 v1, .int .u64 v2, .int .u64 v3, .int .u64 v4, .int .u64 v5, .slice a n c] T)) w.heap.size v0 v1 v2 v3 v4 v5 a n c := by
  have h := heap_alloc_new w (.cells #[.int .u64 v0, .int .u64 v1, .int .u64 v2, .int .u64 v3, .int .u64 v4, .int .u64 v5, .slice a n c] T)
  exact ⟨by simp, cell_of_heap h 0 _ rfl, cell_of_heap h 1 _ rfl, cell_of_heap h 2 _ rfl, cell_of_heap h 3 _ rfl, cell_of_heap h 4 _ rfl, cell_of_heap h 5 _ rfl, cell_of_heap h 6 _ rfl⟩

set_option maxHeartbeats 1000000 in
theorem refputdata_any (v0 v1 v2 v3 v4 v5 : Int) (a : Option Addr) (n c : Nat) (l : List Int) (w : World) (hr : RdB w a n c l) (hlen : n ≤ 140737488330000) (h0 : U8 v0) (h1 : U8 v1) (h2 : U8 v2) (h3 : U8 v3) (h4 : U8 v4) (h5 : U8 v5) :
    Calls Try.prog 13 #[.agg #[.int .u64 v0, .int .u64 v1, .int .u64 v2, .int .u64 v3, .int .u64 v4, .int .u64 v5, .slice a n c]] w (NewB w.heap.size w (putO 1 (numsL [v0, v1, v2, v3, v4, v5] ++ l))) := by
  obtain rfl : l.length = n := hr.len
  have hX := Box6.new w 29 v0 v1 v2 v3 v4 v5 a l.length c
  have hB1 := below_alloc w (.cells #[.int .u64 v0, .int .u64 v1, .int .u64 v2, .int .u64 v3, .int .u64 v4, .int .u64 v5, .slice a l.length c] 29)
  have hN1 : (numsL [v0, v1, v2, v3, v4, v5]).length = 48 := by rw [numsL_length]; rfl
  have hU : ∀ v ∈ [v0, v1, v2, v3, v4, v5], U8 v := (U8.cons h0 (U8.cons h1 (U8.cons h2 (U8.cons h3 (U8.cons h4 (U8.cons h5 U8.nil))))))
  obtain ⟨V, hV⟩ : ∃ V, [v0, v1, v2, v3, v4, v5] = V := ⟨_, rfl⟩
  have hV2 : V.length = 6 := by rw [← hV]; rfl
  have hV3 : #[.int .u64 v0, .int .u64 v1, .int .u64 v2, .int .u64 v3, .int .u64 v4, .int .u64 v5] = (V.map (Value.int .u64)).toArray := by rw [← hV]; rfl
  rw [hV] at hN1 hU ⊢
  clear hV
  obtain ⟨X, hXe⟩ : ∃ X, numsL V ++ l = X := ⟨_, rfl⟩
  have hXB : IsB X := by rw [← hXe]; exact (numsL_isB V).append hr.1
  have hXl : X.length = 48 + l.length := by rw [← hXe, List.length_append, hN1]
  have HXe := Lib.hid hXe
  rw [hXe]
  obtain ⟨R, hR⟩ : ∃ R, putO 1 X = R := ⟨_, rfl⟩
  have HR := Lib.hid hR
  rw [hR]
  clear hR hXe
  go_enter Try.func13, Try.ntmps13
  go_wp2_with fail
  obtain ⟨B, hB⟩ : ∃ B, w.heap.size = B := ⟨_, rfl⟩
  generalize w.alloc (.cells #[.int .u64 v0, .int .u64 v1, .int .u64 v2, .int .u64 v3, .int .u64 v4, .int .u64 v5, .slice a l.length c] 29) = w1 at hX hB1 ⊢
  rw [hB] at hX hB1
  simp only [hB]
  have hz1 := hX.lt
  have hBd : Below B w w1.drew := hB1.trans ((below_drew w1).mono (Nat.le_of_lt hz1))
  have hXd := hX.mono (below_drew w1) hz1
  have hBA : Below B w (w1.drew.alloc (.cells #[.int .u64 v0, .int .u64 v1, .int .u64 v2, .int .u64 v3, .int .u64 v4, .int .u64 v5] 22)) := hBd.alloc (Nat.le_of_lt hz1) _
  have hXa := hXd.mono (below_alloc w1.drew (.cells #[.int .u64 v0, .int .u64 v1, .int .u64 v2, .int .u64 v3, .int .u64 v4, .int .u64 v5] 22)) hz1
  have hrV := Lib.hid (Rd.lit (Value.int .u64) 22 w1.drew V _ 6 hV3 hV2 (by decide))
  have hsA : B ≤ (w1.drew.alloc (.cells #[.int .u64 v0, .int .u64 v1, .int .u64 v2, .int .u64 v3, .int .u64 v4, .int .u64 v5] 22)).heap.size := by have := hBA.size; omega
  have hXlt : X.length ≤ 140737488350000 := by omega
  have hr0 := Lib.hid hr
  have HBw := Lib.hid hB
  have hf1 : (48 + l.length) * 1 ≤ 140737488355328 := by omega
  have hf2 : 48 + l.length ≤ 140737488355328 := by omega
  have hN1h := Lib.hid hN1
  have hUh := Lib.hid hU
  have hV2h := Lib.hid hV2
  have hXlh := Lib.hid hXl
  clear hX hB1 hV2 hV3 hN1 hU hr hB hXl
  go_region_held3 (fun w' : World => w'.cell? ⟨B, 0, none⟩ = some (.int .u64 v0) ∧ w'.cell? ⟨B, 1, none⟩ = some (.int .u64 v1) ∧ w'.cell? ⟨B, 2, none⟩ = some (.int .u64 v2) ∧ w'.cell? ⟨B, 3, none⟩ = some (.int .u64 v3) ∧ w'.cell? ⟨B, 4, none⟩ = some (.int .u64 v4) ∧ w'.cell? ⟨B, 5, none⟩ = some (.int .u64 v5) ∧ w'.cell? ⟨B, 6, none⟩ = some (.slice a l.length c)) (first | exact ⟨hXd.d0, hXd.d1, hXd.d2, hXd.d3, hXd.d4, hXd.d5, hXd.d6⟩ | exact ⟨hXa.d0, hXa.d1, hXa.d2, hXa.d3, hXa.d4, hXa.d5, hXa.d6⟩ | exact ⟨hX3.d0, hX3.d1, hX3.d2, hX3.d3, hX3.d4, hX3.d5, hX3.d6⟩ | exact ⟨hX4.d0, hX4.d1, hX4.d2, hX4.d3, hX4.d4, hX4.d5, hX4.d6⟩ | exact ⟨hX5.d0, hX5.d1, hX5.d2, hX5.d3, hX5.d4, hX5.d5, hX5.d6⟩) ((first | (go_at_call 29; refine (nums_any _ _ _ V _ hrV.out hUh.out (by decide)).mono ?_; rintro e w3 ⟨a3, c3, rfl, ho3, hb3⟩; rw [hN1h.out] at ho3 ⊢; have hz3 := hb3.size; have hB3 := hBA.trans (hb3.mono hsA); have hX3 := hXa.mono hb3 hXa.lt; have hr3 := hr0.out.mono (HBw.out ▸ hB3)) | (refine step_appAt (s := .tmp 16) (x := .tmp 18) rfl rfl Try.oneB rfl rfl ho3.2 hr3.2 (fun _ => rfl) hf1 hf2 hz3 ?_; intro a4 c4 w4 ho4 hu4 hat4; rw [HXe.out, ← hXlh.out] at ho4; rw [← hXlh.out]; have hb4 := hu4.below hz3 (fun q hq => by obtain ⟨x, hx, rfl⟩ := mem_blk.1 hq; exact (ho3.2.lt x hx).1); have hB4 := hB3.trans (hb4.mono hsA); have hX4 := hX3.mono hb4 hXa.lt; have hz4 := hX4.lt) | (go_at_call 11; refine (refput_obj _ _ _ 1 X _ ⟨hXB, ho4.rd⟩ hXlt).mono ?_; rintro e w5 ⟨a5, c5, rfl, ho5, hb5⟩; rw [HR.out] at ho5 ⊢; have hX5 := hX4.mono hb5 hX4.lt)))
  go_wp2
  go_ret
  have hsz4 : B ≤ w4.heap.size := by have := hB4.size; rw [HBw.out] at this; exact this
  rw [HBw.out]
  exact ⟨a5, c5, rfl, ho5.base hsz4, hB4.trans (hb5.mono hsz4)⟩

/-- A box of 3 numbers and bytes. -/
structure Box3 (w : World) (B : Nat) (v0 v1 v2 : Int) (a : Option Addr) (n c : Nat) : Prop where
  lt : B < w.heap.size
  d0 : w.cell? ⟨B, 0, none⟩ = some (.int .u64 v0)
  d1 : w.cell? ⟨B, 1, none⟩ = some (.int .u64 v1)
  d2 : w.cell? ⟨B, 2, none⟩ = some (.int .u64 v2)
  d3 : w.cell? ⟨B, 3, none⟩ = some (.slice a n c)
theorem Box3.mono {w w' : World} {B : Nat} {v0 v1 v2 : Int} {a : Option Addr} {n c : Nat} (h : Box3 w B v0 v1 v2 a n c) {M : Nat} (hb : Below M w w') (hM : B < M) : Box3 w' B v0 v1 v2 a n c :=
  ⟨Nat.lt_of_lt_of_le h.lt hb.size, bcell hb hM h.d0, bcell hb hM h.d1, bcell hb hM h.d2, bcell hb hM h.d3⟩
theorem Box3.new (w : World) (T : TypeId) (v0 v1 v2 : Int) (a : Option Addr) (n c : Nat) : Box3 (w.alloc (.cells #[.int .u64 v0, .int .u64 v1, .int .u64 v2, .slice a n c] T)) w.heap.size v0 v1 v2 a n c := by
  have h := heap_alloc_new w (.cells #[.int .u64 v0, .int .u64 v1, .int .u64 v2, .slice a n c] T)
  exact ⟨by simp, cell_of_heap h 0 _ rfl, cell_of_heap h 1 _ rfl, cell_of_heap h 2 _ rfl, cell_of_heap h 3 _ rfl⟩

set_option maxHeartbeats 1000000 in
theorem refputfield_any (v0 v1 v2 : Int) (a : Option Addr) (n c : Nat) (l : List Int) (w : World) (hr : RdB w a n c l) (hlen : n ≤ 140737488330000) (h0 : U8 v0) (h1 : U8 v1) (h2 : U8 v2) :
    Calls Try.prog 15 #[.agg #[.int .u64 v0, .int .u64 v1, .int .u64 v2, .slice a n c]] w (NewB w.heap.size w (putO 2 (numsL [v0, v1, v2] ++ l))) := by
  obtain rfl : l.length = n := hr.len
  have hX := Box3.new w 30 v0 v1 v2 a l.length c
  have hB1 := below_alloc w (.cells #[.int .u64 v0, .int .u64 v1, .int .u64 v2, .slice a l.length c] 30)
  have hN1 : (numsL [v0, v1, v2]).length = 24 := by rw [numsL_length]; rfl
  have hU : ∀ v ∈ [v0, v1, v2], U8 v := (U8.cons h0 (U8.cons h1 (U8.cons h2 U8.nil)))
  obtain ⟨V, hV⟩ : ∃ V, [v0, v1, v2] = V := ⟨_, rfl⟩
  have hV2 : V.length = 3 := by rw [← hV]; rfl
  have hV3 : #[.int .u64 v0, .int .u64 v1, .int .u64 v2] = (V.map (Value.int .u64)).toArray := by rw [← hV]; rfl
  rw [hV] at hN1 hU ⊢
  clear hV
  obtain ⟨X, hXe⟩ : ∃ X, numsL V ++ l = X := ⟨_, rfl⟩
  have hXB : IsB X := by rw [← hXe]; exact (numsL_isB V).append hr.1
  have hXl : X.length = 24 + l.length := by rw [← hXe, List.length_append, hN1]
  have HXe := Lib.hid hXe
  rw [hXe]
  obtain ⟨R, hR⟩ : ∃ R, putO 2 X = R := ⟨_, rfl⟩
  have HR := Lib.hid hR
  rw [hR]
  clear hR hXe
  go_enter Try.func15, Try.ntmps15
  go_wp2_with fail
  obtain ⟨B, hB⟩ : ∃ B, w.heap.size = B := ⟨_, rfl⟩
  generalize w.alloc (.cells #[.int .u64 v0, .int .u64 v1, .int .u64 v2, .slice a l.length c] 30) = w1 at hX hB1 ⊢
  rw [hB] at hX hB1
  simp only [hB]
  have hz1 := hX.lt
  have hBd : Below B w w1.drew := hB1.trans ((below_drew w1).mono (Nat.le_of_lt hz1))
  have hXd := hX.mono (below_drew w1) hz1
  have hBA : Below B w (w1.drew.alloc (.cells #[.int .u64 v0, .int .u64 v1, .int .u64 v2] 22)) := hBd.alloc (Nat.le_of_lt hz1) _
  have hXa := hXd.mono (below_alloc w1.drew (.cells #[.int .u64 v0, .int .u64 v1, .int .u64 v2] 22)) hz1
  have hrV := Lib.hid (Rd.lit (Value.int .u64) 22 w1.drew V _ 3 hV3 hV2 (by decide))
  have hsA : B ≤ (w1.drew.alloc (.cells #[.int .u64 v0, .int .u64 v1, .int .u64 v2] 22)).heap.size := by have := hBA.size; omega
  have hXlt : X.length ≤ 140737488350000 := by omega
  have hr0 := Lib.hid hr
  have HBw := Lib.hid hB
  have hf1 : (24 + l.length) * 1 ≤ 140737488355328 := by omega
  have hf2 : 24 + l.length ≤ 140737488355328 := by omega
  have hN1h := Lib.hid hN1
  have hUh := Lib.hid hU
  have hV2h := Lib.hid hV2
  have hXlh := Lib.hid hXl
  clear hX hB1 hV2 hV3 hN1 hU hr hB hXl
  go_region_held3 (fun w' : World => w'.cell? ⟨B, 0, none⟩ = some (.int .u64 v0) ∧ w'.cell? ⟨B, 1, none⟩ = some (.int .u64 v1) ∧ w'.cell? ⟨B, 2, none⟩ = some (.int .u64 v2) ∧ w'.cell? ⟨B, 3, none⟩ = some (.slice a l.length c)) (first | exact ⟨hXd.d0, hXd.d1, hXd.d2, hXd.d3⟩ | exact ⟨hXa.d0, hXa.d1, hXa.d2, hXa.d3⟩ | exact ⟨hX3.d0, hX3.d1, hX3.d2, hX3.d3⟩ | exact ⟨hX4.d0, hX4.d1, hX4.d2, hX4.d3⟩ | exact ⟨hX5.d0, hX5.d1, hX5.d2, hX5.d3⟩) ((first | (go_at_call 29; refine (nums_any _ _ _ V _ hrV.out hUh.out (by decide)).mono ?_; rintro e w3 ⟨a3, c3, rfl, ho3, hb3⟩; rw [hN1h.out] at ho3 ⊢; have hz3 := hb3.size; have hB3 := hBA.trans (hb3.mono hsA); have hX3 := hXa.mono hb3 hXa.lt; have hr3 := hr0.out.mono (HBw.out ▸ hB3)) | (refine step_appAt (s := .tmp 10) (x := .tmp 12) rfl rfl Try.oneB rfl rfl ho3.2 hr3.2 (fun _ => rfl) hf1 hf2 hz3 ?_; intro a4 c4 w4 ho4 hu4 hat4; rw [HXe.out, ← hXlh.out] at ho4; rw [← hXlh.out]; have hb4 := hu4.below hz3 (fun q hq => by obtain ⟨x, hx, rfl⟩ := mem_blk.1 hq; exact (ho3.2.lt x hx).1); have hB4 := hB3.trans (hb4.mono hsA); have hX4 := hX3.mono hb4 hXa.lt; have hz4 := hX4.lt) | (go_at_call 11; refine (refput_obj _ _ _ 2 X _ ⟨hXB, ho4.rd⟩ hXlt).mono ?_; rintro e w5 ⟨a5, c5, rfl, ho5, hb5⟩; rw [HR.out] at ho5 ⊢; have hX5 := hX4.mono hb5 hX4.lt)))
  go_wp2
  go_ret
  have hsz4 : B ≤ w4.heap.size := by have := hB4.size; rw [HBw.out] at this; exact this
  rw [HBw.out]
  exact ⟨a5, c5, rfl, ho5.base hsz4, hB4.trans (hb5.mono hsz4)⟩

end Go.Proofs.Ytfhpdhfhahbfnaa
