/- What obj.PutData, obj.PutField and the document's own compute. Conditions stand as premises. -/
import Derived.Test.YtfhpdhfhahbfnaaRefNums
namespace Go.Proofs.Ytfhpdhfhahbfnaa
open Go.ChangeShapes Go.WideShapes Go.ChangeAt Go.RowKit
set_option linter.unusedVariables false

/-- A number of eight bytes. -/
def U8 (v : Int) : Prop := 0 ≤ v ∧ v ≤ 18446744073709551615
theorem U8.nil : ∀ v ∈ ([] : List Int), U8 v := fun v h => by cases h
theorem U8.cons {x : Int} {l : List Int} (h : U8 x) (hl : ∀ v ∈ l, U8 v) : ∀ v ∈ x :: l, U8 v := fun v hv => by
  rcases List.mem_cons.1 hv with rfl | hv
  · exact h
  · exact hl v hv

/-- A slice literal of numbers. -/
theorem Rd.lit {α : Type} (enc : α → Value) (e : TypeId) (w : World) (l : List α) (cs : Array Value) (n : Nat) (hcs : cs = (l.map enc).toArray) (hn : l.length = n) (hm : n ≤ maxLen) : Rd enc (w.alloc (.cells cs e)) (some ⟨w.heap.size, 0, none⟩) n n l :=
  (Own.lit (base := w.heap.size) l cs n hcs hn (Nat.le_refl _) hm).rd

set_option maxHeartbeats 1000000 in
theorem putdata_any (v0 v1 v2 v3 v4 v5 : Int) (a : Option Addr) (n c : Nat) (l : List Int) (w : World) (hr : RdB w a n c l) (hlen : n ≤ 140737488330000) (h0 : U8 v0) (h1 : U8 v1) (h2 : U8 v2) (h3 : U8 v3) (h4 : U8 v4) (h5 : U8 v5) :
    Calls Try.prog 12 #[.agg #[.int .u64 v0, .int .u64 v1, .int .u64 v2, .int .u64 v3, .int .u64 v4, .int .u64 v5, .slice a n c]] w (NewB w.heap.size w (putO 1 (numsL [v0, v1, v2, v3, v4, v5] ++ l))) := by
  obtain rfl : l.length = n := hr.len
  have hz1 : (w.alloc (.cells #[.int .u64 v0, .int .u64 v1, .int .u64 v2, .int .u64 v3, .int .u64 v4, .int .u64 v5, .slice a l.length c] 25)).heap.size = w.heap.size + 1 := by simp
  have hB1 := (Below.refl w.heap.size w).alloc (Nat.le_refl _) (.cells #[.int .u64 v0, .int .u64 v1, .int .u64 v2, .int .u64 v3, .int .u64 v4, .int .u64 v5, .slice a l.length c] 25)
  have hX1 : (numsL [v0, v1, v2, v3, v4, v5]).length = 48 := by rw [numsL_length]; rfl
  have hU : ∀ v ∈ [v0, v1, v2, v3, v4, v5], U8 v := (U8.cons h0 (U8.cons h1 (U8.cons h2 (U8.cons h3 (U8.cons h4 (U8.cons h5 U8.nil))))))
  obtain ⟨V, hV⟩ : ∃ V, [v0, v1, v2, v3, v4, v5] = V := ⟨_, rfl⟩
  have HV := Lib.hid hV
  have hV2 : V.length = 6 := by rw [← hV]; rfl
  have hV3 : Hid (#[.int .u64 v0, .int .u64 v1, .int .u64 v2, .int .u64 v3, .int .u64 v4, .int .u64 v5] = (V.map (Value.int .u64)).toArray) := Lib.hid (by rw [← hV]; rfl)
  rw [hV] at hX1 hU ⊢
  clear hV
  have hll : (numsL V ++ l).length = 48 + l.length := by rw [List.length_append, hX1]
  obtain ⟨R, hR⟩ : ∃ R, putO 1 (numsL V ++ l) = R := ⟨_, rfl⟩
  have HR := Lib.hid hR
  rw [hR]
  clear hR
  go_enter Try.func12, Try.ntmps12
  go_wp2_with fail
  generalize w.alloc (.cells #[.int .u64 v0, .int .u64 v1, .int .u64 v2, .int .u64 v3, .int .u64 v4, .int .u64 v5, .slice a l.length c] 25) = w1 at hz1 hB1 ⊢
  rw [← hz1]
  have hz2 : (w1.alloc (.cells #[.int .u64 v0, .int .u64 v1, .int .u64 v2, .int .u64 v3, .int .u64 v4, .int .u64 v5] 22)).heap.size = w1.heap.size + 1 := by simp
  have hB2 := hB1.alloc (by omega) (.cells #[.int .u64 v0, .int .u64 v1, .int .u64 v2, .int .u64 v3, .int .u64 v4, .int .u64 v5] 22)
  refine (numbers_any _ _ _ l _ _ _ V _ (hr.mono hB2) (Rd.lit (Value.int .u64) 22 w1 V _ 6 hV3.out hV2 (by decide)) hU (by omega) (by omega)).mono ?_
  rintro e w3 ⟨a3, c3, rfl, ho3, hb3⟩
  rw [hll] at ho3 ⊢
  have hB3 := hB2.trans (hb3.mono (by omega))
  go_wp2_with fail
  refine (put_obj _ _ _ _ _ _ ho3.rd (by omega)).mono ?_
  rintro e w4 ⟨a4, c4, rfl, ho4, hb4⟩
  rw [HR.out] at ho4 ⊢
  have hz3 := hB3.size
  go_wp2_with fail
  go_ret
  exact ⟨a4, c4, rfl, ho4.base hz3, hB3.trans (hb4.mono hz3)⟩

set_option maxHeartbeats 1000000 in
theorem putfield_any (v0 v1 v2 : Int) (a : Option Addr) (n c : Nat) (l : List Int) (w : World) (hr : RdB w a n c l) (hlen : n ≤ 140737488330000) (h0 : U8 v0) (h1 : U8 v1) (h2 : U8 v2) :
    Calls Try.prog 14 #[.agg #[.int .u64 v0, .int .u64 v1, .int .u64 v2, .slice a n c]] w (NewB w.heap.size w (putO 2 (numsL [v0, v1, v2] ++ l))) := by
  obtain rfl : l.length = n := hr.len
  have hz1 : (w.alloc (.cells #[.int .u64 v0, .int .u64 v1, .int .u64 v2, .slice a l.length c] 27)).heap.size = w.heap.size + 1 := by simp
  have hB1 := (Below.refl w.heap.size w).alloc (Nat.le_refl _) (.cells #[.int .u64 v0, .int .u64 v1, .int .u64 v2, .slice a l.length c] 27)
  have hX1 : (numsL [v0, v1, v2]).length = 24 := by rw [numsL_length]; rfl
  have hU : ∀ v ∈ [v0, v1, v2], U8 v := (U8.cons h0 (U8.cons h1 (U8.cons h2 U8.nil)))
  obtain ⟨V, hV⟩ : ∃ V, [v0, v1, v2] = V := ⟨_, rfl⟩
  have HV := Lib.hid hV
  have hV2 : V.length = 3 := by rw [← hV]; rfl
  have hV3 : Hid (#[.int .u64 v0, .int .u64 v1, .int .u64 v2] = (V.map (Value.int .u64)).toArray) := Lib.hid (by rw [← hV]; rfl)
  rw [hV] at hX1 hU ⊢
  clear hV
  have hll : (numsL V ++ l).length = 24 + l.length := by rw [List.length_append, hX1]
  obtain ⟨R, hR⟩ : ∃ R, putO 2 (numsL V ++ l) = R := ⟨_, rfl⟩
  have HR := Lib.hid hR
  rw [hR]
  clear hR
  go_enter Try.func14, Try.ntmps14
  go_wp2_with fail
  generalize w.alloc (.cells #[.int .u64 v0, .int .u64 v1, .int .u64 v2, .slice a l.length c] 27) = w1 at hz1 hB1 ⊢
  rw [← hz1]
  have hz2 : (w1.alloc (.cells #[.int .u64 v0, .int .u64 v1, .int .u64 v2] 22)).heap.size = w1.heap.size + 1 := by simp
  have hB2 := hB1.alloc (by omega) (.cells #[.int .u64 v0, .int .u64 v1, .int .u64 v2] 22)
  refine (numbers_any _ _ _ l _ _ _ V _ (hr.mono hB2) (Rd.lit (Value.int .u64) 22 w1 V _ 3 hV3.out hV2 (by decide)) hU (by omega) (by omega)).mono ?_
  rintro e w3 ⟨a3, c3, rfl, ho3, hb3⟩
  rw [hll] at ho3 ⊢
  have hB3 := hB2.trans (hb3.mono (by omega))
  go_wp2_with fail
  refine (put_obj _ _ _ _ _ _ ho3.rd (by omega)).mono ?_
  rintro e w4 ⟨a4, c4, rfl, ho4, hb4⟩
  rw [HR.out] at ho4 ⊢
  have hz3 := hB3.size
  go_wp2_with fail
  go_ret
  exact ⟨a4, c4, rfl, ho4.base hz3, hB3.trans (hb4.mono hz3)⟩
end Go.Proofs.Ytfhpdhfhahbfnaa
