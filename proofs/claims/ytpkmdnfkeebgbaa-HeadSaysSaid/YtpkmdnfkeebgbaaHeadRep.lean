/- A journal's head as cells: the plain words. No program in sight; no condition. -/
import Derived.Test.YtpkmdnfkeebgbaaStruct2
import Derived.Test.YtpkmdnfkeebgbaaArrEq
namespace Go.Proofs.Ytpkmdnfkeebgbaa
open Go.ChangeShapes Go.WideShapes Go.ChangeAt Go.RowKit
set_option linter.unusedVariables false
set_option linter.unusedSimpArgs false

/-- The cells of a head: two numbers of 32 bits, the state, four names (64 bytes), numbers of 64 bits, two of 32, one of 64. -/
def headL (co inc st : Int) (I Ns : List Int) (ta ti te : Int) : List Value :=
  [Value.int .u32 co, Value.int .u32 inc, Value.int .i64 st] ++ (I.map (Value.int .u8) ++ (Ns.map (Value.int .u64) ++ [Value.int .u32 ta, Value.int .u32 ti, Value.int .u64 te]))
section
variable {co inc st : Int} {I Ns : List Int} {ta ti te : Int}
theorem headL_length {n : Nat} (hI : I.length = 64) (hN : Ns.length = n) : (headL co inc st I Ns ta ti te).length = 70 + n := by simp [headL, hI, hN]; omega
theorem headL_size {n : Nat} (hI : I.length = 64) (hN : Ns.length = n) : (headL co inc st I Ns ta ti te).toArray.size = 70 + n := headL_length hI hN
theorem headL_one : (headL co inc st I Ns ta ti te).toArray.all (·.oneCell') = true := by
  rw [Array.all_eq_true_iff_forall_mem]
  intro v hv
  simp only [headL, List.mem_toArray, List.mem_append, List.mem_cons, List.mem_map, List.not_mem_nil, or_false] at hv
  rcases hv with (rfl | rfl | rfl) | ⟨y, _, rfl⟩ | ⟨y, _, rfl⟩ | rfl | rfl | rfl <;> rfl
theorem headL_I (j : Nat) (v : Value) (h : (I.map (Value.int .u8))[j]? = some v) : (headL co inc st I Ns ta ti te).toArray[3 + j]? = some v := by
  have hl : j < I.length := by have := (List.getElem?_eq_some_iff.1 h).1; simpa using this
  simp only [headL, List.getElem?_toArray]
  rw [List.getElem?_append_right (by simp), List.getElem?_append_left (by simp; omega), ← h]
  simp
theorem headL_N (hI : I.length = 64) (i : Nat) (v : Int) (h : Ns[i]? = some v) : (headL co inc st I Ns ta ti te).toArray[67 + i]? = some (.int .u64 v) := by
  have hl : i < Ns.length := (List.getElem?_eq_some_iff.1 h).1
  simp only [headL, List.getElem?_toArray]
  rw [List.getElem?_append_right (by simp; omega), List.getElem?_append_right (by simp [hI]; omega), List.getElem?_append_left (by simp [hI]; omega)]
  simp only [List.length_cons, List.length_nil, List.length_map, hI]
  rw [show 67 + i - (0 + 1 + 1 + 1) - 64 = i by omega, List.getElem?_map, h]; rfl
theorem headL_ta {n : Nat} (hI : I.length = 64) (hN : Ns.length = n) : (headL co inc st I Ns ta ti te).toArray[67 + n]? = some (.int .u32 ta) := by
  simp only [headL, List.getElem?_toArray]
  rw [List.getElem?_append_right (by simp; omega), List.getElem?_append_right (by simp [hI]; omega), List.getElem?_append_right (by simp [hI, hN]; omega)]
  simp only [List.length_cons, List.length_nil, List.length_map, hI, hN]
  rw [show 67 + n - (0 + 1 + 1 + 1) - 64 - n = 0 by omega]; rfl
theorem headL_ti {n : Nat} (hI : I.length = 64) (hN : Ns.length = n) : (headL co inc st I Ns ta ti te).toArray[68 + n]? = some (.int .u32 ti) := by
  simp only [headL, List.getElem?_toArray]
  rw [List.getElem?_append_right (by simp; omega), List.getElem?_append_right (by simp [hI]; omega), List.getElem?_append_right (by simp [hI, hN]; omega)]
  simp only [List.length_cons, List.length_nil, List.length_map, hI, hN]
  rw [show 68 + n - (0 + 1 + 1 + 1) - 64 - n = 1 by omega]; rfl
theorem headL_te {n : Nat} (hI : I.length = 64) (hN : Ns.length = n) : (headL co inc st I Ns ta ti te).toArray[69 + n]? = some (.int .u64 te) := by
  simp only [headL, List.getElem?_toArray]
  rw [List.getElem?_append_right (by simp; omega), List.getElem?_append_right (by simp [hI]; omega), List.getElem?_append_right (by simp [hI, hN]; omega)]
  simp only [List.length_cons, List.length_nil, List.length_map, hI, hN]
  rw [show 69 + n - (0 + 1 + 1 + 1) - 64 - n = 2 by omega]; rfl
theorem headL_setN (hI : I.length = 64) (i : Nat) (hi : i < Ns.length) (v : Int) : (headL co inc st I Ns ta ti te).toArray.setIfInBounds (67 + i) (.int .u64 v) = (headL co inc st I (Ns.set i v) ta ti te).toArray := by
  simp only [headL, List.setIfInBounds_toArray]
  congr 1
  rw [List.set_append_right _ _ (by simp; omega), List.set_append_right _ _ (by simp [hI]; omega), List.set_append_left _ _ (by simp [hI]; omega)]
  simp only [List.length_cons, List.length_nil, List.length_map, hI]
  rw [show 67 + i - (0 + 1 + 1 + 1) - 64 = i by omega, List.map_set]
theorem headL_setCo (v : Int) : (headL co inc st I Ns ta ti te).toArray.setIfInBounds 0 (.int .u32 v) = (headL v inc st I Ns ta ti te).toArray := rfl
theorem headL_setInc (v : Int) : (headL co inc st I Ns ta ti te).toArray.setIfInBounds 1 (.int .u32 v) = (headL co v st I Ns ta ti te).toArray := rfl
theorem headL_setTa {n : Nat} (hI : I.length = 64) (hN : Ns.length = n) (v : Int) : (headL co inc st I Ns ta ti te).toArray.setIfInBounds (67 + n) (.int .u32 v) = (headL co inc st I Ns v ti te).toArray := by
  simp only [headL, List.setIfInBounds_toArray]
  congr 1
  rw [List.set_append_right _ _ (by simp; omega), List.set_append_right _ _ (by simp [hI]; omega), List.set_append_right _ _ (by simp [hI, hN]; omega)]
  simp only [List.length_cons, List.length_nil, List.length_map, hI, hN]
  rw [show 67 + n - (0 + 1 + 1 + 1) - 64 - n = 0 by omega]; rfl
theorem headL_setTi {n : Nat} (hI : I.length = 64) (hN : Ns.length = n) (v : Int) : (headL co inc st I Ns ta ti te).toArray.setIfInBounds (68 + n) (.int .u32 v) = (headL co inc st I Ns ta v te).toArray := by
  simp only [headL, List.setIfInBounds_toArray]
  congr 1
  rw [List.set_append_right _ _ (by simp; omega), List.set_append_right _ _ (by simp [hI]; omega), List.set_append_right _ _ (by simp [hI, hN]; omega)]
  simp only [List.length_cons, List.length_nil, List.length_map, hI, hN]
  rw [show 68 + n - (0 + 1 + 1 + 1) - 64 - n = 1 by omega]; rfl
theorem headL_setTe {n : Nat} (hI : I.length = 64) (hN : Ns.length = n) (v : Int) : (headL co inc st I Ns ta ti te).toArray.setIfInBounds (69 + n) (.int .u64 v) = (headL co inc st I Ns ta ti v).toArray := by
  simp only [headL, List.setIfInBounds_toArray]
  congr 1
  rw [List.set_append_right _ _ (by simp; omega), List.set_append_right _ _ (by simp [hI]; omega), List.set_append_right _ _ (by simp [hI, hN]; omega)]
  simp only [List.length_cons, List.length_nil, List.length_map, hI, hN]
  rw [show 69 + n - (0 + 1 + 1 + 1) - 64 - n = 2 by omega]; rfl
/-- One name laid over the names. -/
theorem headL_spliceI (hI : I.length = 64) (k : Nat) (X : List Int) (hX : X.length = 16) (hk : k + 16 ≤ 64) : splice (headL co inc st I Ns ta ti te) (3 + k) (X.map (Value.int .u8)) = headL co inc st (I.take k ++ (X ++ I.drop (k + 16))) Ns ta ti te := by
  unfold splice headL
  have h3 : ([Value.int .u32 co, Value.int .u32 inc, Value.int .i64 st] : List Value).length = 3 := rfl
  rw [List.take_append, List.drop_append, h3, List.length_map, hX]
  rw [List.take_of_length_le (by rw [h3]; omega), List.drop_of_length_le (l := [Value.int .u32 co, Value.int .u32 inc, Value.int .i64 st]) (by rw [h3]; omega), List.nil_append]
  rw [show 3 + k - 3 = k by omega, show 3 + k + 16 - 3 = k + 16 by omega, List.take_append_of_le_length (by simp [hI]; omega), List.drop_append_of_le_length (by simp [hI]; omega)]
  simp [List.append_assoc, List.map_take, List.map_drop]
end
/-- A name of a head: sixteen of the 64 bytes. -/
def idN (I : List Int) (k : Nat) : List Int := (I.drop k).take 16
theorem idN_length {I : List Int} (hI : I.length = 64) (k : Nat) (hk : k + 16 ≤ 64) : (idN I k).length = 16 := by simp [idN, hI]; omega
theorem idN_isB {I : List Int} (h : IsB I) (k : Nat) : IsB (idN I k) := (h.drop k).take 16
theorem headL_id {co inc st : Int} {I Ns : List Int} {ta ti te : Int} (k : Nat) (j : Nat) (v : Value) (h : ((idN I k).map (Value.int .u8))[j]? = some v) : (headL co inc st I Ns ta ti te).toArray[3 + k + j]? = some v := by
  rw [Nat.add_assoc]
  refine headL_I (k + j) v ?_
  unfold idN at h
  rw [List.getElem?_map, List.getElem?_take] at h
  rw [List.getElem?_map]
  split at h
  · rw [List.getElem?_drop] at h; exact h
  · cases h
end Go.Proofs.Ytpkmdnfkeebgbaa
