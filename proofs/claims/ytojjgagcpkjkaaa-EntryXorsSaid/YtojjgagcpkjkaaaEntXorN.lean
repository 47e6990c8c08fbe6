/- The plain law of EntryXors. No program in sight; no condition. -/
import Derived.Test.YtojjgagcpkjkaaaEntXor
import Derived.Laws.BitsAllLaws
namespace Go.Proofs.Ytojjgagcpkjkaaa
set_option linter.unusedVariables false

def xorN (ls : List (List Int)) : Nat := ls.foldl (fun v l => v ^^^ (lookF l).toNat) 0
theorem xorN_from (ls : List (List Int)) (v : Nat) : ls.foldl (fun v l => v ^^^ (lookF l).toNat) v = v ^^^ xorN ls := by
  induction ls generalizing v with
  | nil => simp [xorN]
  | cons l t ih => unfold xorN; simp only [List.foldl_cons]; rw [ih, ih (0 ^^^ _), Nat.zero_xor, Nat.xor_assoc]
theorem xorN_cons (l : List Int) (t : List (List Int)) : xorN (l :: t) = (lookF l).toNat ^^^ xorN t := by
  rw [xorN, List.foldl_cons, xorN_from, Nat.zero_xor]
theorem xorN_append (a b : List (List Int)) : xorN (a ++ b) = xorN a ^^^ xorN b := by
  induction a with
  | nil => simp [xorN]
  | cons l t ih => rw [List.cons_append, xorN_cons, ih, xorN_cons, Nat.xor_assoc]
theorem xorN_reverse (a : List (List Int)) : xorN a.reverse = xorN a := by
  induction a with
  | nil => rfl
  | cons l t ih => rw [List.reverse_cons, xorN_append, ih, xorN_cons, xorN_cons, Nat.xor_comm]; simp [xorN]
theorem xorN_twice (a : List (List Int)) : xorN (a.flatMap fun l => [l, l]) = 0 := by
  induction a with
  | nil => rfl
  | cons l t ih => rw [List.flatMap_cons, xorN_append, ih, xorN_cons, xorN_cons]; simp [xorN]
theorem xorN_lt (ls : List (List Int)) : xorN ls < 18446744073709551616 := by
  induction ls with
  | nil => simp [xorN]
  | cons l t ih =>
    rw [xorN_cons]
    have := lookF_bd l
    exact Nat.xor_lt_two_pow (n := 64) (by omega) (by omega)
theorem xor_bits (a b : Nat) (ha : a < 18446744073709551616) (hb : b < 18446744073709551616) : bits .xor .u64 (a : Int) (b : Int) = ((a ^^^ b : Nat) : Int) := u64_xor_nat a b ha hb
theorem xorI_eq (ls : List (List Int)) (i : Nat) (hi : i ≤ ls.length) : xorI ls i = (xorN (ls.take i) : Int) := by
  induction i with
  | zero => rfl
  | succ i ih =>
    have hl : ls.getD i [] = ls[i] := by rw [List.getD_eq_getElem?_getD, List.getElem?_eq_getElem (by omega)]; rfl
    have hb := lookF_bd ls[i]
    have hb2 : lookF ls[i] = ((lookF ls[i]).toNat : Int) := by omega
    rw [xorI, ih (by omega), hl, hb2, xor_bits _ _ (xorN_lt _) (by omega), List.take_add_one, List.getElem?_eq_getElem (by omega), xorN_append]
    simp [xorN]
theorem xorI_all (ls : List (List Int)) : xorI ls ls.length = (xorN ls : Int) := by rw [xorI_eq ls _ (Nat.le_refl _), List.take_length]
/-- What has been put behind one another, from the last one on. -/
def backL (ls : List (List Int)) (j : Nat) : List (List Int) := ls.reverse.take j
def twiceL (ls : List (List Int)) (j : Nat) : List (List Int) := (backL ls j).flatMap fun l => [l, l]
theorem backL_succ (ls : List (List Int)) (j q : Nat) (l : List Int) (hq : q + j + 1 = ls.length) (hl : ls[q]? = some l) : backL ls (j + 1) = backL ls j ++ [l] := by
  unfold backL
  have : ls.reverse[j]? = some l := by rw [List.getElem?_reverse (by omega), show ls.length - 1 - j = q by omega]; exact hl
  rw [List.take_add_one, this]; rfl
theorem twiceL_succ (ls : List (List Int)) (j q : Nat) (l : List Int) (hq : q + j + 1 = ls.length) (hl : ls[q]? = some l) : twiceL ls (j + 1) = twiceL ls j ++ [l, l] := by
  unfold twiceL
  rw [backL_succ ls j q l hq hl, List.flatMap_append]; rfl
theorem backL_all (ls : List (List Int)) : backL ls ls.length = ls.reverse := by unfold backL; rw [List.take_of_length_le (by simp)]

theorem law_back (ls : List (List Int)) : xorI ls.reverse ls.reverse.length = xorI ls ls.length := by rw [xorI_all, xorI_all, xorN_reverse]
theorem law_twice (ls : List (List Int)) : xorI (twiceL ls ls.length) (twiceL ls ls.length).length = 0 := by rw [xorI_all]; unfold twiceL; rw [xorN_twice]; rfl
theorem law_more (ls : List (List Int)) (p : List Int) : xorI (ls.reverse ++ [p]) (ls.reverse ++ [p]).length = bits .xor .u64 (xorI ls ls.length) (xorI [p] [p].length) := by
  rw [xorI_all, xorI_all, xorI_all, xor_bits _ _ (xorN_lt _) (xorN_lt _), xorN_append, xorN_reverse]
end Go.Proofs.Ytojjgagcpkjkaaa
