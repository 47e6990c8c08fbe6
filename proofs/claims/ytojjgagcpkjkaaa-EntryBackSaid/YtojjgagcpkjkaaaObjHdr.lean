/- An object's first sixteen bytes, and what Read says of them. No program in sight. -/
import Derived.Test.YtojjgagcpkjkaaaObjAny
namespace Go.Proofs.Ytojjgagcpkjkaaa
set_option linter.unusedVariables false

/-- The bytes of an object: its kind, its flags, its size, the rest. -/
def hdr (k f S : Int) (rest : List Int) : List Int := k :: f :: 0 :: 0 :: 0 :: 0 :: 0 :: 0 :: (digs 8 S ++ rest)
theorem hdr_length (k f S : Int) (rest : List Int) : (hdr k f S rest).length = 16 + rest.length := by simp [hdr, digs_length]; omega
theorem hdr_size (k f S : Int) (rest : List Int) (h : 0 ≤ S ∧ S ≤ 18446744073709551615) : sizeAt (hdr k f S rest) 0 = S := by
  unfold sizeAt hdr
  simp only [Nat.zero_add, List.drop_succ_cons, List.drop_zero]
  rw [List.take_left' (digs_length 8 S), leN_digs]
  omega
theorem readC_hdr (k f S : Int) (rest : List Int) (h : 0 ≤ S ∧ S ≤ 18446744073709551615) :
    readC (hdr k f S rest) 0 = if k < 1 ∨ 7 < k then 4 else if f ≠ 0 then 7 else if S < 16 then 5 else if (16 + rest.length : Int) < S then 2 else 0 := by
  unfold readC
  rw [if_neg (by decide), if_neg (by rw [hdr_length]; omega)]
  simp only [show (0 : Int).toNat = 0 from rfl, hdr_size k f S rest h, hdr_length]
  simp only [hdr, List.getElem?_cons_zero, List.getElem?_cons_succ, Nat.zero_add, Option.getD_some]
  simp only [Int.sub_zero, Int.natCast_add]
  rfl
theorem objL_hdr (k : Int) (l : List Int) : objL k l = hdr k 0 (16 + l.length) (l ++ List.replicate ((8 - l.length % 8) % 8) 0) := by
  simp [objL, hdr, List.replicate]
theorem hdr_set0 (k f S x : Int) (rest : List Int) : (hdr k f S rest).set 0 x = hdr x f S rest := rfl
theorem hdr_set1 (k f S x : Int) (rest : List Int) : (hdr k f S rest).set 1 x = hdr k x S rest := rfl
theorem digs_small (S : Int) (h : 0 ≤ S ∧ S ≤ 255) : digs 8 S = [S, 0, 0, 0, 0, 0, 0, 0] := by
  have e : S % 256 = S := Int.emod_eq_of_lt h.1 (by omega)
  have e2 : S / 256 = 0 := by omega
  simp [digs, e, e2]
theorem hdr_set8 (k f S x : Int) (rest : List Int) (h : 0 ≤ S ∧ S ≤ 255) (hx : 0 ≤ x ∧ x ≤ 255) : ((hdr k f S rest).set 8 x).set 9 0 = hdr k f x rest := by
  unfold hdr
  rw [digs_small S h, digs_small x hx]
  rfl
theorem hdr_take (k f S : Int) (rest : List Int) (q : Nat) (h : 16 ≤ q) : (hdr k f S rest).take q = hdr k f S (rest.take (q - 16)) := by
  obtain ⟨r, rfl⟩ : ∃ r, q = 16 + r := ⟨q - 16, by omega⟩
  have e : (hdr k f S rest) = ([k, f, 0, 0, 0, 0, 0, 0] ++ digs 8 S) ++ rest := by simp [hdr]
  have e2 : (hdr k f S (rest.take r)) = ([k, f, 0, 0, 0, 0, 0, 0] ++ digs 8 S) ++ rest.take r := by simp [hdr]
  rw [show 16 + r - 16 = r by omega, e, e2]
  have hl : ([k, f, 0, 0, 0, 0, 0, 0] ++ digs 8 S).length = 16 := by simp [digs_length]
  rw [← hl, List.take_length_add_append]

/-- Cut short, it is out of range. -/
theorem readC_cut (k S : Int) (rest : List Int) (q : Nat) (hk : 1 ≤ k ∧ k ≤ 7) (h : 0 ≤ S ∧ S ≤ 18446744073709551615) (hq : (q : Int) < S) (hl : S ≤ 16 + rest.length) : readC ((hdr k 0 S rest).take q) 0 = 2 := by
  by_cases h16 : q < 16
  · exact readC_range (by decide) (by right; rw [List.length_take, hdr_length]; omega)
  · rw [hdr_take _ _ _ _ _ (by omega), readC_hdr _ _ _ _ h, if_neg (by omega), if_neg (by simp), if_neg (by omega), if_pos (by rw [List.length_take]; omega)]
end Go.Proofs.Ytojjgagcpkjkaaa
