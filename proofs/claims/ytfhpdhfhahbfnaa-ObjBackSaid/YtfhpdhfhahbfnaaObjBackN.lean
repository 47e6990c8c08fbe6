/- What was put is read as it was. No program in sight. -/
import Derived.Test.YtfhpdhfhahbfnaaObjRowsN
import Derived.Test.YtfhpdhfhahbfnaaObjRd
namespace Go.Proofs.Ytfhpdhfhahbfnaa
set_option linter.unusedVariables false

theorem putAt (pre X : List Int) (k : Int) (h : pre.length % 8 = 0) (hk : 1 ≤ k ∧ k ≤ 7) (hX : X.length ≤ 4000) :
    readC (pre ++ objL k X) pre.length = 0 ∧ kindAt (pre ++ objL k X) pre.length = k ∧ sizeAt (pre ++ objL k X) pre.length = 16 + X.length ∧ bodyL (pre ++ objL k X) pre.length = X := by
  have hS : 0 ≤ (16 + (X.length : Int)) ∧ (16 + (X.length : Int)) ≤ 18446744073709551615 := by omega
  have e := objL_hdr k X
  have c : sizeAt (pre ++ objL k X) pre.length = 16 + X.length := by rw [sizeAt_behind, e, hdr_size _ _ _ _ hS]
  refine ⟨?_, ?_, c, ?_⟩
  · rw [readC_behind _ _ h, e, readC_hdr _ _ _ _ hS, if_neg (by omega), if_neg (by simp), if_neg (by omega), if_neg (by rw [List.length_append]; omega)]
  · unfold kindAt; rw [Int.toNat_natCast, kind_behind, e]; rfl
  · unfold bodyL
    rw [Int.toNat_natCast, c, ← List.drop_drop, List.drop_left]
    have e2 : objL k X = (k :: List.replicate 7 0 ++ digs 8 (16 + X.length)) ++ (X ++ List.replicate ((8 - X.length % 8) % 8) 0) := by simp [objL]
    have e3 : (k :: List.replicate 7 0 ++ digs 8 (16 + (X.length : Int))).length = 16 := by simp [digs_length]
    rw [e2, List.drop_append_of_le_length (by omega), List.drop_of_length_le (by omega), List.nil_append]
    rw [show (16 + (X.length : Int)).toNat - 16 = X.length by omega, List.take_left' rfl]
theorem objC_put (pre X : List Int) (k k' : Int) (n : Nat) (h : pre.length % 8 = 0) (hk : 1 ≤ k ∧ k ≤ 7) (hX : X.length ≤ 4000) :
    objC (pre ++ objL k X) pre.length k' n = if k ≠ k' then 4 else if X.length ≤ 8 * n then 5 else 0 := by
  obtain ⟨r1, r2, r3, _⟩ := putAt pre X k h hk hX
  unfold objC
  rw [if_neg (by simpa using r1), r2, Int.toNat_natCast, r3]
  by_cases q : k ≠ k'
  · rw [if_pos q, if_pos q]
  · rw [if_neg q, if_neg q]
    by_cases q2 : X.length ≤ 8 * n
    · rw [if_pos q2, if_pos (by omega)]
    · rw [if_neg q2, if_neg (by omega)]
theorem numAt_nums (vs P : List Int) (i : Nat) (hi : i < vs.length) (hv : ∀ v ∈ vs, U8 v) : numAt (numsL vs ++ P) i = vs[i] := by
  induction vs generalizing i with
  | nil => simp at hi
  | cons v vs ih =>
    cases i with
    | zero =>
      have h1 := hv v (List.mem_cons_self ..)
      unfold numAt
      rw [show numsL (v :: vs) ++ P = digs 8 v ++ (numsL vs ++ P) by simp [numsL], Nat.mul_zero, List.drop_zero, List.take_left' (digs_length 8 v), leN_digs]
      have := h1.1
      have := h1.2
      show v % 18446744073709551616 = v
      omega
    | succ i =>
      have := ih i (by simpa using hi) (fun x hx => hv x (List.mem_cons_of_mem _ hx))
      unfold numAt at this ⊢
      rw [show numsL (v :: vs) ++ P = digs 8 v ++ (numsL vs ++ P) by simp [numsL], show 8 * (i + 1) = (digs 8 v).length + 8 * i by rw [digs_length]; omega, ← List.drop_drop, List.drop_left, this]
      rfl
theorem put_back (pre vs l : List Int) (k : Int) (h : pre.length % 8 = 0) (hk : 1 ≤ k ∧ k ≤ 7) (hn : vs.length ≤ 10) (hl : l.length ≤ 1000) (hl0 : 0 < l.length) (hv : ∀ v ∈ vs, U8 v) :
    objC (pre ++ objL k (numsL vs ++ l)) pre.length k vs.length = 0 ∧ (∀ i (hi : i < vs.length), objN (pre ++ objL k (numsL vs ++ l)) pre.length k vs.length i = vs[i]) ∧ objP (pre ++ objL k (numsL vs ++ l)) pre.length k vs.length = l ∧
    readV (pre ++ objL k (numsL vs ++ l)) pre.length = frameV k (16 + (8 * vs.length + l.length : Nat)) ∧ readC (pre ++ objL k (numsL vs ++ l)) pre.length = 0 := by
  have hnl : (numsL vs).length = 8 * vs.length := numsL_length vs
  have hX : (numsL vs ++ l).length = 8 * vs.length + l.length := by rw [List.length_append, hnl]
  obtain ⟨r1, r2, r3, r4⟩ := putAt pre (numsL vs ++ l) k h hk (by omega)
  have hc : objC (pre ++ objL k (numsL vs ++ l)) pre.length k vs.length = 0 := by
    rw [objC_put pre _ k k vs.length h hk (by omega), if_neg (by simp), if_neg (by omega)]
  refine ⟨hc, fun i hi => ?_, ?_, ?_, r1⟩
  · unfold objN
    rw [if_pos hc, r4]
    exact numAt_nums vs l i hi hv
  · unfold objP
    rw [if_pos hc, r4, ← hnl, List.drop_left]
  · rw [readV_ok r1, r2, Int.toNat_natCast, r3, hX]
theorem put_other (pre vs l : List Int) (k k' : Int) (n : Nat) (h : pre.length % 8 = 0) (hk : 1 ≤ k ∧ k ≤ 7) (hkk : k ≠ k') (hn : vs.length ≤ 10) (hl : l.length ≤ 1000) :
    objC (pre ++ objL k (numsL vs ++ l)) pre.length k' n = 4 ∧ (∀ i, objN (pre ++ objL k (numsL vs ++ l)) pre.length k' n i = 0) ∧ objP (pre ++ objL k (numsL vs ++ l)) pre.length k' n = [] := by
  have hX : (numsL vs ++ l).length = 8 * vs.length + l.length := by rw [List.length_append, numsL_length]
  have hc : objC (pre ++ objL k (numsL vs ++ l)) pre.length k' n = 4 := by
    rw [objC_put pre _ k k' n h hk (by omega), if_pos hkk]
  refine ⟨hc, fun i => ?_, ?_⟩
  · unfold objN; rw [if_neg (by rw [hc]; decide)]
  · unfold objP; rw [if_neg (by rw [hc]; decide)]
end Go.Proofs.Ytfhpdhfhahbfnaa
