/- The plain law of EntryArrays: what was put is read as it was. No program in sight. -/
import Derived.Test.YtojjgagcpkjkaaaObjHdr
import Derived.Test.YtojjgagcpkjkaaaEntReadT
import Derived.Test.YtojjgagcpkjkaaaEntPutA
namespace Go.Proofs.Ytojjgagcpkjkaaa
set_option linter.unusedVariables false

theorem put0 (X : List Int) (k : Int) (hk : 1 ≤ k ∧ k ≤ 7) (hX : X.length ≤ 4000) :
    readC (objL k X) 0 = 0 ∧ kindAt (objL k X) 0 = k ∧ sizeAt (objL k X) 0 = 16 + X.length ∧ bodyL (objL k X) 0 = X := by
  have hS : 0 ≤ (16 + (X.length : Int)) ∧ (16 + (X.length : Int)) ≤ 18446744073709551615 := by omega
  have e := objL_hdr k X
  have c : sizeAt (objL k X) 0 = 16 + X.length := by rw [e, hdr_size _ _ _ _ hS]
  refine ⟨?_, ?_, c, ?_⟩
  · rw [e, readC_hdr _ _ _ _ hS, if_neg (by omega), if_neg (by simp), if_neg (by omega), if_neg (by rw [List.length_append]; omega)]
  · unfold kindAt; rw [e]; rfl
  · unfold bodyL
    rw [show (0 : Int).toNat = 0 from rfl, c]
    have e2 : objL k X = (k :: List.replicate 7 0 ++ digs 8 (16 + X.length)) ++ (X ++ List.replicate ((8 - X.length % 8) % 8) 0) := by simp [objL]
    have e3 : (k :: List.replicate 7 0 ++ digs 8 (16 + (X.length : Int))).length = 16 := by simp [digs_length]
    rw [e2, Nat.zero_add, List.drop_append_of_le_length (by omega), List.drop_of_length_le (by omega), List.nil_append]
    rw [show (16 + (X.length : Int)).toNat - 16 = X.length by omega, List.take_left' rfl]
theorem entC_put (X : List Int) (k k' A T : Int) (hk : 1 ≤ k ∧ k ≤ 7) (hX : X.length ≤ 4000) :
    entC (objL k X) 0 k' A T = if k ≠ k' then 4 else if (X.length : Int) ≤ A ∨ ((X.length : Int) - A) % T ≠ 0 then 5 else 0 := by
  obtain ⟨r1, r2, r3, _⟩ := put0 X k hk hX
  unfold entC
  rw [if_neg (by simpa using r1), r2, show (0 : Int).toNat = 0 from rfl, r3]
  by_cases q : k ≠ k'
  · rw [if_pos q, if_pos q]
  · rw [if_neg q, if_neg q]
    rw [show (16 + (X.length : Int)) - (16 + A) = (X.length : Int) - A by omega]
    by_cases q2 : (X.length : Int) ≤ A ∨ ((X.length : Int) - A) % T ≠ 0
    · rw [if_pos q2, if_pos (by omega)]
    · rw [if_neg q2, if_neg (by omega)]

theorem getA_nums (vs : List Int) (i : Nat) (hi : i < vs.length) (hv : ∀ v ∈ vs, U64 v) : getA (numsL vs) ((8 * i : Nat) : Int) 8 = vs[i] := by
  have hg : getB (numsL vs) ((8 * i : Nat) : Int) 8 = true := by
    unfold getB; rw [numsL_length]; simp [okSize]; omega
  unfold getA
  rw [if_pos hg, Int.toNat_natCast, show (8 : Int).toNat = 8 from rfl]
  clear hg
  induction vs generalizing i with
  | nil => simp at hi
  | cons v vs ih =>
    cases i with
    | zero =>
      have h1 := hv v (List.mem_cons_self ..)
      rw [show numsL (v :: vs) = digs 8 v ++ numsL vs by simp [numsL], Nat.mul_zero, List.drop_zero, List.take_left' (digs_length 8 v), leN_digs]
      have := h1.1
      have := h1.2
      show v % 18446744073709551616 = v
      omega
    | succ i =>
      have := ih i (by simpa using hi) (fun x hx => hv x (List.mem_cons_of_mem _ hx))
      rw [show numsL (v :: vs) = digs 8 v ++ numsL vs by simp [numsL], show 8 * (i + 1) = (digs 8 v).length + 8 * i by rw [digs_length]; omega, ← List.drop_drop, List.drop_left, this]
      rfl
theorem allF_nums (vs : List Int) (hv : ∀ v ∈ vs, U64 v) : allF (numsL vs) = vs := by
  have hm : ((numsL vs).length + 7) / 8 = vs.length := by rw [numsL_length]; omega
  unfold allF
  rw [hm]
  unfold allI
  refine List.ext_getElem (by simp) (fun i h1 h2 => ?_)
  rw [List.getElem_map, List.getElem_range]
  exact getA_nums vs i h2 hv

/-- An array is read as it was put. -/
theorem arr_back (next : Int) (vs : List Int) (h : vs ≠ []) (hl : vs.length ≤ 60) (hx : U64 next) (hv : ∀ v ∈ vs, U64 v) :
    entC (putArrL next vs) 0 6 8 8 = 0 ∧ numsOf (putArrL next vs) 0 = next :: vs := by
  have hX : (numsL (next :: vs)).length = 8 * (vs.length + 1) := by rw [numsL_length]; rfl
  have hp : 0 < vs.length := List.length_pos_iff.2 h
  have e : putArrL next vs = objL 6 (numsL (next :: vs)) := by unfold putArrL putO; rw [if_pos (by omega)]
  rw [e]
  refine ⟨?_, ?_⟩
  · rw [entC_put _ _ _ _ _ (by omega) (by omega), if_neg (by simp), if_neg (by omega)]
  · unfold numsOf
    rw [(put0 _ 6 (by omega) (by omega)).2.2.2]
    exact allF_nums _ (fun v hv' => (List.mem_cons.1 hv').elim (fun h0 => h0 ▸ hx) (fun h0 => hv v h0))
theorem arr_empty (next : Int) : entC (putArrL next []) 0 6 8 8 = 5 := by
  have hX : (numsL [next]).length = 8 := by rw [numsL_length]; rfl
  have e : putArrL next [] = objL 6 (numsL [next]) := by unfold putArrL putO; rw [if_pos (by omega)]
  rw [e, entC_put _ _ _ _ _ (by omega) (by omega), if_neg (by simp), if_pos (by omega)]
theorem flatN_mem {ps : List PR} (h : ∀ p ∈ ps, U64 p.1 ∧ U64 p.2) : ∀ v ∈ flatN ps, U64 v := by
  intro v hv
  obtain ⟨p, hp, hvp⟩ := List.mem_flatMap.1 hv
  have := h p hp
  simp at hvp
  rcases hvp with rfl | rfl
  · exact this.1
  · exact this.2
theorem pairI_flat (ps : List PR) : pairI (flatN ps) ps.length = ps := by
  unfold pairI
  refine List.ext_getElem (by simp) (fun i h1 h2 => ?_)
  rw [List.getElem_map, List.getElem_range]
  clear h1
  induction ps generalizing i with
  | nil => simp at h2
  | cons q t ih =>
    have e : flatN (q :: t) = q.1 :: q.2 :: flatN t := rfl
    cases i with
    | zero => rw [e]; rfl
    | succ i =>
      have := ih i (by simpa using h2)
      rw [e, show 2 * (i + 1) = 2 * i + 1 + 1 by omega]
      simpa using this
/-- A table is read as it was put. -/
theorem tab_back (k : Int) (ps : List PR) (hk : k = 4 ∨ k = 5) (h : ps ≠ []) (hl : ps.length ≤ 60) (hv : ∀ p ∈ ps, U64 p.1 ∧ U64 p.2) :
    tabC (putTabL k ps) 0 k = 0 ∧ pairsOf (putTabL k ps) 0 = ps ∧ tabC (putTabL k ps) 0 (9 - k) = 4 ∧ entC (putTabL k ps) 0 6 8 8 = 4 ∧ tabC (putTabL k ps) 0 6 = 1 ∧ tabC (putTabL k []) 0 k = 5 := by
  have hX : (numsL (flatN ps)).length = 16 * ps.length := by rw [numsL_length, flatN_length]; omega
  have hp : 0 < ps.length := List.length_pos_iff.2 h
  have ht : tableF k = true := by rcases hk with rfl | rfl <;> decide
  have ht2 : tableF (9 - k) = true := by rcases hk with rfl | rfl <;> decide
  have e : ∀ qs, putTabL k qs = objL k (numsL (flatN qs)) := fun qs => by unfold putTabL putO; rw [if_pos ht, if_pos (by omega)]
  rw [e, e]
  refine ⟨?_, ?_, ?_, ?_, ?_, ?_⟩
  · unfold tabC; rw [if_pos ht, entC_put _ _ _ _ _ (by omega) (by omega), if_neg (by simp), if_neg (by omega)]
  · unfold pairsOf numsOf
    rw [(put0 _ k (by omega) (by omega)).2.2.2, allF_nums _ (flatN_mem hv), flatN_length, Nat.mul_div_cancel_left _ (by omega)]
    exact pairI_flat ps
  · unfold tabC; rw [if_pos ht2, entC_put _ _ _ _ _ (by omega) (by omega), if_pos (by omega)]
  · rw [entC_put _ _ _ _ _ (by omega) (by omega), if_pos (by omega)]
  · unfold tabC; rw [if_neg (by decide)]
  · unfold tabC; rw [if_pos ht, show numsL (flatN []) = [] from rfl, entC_put _ _ _ _ _ (by omega) (by simp), if_neg (by simp), if_pos (by simp)]
end Go.Proofs.Ytojjgagcpkjkaaa
