/- The plain law of EntryBack: what was put is read as it was. No program in sight. -/
import Derived.Test.YtojjgagcpkjkaaaEntArrN
import Derived.Test.YtojjgagcpkjkaaaEntPutE
namespace Go.Proofs.Ytojjgagcpkjkaaa
set_option linter.unusedVariables false

theorem numsL_two {B : List Int} (h : IsB B) (hl : B.length = 16) : B = numsL [leN (B.take 8), leN (B.drop 8)] := by
  have h1 := digs_leN (B.take 8) (h.take 8)
  have h2 := digs_leN (B.drop 8) (h.drop 8)
  rw [show (B.take 8).length = 8 by simp; omega] at h1
  rw [show (B.drop 8).length = 8 by simp; omega] at h2
  have e : numsL [leN (B.take 8), leN (B.drop 8)] = digs 8 (leN (B.take 8)) ++ digs 8 (leN (B.drop 8)) := by simp [numsL]
  rw [e, h1, h2, List.take_append_drop]
theorem leN8 {B : List Int} (h : IsB B) (hl : B.length = 8) : U64 (leN B) := by
  have := leN_bound B h
  rw [hl] at this
  exact ⟨this.1, by have := this.2; simp at this; omega⟩
/-- The numbers of an entry's body. -/
def entNs (s r m : Int) (B : List Int) (x : Int) (ps : List PR) : List Int := [s, r, m, leN (B.take 8), leN (B.drop 8), x] ++ flatN ps
theorem entX_nums (s r m : Int) (B : List Int) (x : Int) (ps : List PR) (hB : IsB B) (hl : B.length = 16) : entH s r m B x ++ numsL (flatN ps) = numsL (entNs s r m B x ps) := by
  have e : numsL (entNs s r m B x ps) = numsL [s, r, m] ++ numsL [leN (B.take 8), leN (B.drop 8)] ++ numsL [x] ++ numsL (flatN ps) := by
    unfold entNs
    rw [← numsL_append, ← numsL_append, ← numsL_append]; rfl
  rw [e, ← numsL_two hB hl]; rfl
theorem entNs_bd {s r m : Int} {B : List Int} {x : Int} {ps : List PR} (hB : IsB B) (hl : B.length = 16) (h1 : U64 s) (h2 : U64 r) (h3 : U64 m) (h4 : U64 x) (hu : ∀ p ∈ ps, U64 p.1 ∧ U64 p.2) : ∀ v ∈ entNs s r m B x ps, U64 v := by
  intro v hv
  unfold entNs at hv
  rcases List.mem_append.1 hv with hv | hv
  · simp at hv
    rcases hv with rfl | rfl | rfl | rfl | rfl | rfl
    · exact h1
    · exact h2
    · exact h3
    · exact leN8 (hB.take 8) (by simp; omega)
    · exact leN8 (hB.drop 8) (by simp; omega)
    · exact h4
  · exact flatN_mem hu v hv
/-- An entry is read as it was put. -/
theorem ent_back (s r m : Int) (B : List Int) (x : Int) (ps : List PR) (hB : IsB B) (hl : B.length = 16) (h1 : U64 s) (h2 : U64 r) (h3 : U64 m) (h4 : U64 x) (hu : ∀ p ∈ ps, U64 p.1 ∧ U64 p.2) (hp : ps ≠ []) (hn : ps.length ≤ 60) :
    entRC (putEntL s r m B x ps) 0 = (if s = 0 then 13 else if riseB ps = true then 0 else 11) ∧ numsOf (putEntL s r m B x ps) 0 = entNs s r m B x ps ∧ bootOf (putEntL s r m B x ps) 0 = B ∧ itemsOf (putEntL s r m B x ps) 0 = ps ∧ (putEntL s r m B x ps).length ≤ 2000 := by
  have hpl : 0 < ps.length := List.length_pos_iff.2 hp
  have hXl : (entH s r m B x ++ numsL (flatN ps)).length = 48 + 16 * ps.length := by rw [List.length_append, entH_length hl, numsL_length, flatN_length]; omega
  have e : putEntL s r m B x ps = objL 3 (entH s r m B x ++ numsL (flatN ps)) := by unfold putEntL putO; rw [if_pos (by omega)]
  have hb := (put0 (entH s r m B x ++ numsL (flatN ps)) 3 (by omega) (by omega)).2.2.2
  have hN : numsOf (putEntL s r m B x ps) 0 = entNs s r m B x ps := by
    unfold numsOf; rw [e, hb, entX_nums s r m B x ps hB hl]
    exact allF_nums _ (entNs_bd hB hl h1 h2 h3 h4 hu)
  have hI : itemsOf (putEntL s r m B x ps) 0 = ps := by
    unfold itemsOf
    rw [hN]
    have hd : (entNs s r m B x ps).drop 6 = flatN ps := rfl
    have hl6 : (entNs s r m B x ps).length - 6 = 2 * ps.length := by unfold entNs; rw [List.length_append, flatN_length]; simp
    rw [hd, hl6, Nat.mul_div_cancel_left _ (by omega)]
    exact pairI_flat ps
  have hC : entC (putEntL s r m B x ps) 0 3 48 16 = 0 := by
    rw [e, entC_put _ _ _ _ _ (by omega) (by omega), if_neg (by simp), if_neg (by omega)]
  refine ⟨?_, hN, ?_, hI, ?_⟩
  · unfold entRC
    rw [if_neg (by rw [hC]; decide), hN, hI]; rfl
  · unfold bootOf
    rw [e, hb]
    unfold entH
    have h24 : (numsL [s, r, m]).length = 24 := by rw [numsL_length]; rfl
    rw [List.append_assoc, List.append_assoc, List.drop_append_of_le_length (by omega), List.drop_of_length_le (by omega), List.nil_append, List.take_left' hl]
  · rw [e, objL_length]; omega
theorem ent_back0 (s r m : Int) (B : List Int) (x : Int) (hl : B.length = 16) : entRC (putEntL s r m B x []) 0 = 5 ∧ (putEntL s r m B x []).length ≤ 2000 := by
  have hXl : (entH s r m B x ++ numsL (flatN [])).length = 48 := by rw [List.length_append, entH_length hl]; rfl
  have e : putEntL s r m B x [] = objL 3 (entH s r m B x ++ numsL (flatN [])) := by unfold putEntL putO; rw [if_pos (by omega)]
  have hC : entC (putEntL s r m B x []) 0 3 48 16 = 5 := by
    rw [e, entC_put _ _ _ _ _ (by omega) (by omega), if_neg (by simp), if_pos (by omega)]
  refine ⟨?_, ?_⟩
  · unfold entRC; rw [if_pos (by rw [hC]; decide), hC]
  · rw [e, objL_length]; omega

/-! ### The places of EntryBack -/
def sumP (l : List Int) : Nat → Int
  | 0 => 0
  | i + 1 => sumP l i + 1 + l.getD i 0 % 90
theorem sumP_bd (l : List Int) (i : Nat) : 0 ≤ sumP l i ∧ sumP l i ≤ 90 * (i : Int) := by
  induction i with
  | zero => simp [sumP]
  | succ i ih => simp only [sumP]; omega
theorem sumP_step (l : List Int) (i : Nat) : sumP l i < sumP l (i + 1) := by simp only [sumP]; omega
theorem sumP_mono (l : List Int) (i j : Nat) (h : i ≤ j) : sumP l i ≤ sumP l j := by
  induction j with
  | zero => obtain rfl : i = 0 := by omega
            omega
  | succ j ih =>
    by_cases hij : i = j + 1
    · subst hij; omega
    · have := ih (by omega); have := sumP_step l j; omega
def backP (l : List Int) (xor : Int) (k : Nat) : List PR := (List.range k).map fun i => (sumP l (i + 1), (xor + (i : Int)) % 18446744073709551616)
theorem backP_succ (l : List Int) (xor : Int) (k : Nat) : backP l xor (k + 1) = backP l xor k ++ [(sumP l (k + 1), (xor + (k : Int)) % 18446744073709551616)] := by
  unfold backP; rw [List.range_succ, List.map_append]; rfl
theorem backP_length (l : List Int) (xor : Int) (k : Nat) : (backP l xor k).length = k := by simp [backP]
theorem backP_get (l : List Int) (xor : Int) (k i : Nat) (h : i < k) : (backP l xor k)[i]? = some (sumP l (i + 1), (xor + (i : Int)) % 18446744073709551616) := by
  unfold backP; simp [h]
theorem backP_last (l : List Int) (xor : Int) (k : Nat) : (backP l xor (k + 1)).getLast? = some (sumP l (k + 1), (xor + (k : Int)) % 18446744073709551616) := by
  rw [backP_succ]; simp
theorem backP_rise (l : List Int) (xor : Int) (k : Nat) : riseB (backP l xor k) = true := by
  induction k with
  | zero => rfl
  | succ k ih =>
    cases k with
    | zero => rfl
    | succ k =>
      rw [backP_succ, riseB_snoc _ _ _ (backP_last l xor k), ih, Bool.true_and]
      have := sumP_step l (k + 1)
      simpa using this
theorem backP_bd (l : List Int) (xor : Int) (k : Nat) (hk : k ≤ 1000) : ∀ p ∈ backP l xor k, U64 p.1 ∧ U64 p.2 := by
  intro p hp
  obtain ⟨i, hi, rfl⟩ := List.mem_map.1 hp
  have hi : i < k := by simpa using hi
  have := sumP_bd l (i + 1)
  exact ⟨⟨this.1, by show sumP l (i + 1) ≤ _; omega⟩, ⟨by show 0 ≤ (xor + (i : Int)) % 18446744073709551616; omega, by show (xor + (i : Int)) % 18446744073709551616 ≤ _; omega⟩⟩
/-- One more that does not rise. -/
theorem backP_bad (l : List Int) (xor : Int) (k j : Nat) (h : Int) (hj : j < k) : riseB (backP l xor k ++ [(sumP l (j + 1), h)]) = false := by
  obtain ⟨k, rfl⟩ : ∃ k', k = k' + 1 := ⟨k - 1, by omega⟩
  rw [riseB_snoc _ _ _ (backP_last l xor k), backP_rise, Bool.true_and]
  have := sumP_mono l (j + 1) (k + 1) (by omega)
  simp; omega
end Go.Proofs.Ytojjgagcpkjkaaa
