/- Plain facts on lists of bytes and the numbers that they spell, the lowest byte first. No program in sight; no condition. -/
import Derived.Test.YtiobhgemjbjipaaRows
namespace Go.Proofs.Ytiobhgemjbjipaa
set_option linter.unusedVariables false

/-- Every member is a byte. -/
def IsB (l : List Int) : Prop := ∀ x ∈ l, 0 ≤ x ∧ x ≤ 255

theorem IsB.nil : IsB [] := fun x hx => by cases hx
theorem IsB.cons {c : Int} {l : List Int} (h1 : 0 ≤ c ∧ c ≤ 255) (h : IsB l) : IsB (c :: l) := fun x hx => by
  rcases List.mem_cons.1 hx with rfl | hx
  · exact h1
  · exact h x hx
theorem IsB.append {a b : List Int} (ha : IsB a) (hb : IsB b) : IsB (a ++ b) := fun x hx => by
  rcases List.mem_append.1 hx with hx | hx
  · exact ha x hx
  · exact hb x hx
theorem IsB.take {l : List Int} (h : IsB l) (n : Nat) : IsB (l.take n) := fun x hx => h x (List.mem_of_mem_take hx)
theorem IsB.drop {l : List Int} (h : IsB l) (n : Nat) : IsB (l.drop n) := fun x hx => h x (List.mem_of_mem_drop hx)
theorem IsB.getD {l : List Int} (h : IsB l) (i : Nat) : 0 ≤ l[i]?.getD 0 ∧ l[i]?.getD 0 ≤ 255 := by
  by_cases hi : i < l.length
  · rw [List.getElem?_eq_getElem hi]; exact h _ (List.getElem_mem hi)
  · rw [List.getElem?_eq_none (by omega)]; simp
theorem IsB.replicate (n : Nat) : IsB (List.replicate n 0) := fun x hx => by
  rw [List.eq_of_mem_replicate hx]; omega

/-- The number that bytes spell, the lowest first. -/
def leN : List Int → Int
  | [] => 0
  | c :: r => c + 256 * leN r

/-- The lowest n bytes of a number. -/
def digs : Nat → Int → List Int
  | 0, _ => []
  | n + 1, v => v % 256 :: digs n (v / 256)

theorem digs_length (n : Nat) (v : Int) : (digs n v).length = n := by
  induction n generalizing v with
  | zero => rfl
  | succ n ih => simp [digs, ih]

theorem digs_isB (n : Nat) (v : Int) : IsB (digs n v) := by
  induction n generalizing v with
  | zero => exact IsB.nil
  | succ n ih => exact IsB.cons (by omega) (ih _)

theorem digs_snoc (n : Nat) (v : Int) : digs (n + 1) v = digs n v ++ [v / 256 ^ n % 256] := by
  induction n generalizing v with
  | zero => simp [digs]
  | succ n ih =>
    rw [digs, ih]
    simp only [digs, List.cons_append, List.cons.injEq, true_and]
    rw [Int.ediv_ediv_of_nonneg (by decide), Int.pow_succ, Int.mul_comm 256]

theorem leN_bound (l : List Int) (h : IsB l) : 0 ≤ leN l ∧ leN l < 256 ^ l.length := by
  induction l with
  | nil => simp [leN]
  | cons c r ih =>
    have hc := h c (List.mem_cons_self)
    have hr := ih (fun x hx => h x (List.mem_cons_of_mem _ hx))
    simp only [leN, List.length_cons, Int.pow_succ]
    omega

theorem leN_le (l : List Int) (h : IsB l) (n : Nat) (hn : l.length ≤ n) : 0 ≤ leN l ∧ leN l < 256 ^ n := by
  have hb := leN_bound l h
  have : (256 : Int) ^ l.length ≤ 256 ^ n := by
    rcases Nat.lt_or_ge l.length n with h1 | h1
    · exact Int.le_of_lt (Int.pow_lt_pow_of_lt (by decide) h1)
    · rw [show l.length = n by omega]; exact Int.le_refl _
  omega

theorem take_succ_drop (l : List Int) (j k : Nat) (h : j < l.length) : (l.drop j).take (k + 1) = l[j]?.getD 0 :: (l.drop (j + 1)).take k := by
  rw [List.drop_eq_getElem_cons h, List.take_succ_cons]
  simp [h]

theorem take_snoc (l : List Int) (k : Nat) (h : k < l.length) : l.take (k + 1) = l.take k ++ [l[k]?.getD 0] := by
  rw [List.take_succ_eq_append_getElem h]
  simp [h]

theorem emod_step (v m : Int) (hm : 0 < m) : v % 256 + 256 * (v / 256 % m) = v % (256 * m) := by
  have h1 := Int.emod_add_mul_ediv v 256
  have h2 := Int.emod_add_mul_ediv (v / 256) m
  have h3 := Int.emod_nonneg (v / 256) (show m ≠ 0 by omega)
  have h4 := Int.emod_lt_of_pos (v / 256) hm
  refine (((Int.ediv_emod_unique (b := 256 * m) (q := v / 256 / m) (by omega)).2 ⟨?_, by omega, by omega⟩).2).symm
  rw [Int.mul_assoc]
  omega

theorem leN_digs (n : Nat) (v : Int) : leN (digs n v) = v % 256 ^ n := by
  induction n generalizing v with
  | zero => simp [digs, leN, Int.emod_one]
  | succ n ih =>
    rw [digs, leN, ih, Int.pow_succ, Int.mul_comm (256 ^ n) 256]
    exact emod_step v _ (Int.pow_pos (by decide))

theorem digs_leN (l : List Int) (h : IsB l) : digs l.length (leN l) = l := by
  induction l with
  | nil => rfl
  | cons c r ih =>
    have hc := h c (List.mem_cons_self)
    simp only [List.length_cons, digs, leN]
    have e1 : (c + 256 * leN r) % 256 = c := by omega
    have e2 : (c + 256 * leN r) / 256 = leN r := by omega
    rw [e1, e2, ih (fun x hx => h x (List.mem_cons_of_mem _ hx))]

/-- l with the lowest k bytes of v at a place. -/
def putL (l : List Int) (p k : Nat) (v : Int) : List Int := l.take p ++ (digs k v ++ l.drop (p + k))

theorem putL_zero (l : List Int) (p : Nat) (v : Int) : putL l p 0 v = l := by simp [putL, digs]
theorem putL_length (l : List Int) (p k : Nat) (v : Int) (h : p + k ≤ l.length) : (putL l p k v).length = l.length := by
  simp [putL, digs_length]; omega
theorem putL_isB (l : List Int) (p k : Nat) (v : Int) (h : IsB l) : IsB (putL l p k v) := (h.take _).append ((digs_isB _ _).append (h.drop _))
theorem putL_read (l : List Int) (p k : Nat) (v : Int) (h : p + k ≤ l.length) : ((putL l p k v).drop p).take k = digs k v := by
  have hp : (l.take p).length = p := by simp; omega
  rw [putL, List.drop_append_of_le_length (by omega), List.drop_of_length_le (by omega), List.nil_append, List.take_append_of_le_length (by rw [digs_length]; omega), List.take_of_length_le (by rw [digs_length]; omega)]
theorem putL_left (l : List Int) (p k : Nat) (v : Int) (h : p + k ≤ l.length) : (putL l p k v).take p = l.take p := by
  have hp : (l.take p).length = p := by simp; omega
  rw [putL, List.take_append_of_le_length (by omega), List.take_of_length_le (by omega)]
theorem putL_right (l : List Int) (p k : Nat) (v : Int) (h : p + k ≤ l.length) : (putL l p k v).drop (p + k) = l.drop (p + k) := by
  have hp : (l.take p).length = p := by simp; omega
  rw [putL, ← List.append_assoc]
  exact List.drop_left' (by simp [digs_length]; omega)
theorem add_read (l : List Int) (k : Nat) (v : Int) : ((l ++ digs k v).drop l.length).take k = digs k v := by
  rw [List.drop_append_of_le_length (by omega), List.drop_of_length_le (by omega), List.nil_append, List.take_of_length_le (by rw [digs_length]; omega)]
theorem putL_set (l : List Int) (p k : Nat) (v : Int) (h : p + k < l.length) : (putL l p k v).set (p + k) (v / 2 ^ (8 * k) % 256) = putL l p (k + 1) v := by
  have e : (v / 2 ^ (8 * k) % 256) = v / 256 ^ k % 256 := by rw [Int.pow_mul]; rfl
  rw [e]
  unfold putL
  have hp : (l.take p).length = p := by simp; omega
  rw [List.set_append_right _ _ (by omega), hp, show p + k - p = k by omega, List.set_append_right _ _ (by rw [digs_length]; omega), digs_length, Nat.sub_self,
    List.drop_eq_getElem_cons h, List.set_cons_zero, digs_snoc]
  simp [Nat.add_assoc]

end Go.Proofs.Ytiobhgemjbjipaa
