/- Plain facts: the sum of 32 bits tells every burst within 32 neighbouring bits. No program in sight; no condition. -/
import Derived.Test.YtellljaoagndkaaCrcOpen
namespace Go.Proofs.Ytellljaoagndkaa
set_option linter.unusedVariables false

theorem xor_zero_eq {a b : Nat} (h : a ^^^ b = 0) : a = b := by
  have := congrArg (· ^^^ b) h
  simpa [Nat.xor_assoc, Nat.xor_self] using this

theorem crcBit_xor (a b : Nat) : crcBit (a ^^^ b) = crcBit a ^^^ crcBit b := by
  unfold crcBit
  have h := @Nat.xor_mod_two_eq_one a b
  have h2 := @Nat.xor_div_two a b
  by_cases ha : a % 2 = 1 <;> by_cases hb : b % 2 = 1
  · rw [if_neg (by rw [h]; simp [ha, hb]), if_pos ha, if_pos hb, h2]
    apply Nat.eq_of_testBit_eq; intro i; simp only [Nat.testBit_xor]
    cases (a / 2).testBit i <;> cases (b / 2).testBit i <;> cases (2197175160 : Nat).testBit i <;> rfl
  · rw [if_pos (by rw [h]; simp [ha, hb]), if_pos ha, if_neg hb, h2]
    apply Nat.eq_of_testBit_eq; intro i; simp only [Nat.testBit_xor]
    cases (a / 2).testBit i <;> cases (b / 2).testBit i <;> cases (2197175160 : Nat).testBit i <;> rfl
  · rw [if_pos (by rw [h]; simp [ha, hb]), if_neg ha, if_pos hb, h2]
    apply Nat.eq_of_testBit_eq; intro i; simp only [Nat.testBit_xor]
    cases (a / 2).testBit i <;> cases (b / 2).testBit i <;> cases (2197175160 : Nat).testBit i <;> rfl
  · rw [if_neg (by rw [h]; simp [ha, hb]), if_neg ha, if_neg hb, h2]
theorem crcBits_xor (k a b : Nat) : crcBits k (a ^^^ b) = crcBits k a ^^^ crcBits k b := by
  induction k with
  | zero => rfl
  | succ k ih => rw [crcBits, ih, crcBit_xor]; rfl
theorem crcBits_add (j k n : Nat) : crcBits (j + k) n = crcBits j (crcBits k n) := by
  induction j with
  | zero => rw [Nat.zero_add]; rfl
  | succ j ih => rw [Nat.succ_add, crcBits, ih]; rfl
theorem crcBits_up (k m : Nat) : crcBits k (2 ^ k * m) = m := by
  induction k generalizing m with
  | zero => simp [crcBits]
  | succ k ih =>
    rw [crcBits, show 2 ^ (k + 1) * m = 2 ^ k * (2 * m) by rw [Nat.pow_succ, Nat.mul_assoc], ih]
    unfold crcBit
    rw [if_neg (by omega)]; omega
theorem crcBit_pos {n : Nat} (h : n < 4294967296) (h0 : 0 < n) : 0 < crcBit n := by
  unfold crcBit
  split
  · rcases Nat.eq_zero_or_pos (n / 2 ^^^ 2197175160) with h1 | h1
    · have : n / 2 = 2197175160 := xor_zero_eq h1
      omega
    · exact h1
  · omega
theorem crcBits_pos (k : Nat) {n : Nat} (h : n < 4294967296) (h0 : 0 < n) : 0 < crcBits k n := by
  induction k with
  | zero => exact h0
  | succ k ih => exact crcBit_pos (crcBits_lt k h) ih
theorem crcBits_inj (k : Nat) {a b : Nat} (ha : a < 4294967296) (hb : b < 4294967296) (h : crcBits k a = crcBits k b) : a = b := by
  rcases Nat.eq_zero_or_pos (a ^^^ b) with h1 | h1
  · exact xor_zero_eq h1
  · have := crcBits_pos k (Nat.xor_lt_two_pow (n := 32) ha hb) h1
    rw [crcBits_xor, h, Nat.xor_self] at this
    omega

theorem add_xor (i a : Nat) {b : Nat} (h : b < 2 ^ i) : b + 2 ^ i * a = b ^^^ 2 ^ i * a := by
  apply Nat.eq_of_testBit_eq; intro j
  rw [Nat.add_comm, Nat.testBit_two_pow_mul_add a h j, Nat.testBit_xor, Nat.testBit_two_pow_mul]
  by_cases hj : j < i
  · have hn : ¬ i ≤ j := by omega
    rw [if_pos hj]; simp [hn]
  · have hn : i ≤ j := by omega
    rw [if_neg hj, Nat.testBit_lt_two_pow (Nat.lt_of_lt_of_le h (Nat.pow_le_pow_right (by omega) hn))]
    simp [hn]
theorem mul_xor (i a b : Nat) : 2 ^ i * (a ^^^ b) = 2 ^ i * a ^^^ 2 ^ i * b := by
  apply Nat.eq_of_testBit_eq; intro j
  simp only [Nat.testBit_xor, Nat.testBit_two_pow_mul]
  by_cases hj : i ≤ j <;> simp [hj]

/-- The number that bytes spell. -/
def leB : List Int → Nat
  | [] => 0
  | c :: r => c.toNat + 2 ^ 8 * leB r

theorem leB_leN (l : List Int) (h : IsB l) : (leB l : Int) = leN l := by
  induction l with
  | nil => rfl
  | cons c r ih =>
    have hc := h c List.mem_cons_self
    have := ih (fun x hx => h x (List.mem_cons_of_mem _ hx))
    rw [leB, leN, ← this]; omega

theorem crcAll_bits (l : List Int) (h : IsB l) (x : Nat) : crcAll x l = crcBits (8 * l.length) (x ^^^ leB l) := by
  induction l generalizing x with
  | nil => simp [crcAll, leB, crcBits]
  | cons c r ih =>
    have hc := h c List.mem_cons_self
    have h2 := ih (fun x hx => h x (List.mem_cons_of_mem _ hx)) (crcByte x c)
    have e1 : crcAll x (c :: r) = crcAll (crcByte x c) r := rfl
    rw [e1, h2, leB, add_xor 8 (leB r) (by omega), List.length_cons, show 8 * (r.length + 1) = 8 * r.length + 8 by omega, crcBits_add, ← Nat.xor_assoc, crcBits_xor 8 (x ^^^ c.toNat), crcBits_up]
    rfl

theorem not32_xor (s t : Nat) (hs : s < 4294967296) (ht : t < 4294967296) : s ^^^ t = 4294967295 ↔ t = not32 s := by
  have h0 : 4294967295 ^^^ s = not32 s := nat_not32 s hs
  constructor
  · intro h
    rw [← h0, ← h, Nat.xor_comm s t, Nat.xor_assoc, Nat.xor_self, Nat.xor_zero]
  · intro h
    rw [h, ← h0, ← Nat.xor_assoc, Nat.xor_comm s 4294967295, Nat.xor_assoc, Nat.xor_self, Nat.xor_zero]

theorem crcAll4 (x : Nat) (l : List Int) (h : IsB l) (hl : l.length = 4) : crcAll x l = crcBits 32 (x ^^^ leB l) := by rw [crcAll_bits l h, hl]

/-- Bytes are sealed just when all of them come to one state. -/
theorem openC_iff (l : List Int) (h : IsB l) (hl : 4 ≤ l.length) : openC l = 0 ↔ crcBits (8 * l.length) (4294967295 ^^^ leB l) = crcBits 32 4294967295 := by
  have hs := crcAll_lt (l.take (l.length - 4)) (h.take _) (n := 4294967295) (by omega)
  have hd : (l.drop (l.length - 4)).length = 4 := by simp; omega
  have hb := leN_bound (l.drop (l.length - 4)) (h.drop _)
  rw [hd] at hb
  have he := leB_leN _ (h.drop (l.length - 4))
  have ht : leB (l.drop (l.length - 4)) < 4294967296 := by
    have : (256 : Int) ^ 4 = 4294967296 := by decide
    omega
  have e1 : moreI 0 (l.take (l.length - 4)) = (not32 (crcAll 4294967295 (l.take (l.length - 4))) : Nat) := rfl
  rw [← crcAll_bits l h, openC, if_neg (by omega), e1, ← he]
  have e2 : crcAll 4294967295 l = crcBits 32 (crcAll 4294967295 (l.take (l.length - 4)) ^^^ leB (l.drop (l.length - 4))) := by
    rw [← crcAll4 _ _ (h.drop _) hd, ← crcAll_append, List.take_append_drop]
  rw [e2]
  constructor
  · intro hh
    split at hh
    · rename_i h3
      rw [(not32_xor _ _ hs ht).2 (by omega)]
    · omega
  · intro hh
    have := crcBits_inj 32 (Nat.xor_lt_two_pow (n := 32) hs ht) (by omega) hh
    rw [if_pos (by rw [(not32_xor _ _ hs ht).1 this])]

/-- What has a burst of bits turned is told. -/
theorem burst (s c : List Int) (hs : IsB s) (hc : IsB c) (hl : c.length = s.length) (h4 : 4 ≤ s.length) (f u : Nat) (hf : f + 32 ≤ 8 * s.length) (hu : u < 4294967296) (hu0 : u ≠ 0) (h : leB c = leB s ^^^ 2 ^ f * u) (ho : openC s = 0) : openC c = 19 := by
  have hn : openC c ≠ 0 := by
    intro h0
    rw [openC_iff c hc (by omega), hl, h, ← Nat.xor_assoc, crcBits_xor, (openC_iff s hs h4).1 ho] at h0
    have h1 : crcBits (8 * s.length) (2 ^ f * u) = 0 := by
      have := congrArg (crcBits 32 4294967295 ^^^ ·) h0
      simpa [← Nat.xor_assoc, Nat.xor_self] using this
    rw [show 8 * s.length = (8 * s.length - f) + f by omega, crcBits_add, crcBits_up] at h1
    have := crcBits_pos (8 * s.length - f) hu (by omega)
    omega
  rw [openC, if_neg (by omega)] at hn ⊢
  split at hn
  · omega
  · rename_i h3; rw [if_neg h3]

theorem openC_seal (l : List Int) : openC (sealL l) = 0 := by
  have hd := digs_length 4 (moreI 0 l)
  have hl : (sealL l).length = l.length + 4 := by simp [sealL, hd]
  have hb := moreI_bd 0 l
  rw [openC, if_neg (by omega), hl, if_pos]
  rw [sealL, show l.length + 4 - 4 = l.length by omega, List.drop_left, List.take_left, leN_digs]
  have : (256 : Int) ^ 4 = 4294967296 := by decide
  omega
theorem openL_seal (l : List Int) : openL (sealL l) = l := by
  have hd := digs_length 4 (moreI 0 l)
  have hl : (sealL l).length = l.length + 4 := by simp [sealL, hd]
  rw [openL, if_pos (openC_seal l), hl, show l.length + 4 - 4 = l.length by omega, sealL, List.take_left]

theorem set_bit (l : List Int) (h : IsB l) : ∀ (j : Nat) (r : Nat), j < l.length → r < 8 → leB (l.set j (((l[j]?.getD 0).toNat ^^^ 2 ^ r : Nat) : Int)) = leB l ^^^ 2 ^ (8 * j + r) := by
  induction l with
  | nil => intro j r hj; simp at hj
  | cons c t ih =>
    intro j r hj hr
    have hc := h c List.mem_cons_self
    have hp : (2 : Nat) ^ r < 2 ^ 8 := Nat.pow_lt_pow_right (by omega) hr
    cases j with
    | zero =>
      simp only [List.set_cons_zero, List.getElem?_cons_zero, Option.getD_some, leB, Int.toNat_natCast, Nat.mul_zero, Nat.zero_add]
      rw [add_xor 8 _ (Nat.xor_lt_two_pow (n := 8) (by omega) hp), add_xor 8 _ (by omega : c.toNat < 2 ^ 8), Nat.xor_assoc, Nat.xor_assoc, Nat.xor_comm (2 ^ r)]
    | succ j =>
      have := ih (fun x hx => h x (List.mem_cons_of_mem _ hx)) j r (by simpa using hj) hr
      simp only [List.set_cons_succ, List.getElem?_cons_succ, leB]
      rw [this, add_xor 8 (leB t) (by omega : c.toNat < 2 ^ 8), show 8 * (j + 1) + r = 8 + (8 * j + r) by omega, Nat.pow_add 2 8]
      have h8 : c.toNat < 2 ^ 8 := by omega
      generalize leB t = T
      generalize 2 ^ (8 * j + r) = P
      rw [add_xor 8 (T ^^^ P) h8, mul_xor, ← Nat.xor_assoc]

/-- One bit more of the burst. -/
theorem mod_bit (u i : Nat) (h : u / 2 ^ i % 2 = 1) : u % 2 ^ (i + 1) = u % 2 ^ i ^^^ 2 ^ i := by
  have h1 : u % 2 ^ (i + 1) = u % 2 ^ i + 2 ^ i * (u / 2 ^ i % 2) := by rw [Nat.pow_succ, Nat.mod_mul]
  rw [h1, h, add_xor i 1 (Nat.mod_lt _ (Nat.two_pow_pos i)), Nat.mul_one]
theorem mod_nobit (u i : Nat) (h : u / 2 ^ i % 2 = 0) : u % 2 ^ (i + 1) = u % 2 ^ i := by
  have h1 : u % 2 ^ (i + 1) = u % 2 ^ i + 2 ^ i * (u / 2 ^ i % 2) := by rw [Nat.pow_succ, Nat.mod_mul]
  rw [h1, h]; omega

/-- What stands when the first i bits of the burst were turned. -/
def Turned (s : List Int) (f u i : Nat) (c : List Int) : Prop :=
  c.length = s.length ∧ IsB c ∧ leB c = leB s ^^^ 2 ^ f * (u % 2 ^ i) ∧ (u = 0 → c = s)

theorem Turned.start (s : List Int) (hs : IsB s) (f u : Nat) : Turned s f u 0 s := ⟨rfl, hs, by rw [Nat.pow_zero, Nat.mod_one, Nat.mul_zero, Nat.xor_zero], fun _ => rfl⟩
theorem Turned.no {s c : List Int} {f u i : Nat} (h : Turned s f u i c) (hb : u / 2 ^ i % 2 = 0) : Turned s f u (i + 1) c := by
  obtain ⟨h1, h2, h3, h4⟩ := h
  exact ⟨h1, h2, by rw [mod_nobit u i hb]; exact h3, h4⟩
theorem Turned.yes {s c : List Int} {f u i : Nat} (h : Turned s f u i c) (hb : u / 2 ^ i % 2 = 1) (hj : (f + i) / 8 < s.length) :
    Turned s f u (i + 1) (c.set ((f + i) / 8) (((c[(f + i) / 8]?.getD 0).toNat ^^^ 2 ^ ((f + i) % 8) : Nat) : Int)) := by
  obtain ⟨h1, h2, h3, h4⟩ := h
  refine ⟨by rw [List.length_set]; exact h1, ?_, ?_, ?_⟩
  · intro x hx
    have hc := h2.getD ((f + i) / 8)
    rcases List.mem_or_eq_of_mem_set hx with hx | hx
    · exact h2 x hx
    · subst hx
      have := Nat.xor_lt_two_pow (n := 8) (x := (c[(f + i) / 8]?.getD 0).toNat) (y := 2 ^ ((f + i) % 8)) (by omega) (Nat.pow_lt_pow_right (by omega) (by omega))
      omega
  · rw [set_bit c h2 _ _ (by omega) (by omega), h3, mod_bit u i hb, mul_xor, ← Nat.pow_add, show 8 * ((f + i) / 8) + (f + i) % 8 = f + i by omega, Nat.xor_assoc]
  · intro h0; subst h0; simp at hb

theorem Turned.told {s c : List Int} {f u : Nat} (h : Turned s f u 32 c) (hs : IsB s) (h4 : 4 ≤ s.length) (hf : f + 32 ≤ 8 * s.length) (hu : u < 4294967296) (ho : openC s = 0) : openC c = if u = 0 then 0 else 19 := by
  obtain ⟨h1, h2, h3, h5⟩ := h
  rw [show (2 : Nat) ^ 32 = 4294967296 by decide, Nat.mod_eq_of_lt hu] at h3
  split
  · rename_i h0; rw [h5 h0]; exact ho
  · rename_i h0; exact burst s c hs h2 h1 h4 f u hf hu h0 h3 ho

end Go.Proofs.Ytellljaoagndkaa
