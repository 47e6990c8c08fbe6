/- A file of bytes whose sectors may be lost, as lists. No program in sight; no condition. -/
import Derived.Test.YtenikpbnggkmgaaPlain
namespace Go.Proofs.Ytenikpbnggkmgaa
set_option linter.unusedVariables false

/-- What a sector has; how many there are; the numbers of those that differ. -/
def sec (b : List Int) (i : Nat) : List Int := (b.drop (512 * i)).take 512
def nsec (b s : List Int) : Nat := (max b.length s.length + 511) / 512
def padTo (l : List Int) (n : Nat) : List Int := l ++ List.replicate (n - l.length) 0
def secNe (b s : List Int) (i : Nat) : Bool := !decide (sec b i = sec s i)
def dirtyTo (b s : List Int) (k : Nat) : List Nat := (List.range k).filter fun i => secNe b s i
def dirtyL (b s : List Int) : List Nat := dirtyTo b s (nsec b s)
/-- Bytes at a place. -/
def putIn (b : List Int) (p : Nat) (x : List Int) : List Int := (padTo b (p + x.length)).take p ++ (x ++ (padTo b (p + x.length)).drop (p + x.length))
def writeC (p : Int) (m : Nat) : Int := if p < 0 then 1 else if 32768 < p ∨ 32768 - p < m then 15 else 0
def writeL (b : List Int) (p : Int) (x : List Int) : List Int := if writeC p x.length = 0 ∧ x ≠ [] then putIn b p.toNat x else b
def freadC (b : List Int) (p n : Int) : Int := if p < 0 ∨ n < 0 then 1 else if b.length < p ∨ b.length - p < n then 2 else 0
def freadL (b : List Int) (p n : Int) : List Int := if freadC b p n = 0 then (b.drop p.toNat).take n.toNat else []
/-- What a crash leaves, sector by sector, when each is what is chosen. -/
def crashTo (ch : Nat → List Int) : Nat → List Int
  | 0 => []
  | k + 1 => if ch k = [] then crashTo ch k else padTo (crashTo ch k) (512 * k) ++ ch k
/-- The sectors lost, of the first k that are dirty. -/
def lostTo (d : List Nat) (keep : List Bool) (k : Nat) : List Nat := ((List.range k).filter fun i => !(keep[i]?.getD false)).map fun i => d[i]?.getD 0
def lostL (b s : List Int) (keep : List Bool) : List Nat := lostTo (dirtyL b s) keep (dirtyL b s).length
def chI (b s : List Int) (keep : List Bool) (k : Nat) : List Int := if k ∈ lostL b s keep then sec s k else sec b k
def crashI (b s : List Int) (keep : List Bool) : List Int := crashTo (chI b s keep) (nsec b s)
/-- The document's choice: is it among the first i that are kept? -/
def keptTo (d : List Nat) (keep : List Bool) (k i : Nat) : Bool := (List.range i).any fun j => (d[j]?.getD 0 == k) && (keep[j]?.getD false)
def chR (b s : List Int) (keep : List Bool) (k : Nat) : List Int := if keptTo (dirtyL b s) keep k (dirtyL b s).length then sec b k else sec s k
def crashR (b s : List Int) (keep : List Bool) : List Int := crashTo (chR b s keep) (nsec b s)

theorem sec_len (b : List Int) (i : Nat) : (sec b i).length = min 512 (b.length - 512 * i) := by simp [sec]
theorem sec_isB {b : List Int} (h : IsB b) (i : Nat) : IsB (sec b i) := (h.drop _).take _
theorem padTo_len (l : List Int) (n : Nat) : (padTo l n).length = max l.length n := by simp [padTo]; omega
theorem padTo_isB {l : List Int} (h : IsB l) (n : Nat) : IsB (padTo l n) := h.append (IsB.replicate _)
theorem padTo_ge (l : List Int) (n : Nat) (h : n ≤ l.length) : padTo l n = l := by simp [padTo, Nat.sub_eq_zero_of_le h]
theorem dirtyTo_succ (b s : List Int) (k : Nat) : dirtyTo b s (k + 1) = if secNe b s k = true then dirtyTo b s k ++ [k] else dirtyTo b s k := by
  unfold dirtyTo
  rw [List.range_succ, List.filter_append]
  cases h : secNe b s k <;> simp [h]
theorem lostTo_succ (d : List Nat) (keep : List Bool) (k : Nat) : lostTo d keep (k + 1) = if keep[k]?.getD false = true then lostTo d keep k else lostTo d keep k ++ [d[k]?.getD 0] := by
  unfold lostTo
  rw [List.range_succ, List.filter_append, List.map_append]
  cases h : keep[k]?.getD false <;> simp [h]
theorem keptTo_succ (d : List Nat) (keep : List Bool) (k i : Nat) : keptTo d keep k (i + 1) = (keptTo d keep k i || ((d[i]?.getD 0 == k) && (keep[i]?.getD false))) := by
  unfold keptTo; rw [List.range_succ, List.any_append]; simp
theorem putIn_len (b : List Int) (p : Nat) (x : List Int) : (putIn b p x).length = max b.length (p + x.length) := by
  have := padTo_len b (p + x.length)
  simp [putIn, this]; omega
theorem putIn_isB {b x : List Int} (h : IsB b) (hx : IsB x) (p : Nat) : IsB (putIn b p x) := ((padTo_isB h _).take _).append (hx.append ((padTo_isB h _).drop _))
theorem writeL_isB {b x : List Int} (h : IsB b) (hx : IsB x) (p : Int) : IsB (writeL b p x) := by
  unfold writeL; split
  · exact putIn_isB h hx _
  · exact h
theorem writeC_ok {p : Int} {m : Nat} (h : writeC p m = 0) : 0 ≤ p ∧ p + m ≤ 32768 := by
  unfold writeC at h; repeat' split at h
  all_goals first | (exfalso; exact absurd h (by decide)) | omega
theorem writeL_len {b x : List Int} {p : Int} (h : b.length ≤ 32768) : (writeL b p x).length ≤ 32768 := by
  unfold writeL; split
  · rename_i h2; have := writeC_ok h2.1; rw [putIn_len]; omega
  · exact h
theorem crashTo_len (ch : Nat → List Int) (h : ∀ k, (ch k).length ≤ 512) (k : Nat) : (crashTo ch k).length ≤ 512 * k := by
  induction k with
  | zero => simp [crashTo]
  | succ k ih =>
    have := h k
    unfold crashTo; split
    · omega
    · rw [List.length_append, padTo_len]; omega
theorem crashTo_isB (ch : Nat → List Int) (h : ∀ k, IsB (ch k)) (k : Nat) : IsB (crashTo ch k) := by
  induction k with
  | zero => exact IsB.nil
  | succ k ih =>
    unfold crashTo; split
    · exact ih
    · exact (padTo_isB ih _).append (h k)
theorem crashTo_max (ch : Nat → List Int) (M : Nat) (h : ∀ k, ch k ≠ [] → 512 * k + (ch k).length ≤ M) (hl : ∀ k, (ch k).length ≤ 512) (k : Nat) : (crashTo ch k).length ≤ M := by
  induction k with
  | zero => simp [crashTo]
  | succ k ih =>
    unfold crashTo; split
    · exact ih
    · rename_i hne
      have := h k hne
      have := crashTo_len ch hl k
      rw [List.length_append, padTo_len]; omega
theorem crashTo_congr {f g : Nat → List Int} (k : Nat) (h : ∀ i, i < k → f i = g i) : crashTo f k = crashTo g k := by
  induction k with
  | zero => rfl
  | succ k ih => unfold crashTo; rw [ih (fun i hi => h i (by omega)), h k (by omega)]
theorem chI_or (b s : List Int) (keep : List Bool) (k : Nat) : chI b s keep k = sec s k ∨ chI b s keep k = sec b k := by
  unfold chI; split
  · exact .inl rfl
  · exact .inr rfl
theorem chI_len (b s : List Int) (keep : List Bool) (k : Nat) : (chI b s keep k).length ≤ 512 := by
  rcases chI_or b s keep k with h | h <;> rw [h, sec_len] <;> omega
theorem chI_isB {b s : List Int} (hb : IsB b) (hs : IsB s) (keep : List Bool) (k : Nat) : IsB (chI b s keep k) := by
  rcases chI_or b s keep k with h | h <;> rw [h] <;> exact sec_isB ‹_› _
theorem crashI_isB {b s : List Int} (hb : IsB b) (hs : IsB s) (keep : List Bool) : IsB (crashI b s keep) := crashTo_isB _ (fun k => chI_isB hb hs keep k) _
theorem crashI_max (b s : List Int) (keep : List Bool) : (crashI b s keep).length ≤ max b.length s.length :=
  crashTo_max _ _ (fun k hk => by
    have h0 : 0 < (chI b s keep k).length := List.length_pos_iff.2 hk
    rcases chI_or b s keep k with h | h <;> rw [h, sec_len] at h0 ⊢ <;> omega) (chI_len b s keep) _

/-- What stands at a sector that is not empty. -/
theorem crashTo_at (ch : Nat → List Int) (hl : ∀ k, (ch k).length ≤ 512) (k : Nat) (hk : ch k ≠ []) : ∀ n, k < n → ∃ pre suf, crashTo ch n = pre ++ (ch k ++ suf) ∧ pre.length = 512 * k := by
  intro n
  induction n with
  | zero => intro h; omega
  | succ n ih =>
    intro h
    by_cases e : k = n
    · subst e
      refine ⟨padTo (crashTo ch k) (512 * k), [], ?_, ?_⟩
      · rw [crashTo, if_neg hk, List.append_nil]
      · have := crashTo_len ch hl k
        rw [padTo_len]; omega
    · obtain ⟨pre, suf, h1, h2⟩ := ih (by omega)
      rw [crashTo]
      split
      · exact ⟨pre, suf, h1, h2⟩
      · exact ⟨pre, suf ++ (List.replicate (512 * n - (crashTo ch n).length) 0 ++ ch n), by unfold padTo; rw [h1]; simp, h2⟩
/-- All sectors of one list are that list. -/
theorem crashTo_sec (L : List Int) (k : Nat) : crashTo (sec L) k = L.take (512 * k) := by
  induction k with
  | zero => rfl
  | succ k ih =>
    have hl := sec_len L k
    rw [crashTo, ih]
    split
    · rename_i h
      rw [h] at hl
      simp at hl
      rw [List.take_of_length_le (by omega), List.take_of_length_le (by omega)]
    · rename_i h
      have : 0 < (sec L k).length := List.length_pos_iff.2 h
      rw [padTo_ge _ _ (by simp; omega)]
      unfold sec
      rw [show 512 * (k + 1) = 512 * k + 512 by omega, List.take_add]
theorem nsec_le (b s : List Int) : b.length ≤ 512 * nsec b s ∧ s.length ≤ 512 * nsec b s := by unfold nsec; omega
/-- What each sector begins with is what all begin with. -/
theorem crashTo_pre (ch : Nat → List Int) (hl : ∀ k, (ch k).length ≤ 512) (s : List Int) (h : ∀ k, ∃ r, ch k = sec s k ++ r) (k : Nat) : ∃ r, crashTo ch k = s.take (512 * k) ++ r := by
  induction k with
  | zero => exact ⟨[], by simp [crashTo]⟩
  | succ k ih =>
    obtain ⟨r, hr⟩ := ih
    obtain ⟨r', hr'⟩ := h k
    have hs := sec_len s k
    by_cases hk : s.length ≤ 512 * k
    · rw [List.take_of_length_le hk] at hr
      rw [List.take_of_length_le (by omega : s.length ≤ 512 * (k + 1)), crashTo]
      split
      · exact ⟨r, hr⟩
      · exact ⟨r ++ (List.replicate (512 * k - (crashTo ch k).length) 0 ++ ch k), by unfold padTo; rw [hr]; simp⟩
    · have hne : ch k ≠ [] := by
        intro e
        rw [e] at hr'
        have := congrArg List.length hr'
        rw [List.length_append, hs] at this
        simp at this
        omega
      have hc := crashTo_len ch hl k
      have hr0 : r = [] := by
        have := congrArg List.length hr
        rw [List.length_append, List.length_take] at this
        exact List.eq_nil_of_length_eq_zero (by omega)
      subst hr0
      rw [crashTo, if_neg hne, hr, List.append_nil, padTo_ge _ _ (by simp; omega), hr']
      refine ⟨r', ?_⟩
      unfold sec
      rw [show 512 * (k + 1) = 512 * k + 512 by omega, List.take_add, List.append_assoc]

/-! ### The two choices are one -/
theorem dirty_nodup (b s : List Int) : (dirtyL b s).Nodup := List.Pairwise.filter _ List.nodup_range
theorem dirty_mem {b s : List Int} {k : Nat} : k ∈ dirtyL b s ↔ k < nsec b s ∧ sec b k ≠ sec s k := by
  unfold dirtyL dirtyTo secNe; simp
theorem lost_mem {b s : List Int} {keep : List Bool} {k : Nat} : k ∈ lostL b s keep ↔ ∃ i, i < (dirtyL b s).length ∧ keep[i]?.getD false = false ∧ (dirtyL b s)[i]?.getD 0 = k := by
  unfold lostL lostTo
  simp [and_assoc]
theorem kept_iff {d : List Nat} {keep : List Bool} {k i : Nat} : keptTo d keep k i = true ↔ ∃ j, j < i ∧ d[j]?.getD 0 = k ∧ keep[j]?.getD false = true := by
  unfold keptTo
  simp
theorem ch_same (b s : List Int) (keep : List Bool) (k : Nat) : chI b s keep k = chR b s keep k := by
  unfold chI chR
  by_cases h : sec b k = sec s k
  · rw [h]; simp
  · by_cases hd : k ∈ dirtyL b s
    · obtain ⟨i, hi, hik⟩ := List.getElem_of_mem hd
      have hg : (dirtyL b s)[i]?.getD 0 = k := by rw [List.getElem?_eq_getElem hi, Option.getD_some, hik]
      have huniq : ∀ j, j < (dirtyL b s).length → (dirtyL b s)[j]?.getD 0 = k → j = i := by
        intro j hj hjk
        rw [List.getElem?_eq_getElem hj, Option.getD_some] at hjk
        exact ((List.getElem?_inj hi (dirty_nodup b s)).1 (by rw [List.getElem?_eq_getElem hi, List.getElem?_eq_getElem hj, hjk, hik])).symm
      cases hkp : keep[i]?.getD false with
      | true =>
        rw [if_neg (fun hm => ?_), if_pos (kept_iff.2 ⟨i, hi, hg, hkp⟩)]
        obtain ⟨j, hj, hj1, hj2⟩ := lost_mem.1 hm
        rw [huniq j hj hj2, hkp] at hj1
        exact absurd hj1 (by decide)
      | false =>
        rw [if_pos (lost_mem.2 ⟨i, hi, hkp, hg⟩), if_neg (fun hm => ?_)]
        obtain ⟨j, hj, hj1, hj2⟩ := kept_iff.1 hm
        rw [huniq j hj hj1, hkp] at hj2
        exact absurd hj2 (by decide)
    · have hn : ¬ k < nsec b s := fun hk => hd (dirty_mem.2 ⟨hk, h⟩)
      have := nsec_le b s
      exfalso; apply h
      unfold sec
      rw [List.drop_of_length_le (by omega), List.drop_of_length_le (by omega)]
theorem crash_same (b s : List Int) (keep : List Bool) : crashI b s keep = crashR b s keep := crashTo_congr _ (fun i _ => ch_same b s keep i)

theorem chI_kept (b s : List Int) (keep : List Bool) (i : Nat) (hi : i < (dirtyL b s).length) (hk : keep[i]?.getD false = true) : chI b s keep ((dirtyL b s)[i]?.getD 0) = sec b ((dirtyL b s)[i]?.getD 0) := by
  rw [ch_same]; unfold chR
  rw [if_pos (kept_iff.2 ⟨i, hi, rfl, hk⟩)]
theorem crashI_none (b s : List Int) : crashI b s [] = s := by
  unfold crashI
  rw [crashTo_congr (g := sec s) _ (fun i _ => ?_), crashTo_sec, List.take_of_length_le (nsec_le b s).2]
  rw [ch_same]; unfold chR
  rw [if_neg]
  intro h
  obtain ⟨j, _, _, h3⟩ := kept_iff.1 h
  simp at h3
theorem crashI_all (b s : List Int) (keep : List Bool) (h : ∀ i, i < (dirtyL b s).length → keep[i]?.getD false = true) : crashI b s keep = b := by
  unfold crashI
  rw [crashTo_congr (g := sec b) _ (fun i _ => ?_), crashTo_sec, List.take_of_length_le (nsec_le b s).1]
  unfold chI
  rw [if_neg]
  intro hm
  obtain ⟨j, hj, h2, _⟩ := lost_mem.1 hm
  rw [h j hj] at h2
  exact absurd h2 (by decide)
theorem dirty_self (b : List Int) : dirtyL b b = [] := by
  unfold dirtyL dirtyTo secNe; simp
/-- What was safe and stands at the front stays. -/
theorem crashI_pre (s x : List Int) (keep : List Bool) : ∃ r, crashI (s ++ x) s keep = s ++ r := by
  obtain ⟨r, hr⟩ := crashTo_pre (chI (s ++ x) s keep) (chI_len _ _ keep) s (fun k => by
    rcases chI_or (s ++ x) s keep k with h | h
    · exact ⟨[], by rw [h, List.append_nil]⟩
    · rw [h]
      unfold sec
      rw [List.drop_append, List.take_append]
      exact ⟨_, rfl⟩) (nsec (s ++ x) s)
  rw [List.take_of_length_le (nsec_le _ _).2] at hr
  exact ⟨r, hr⟩
theorem putIn_behind (b x : List Int) (p : Nat) (h : b.length ≤ p) : putIn b p x = b ++ (List.replicate (p - b.length) 0 ++ x) := by
  unfold putIn padTo
  rw [List.drop_of_length_le (by simp; omega), List.append_nil, List.take_append, List.take_of_length_le h, List.take_replicate, List.append_assoc]
  congr 3
  omega
end Go.Proofs.Ytenikpbnggkmgaa
