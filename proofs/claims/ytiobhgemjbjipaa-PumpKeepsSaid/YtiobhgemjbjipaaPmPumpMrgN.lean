/- What a merge of rows has: how many, and each in its place. Plain lists; no condition. -/
import Derived.Test.YtiobhgemjbjipaaPmPumpGotL
set_option linter.unusedSimpArgs false
set_option linter.unusedVariables false
namespace Go.Proofs.Ytiobhgemjbjipaa
/-- How many messages rows have. -/
def tl (L : List (List (List Int))) : Nat := (L.map (·.length)).sum
/-- How many of row k. -/
def cnt (G : List (Nat × List Int)) (k : Nat) : Nat := (G.filter (fun y => y.1 == k)).length
variable {G A B : List (Nat × List Int)} {L : List (List (List Int))} {full : Prop} {k : Nat} {bs : List Int}
theorem cnt_nil : cnt [] k = 0 := rfl
theorem cnt_snoc (x : Nat × List Int) : cnt (A ++ [x]) k = cnt A k + if x.1 = k then 1 else 0 := by
  unfold cnt
  rw [List.filter_append, List.length_append]
  by_cases h : x.1 = k
  · simp [h]
  · have : (x.1 == k) = false := by simpa using h
    simp [h]
def below (G : List (Nat × List Int)) (n : Nat) : Nat := (G.filter (fun y => decide (y.1 < n))).length
theorem below_succ (n : Nat) : ∀ G : List (Nat × List Int), below G (n + 1) = below G n + cnt G n
  | [] => rfl
  | x :: G => by
    have ih := below_succ n G
    unfold below cnt at ih ⊢
    simp only [List.filter_cons]
    have key : ∀ b1 b2 b3 : Bool, decide (x.1 < n) = b1 → decide (x.1 < n + 1) = b2 → (x.1 == n) = b3 → (b2.toNat = b1.toNat + b3.toNat) →
        (if decide (x.1 < n + 1) = true then x :: G.filter (fun y => decide (y.1 < n + 1)) else G.filter (fun y => decide (y.1 < n + 1))).length =
        (if decide (x.1 < n) = true then x :: G.filter (fun y => decide (y.1 < n)) else G.filter (fun y => decide (y.1 < n))).length + (if (x.1 == n) = true then x :: G.filter (fun y => y.1 == n) else G.filter (fun y => y.1 == n)).length := by
      intro b1 b2 b3 e1 e2 e3 hb
      rw [e1, e2, e3]
      cases b1 <;> cases b2 <;> cases b3 <;> simp at hb ⊢ <;> omega
    refine key _ _ _ rfl rfl rfl ?_
    by_cases h1 : x.1 < n
    · have h2 : x.1 < n + 1 := by omega
      have h3 : ¬ x.1 = n := by omega
      simp [h1, h2, h3]
    · by_cases h2 : x.1 = n
      · simp [h2]
      · have h3 : ¬ x.1 < n + 1 := by omega
        have h4 : (x.1 == n) = false := by simpa using h2
        simp [h1, h4, h3]
theorem below_all (h : ∀ y ∈ G, y.1 < L.length) : below G L.length = G.length := by
  unfold below
  rw [List.filter_eq_self.2 fun y hy => by simpa using h y hy]
theorem Merge.row (h : Merge full G L) (hk : k < L.length) : cnt G k ≤ L[k].length ∧ (full → cnt G k = L[k].length) := by
  obtain ⟨r, e, hr⟩ := h.2 k _ (List.getElem?_eq_getElem hk)
  have hl : L[k].length = cnt G k + r.length := by rw [e, List.length_append, List.length_map]; rfl
  exact ⟨by omega, fun hf => by have := hr hf; rw [this] at hl; simpa using hl.symm⟩
theorem tl_take : ∀ n (hn : n < L.length), tl (L.take (n + 1)) = tl (L.take n) + L[n].length := by
  intro n hn
  unfold tl
  rw [List.map_take, List.map_take, List.take_add_one, List.sum_append, List.getElem?_map, List.getElem?_eq_getElem hn]
  simp
theorem Merge.below (h : Merge full G L) : ∀ n, n ≤ L.length → Go.Proofs.Ytiobhgemjbjipaa.below G n ≤ tl (L.take n) ∧ (full → Go.Proofs.Ytiobhgemjbjipaa.below G n = tl (L.take n))
  | 0, _ => by
    have : Go.Proofs.Ytiobhgemjbjipaa.below G 0 = 0 := by unfold Go.Proofs.Ytiobhgemjbjipaa.below; simp
    rw [this]
    exact ⟨Nat.zero_le _, fun _ => by simp [tl]⟩
  | n + 1, hn => by
    have ih := h.below n (by omega)
    have hr := h.row (k := n) (by omega)
    rw [below_succ, tl_take n (by omega)]
    exact ⟨by omega, fun hf => by rw [ih.2 hf, hr.2 hf]⟩
theorem Merge.le (h : Merge full G L) : G.length ≤ tl L := by
  have := (h.below L.length (Nat.le_refl _)).1
  rwa [below_all h.1, List.take_length] at this
theorem Merge.len (h : Merge full G L) (hf : full) : G.length = tl L := by
  have := (h.below L.length (Nat.le_refl _)).2 hf
  rwa [below_all h.1, List.take_length] at this
theorem Merge.less (h : Merge full G L) : Merge False G L := ⟨h.1, fun k row hk => by obtain ⟨r, e, _⟩ := h.2 k row hk; exact ⟨r, e, fun x => x.elim⟩⟩
/-- The next one stands in its row just behind those that came before. -/
theorem Merge.next (h : Merge full (A ++ (k, bs) :: B) L) : ∃ hk : k < L.length, ∃ hc : cnt A k < L[k].length, L[k][cnt A k] = bs := by
  have hk : k < L.length := h.1 (k, bs) (by simp)
  obtain ⟨r, e, _⟩ := h.2 k _ (List.getElem?_eq_getElem hk)
  have e' : L[k] = (A.filter (fun y => y.1 == k)).map (·.2) ++ bs :: ((B.filter (fun y => y.1 == k)).map (·.2) ++ r) := by
    rw [e, List.filter_append, List.filter_cons]
    simp
  have hl : ((A.filter (fun y => y.1 == k)).map (·.2)).length = cnt A k := by rw [List.length_map]; rfl
  have hc : cnt A k < L[k].length := by rw [e', List.length_append, hl]; simp
  refine ⟨hk, hc, ?_⟩
  have : L[k][cnt A k]? = some bs := by
    rw [e', List.getElem?_append_right (by omega), hl]
    simp
  rw [List.getElem?_eq_getElem hc] at this
  exact Option.some.inj this
/-- Where all rows but one are empty. -/
theorem Merge.alone {row : List (List Int)} (h : Merge full G L) (hk : L[k]? = some row) (ho : ∀ (j : Nat) r, L[j]? = some r → j ≠ k → r = []) : (∀ y ∈ G, y.1 = k) ∧ ∃ r, row = G.map (·.2) ++ r ∧ (full → r = []) := by
  have h1 : ∀ y ∈ G, y.1 = k := fun y hy => by
    refine Classical.byContradiction fun hne => ?_
    have hl := h.1 y hy
    have he := ho y.1 _ (List.getElem?_eq_getElem hl) hne
    obtain ⟨r, e, _⟩ := h.2 y.1 _ (List.getElem?_eq_getElem hl)
    rw [he] at e
    have hm : y ∈ G.filter (fun z => z.1 == y.1) := List.mem_filter.2 ⟨hy, by simp⟩
    have : (G.filter (fun z => z.1 == y.1)).map (·.2) = [] := (List.append_eq_nil_iff.1 e.symm).1
    rw [List.map_eq_nil_iff] at this
    rw [this] at hm
    cases hm
  refine ⟨h1, ?_⟩
  obtain ⟨r, e, hr⟩ := h.2 k row hk
  rw [List.filter_eq_self.2 fun y hy => by simpa using h1 y hy] at e
  exact ⟨r, e, hr⟩
theorem merge_one (h : Merge True G [[bs]]) : G = [(0, bs)] := by
  obtain ⟨h1, r, e, hr⟩ := h.alone (k := 0) (row := [bs]) rfl fun j r hj hne => by
    match j, hj with
    | 0, _ => exact absurd rfl hne
    | j + 1, hj => simp at hj
  have hr := hr trivial
  subst hr
  rw [List.append_nil] at e
  match G, h1, e with
  | [y], h1, e =>
    have := h1 y (by simp)
    simp at e
    obtain ⟨a, b⟩ := y
    simp only at this e
    rw [this, e]
  | [], _, e => simp at e
  | _ :: _ :: _, _, e => simp at e
theorem merge_nil (h : Merge full G []) : G = [] := by
  match G, h.1 with
  | [], _ => rfl
  | y :: G, h => exact absurd (h y (by simp)) (by simp)
end Go.Proofs.Ytiobhgemjbjipaa
