/- Objects one behind the other: where each stands, what Read says there. No program in sight. -/
import Derived.Test.YtfhpdhfhahbfnaaObjHdr
namespace Go.Proofs.Ytfhpdhfhahbfnaa
set_option linter.unusedVariables false

/-- The bytes of objects one behind the other. -/
def rowL : List Int → List (List Int) → List Int
  | k :: ks, b :: bs => objL k b ++ rowL ks bs
  | _, _ => []
theorem objL_mod (k : Int) (b : List Int) : (objL k b).length % 8 = 0 ∧ (objL k b).length = (16 + b.length + 7) / 8 * 8 := by
  rw [objL_length]; omega
theorem rowL_snoc (ks : List Int) (bs : List (List Int)) : ∀ i, i < bs.length → i < ks.length → rowL (ks.take (i + 1)) (bs.take (i + 1)) = rowL (ks.take i) (bs.take i) ++ objL (ks[i]?.getD 0) (bs[i]?.getD []) := by
  induction ks generalizing bs with
  | nil => intro i h1 h2; simp at h2
  | cons k ks ih =>
    intro i h1 h2
    cases bs with
    | nil => simp at h1
    | cons b bs =>
      cases i with
      | zero => simp [rowL]
      | succ i =>
        have := ih bs i (by simpa using h1) (by simpa using h2)
        simp only [List.take_succ_cons, rowL, List.getElem?_cons_succ, List.append_assoc] at this ⊢
        rw [this]
theorem rowL_split (ks : List Int) (bs : List (List Int)) (h : bs.length ≤ ks.length) : ∀ i, i < bs.length → ∃ rest, rowL ks bs = rowL (ks.take i) (bs.take i) ++ (objL (ks[i]?.getD 0) (bs[i]?.getD []) ++ rest) := by
  induction ks generalizing bs with
  | nil => intro i h1; simp at h; subst h; simp at h1
  | cons k ks ih =>
    intro i h1
    cases bs with
    | nil => simp at h1
    | cons b bs =>
      cases i with
      | zero => exact ⟨_, rfl⟩
      | succ i =>
        obtain ⟨r, hr⟩ := ih bs (by simpa using h) i (by simpa using h1)
        exact ⟨r, by simp only [List.take_succ_cons, rowL, List.getElem?_cons_succ, List.append_assoc]; rw [hr]⟩
theorem rowL_takeK (ks : List Int) (bs : List (List Int)) : rowL (ks.take bs.length) bs = rowL ks bs := by
  induction ks generalizing bs with
  | nil => simp [rowL]
  | cons k ks ih =>
    cases bs with
    | nil => simp [rowL]
    | cons b bs => simp [rowL, ih]
theorem rowL_mod (ks : List Int) (bs : List (List Int)) : (rowL ks bs).length % 8 = 0 := by
  induction ks generalizing bs with
  | nil => simp [rowL]
  | cons k ks ih =>
    cases bs with
    | nil => simp [rowL]
    | cons b bs =>
      have h1 := ih bs
      have h2 := (objL_mod k b).1
      simp only [rowL, List.length_append]; omega
theorem rowL_len (ks : List Int) (bs : List (List Int)) (hb : ∀ b ∈ bs, b.length ≤ 60) : (rowL ks bs).length ≤ 80 * bs.length := by
  induction ks generalizing bs with
  | nil => simp [rowL]
  | cons k ks ih =>
    cases bs with
    | nil => simp [rowL]
    | cons b bs =>
      have h1 := ih bs (fun x hx => hb x (List.mem_cons_of_mem _ hx))
      have h2 := (objL_mod k b).2
      have h3 := hb b (List.mem_cons_self ..)
      simp only [rowL, List.length_append, List.length_cons]; omega
theorem rowL_isB (ks : List Int) (bs : List (List Int)) (hk : ∀ k ∈ ks, 1 ≤ k ∧ k ≤ 7) (hb : ∀ b ∈ bs, IsB b) : IsB (rowL ks bs) := by
  induction ks generalizing bs with
  | nil => exact IsB.nil
  | cons k ks ih =>
    cases bs with
    | nil => exact IsB.nil
    | cons b bs => exact (objL_isB (hk k (List.mem_cons_self ..)) (hb b (List.mem_cons_self ..))).append (ih bs (fun x hx => hk x (List.mem_cons_of_mem _ hx)) (fun x hx => hb x (List.mem_cons_of_mem _ hx)))

/-- Read at a place, behind what stands ahead of it. -/
theorem readC_behind (pre l : List Int) (h : pre.length % 8 = 0) : readC (pre ++ l) (pre.length : Int) = readC l 0 := by
  unfold readC sizeAt
  have e1 : ((pre.length : Int) % 8 ≠ 0) = False := by simp; omega
  have e2 : ((0 : Int) % 8 ≠ 0) = False := by simp
  simp only [e1, e2, if_false, Int.toNat_natCast, Int.toNat_zero, List.length_append, Nat.zero_add]
  have d8 : (pre ++ l).drop (pre.length + 8) = l.drop 8 := by rw [← List.drop_drop, List.drop_left]
  have g0 : (pre ++ l)[pre.length]? = l[0]? := by rw [List.getElem?_append_right (Nat.le_refl _), Nat.sub_self]
  have g1 : (pre ++ l)[pre.length + 1]? = l[1]? := by rw [List.getElem?_append_right (by omega)]; congr 1; omega
  rw [d8, g0, g1]
  have h1 : (((pre.length + l.length : Nat) : Int) < (pre.length : Int)) = ((l.length : Int) < 0) := by
    apply propext; omega
  have h2 : ((pre.length + l.length : Nat) : Int) - (pre.length : Int) = (l.length : Int) - 0 := by omega
  simp only [h1, h2]
theorem sizeAt_behind (pre l : List Int) : sizeAt (pre ++ l) pre.length = sizeAt l 0 := by
  unfold sizeAt
  rw [← List.drop_drop, List.drop_left, Nat.zero_add]
theorem kind_behind (pre l : List Int) : (pre ++ l)[pre.length]?.getD 0 = l[0]?.getD 0 := by rw [List.getElem?_append_right (Nat.le_refl _), Nat.sub_self]

/-- An object among others is read as it was put. -/
theorem read_row (pre rest : List Int) (k : Int) (b : List Int) (h : pre.length % 8 = 0) (hk : 1 ≤ k ∧ k ≤ 7) (hb : b.length ≤ 60) :
    readC (pre ++ (objL k b ++ rest)) pre.length = 0 ∧ readV (pre ++ (objL k b ++ rest)) pre.length = frameV k (16 + b.length) := by
  have hS : 0 ≤ (16 + (b.length : Int)) ∧ (16 + (b.length : Int)) ≤ 18446744073709551615 := by omega
  have e : objL k b ++ rest = hdr k 0 (16 + b.length) ((b ++ List.replicate ((8 - b.length % 8) % 8) 0) ++ rest) := by rw [objL_hdr]; simp [hdr]
  have c : readC (pre ++ (objL k b ++ rest)) pre.length = 0 := by
    rw [readC_behind _ _ h, e, readC_hdr _ _ _ _ hS, if_neg (by omega), if_neg (by simp), if_neg (by omega), if_neg (by simp; omega)]
  refine ⟨c, ?_⟩
  rw [readV, if_pos c, Int.toNat_natCast, sizeAt_behind, kind_behind, e, hdr_size _ _ _ _ hS]
  rfl
theorem read_end (l : List Int) (h : l.length % 8 = 0) : readC l l.length = 2 := readC_range (by rw [bne_eq_false_iff_eq]; omega) (by right; omega)
end Go.Proofs.Ytfhpdhfhahbfnaa
