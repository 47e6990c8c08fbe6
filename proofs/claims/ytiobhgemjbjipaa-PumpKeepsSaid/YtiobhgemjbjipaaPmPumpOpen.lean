/- What came in, as lists: bytes, rows of bytes, rows of those. Conditions stand as premises. -/
import Derived.Test.YtiobhgemjbjipaaPmPumpRd
import Derived.Test.YtiobhgemjbjipaaPmLib
import Derived.Deep.Slices
import Derived.ShutString
import Derived.ChangeOld
set_option linter.unusedSimpArgs false
set_option linter.unusedVariables false
namespace Go.Proofs.Ytiobhgemjbjipaa
open Go.Conc Go.RowKit
def NoB : Nat → Prop := fun _ => False
section
variable {H : Type} {enc : TypeId × Value → H} {P : Program} {w : World} {base : Nat} {spare : Nat → Bool} {held : Bool} {t e : TypeId} {v : Value}
/-- A slice whose elements each read as something. -/
theorem sl_open {α : Type} {X : Value → α → Prop} {fuel : Nat} {x : DataW H × List MemPlace} (ht : P.underlying t = some (.slice e)) (hc : P.cellsOf e = 1)
    (hX : ∀ (n : Nat) (u : Value) (y : DataW H × List MemPlace), DataW.trod enc P w base spare held n e [u] = some y → ∃ z, X u z) (h : DataW.trod enc P w base spare held fuel t [v] = some x) :
    ∃ VS M, SlOf NoB w v VS ∧ Al X VS M := by
  rcases Go.Deep.open_slice1 ht hc h with ⟨hcs, _⟩ | ⟨ad, l, c, m, n, V, D, Pl, hcs, _, hl, hm, hmm, _, hx⟩
  · simp only [List.cons.injEq, and_true] at hcs
    subst hcs
    exact ⟨[], [], ⟨none, 0, rfl, Nat.zero_le _, Nat.zero_le _, fun _ => rfl, .inl rfl⟩, rfl, fun k v x h => by simp at h⟩
  · simp only [List.cons.injEq, and_true] at hcs
    subst hcs
    have hlm : l ≤ m := by rw [hmm]; split <;> omega
    have hf : ∀ i : Nat, ∃ z : Option α, i < l → ∃ y, z = some y ∧ X (V i) y := fun i => by
      by_cases hi : i < l
      · obtain ⟨z, hz⟩ := hX n (V i) _ (hx i (by omega)).2
        exact ⟨some z, fun _ => ⟨z, rfl, hz⟩⟩
      · exact ⟨none, fun h => absurd h hi⟩
    obtain ⟨f, hf⟩ := Classical.skolem.1 hf
    have hall : ∀ i, i < l → ∃ y, X (V i) y := fun i hi => by obtain ⟨y, _, h⟩ := hf i hi; exact ⟨y, h⟩
    obtain ⟨M, hM⟩ : ∃ M : List α, M.length = l ∧ ∀ (k : Nat) y, M[k]? = some y → X (V k) y := by
      have key : ∀ n, n ≤ l → ∃ M : List α, M.length = n ∧ ∀ (k : Nat) y, M[k]? = some y → X (V k) y := by
        intro n
        induction n with
        | zero => exact fun _ => ⟨[], rfl, fun k y h => by simp at h⟩
        | succ n ih =>
          intro hn
          obtain ⟨M, h1, h2⟩ := ih (by omega)
          obtain ⟨y, hy⟩ := hall n (by omega)
          refine ⟨M ++ [y], by simp [h1], fun k z hz => ?_⟩
          rw [List.getElem?_append] at hz
          by_cases hk : k < M.length
          · rw [if_pos hk] at hz
            exact h2 k z hz
          · rw [if_neg hk] at hz
            match hj : k - M.length, hz with
            | 0, hz =>
              simp only [List.getElem?_cons_zero, Option.some.injEq] at hz
              subst hz
              have : k = n := by omega
              rw [this]
              exact hy
            | j + 1, hz => simp at hz
      exact key l (Nat.le_refl _)
    refine ⟨(List.range l).map V, M, ⟨some ad, c, by simp, by simpa using hl, hm, fun h => (by cases h), ?_⟩, by simp [hM.1], fun k v y h1 h2 => ?_⟩
    · by_cases h0 : l = 0
      · exact .inl (by simp [h0])
      · obtain ⟨b, off, spot⟩ := ad
        have hc0 := (hx 0 (by omega)).1
        have hspot : spot = none := by simpa [Addr.add] using World.cell?_spot hc0
        subst hspot
        refine .inr ⟨b, off, rfl, World.block_lt_of_cell? w _ hc0, fun h => h, fun k v hk => ?_⟩
        rw [List.getElem?_map] at hk
        obtain ⟨j, hj, rfl⟩ := Option.map_eq_some_iff.1 hk
        have hil : k < l := by have := (List.getElem?_eq_some_iff.1 hj).1; simpa using this
        rw [List.getElem?_range hil] at hj
        cases hj
        have := (hx k (by omega)).1
        rwa [addr_add] at this
    · rw [List.getElem?_map] at h1
      obtain ⟨j, hj, rfl⟩ := Option.map_eq_some_iff.1 h1
      have hil : k < l := by have := (List.getElem?_eq_some_iff.1 hj).1; simpa using this
      rw [List.getElem?_range hil] at hj
      cases hj
      exact hM.2 k y h2
theorem u8_list : ∀ {VS : List Value} {M : List Int}, Al (fun v y => v = .int .u8 y ∧ 0 ≤ y ∧ y ≤ 255) VS M → VS = M.map (Value.int .u8) ∧ IsB M := by
  intro VS M h
  refine ⟨List.ext_getElem (by rw [List.length_map]; exact h.1) fun i h1 h2 => ?_, fun x hx => ?_⟩
  · have hl : i < M.length := by simpa using h2
    have := (h.2 i _ _ (List.getElem?_eq_getElem h1) (List.getElem?_eq_getElem hl)).1
    rw [this, List.getElem_map]
  · obtain ⟨i, hi⟩ := List.mem_iff_getElem?.1 hx
    have hl : i < VS.length := by have := (List.getElem?_eq_some_iff.1 hi).1; have := h.1; omega
    exact (h.2 i _ _ (List.getElem?_eq_getElem hl) hi).2
theorem r1_open {fuel : Nat} {x : DataW H × List MemPlace} (ht : P.underlying t = some (.slice e)) (he : P.underlying e = some (.int .u8)) (hc : P.cellsOf e = 1) (h : DataW.trod enc P w base spare held fuel t [v] = some x) : ∃ bs, R1 NoB w v bs := by
  obtain ⟨VS, M, h1, h2⟩ := sl_open (X := fun u y => u = .int .u8 y ∧ 0 ≤ y ∧ y ≤ 255) ht hc (fun n u y hu => by
    obtain ⟨z, hz, _, hw⟩ := DataW.trod_int he hu
    simp only [List.cons.injEq, and_true] at hz
    have := bounds_u8 hw
    exact ⟨z, hz, by omega, by omega⟩) h
  obtain ⟨rfl, h3⟩ := u8_list h2
  exact ⟨M, h1, h3⟩
theorem r2_open {b : TypeId} {fuel : Nat} {x : DataW H × List MemPlace} (ht : P.underlying t = some (.slice e)) (he : P.underlying e = some (.slice b)) (hb : P.underlying b = some (.int .u8)) (hc : P.cellsOf e = 1) (hc2 : P.cellsOf b = 1)
    (h : DataW.trod enc P w base spare held fuel t [v] = some x) : ∃ M, R2 NoB w v M := by
  obtain ⟨VS, M, h1, h2⟩ := sl_open (X := R1 NoB w) ht hc (fun n u y hu => r1_open he hb hc2 hu) h
  exact ⟨M, VS, h1, h2⟩
theorem r3_open {b c : TypeId} {fuel : Nat} {x : DataW H × List MemPlace} (ht : P.underlying t = some (.slice e)) (he : P.underlying e = some (.slice b)) (hb : P.underlying b = some (.slice c)) (hcu : P.underlying c = some (.int .u8)) (hc : P.cellsOf e = 1) (hc2 : P.cellsOf b = 1) (hc3 : P.cellsOf c = 1)
    (h : DataW.trod enc P w base spare held fuel t [v] = some x) : ∃ L, R3 NoB w v L := by
  obtain ⟨VS, M, h1, h2⟩ := sl_open (X := R2 NoB w) ht hc (fun n u y hu => r2_open he hb hcu hc2 hc3 hu) h
  exact ⟨M, VS, h1, h2⟩
end
end Go.Proofs.Ytiobhgemjbjipaa
