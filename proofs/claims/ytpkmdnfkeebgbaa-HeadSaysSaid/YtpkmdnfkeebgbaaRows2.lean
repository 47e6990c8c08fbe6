/- A slice of slices of bytes: how it is read. No condition. -/
import Derived.Test.YtpkmdnfkeebgbaaLib
import Derived.Deep.Slices
namespace Go.Proofs.Ytpkmdnfkeebgbaa
open Go.ChangeShapes Go.WideShapes Go.ChangeAt Go.RowKit
set_option linter.unusedVariables false

theorem RdB.raw {w : World} {a : Option Addr} {n c : Nat} {l : List Int} (h : RdB w a n c l) : Rd (Value.int .u8) w a n c l := h.2
theorem RdB.of {w : World} {a : Option Addr} {n c : Nat} {l : List Int} (hb : IsB l) (h : Rd (Value.int .u8) w a n c l) : RdB w a n c l := ⟨hb, h⟩

/-- A slice as an element. -/
def encS (v : Option Addr × Nat × Nat) : Value := .slice v.1 v.2.1 v.2.2

/-- A slice of slices of bytes reads as ls. -/
def RdBB (w : World) (a : Option Addr) (n c : Nat) (ls : List (List Int)) : Prop :=
  ∃ vs : List (Option Addr × Nat × Nat), Rd encS w a n c vs ∧ vs.length = ls.length ∧ ∀ (i : Nat) (v : Option Addr × Nat × Nat) (l : List Int), vs[i]? = some v → ls[i]? = some l → RdB w v.1 v.2.1 v.2.2 l

theorem RdBB.mono {w w' : World} {a : Option Addr} {n c : Nat} {ls : List (List Int)} (h : RdBB w a n c ls) (hb : Below w.heap.size w w') : RdBB w' a n c ls := by
  obtain ⟨vs, h1, h2, h3⟩ := h
  exact ⟨vs, h1.mono hb, h2, fun i v l hv hl => (h3 i v l hv hl).mono hb⟩

theorem RdBB.len {w : World} {a : Option Addr} {n c : Nat} {ls : List (List Int)} (h : RdBB w a n c ls) : ls.length = n := by
  obtain ⟨vs, h1, h2, h3⟩ := h
  have := h1.1; omega

theorem RdBB.nil (w : World) : RdBB w none 0 0 [] := ⟨[], ⟨rfl, Nat.le_refl _, Nat.zero_le _, fun _ => rfl, .inl rfl⟩, rfl, fun i v l hv => by simp at hv⟩

/-- One slice, just laid as the only element. -/
theorem RdBB.one {w : World} {a : Option Addr} {n c : Nat} {l : List Int} (e : TypeId) (h : RdB w a n c l) : RdBB (w.alloc (.cells #[.slice a n c] e)) (some ⟨w.heap.size, 0, none⟩) 1 1 [l] := by
  refine ⟨[(a, n, c)], Rd.one encS e w (a, n, c), rfl, fun i v l' hv hl => ?_⟩
  match i, hv, hl with
  | 0, hv, hl =>
    simp only [List.getElem?_cons_zero, Option.some.injEq] at hv hl
    subst hv; subst hl
    exact h.mono ((Below.refl _ _).alloc (Nat.le_refl _) _)
  | i + 1, hv, hl => simp at hv

theorem RdBB.isB {w : World} {a : Option Addr} {n c : Nat} {ls : List (List Int)} (h : RdBB w a n c ls) : ∀ l ∈ ls, IsB l := by
  obtain ⟨vs, h1, h2, h3⟩ := h
  intro l hl
  obtain ⟨i, hi, rfl⟩ := List.getElem_of_mem hl
  exact (h3 i _ _ (List.getElem?_eq_getElem (by omega)) (List.getElem?_eq_getElem hi)).1

/-- The element type's row: a slice of slices of bytes. -/
theorem Try.sInfo : (Try.prog.info? 22).map (fun i => (i.zero, i.size, i.bytes)) = some (some (.slice none 0 0), 1, 24) := by kernel_rfl
theorem Try.oneBB : OneInfo Try.prog 105 22 24 := by
  obtain ⟨i, hi, h0, h1, h2⟩ := info_parts Try.sInfo
  exact ⟨Try.underlying105, i, _, hi, h0, h1, h2, rfl⟩

/-- A slice of slices that the call owns; each element reads as its list. -/
def OwnBB (w : World) (base : Nat) (a : Option Addr) (n c : Nat) (ls : List (List Int)) : Prop :=
  ∃ vs : List (Option Addr × Nat × Nat), Own encS 22 w base a n c vs ∧ vs.length = ls.length ∧ ∀ (i : Nat) (v : Option Addr × Nat × Nat) (l : List Int), vs[i]? = some v → ls[i]? = some l → RdB w v.1 v.2.1 v.2.2 l

theorem OwnBB.rd {w : World} {base : Nat} {a : Option Addr} {n c : Nat} {ls : List (List Int)} (h : OwnBB w base a n c ls) : RdBB w a n c ls := by
  obtain ⟨vs, h1, h2, h3⟩ := h
  exact ⟨vs, h1.rd, h2, h3⟩
theorem OwnBB.mono {w w' : World} {base : Nat} {a : Option Addr} {n c : Nat} {ls : List (List Int)} (h : OwnBB w base a n c ls) (hb : Below w.heap.size w w') : OwnBB w' base a n c ls := by
  obtain ⟨vs, h1, h2, h3⟩ := h
  exact ⟨vs, h1.mono hb, h2, fun i v l hv hl => (h3 i v l hv hl).mono hb⟩
theorem OwnBB.nil (w : World) (base : Nat) : OwnBB w base none 0 0 [] := ⟨[], Own.nil _ _ _ _, rfl, fun i v l hv => by simp at hv⟩
theorem OwnBB.len {w : World} {base : Nat} {a : Option Addr} {n c : Nat} {ls : List (List Int)} (h : OwnBB w base a n c ls) : ls.length = n := h.rd.len

/-- One more element behind: its reading and the others' must not lie in what was written: they lie below base. -/
theorem snoc_all {vs : List (Option Addr × Nat × Nat)} {ls : List (List Int)} {w : World} {v : Option Addr × Nat × Nat} {l : List Int} (h2 : vs.length = ls.length)
    (h3 : ∀ (i : Nat) (v : Option Addr × Nat × Nat) (l : List Int), vs[i]? = some v → ls[i]? = some l → RdB w v.1 v.2.1 v.2.2 l) (h : RdB w v.1 v.2.1 v.2.2 l) :
    ∀ (i : Nat) (v' : Option Addr × Nat × Nat) (l' : List Int), (vs ++ [v])[i]? = some v' → (ls ++ [l])[i]? = some l' → RdB w v'.1 v'.2.1 v'.2.2 l' := by
  intro i v' l' hv hl
  rw [List.getElem?_append] at hv hl
  by_cases hi : i < vs.length
  · rw [if_pos hi] at hv
    rw [if_pos (by omega)] at hl
    exact h3 i v' l' hv hl
  · rw [if_neg hi] at hv
    rw [if_neg (by omega)] at hl
    obtain ⟨j, hj⟩ : ∃ j, i = vs.length + j := ⟨i - vs.length, by omega⟩
    subst hj
    rw [Nat.add_sub_cancel_left] at hv
    rw [h2, Nat.add_sub_cancel_left] at hl
    match j, hv, hl with
    | 0, hv, hl =>
      simp only [List.getElem?_cons_zero, Option.some.injEq] at hv hl
      subst hv; subst hl
      exact h
    | j + 1, hv, hl => simp at hv

/-- A slice of slices that the call owns; its elements lie in what was there in the world w0. -/
def OwnOld (w0 w : World) (base : Nat) (a : Option Addr) (n c : Nat) (ls : List (List Int)) : Prop :=
  ∃ vs : List (Option Addr × Nat × Nat), Own encS 22 w base a n c vs ∧ vs.length = ls.length ∧ ∀ (i : Nat) (v : Option Addr × Nat × Nat) (l : List Int), vs[i]? = some v → ls[i]? = some l → RdB w0 v.1 v.2.1 v.2.2 l

theorem OwnOld.rd {w0 w : World} {base : Nat} {a : Option Addr} {n c : Nat} {ls : List (List Int)} (h : OwnOld w0 w base a n c ls) (hb : Below w0.heap.size w0 w) : RdBB w a n c ls := by
  obtain ⟨vs, h1, h2, h3⟩ := h
  exact ⟨vs, h1.rd, h2, fun i v l hv hl => (h3 i v l hv hl).mono hb⟩
theorem OwnOld.nil (w0 w : World) (base : Nat) : OwnOld w0 w base none 0 0 [] := ⟨[], Own.nil _ _ _ _, rfl, fun i v l hv => by simp at hv⟩

/-! ### What came in -/
theorem rdB_any {H : Type} {enc : TypeId × Value → H} {P : Program} {w : World} {base : Nat} {spare : Nat → Bool} {held : Bool} {fuel : Nat} {t e : TypeId} {x : DataW H × List MemPlace} {v : Value}
    (ht : P.underlying t = some (.slice e)) (he : P.underlying e = some (.int .u8)) (hc : P.cellsOf e = 1) (h : DataW.trod enc P w base spare held fuel t [v] = some x) : ∃ a n c l, v = .slice a n c ∧ RdB w a n c l := by
  have h0 := open_ints ht he hc h
  rcases h0 with ⟨hcs, _⟩ | ⟨ad, l, c, zs, hcs, _⟩
  · simp only [List.cons.injEq, and_true] at hcs
    subst hcs
    obtain ⟨l, hl⟩ := rdB_open ht he hc (a := none) (len := 0) (cap := 0) (by simpa [Value.cells] using h)
    exact ⟨none, 0, 0, l, rfl, hl⟩
  · simp only [List.cons.injEq, and_true] at hcs
    subst hcs
    obtain ⟨l', hl⟩ := rdB_open ht he hc (a := some ad) (len := l) (cap := c) (by simpa [Value.cells] using h)
    exact ⟨some ad, l, c, l', rfl, hl⟩

/-- A slice whose elements each read as something: as many readings. -/
theorem rdOf {α : Type} [Inhabited α] {w : World} {ad : Addr} {len cap : Nat} (encA : α → Value) (hl : len ≤ cap) (hm : cap ≤ maxLen) (R : Nat → α → Prop)
    (h : ∀ i, i < len → ∃ y : α, w.cell? (ad.add i) = some (encA y) ∧ R i y) : ∃ ys : List α, Rd encA w (some ad) len cap ys ∧ ∀ i y, ys[i]? = some y → R i y := by
  obtain ⟨f, hf⟩ : ∃ f : Nat → α, ∀ i, i < len → w.cell? (ad.add i) = some (encA (f i)) ∧ R i (f i) := by
    refine ⟨fun i => if hi : i < len then Classical.choose (h i hi) else default, fun i hi => ?_⟩
    show w.cell? (ad.add i) = some (encA (if hi : i < len then Classical.choose (h i hi) else default)) ∧ R i (if hi : i < len then Classical.choose (h i hi) else default)
    simp only [dif_pos hi]
    exact Classical.choose_spec (h i hi)
  refine ⟨(List.range len).map f, ⟨by simp, hl, hm, fun h => by (cases h), ?_⟩, fun i y hy => ?_⟩
  · by_cases h0 : len = 0
    · exact .inl h0
    · right
      obtain ⟨b, off, spot⟩ := ad
      have hc0 := (hf 0 (by omega)).1
      have hspot : spot = none := by simpa [Addr.add] using World.cell?_spot hc0
      subst hspot
      refine ⟨b, off, rfl, World.block_lt_of_cell? w _ hc0, fun i y hy => ?_⟩
      rw [List.getElem?_map] at hy
      obtain ⟨j, hj, rfl⟩ := Option.map_eq_some_iff.1 hy
      have hil : i < len := by have := (List.getElem?_eq_some_iff.1 hj).1; simpa using this
      rw [List.getElem?_range hil] at hj
      cases hj
      have := (hf i hil).1
      rwa [addr_add] at this
  · rw [List.getElem?_map] at hy
    obtain ⟨j, hj, rfl⟩ := Option.map_eq_some_iff.1 hy
    have hil : i < len := by have := (List.getElem?_eq_some_iff.1 hj).1; simpa using this
    rw [List.getElem?_range hil] at hj
    cases hj
    exact (hf i hil).2

theorem rdBB_open {H : Type} {enc : TypeId × Value → H} {P : Program} {w : World} {base : Nat} {spare : Nat → Bool} {held : Bool} {fuel : Nat} {t e b : TypeId} {x : DataW H × List MemPlace} {a : Option Addr} {len cap : Nat}
    (ht : P.underlying t = some (.slice e)) (he : P.underlying e = some (.slice b)) (hb : P.underlying b = some (.int .u8)) (hc : P.cellsOf e = 1) (hc2 : P.cellsOf b = 1)
    (h : DataW.trod enc P w base spare held fuel t (Value.slice a len cap).cells.toList = some x) : ∃ ls, RdBB w a len cap ls := by
  rcases Go.Deep.open_slice1 ht hc h with ⟨hcs, _⟩ | ⟨ad, l, c, m, n, V, D, Pl, hcs, _, hl, hm, hmm, _, hx⟩
  · simp [Value.cells] at hcs
    obtain ⟨rfl, rfl, rfl⟩ := hcs
    exact ⟨[], RdBB.nil w⟩
  · simp [Value.cells] at hcs
    obtain ⟨rfl, rfl, rfl⟩ := hcs
    have hlm : len ≤ m := by rw [hmm]; split <;> omega
    obtain ⟨ys, h1, h2⟩ := rdOf (w := w) (ad := ad) (len := len) (cap := cap) (fun y : (Option Addr × Nat × Nat) × List Int => encS y.1) hl hm (fun _ y => RdB w y.1.1 y.1.2.1 y.1.2.2 y.2) (fun i hi => by
      obtain ⟨h3, h4⟩ := hx i (by omega)
      obtain ⟨a', n', c', l', hv, hr⟩ := rdB_any he hb hc2 h4
      exact ⟨((a', n', c'), l'), by rw [h3, hv]; rfl, hr⟩)
    refine ⟨ys.map (·.2), ys.map (·.1), ?_, by simp, fun i v l hv hl' => ?_⟩
    · obtain ⟨g1, g2, g3, g4, g5⟩ := h1
      refine ⟨by simpa using g1, g2, g3, g4, ?_⟩
      rcases g5 with g5 | ⟨b', off, ha, hlt, hc'⟩
      · exact .inl g5
      · refine .inr ⟨b', off, ha, hlt, fun i y hy => ?_⟩
        rw [List.getElem?_map] at hy
        obtain ⟨z, hz, rfl⟩ := Option.map_eq_some_iff.1 hy
        exact hc' i z hz
    · rw [List.getElem?_map] at hv hl'
      obtain ⟨z, hz, rfl⟩ := Option.map_eq_some_iff.1 hv
      rw [hz] at hl'
      simp only [Option.map_some, Option.some.injEq] at hl'
      subst hl'
      exact h2 i z hz

end Go.Proofs.Ytpkmdnfkeebgbaa
