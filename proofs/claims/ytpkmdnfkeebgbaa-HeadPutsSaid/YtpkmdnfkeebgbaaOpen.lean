/- What came in: slices of pairs, arrays of bytes, opened. No program in sight; no condition. -/
import Derived.Test.YtpkmdnfkeebgbaaPairs
import Derived.Deep.Slices
import Derived.Deep.Fields
import Derived.ChangeSame
namespace Go.Proofs.Ytpkmdnfkeebgbaa
open Go.ChangeShapes Go.WideShapes Go.ChangeAt Go.RowKit Go.Deep
set_option linter.unusedVariables false
set_option linter.unusedSimpArgs false

section
variable {H : Type} {enc : TypeId × Value → H} {P : Program} {w : World} {base : Nat} {spare : Nat → Bool} {held : Bool}
theorem open_slice_fields {t e : TypeId} {fs : Array Field} {fuel : Nat} {cs : List Value} {x : DataW H × List MemPlace} (ht : P.underlying t = some (.slice e)) (he : P.underlying e = some (.struct fs))
    (hone : oneCellFields P fs = true) (hC : P.cellsOf e = fs.size) (h : DataW.trod enc P w base spare held fuel t cs = some x) :
    (cs = [.slice none 0 0] ∧ x = (.nil, [])) ∨
    ∃ (a : Addr) (len cap m : Nat) (D : Nat → DataW H) (Pl : Nat → List MemPlace), cs = [.slice (some a) len cap] ∧ base ≤ a.block ∧ len ≤ cap ∧ cap ≤ maxLen ∧ m = (if spare a.block then cap else len) ∧
      x = (.slice ((List.range len).map D) ((List.range (m - len)).map fun j => D (len + j)), MemPlace.row a (m * fs.size) ++ (List.range m).flatMap Pl) ∧
      ∀ i, i < m → ∃ (ys : List (DataW H × List MemPlace)) (n : Nat), D i = .agg (ys.map (·.1)) ∧ Pl i = ys.flatMap (·.2) ∧ ys.length = fs.size ∧
        ∀ (j : Nat) (f : Field), fs[j]? = some f → ∃ (v : Value) (y : DataW H × List MemPlace), w.cell? (a.add (i * fs.size + j)) = some v ∧ ys[j]? = some y ∧ DataW.trod enc P w base spare held n f.type [v] = some y := by
  rcases open_slice ht h with h0 | ⟨a, len, cap, m, n, D, Pl, hcs, hb, hl, hm, hmm, hx, hi⟩
  · exact .inl h0
  · refine .inr ⟨a, len, cap, m, D, Pl, hcs, hb, hl, hm, hmm, by rw [hC] at hx; exact hx, fun i him => ?_⟩
    obtain ⟨cs', hc, ht'⟩ := hi i him
    rw [hC] at hc
    obtain ⟨ys, n', hn', hy, hlen, hyl, hf⟩ := DataW.trod_struct he ht'
    obtain ⟨_, hcl, hat⟩ := World.cells?_some hc
    simp only [Prod.mk.injEq] at hy
    refine ⟨ys, n', hy.1, hy.2, hyl, fun j f hj => ?_⟩
    obtain ⟨ho, hk⟩ := hone_of hone j f hj
    have hjl : j < fs.size := (Array.getElem?_eq_some_iff.1 hj).1
    have hcell := hat j hjl
    have hv : cs'[j]? = some (cs'[j]'(by omega)) := List.getElem?_eq_getElem (by omega)
    have h1 := hf j f hj
    rw [ho, hk] at h1
    have hone' : (cs'.drop j).take 1 = [cs'[j]'(by omega)] := by
      rw [List.drop_eq_getElem_cons (by omega)]
      rfl
    rw [hone'] at h1
    have hys : ys[j]? = some (ys[j]'(by omega)) := List.getElem?_eq_getElem (by omega)
    refine ⟨_, _, ?_, hys, h1.trans hys⟩
    rw [← Go.Deep.add_add, hcell, hv]
end

section
variable {H : Type} {enc : TypeId × Value → H} {P : Program} {w : World} {base : Nat} {spare : Nat → Bool} {held : Bool} {fuel : Nat}
def U64p (p : PR) : Prop := (0 ≤ p.1 ∧ p.1 ≤ 18446744073709551615) ∧ (0 ≤ p.2 ∧ p.2 ≤ 18446744073709551615)
theorem rdP_open {t e : TypeId} {f0 f1 : Field} {x : DataW H × List MemPlace} {v : Value} (ht : P.underlying t = some (.slice e)) (he : P.underlying e = some (.struct #[f0, f1])) (hone : oneCellFields P #[f0, f1] = true) (hC : P.cellsOf e = 2)
    (h0 : P.underlying f0.type = some (.int .u64)) (h1 : P.underlying f1.type = some (.int .u64)) (h : DataW.trod enc P w base spare held fuel t [v] = some x) : ∃ a n c ps, v = .slice a n c ∧ RdP w a n c ps ∧ ∀ p ∈ ps, U64p p := by
  rcases open_slice_fields ht he hone hC h with ⟨hcs, _⟩ | ⟨ad, l, c, m, D, Pl, hcs, _, hl, hm, hmm, _, hx⟩
  · simp only [List.cons.injEq, and_true] at hcs
    subst hcs
    exact ⟨none, 0, 0, [], rfl, ⟨rfl, Nat.le_refl _, Nat.zero_le _, fun _ => rfl, .inl rfl⟩, fun p hp => by cases hp⟩
  · simp only [List.cons.injEq, and_true] at hcs
    subst hcs
    have hlm : l ≤ m := by rw [hmm]; split <;> omega
    by_cases hz : l = 0
    · subst hz
      exact ⟨some ad, 0, c, [], rfl, ⟨rfl, by omega, hm, (fun h => by cases h), .inl rfl⟩, fun p hp => by cases hp⟩
    obtain ⟨b, off, spot⟩ := ad
    have hspot : spot = none := by
      obtain ⟨ys, n, _, _, _, hf⟩ := hx 0 (by omega)
      obtain ⟨v0, y0, c0, _, t0⟩ := hf 0 _ rfl
      simpa [Addr.add] using World.cell?_spot c0
    subst hspot
    have key : ∀ i, i < l → ∃ p : PR, w.cell? ⟨b, off + 2 * i, none⟩ = some (.int .u64 p.1) ∧ w.cell? ⟨b, off + (2 * i + 1), none⟩ = some (.int .u64 p.2) ∧ U64p p := by
      intro i hi
      obtain ⟨ys, n, _, _, _, hf⟩ := hx i (by omega)
      obtain ⟨v0, y0, c0, _, t0⟩ := hf 0 _ rfl
      obtain ⟨v1, y1, c1, _, t1⟩ := hf 1 _ rfl
      obtain ⟨x0, e0, _, w0⟩ := DataW.trod_int h0 t0
      obtain ⟨x1, e1, _, w1⟩ := DataW.trod_int h1 t1
      simp only [List.cons.injEq, and_true] at e0 e1
      subst e0 e1
      rw [addr_add] at c0 c1
      simp only [Array.size] at c0 c1
      rw [show off + (i * [f0, f1].length + 0) = off + 2 * i by simp; omega] at c0
      rw [show off + (i * [f0, f1].length + 1) = off + (2 * i + 1) by simp; omega] at c1
      exact ⟨(x0, x1), c0, c1, bounds_u64 w0, bounds_u64 w1⟩
    have hbk : b < w.heap.size := by
      obtain ⟨p, c0, _⟩ := key 0 (by omega)
      exact World.block_lt_of_cell? w _ c0
    obtain ⟨f, hf⟩ : ∃ f : Nat → PR, ∀ i, i < l → w.cell? ⟨b, off + 2 * i, none⟩ = some (.int .u64 (f i).1) ∧ w.cell? ⟨b, off + (2 * i + 1), none⟩ = some (.int .u64 (f i).2) ∧ U64p (f i) := by
      refine ⟨fun i => if hi : i < l then Classical.choose (key i hi) else (0, 0), fun i hi => ?_⟩
      show w.cell? ⟨b, off + 2 * i, none⟩ = some (.int .u64 (if hi : i < l then Classical.choose (key i hi) else (0, 0)).1) ∧ w.cell? ⟨b, off + (2 * i + 1), none⟩ = some (.int .u64 (if hi : i < l then Classical.choose (key i hi) else (0, 0)).2) ∧ U64p (if hi : i < l then Classical.choose (key i hi) else (0, 0))
      rw [dif_pos hi]
      exact Classical.choose_spec (key i hi)
    refine ⟨some ⟨b, off, none⟩, l, c, (List.range l).map f, rfl, ⟨by simp, hl, hm, (fun h => by cases h), .inr ⟨b, off, rfl, hbk, fun i d hd => ?_⟩⟩, fun p hp => ?_⟩
    · rw [List.getElem?_map] at hd
      obtain ⟨j, hj, rfl⟩ := Option.map_eq_some_iff.1 hd
      have hil : i < l := by have := (List.getElem?_eq_some_iff.1 hj).1; simpa using this
      rw [List.getElem?_range hil] at hj
      cases hj
      exact ⟨(hf i hil).1, (hf i hil).2.1⟩
    · obtain ⟨j, hj, rfl⟩ := List.mem_map.1 hp
      exact (hf j (by simpa using hj)).2.2

theorem bytes_open {t e : TypeId} {n : Nat} {cs : List Value} {x : DataW H × List MemPlace} (ht : P.underlying t = some (.array n e)) (he : P.underlying e = some (.int .u8)) (hc : P.cellsOf e = 1) (hn : P.cellsOf t = n) (h : DataW.trod enc P w base spare held fuel t cs = some x) :
    ∃ B : List Int, cs = B.map (Value.int .u8) ∧ IsB B ∧ B.length = n := by
  obtain ⟨xs, m, _, _, hl, hxs, hf⟩ := DataW.trod_array ht h
  rw [hn] at hl
  have key : ∀ i, (hi : i < cs.length) → ∃ b : Int, cs[i] = .int .u8 b ∧ 0 ≤ b ∧ b ≤ 255 := by
    intro i hi
    have h1 := hf i (by omega)
    rw [hc, Nat.mul_one] at h1
    rw [List.drop_eq_getElem_cons hi, List.take_succ_cons, List.take_zero, List.getElem?_eq_getElem (by omega)] at h1
    obtain ⟨b, e0, _, w0⟩ := DataW.trod_int he h1
    simp only [List.cons.injEq, and_true] at e0
    exact ⟨b, e0, bounds_u8 w0⟩
  refine ⟨cs.map fun v => match v with | .int _ b => b | _ => 0, ?_, ?_, by simpa using hl⟩
  · refine List.ext_getElem (by simp) (fun i h1 h2 => ?_)
    rw [List.getElem_map, List.getElem_map]
    obtain ⟨b, hb, _⟩ := key i h1
    rw [hb]
  · intro y hy
    obtain ⟨v, hv, rfl⟩ := List.mem_map.1 hy
    obtain ⟨i, hi, rfl⟩ := List.mem_iff_getElem.1 hv
    obtain ⟨b, hb, h1, h2⟩ := key i hi
    rw [hb]
    exact ⟨h1, h2⟩
end
end Go.Proofs.Ytpkmdnfkeebgbaa
