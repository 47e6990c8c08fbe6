/- What came in: an entry, by value. Conditions stand as premises. -/
import Derived.Test.YtojjgagcpkjkaaaOpen
import Derived.Test.YtojjgagcpkjkaaaEntRead
import Derived.Lib.SmallJoins
namespace Go.Proofs.Ytojjgagcpkjkaaa
open Go.Joins Go.ChangeShapes Go.WideShapes Go.ChangeAt Go.RowKit Go.Deep
set_option linter.unusedVariables false
set_option linter.unusedSimpArgs false

theorem one1 {α : Type} (l : List α) (k : Nat) (c : α) (h : l[k]? = some c) : (l.drop k).take 1 = [c] := by
  obtain ⟨hk, hc⟩ := List.getElem?_eq_some_iff.1 h
  rw [List.drop_eq_getElem_cons hk, hc]; rfl
set_option maxRecDepth 100000 in
theorem entryV_open {H : Type} {enc : TypeId × Value → H} {w : World} {base : Nat} {spare : Nat → Bool} {held : Bool} {r : Reach} {b0 : Nat} {v : Value} {d : DataW H} {p : List MemPlace}
    (hv : Value.okWide Try.prog w r b0 32 v) (h : DataW.Trod enc Try.prog w base spare held 32 v d p) :
    ∃ (s rr m : Int) (B : List Int) (x : Int) (a : Option Addr) (n c : Nat) (ps : List PR), v = entV s rr m B x a n c ∧ U64 s ∧ U64 rr ∧ U64 m ∧ IsB B ∧ B.length = 16 ∧ U64 x ∧ RdP w a n c ps ∧ ∀ p ∈ ps, U64p p := by
  obtain ⟨cs, rfl, hsz⟩ := okWide_struct Try.underlying32 hv
  obtain ⟨l⟩ := cs
  have hl : l.length = 21 := hsz
  obtain ⟨fuel, hf⟩ := h
  obtain ⟨xs, n, _, hx, _, hlen, hg⟩ := DataW.trod_struct Try.underlying32 hf
  have hlen : xs.length = 6 := hlen
  obtain ⟨y0, g0⟩ : ∃ y, xs[0]? = some y := ⟨_, List.getElem?_eq_getElem (by omega)⟩
  obtain ⟨y1, g1⟩ : ∃ y, xs[1]? = some y := ⟨_, List.getElem?_eq_getElem (by omega)⟩
  obtain ⟨y2, g2⟩ : ∃ y, xs[2]? = some y := ⟨_, List.getElem?_eq_getElem (by omega)⟩
  obtain ⟨y3, g3⟩ : ∃ y, xs[3]? = some y := ⟨_, List.getElem?_eq_getElem (by omega)⟩
  obtain ⟨y4, g4⟩ : ∃ y, xs[4]? = some y := ⟨_, List.getElem?_eq_getElem (by omega)⟩
  obtain ⟨y5, g5⟩ : ∃ y, xs[5]? = some y := ⟨_, List.getElem?_eq_getElem (by omega)⟩
  have t0 : DataW.trod enc Try.prog w base spare held n 25 ((l.drop 0).take 1) = some y0 := (hg 0 _ rfl).trans g0
  have t1 : DataW.trod enc Try.prog w base spare held n 25 ((l.drop 1).take 1) = some y1 := (hg 1 _ rfl).trans g1
  have t2 : DataW.trod enc Try.prog w base spare held n 25 ((l.drop 2).take 1) = some y2 := (hg 2 _ rfl).trans g2
  have t3 : DataW.trod enc Try.prog w base spare held n 29 ((l.drop 3).take 16) = some y3 := (hg 3 _ rfl).trans g3
  have t4 : DataW.trod enc Try.prog w base spare held n 25 ((l.drop 19).take 1) = some y4 := (hg 4 _ rfl).trans g4
  have t5 : DataW.trod enc Try.prog w base spare held n 30 ((l.drop 20).take 1) = some y5 := (hg 5 _ rfl).trans g5
  obtain ⟨s, e0, _, w0⟩ := DataW.trod_int Try.underlying25 t0
  obtain ⟨rr, e1, _, w1⟩ := DataW.trod_int Try.underlying25 t1
  obtain ⟨m, e2, _, w2⟩ := DataW.trod_int Try.underlying25 t2
  obtain ⟨B, e3, hB, hBl⟩ := bytes_open Try.underlying29 Try.underlying5 (by kernel_rfl) (by kernel_rfl) t3
  obtain ⟨x, e4, _, w4⟩ := DataW.trod_int Try.underlying25 t4
  obtain ⟨v5, hv5⟩ : ∃ v5, l[20]? = some v5 := ⟨_, List.getElem?_eq_getElem (by omega)⟩
  rw [one1 l 20 v5 hv5] at t5
  obtain ⟨a, k, c, ps, e5, hr, hu⟩ := rdP_open Try.underlying30 Try.underlying41 (by kernel_rfl) (by kernel_rfl) Try.underlying25 Try.underlying25 t5
  subst e5
  refine ⟨s, rr, m, B, x, a, k, c, ps, ?_, bounds_u64 w0, bounds_u64 w1, bounds_u64 w2, hB, hBl, bounds_u64 w4, hr, hu⟩
  have hl2 : l = (l.drop 0).take 1 ++ ((l.drop 1).take 1 ++ ((l.drop 2).take 1 ++ ((l.drop 3).take 16 ++ ((l.drop 19).take 1 ++ (l.drop 20).take 1)))) := by
    have h1 : (l.drop 20).take 1 = l.drop 20 := List.take_of_length_le (by simp; omega)
    have h2 : ∀ i k, (l.drop i).take k ++ l.drop (i + k) = l.drop i := fun i k => by rw [← List.drop_drop]; exact List.take_append_drop k (l.drop i)
    rw [h1, h2 19 1, h2 3 16, h2 2 1, h2 1 1, h2 0 1, List.drop_zero]
  rw [entV_eq, hl2, e0, e1, e2, e3, e4, one1 l 20 _ hv5]
  rfl

theorem rdU_any {H : Type} {enc : TypeId × Value → H} {P : Program} {w : World} {base : Nat} {spare : Nat → Bool} {held : Bool} {fuel : Nat} {t e : TypeId} {x : DataW H × List MemPlace} {v : Value}
    (ht : P.underlying t = some (.slice e)) (he : P.underlying e = some (.int .u64)) (hc : P.cellsOf e = 1) (h : DataW.trod enc P w base spare held fuel t [v] = some x) : ∃ a n c l, v = .slice a n c ∧ Rd (Value.int .u64) w a n c l ∧ ∀ y ∈ l, U64 y := by
  have h0 := open_ints ht he hc h
  have : ∃ a n c, v = .slice a n c := by
    rcases h0 with ⟨hcs, _⟩ | ⟨ad, l, c, zs, hcs, _⟩
    · simp only [List.cons.injEq, and_true] at hcs; exact ⟨_, _, _, hcs⟩
    · simp only [List.cons.injEq, and_true] at hcs; exact ⟨_, _, _, hcs⟩
  obtain ⟨a, n, c, rfl⟩ := this
  obtain ⟨l, hw, hr⟩ := rdI_open ht he hc (show DataW.trod enc P w base spare held fuel t (Value.slice a n c).cells.toList = some x from h)
  exact ⟨a, n, c, l, rfl, hr, fun y hy => bounds_u64 (hw y hy)⟩
set_option maxRecDepth 100000 in
theorem arrayV_open {H : Type} {enc : TypeId × Value → H} {w : World} {base : Nat} {spare : Nat → Bool} {held : Bool} {r : Reach} {b0 : Nat} {v : Value} {d : DataW H} {p : List MemPlace}
    (hv : Value.okWide Try.prog w r b0 35 v) (h : DataW.Trod enc Try.prog w base spare held 35 v d p) :
    ∃ (next : Int) (a : Option Addr) (n c : Nat) (vs : List Int), v = .agg #[.int .u64 next, .slice a n c] ∧ U64 next ∧ Rd (Value.int .u64) w a n c vs ∧ ∀ y ∈ vs, U64 y := by
  obtain ⟨cs, rfl, hsz⟩ := okWide_struct Try.underlying35 hv
  obtain ⟨l⟩ := cs
  have hl : l.length = 2 := hsz
  obtain ⟨fuel, hf⟩ := h
  obtain ⟨xs, n, _, hx, _, hlen, hg⟩ := DataW.trod_struct Try.underlying35 hf
  have hlen : xs.length = 2 := hlen
  obtain ⟨y0, g0⟩ : ∃ y, xs[0]? = some y := ⟨_, List.getElem?_eq_getElem (by omega)⟩
  obtain ⟨y1, g1⟩ : ∃ y, xs[1]? = some y := ⟨_, List.getElem?_eq_getElem (by omega)⟩
  match l, hl with
  | [c0, c1], _ =>
    have t0 : DataW.trod enc Try.prog w base spare held n 25 [c0] = some y0 := (hg 0 _ rfl).trans g0
    have t1 : DataW.trod enc Try.prog w base spare held n 33 [c1] = some y1 := (hg 1 _ rfl).trans g1
    obtain ⟨s, e0, _, w0⟩ := DataW.trod_int Try.underlying25 t0
    obtain ⟨a, k, c, vs, rfl, hr, hu⟩ := rdU_any Try.underlying33 Try.underlying25 (by kernel_rfl) t1
    simp only [List.cons.injEq, and_true] at e0
    subst e0
    exact ⟨s, a, k, c, vs, rfl, bounds_u64 w0, hr, hu⟩
end Go.Proofs.Ytojjgagcpkjkaaa
