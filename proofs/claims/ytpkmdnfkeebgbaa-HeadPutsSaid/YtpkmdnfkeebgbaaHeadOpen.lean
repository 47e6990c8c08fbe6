/- What came in: the document's head, by value. Conditions stand as premises. -/
import Derived.Test.YtpkmdnfkeebgbaaOpen
import Derived.Test.YtpkmdnfkeebgbaaHeadPut
import Derived.Lib.SmallJoins
namespace Go.Proofs.Ytpkmdnfkeebgbaa
open Go.Joins Go.ChangeShapes Go.WideShapes Go.ChangeAt Go.RowKit Go.Deep
set_option linter.unusedVariables false
set_option linter.unusedSimpArgs false

section
variable {H : Type} {enc : TypeId × Value → H} {P : Program} {w : World} {base : Nat} {spare : Nat → Bool} {held : Bool} {fuel : Nat}
theorem u64s_open {t e : TypeId} {n : Nat} {cs : List Value} {x : DataW H × List MemPlace} (ht : P.underlying t = some (.array n e)) (he : P.underlying e = some (.int .u64)) (hc : P.cellsOf e = 1) (hn : P.cellsOf t = n) (h : DataW.trod enc P w base spare held fuel t cs = some x) :
    ∃ B : List Int, cs = B.map (Value.int .u64) ∧ (∀ v ∈ B, U64 v) ∧ B.length = n := by
  obtain ⟨xs, m, _, _, hl, hxs, hf⟩ := DataW.trod_array ht h
  rw [hn] at hl
  have key : ∀ i, (hi : i < cs.length) → ∃ b : Int, cs[i] = .int .u64 b ∧ U64 b := by
    intro i hi
    have h1 := hf i (by omega)
    rw [hc, Nat.mul_one] at h1
    rw [List.drop_eq_getElem_cons hi, List.take_succ_cons, List.take_zero, List.getElem?_eq_getElem (by omega)] at h1
    obtain ⟨b, e0, _, w0⟩ := DataW.trod_int he h1
    simp only [List.cons.injEq, and_true] at e0
    exact ⟨b, e0, bounds_u64 w0⟩
  refine ⟨cs.map fun v => match v with | .int _ b => b | _ => 0, ?_, ?_, by simpa using hl⟩
  · refine List.ext_getElem (by simp) (fun i h1 h2 => ?_)
    rw [List.getElem_map, List.getElem_map]
    obtain ⟨b, hb, _⟩ := key i h1
    rw [hb]
  · intro y hy
    obtain ⟨v, hv, rfl⟩ := List.mem_map.1 hy
    obtain ⟨i, hi, rfl⟩ := List.mem_iff_getElem.1 hv
    obtain ⟨b, hb, h1⟩ := key i hi
    rw [hb]
    exact h1
end
set_option maxRecDepth 100000 in
theorem refheadV_open {H : Type} {enc : TypeId × Value → H} {w : World} {base : Nat} {spare : Nat → Bool} {held : Bool} {r : Reach} {b0 : Nat} {v : Value} {d : DataW H} {p : List MemPlace}
    (hv : Value.okWide Try.prog w r b0 34 v) (h : DataW.Trod enc Try.prog w base spare held 34 v d p) :
    ∃ (co inc st : Int) (I Ns : List Int) (ta ti te : Int), v = .agg (headL co inc st I Ns ta ti te).toArray ∧ U32 co ∧ U32 inc ∧ IsB I ∧ I.length = 64 ∧ (∀ v ∈ Ns, U64 v) ∧ Ns.length = 20 ∧ U32 ta ∧ U32 ti ∧ U64 te := by
  obtain ⟨cs, rfl, hsz⟩ := okWide_struct Try.underlying34 hv
  obtain ⟨l⟩ := cs
  have hl : l.length = 90 := hsz
  obtain ⟨fuel, hf⟩ := h
  obtain ⟨xs, n, _, hx, _, hlen, hg⟩ := DataW.trod_struct Try.underlying34 hf
  have hlen : xs.length = 11 := hlen
  obtain ⟨y0, g0⟩ : ∃ y, xs[0]? = some y := ⟨_, List.getElem?_eq_getElem (by omega)⟩
  have t0 : DataW.trod enc Try.prog w base spare held n 24 ((l.drop 0).take 1) = some y0 := (hg 0 _ rfl).trans g0
  obtain ⟨z0, e0, _, w0⟩ := DataW.trod_int Try.underlying24 t0
  obtain ⟨y1, g1⟩ : ∃ y, xs[1]? = some y := ⟨_, List.getElem?_eq_getElem (by omega)⟩
  have t1 : DataW.trod enc Try.prog w base spare held n 24 ((l.drop 1).take 1) = some y1 := (hg 1 _ rfl).trans g1
  obtain ⟨z1, e1, _, w1⟩ := DataW.trod_int Try.underlying24 t1
  obtain ⟨y2, g2⟩ : ∃ y, xs[2]? = some y := ⟨_, List.getElem?_eq_getElem (by omega)⟩
  have t2 : DataW.trod enc Try.prog w base spare held n 3 ((l.drop 2).take 1) = some y2 := (hg 2 _ rfl).trans g2
  obtain ⟨z2, e2, _, w2⟩ := DataW.trod_int Try.underlying3 t2
  obtain ⟨y3, g3⟩ : ∃ y, xs[3]? = some y := ⟨_, List.getElem?_eq_getElem (by omega)⟩
  have t3 : DataW.trod enc Try.prog w base spare held n 26 ((l.drop 3).take 16) = some y3 := (hg 3 _ rfl).trans g3
  obtain ⟨B3, e3, hB3, hl3⟩ := bytes_open Try.underlying26 Try.underlying5 (by kernel_rfl) (by kernel_rfl) t3
  obtain ⟨y4, g4⟩ : ∃ y, xs[4]? = some y := ⟨_, List.getElem?_eq_getElem (by omega)⟩
  have t4 : DataW.trod enc Try.prog w base spare held n 26 ((l.drop 19).take 16) = some y4 := (hg 4 _ rfl).trans g4
  obtain ⟨B4, e4, hB4, hl4⟩ := bytes_open Try.underlying26 Try.underlying5 (by kernel_rfl) (by kernel_rfl) t4
  obtain ⟨y5, g5⟩ : ∃ y, xs[5]? = some y := ⟨_, List.getElem?_eq_getElem (by omega)⟩
  have t5 : DataW.trod enc Try.prog w base spare held n 26 ((l.drop 35).take 16) = some y5 := (hg 5 _ rfl).trans g5
  obtain ⟨B5, e5, hB5, hl5⟩ := bytes_open Try.underlying26 Try.underlying5 (by kernel_rfl) (by kernel_rfl) t5
  obtain ⟨y6, g6⟩ : ∃ y, xs[6]? = some y := ⟨_, List.getElem?_eq_getElem (by omega)⟩
  have t6 : DataW.trod enc Try.prog w base spare held n 26 ((l.drop 51).take 16) = some y6 := (hg 6 _ rfl).trans g6
  obtain ⟨B6, e6, hB6, hl6⟩ := bytes_open Try.underlying26 Try.underlying5 (by kernel_rfl) (by kernel_rfl) t6
  obtain ⟨y7, g7⟩ : ∃ y, xs[7]? = some y := ⟨_, List.getElem?_eq_getElem (by omega)⟩
  have t7 : DataW.trod enc Try.prog w base spare held n 32 ((l.drop 67).take 20) = some y7 := (hg 7 _ rfl).trans g7
  obtain ⟨Ns, e7, hNs, hNl⟩ := u64s_open Try.underlying32 Try.underlying27 (by kernel_rfl) (by kernel_rfl) t7
  obtain ⟨y8, g8⟩ : ∃ y, xs[8]? = some y := ⟨_, List.getElem?_eq_getElem (by omega)⟩
  have t8 : DataW.trod enc Try.prog w base spare held n 24 ((l.drop 87).take 1) = some y8 := (hg 8 _ rfl).trans g8
  obtain ⟨z8, e8, _, w8⟩ := DataW.trod_int Try.underlying24 t8
  obtain ⟨y9, g9⟩ : ∃ y, xs[9]? = some y := ⟨_, List.getElem?_eq_getElem (by omega)⟩
  have t9 : DataW.trod enc Try.prog w base spare held n 24 ((l.drop 88).take 1) = some y9 := (hg 9 _ rfl).trans g9
  obtain ⟨z9, e9, _, w9⟩ := DataW.trod_int Try.underlying24 t9
  obtain ⟨y10, g10⟩ : ∃ y, xs[10]? = some y := ⟨_, List.getElem?_eq_getElem (by omega)⟩
  have t10 : DataW.trod enc Try.prog w base spare held n 27 ((l.drop 89).take 1) = some y10 := (hg 10 _ rfl).trans g10
  obtain ⟨z10, e10, _, w10⟩ := DataW.trod_int Try.underlying27 t10
  refine ⟨z0, z1, z2, B3 ++ B4 ++ B5 ++ B6, Ns, z8, z9, z10, ?_, bounds_u32 w0, bounds_u32 w1, ((hB3.append hB4).append hB5).append hB6, by simp only [List.length_append, hl3, hl4, hl5, hl6], hNs, hNl, bounds_u32 w8, bounds_u32 w9, bounds_u64 w10⟩
  have hl2 : l = (l.drop 0).take 1 ++ ((l.drop 1).take 1 ++ ((l.drop 2).take 1 ++ ((l.drop 3).take 16 ++ ((l.drop 19).take 16 ++ ((l.drop 35).take 16 ++ ((l.drop 51).take 16 ++ ((l.drop 67).take 20 ++ ((l.drop 87).take 1 ++ ((l.drop 88).take 1 ++ (l.drop 89).take 1))))))))) := by
    have h1 : (l.drop 89).take 1 = l.drop 89 := List.take_of_length_le (by simp; omega)
    have h2 : ∀ i k, (l.drop i).take k ++ l.drop (i + k) = l.drop i := fun i k => by rw [← List.drop_drop]; exact List.take_append_drop k (l.drop i)
    rw [h1, h2 88 1, h2 87 1, h2 67 20, h2 51 16, h2 35 16, h2 19 16, h2 3 16, h2 2 1, h2 1 1, h2 0 1, List.drop_zero]
  rw [hl2, e0, e1, e2, e3, e4, e5, e6, e7, e8, e9, e10]
  unfold headL
  simp only [List.map_append, List.append_assoc, List.cons_append, List.nil_append]
end Go.Proofs.Ytpkmdnfkeebgbaa
