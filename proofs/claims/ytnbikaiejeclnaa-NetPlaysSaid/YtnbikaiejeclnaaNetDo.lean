/- A slice of things to be done: how it is read. No condition. -/
import Derived.Test.YtnbikaiejeclnaaNetPlay
import Derived.Deep.Slices
import Derived.Deep.Fields
import Derived.ChangeSame
namespace Go.Proofs.Ytnbikaiejeclnaa
open Go.ChangeShapes Go.WideShapes Go.ChangeAt Go.RowKit Go.Deep
set_option linter.unusedVariables false

section
variable {H : Type} {enc : TypeId × Value → H} {P : Program} {w : World} {base : Nat} {spare : Nat → Bool} {held : Bool}
theorem open_slice_fields {t e : TypeId} {fs : Array Field} {fuel : Nat} {cs : List Value} {x : DataW H × List MemPlace} (ht : P.underlying t = some (.slice e)) (he : P.underlying e = some (.struct fs))
    (hone : oneCellFields P fs = true) (hC : P.cellsOf e = fs.size) (h : DataW.trod enc P w base spare held fuel t cs = some x) :
    (cs = [.slice none 0 0] ∧ x = (.nil, [])) ∨
    ∃ (a : Addr) (len cap m : Nat) (D : Nat → DataW H) (Pl : Nat → List MemPlace), cs = [.slice (some a) len cap] ∧ base ≤ a.block ∧ len ≤ cap ∧ cap ≤ maxLen ∧ m = (if spare a.block then cap else len) ∧
      x = (.slice ((List.range len).map D) ((List.range (m - len)).map fun j => D (len + j)), MemPlace.row a (m * fs.size) ++ (List.range m).flatMap Pl) ∧
      ∀ i, i < m → ∃ (ys : List (DataW H × List MemPlace)) (n : Nat), D i = .agg (ys.map (·.1)) ∧ Pl i = ys.flatMap (·.2) ∧ ys.length = fs.size ∧
        ∀ (j : Nat) (f : Field), fs[j]? = some f → ∃ (v : Value) (y : DataW H × List MemPlace), w.cell? (a.add (i * fs.size + j)) = some v ∧ ys[j]? = some y ∧ DataW.trod enc P w base spare held n f.type [v] = some y := by
  rcases open_slice ht h with h0 | ⟨a, len, cap, m, n, D, Pl, hcs, hb, hl, hm, hmm, hx, hi⟩
  · exact .inl h0
  · refine .inr ⟨a, len, cap, m, D, Pl, hcs, hb, hl, hm, hmm, by rw [hC] at hx; exact hx, fun i him => ?_⟩
    obtain ⟨cs', hc, ht'⟩ := hi i him
    rw [hC] at hc
    obtain ⟨ys, n', hn', hy, hlen, hyl, hf⟩ := DataW.trod_struct he ht'
    obtain ⟨_, hcl, hat⟩ := World.cells?_some hc
    simp only [Prod.mk.injEq] at hy
    refine ⟨ys, n', hy.1, hy.2, hyl, fun j f hj => ?_⟩
    obtain ⟨ho, hk⟩ := hone_of hone j f hj
    have hjl : j < fs.size := (Array.getElem?_eq_some_iff.1 hj).1
    have hcell := hat j hjl
    have hv : cs'[j]? = some (cs'[j]'(by omega)) := List.getElem?_eq_getElem (by omega)
    have h1 := hf j f hj
    rw [ho, hk] at h1
    have hone' : (cs'.drop j).take 1 = [cs'[j]'(by omega)] := by
      rw [List.drop_eq_getElem_cons (by omega)]
      rfl
    rw [hone'] at h1
    have hys : ys[j]? = some (ys[j]'(by omega)) := List.getElem?_eq_getElem (by omega)
    refine ⟨_, _, ?_, hys, h1.trans hys⟩
    rw [← Go.Deep.add_add, hcell, hv]
end

/-- A thing to be done. -/
structure DoV where
  k : Int
  y : Int
  i : Int
  t : Int
  b : Int
  a : Option Addr
  n : Nat
  c : Nat
  l : List Int

def I64 (x : Int) : Prop := -9223372036854775808 ≤ x ∧ x ≤ 9223372036854775807

/-- It lies in six cells. -/
structure DoAt (w : World) (B off : Nat) (d : DoV) : Prop where
  d0 : w.cell? ⟨B, off, none⟩ = some (.int .i64 d.k)
  d1 : w.cell? ⟨B, off + 1, none⟩ = some (.int .i64 d.y)
  d2 : w.cell? ⟨B, off + 2, none⟩ = some (.int .i64 d.i)
  d3 : w.cell? ⟨B, off + 3, none⟩ = some (.int .i64 d.t)
  d4 : w.cell? ⟨B, off + 4, none⟩ = some (.int .u8 d.b)
  d5 : w.cell? ⟨B, off + 5, none⟩ = some (.slice d.a d.n d.c)
  rd : RdB w d.a d.n d.c d.l
  by_ : I64 d.y
  bi : I64 d.i
  bt : I64 d.t

def RdDo (w : World) (a : Option Addr) (n c : Nat) (ds : List DoV) : Prop :=
  ds.length = n ∧ n ≤ c ∧ c ≤ maxLen ∧ (n = 0 ∨ ∃ B off, a = some ⟨B, off, none⟩ ∧ ∀ i d, ds[i]? = some d → DoAt w B (off + i * 6) d)

theorem bounds_I64 {x : Int} (h : (Lit.int .i64 x).wf = true) : I64 x := bounds_i64 h

theorem rdDo_open {H : Type} {enc : TypeId × Value → H} {w : World} {base : Nat} {spare : Nat → Bool} {held : Bool} {fuel : Nat} {x : DataW H × List MemPlace} {a : Option Addr} {len cap : Nat}
    (h : DataW.trod enc Try.prog w base spare held fuel 40 (Value.slice a len cap).cells.toList = some x) : ∃ ds, RdDo w a len cap ds := by
  rcases open_slice_fields Try.underlying40 Try.underlying46 (by kernel_rfl) (by kernel_rfl) h with ⟨hcs, _⟩ | ⟨ad, l, c, m, D, Pl, hcs, _, hl, hm, hmm, _, hx⟩
  · simp [Value.cells] at hcs
    obtain ⟨rfl, rfl, rfl⟩ := hcs
    exact ⟨[], rfl, Nat.le_refl _, Nat.zero_le _, .inl rfl⟩
  · simp [Value.cells] at hcs
    obtain ⟨rfl, rfl, rfl⟩ := hcs
    have hlm : len ≤ m := by rw [hmm]; split <;> omega
    by_cases h0 : len = 0
    · subst h0
      exact ⟨[], rfl, by omega, hm, .inl rfl⟩
    obtain ⟨b, off, spot⟩ := ad
    have hspot : spot = none := by
      obtain ⟨ys, n, _, _, _, hf⟩ := hx 0 (by omega)
      obtain ⟨v0, y0, c0, _, t0⟩ := hf 0 _ rfl
      simpa [Addr.add] using World.cell?_spot c0
    subst hspot
    have key : ∀ i, i < len → ∃ d, DoAt w b (off + i * 6) d := by
      intro i hi
      obtain ⟨ys, n, _, _, _, hf⟩ := hx i (by omega)
      obtain ⟨v0, y0, c0, _, t0⟩ := hf 0 _ rfl
      obtain ⟨v1, y1, c1, _, t1⟩ := hf 1 _ rfl
      obtain ⟨v2, y2, c2, _, t2⟩ := hf 2 _ rfl
      obtain ⟨v3, y3, c3, _, t3⟩ := hf 3 _ rfl
      obtain ⟨v4, y4, c4, _, t4⟩ := hf 4 _ rfl
      obtain ⟨v5, y5, c5, _, t5⟩ := hf 5 _ rfl
      obtain ⟨x0, e0, _, w0⟩ := DataW.trod_int Try.underlying3 t0
      obtain ⟨x1, e1, _, w1⟩ := DataW.trod_int Try.underlying3 t1
      obtain ⟨x2, e2, _, w2⟩ := DataW.trod_int Try.underlying3 t2
      obtain ⟨x3, e3, _, w3⟩ := DataW.trod_int Try.underlying3 t3
      obtain ⟨x4, e4, _, w4⟩ := DataW.trod_int Try.underlying5 t4
      obtain ⟨a5, n5, cap5, l5, rfl, hr5⟩ := rdB_any Try.underlying29 Try.underlying5 (by kernel_rfl) t5
      simp only [List.cons.injEq, and_true] at e0 e1 e2 e3 e4
      subst e0 e1 e2 e3 e4
      rw [addr_add] at c0 c1 c2 c3 c4 c5
      simp only [Array.size] at c0 c1 c2 c3 c4 c5
      exact ⟨⟨x0, x1, x2, x3, x4, a5, n5, cap5, l5⟩, ⟨c0, c1, c2, c3, c4, c5, hr5, bounds_I64 w1, bounds_I64 w2, bounds_I64 w3⟩⟩
    obtain ⟨f, hf⟩ : ∃ f : Nat → DoV, ∀ i, i < len → DoAt w b (off + i * 6) (f i) := by
      refine ⟨fun i => if hi : i < len then Classical.choose (key i hi) else ⟨0, 0, 0, 0, 0, none, 0, 0, []⟩, fun i hi => ?_⟩
      show DoAt w b (off + i * 6) (if hi : i < len then Classical.choose (key i hi) else ⟨0, 0, 0, 0, 0, none, 0, 0, []⟩)
      rw [dif_pos hi]
      exact Classical.choose_spec (key i hi)
    refine ⟨(List.range len).map f, by simp, hl, hm, .inr ⟨b, off, rfl, fun i d hd => ?_⟩⟩
    rw [List.getElem?_map] at hd
    obtain ⟨j, hj, rfl⟩ := Option.map_eq_some_iff.1 hd
    have hil : i < len := by have := (List.getElem?_eq_some_iff.1 hj).1; simpa using this
    rw [List.getElem?_range hil] at hj
    cases hj
    exact hf i hil

theorem DoAt.mono {w w' : World} {B off : Nat} {d : DoV} (h : DoAt w B off d) (hb : Below w.heap.size w w') : DoAt w' B off d := by
  have hlt : B < w.heap.size := World.block_lt_of_cell? w _ h.d0
  exact ⟨bcell hb hlt h.d0, bcell hb hlt h.d1, bcell hb hlt h.d2, bcell hb hlt h.d3, bcell hb hlt h.d4, bcell hb hlt h.d5, h.rd.mono hb, h.by_, h.bi, h.bt⟩
theorem RdDo.mono {w w' : World} {a : Option Addr} {n c : Nat} {ds : List DoV} (h : RdDo w a n c ds) (hb : Below w.heap.size w w') : RdDo w' a n c ds := by
  obtain ⟨h1, h2, h3, h4⟩ := h
  refine ⟨h1, h2, h3, h4.imp id ?_⟩
  rintro ⟨B, off, ha, hd⟩
  exact ⟨B, off, ha, fun i d hi => (hd i d hi).mono hb⟩

theorem Two.upd {w0 w w' : World} {p q D : Nat} {S T : St} {F G : Nat → Prop} (h : Two w0 w p q S T F G) (hu : Upd (· = D) w w') (hF : ¬ F D) (hG : ¬ G D) (hD : w0.heap.size ≤ D) : Two w0 w' p q S T F G :=
  ⟨h.net1.upd hu (fun j hj e => hF (e ▸ hj)), h.net2.upd hu (fun j hj e => hG (e ▸ hj)), h.far, h.bel.trans (hu.below h.bel.size (fun j hj => by rw [hj]; exact hD))⟩
theorem set3 (w : World) (D : Nat) (a b c : Value) : Upd (· = D) w (((w.setCell ⟨D, 1, none⟩ a).setCell ⟨D, 2, none⟩ b).setCell ⟨D, 3, none⟩ c) :=
  ((Upd.setCell (F := (· = D)) w ⟨D, 1, none⟩ a rfl).trans (Upd.setCell (F := (· = D)) _ ⟨D, 2, none⟩ b rfl) (fun _ _ h => h)).trans (Upd.setCell (F := (· = D)) _ ⟨D, 3, none⟩ c rfl) (fun _ _ h => h)
theorem Box.set3 {w : World} {D : Nat} {k y i t b y' i' t' : Int} {a : Option Addr} {n c : Nat} (h : Box w D k y i t b a n c) :
    Box (((w.setCell ⟨D, 1, none⟩ (.int .i64 y')).setCell ⟨D, 2, none⟩ (.int .i64 i')).setCell ⟨D, 3, none⟩ (.int .i64 t')) D k y' i' t' b a n c :=
  ⟨by simpa using h.lt, keep_set (by omega) (keep_set (by omega) (keep_set (by omega) h.d0)), keep_set (by omega) (keep_set (by omega) (World.cell?_setCell_same _ _ _ h.d1)), keep_set (by omega) (World.cell?_setCell_same _ _ _ (keep_set (by omega) h.d2)),
    World.cell?_setCell_same _ _ _ (keep_set (by omega) (keep_set (by omega) h.d3)), keep_set (by omega) (keep_set (by omega) (keep_set (by omega) h.d4)), keep_set (by omega) (keep_set (by omega) (keep_set (by omega) h.d5))⟩
theorem NetS.cells {w : World} {base p : Nat} {S : St} {F : Nat → Prop} (h : NetS w base p S F) : ∃ a0 c0 a1 c1, w.cell? ⟨p, 0, none⟩ = some (.slice a0 (rowS S 0).length c0) ∧ w.cell? ⟨p, 1, none⟩ = some (.slice a1 (rowS S 1).length c1) := by
  obtain ⟨X, Y, h1, h2, h3, h4⟩ := h
  have hx := h1.x.num
  have hy := h1.y.num
  have e0 : rowS S 0 = X.ls := h2.symm
  have e1 : rowS S 1 = Y.ls := h3.symm
  rw [e0, e1, hx, hy]
  exact ⟨_, _, _, _, h1.c0, h1.c1⟩
end Go.Proofs.Ytnbikaiejeclnaa
