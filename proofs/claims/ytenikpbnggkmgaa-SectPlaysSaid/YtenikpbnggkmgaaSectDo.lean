/- A slice of things to be done to a file: how it is read. No condition. -/
import Derived.Test.YtenikpbnggkmgaaRefSectD
import Derived.Test.YtenikpbnggkmgaaSectCopy
import Derived.Deep.Slices
import Derived.Deep.Fields
import Derived.ChangeSame
namespace Go.Proofs.Ytenikpbnggkmgaa
open Go.ChangeShapes Go.WideShapes Go.ChangeAt Go.RowKit Go.Deep
set_option linter.unusedVariables false

section
variable {H : Type} {enc : TypeId × Value → H} {P : Program} {w : World} {base : Nat} {spare : Nat → Bool} {held : Bool}
theorem open_slice_fields {t e : TypeId} {fs : Array Field} {fuel : Nat} {cs : List Value} {x : DataW H × List MemPlace} (ht : P.underlying t = some (.slice e)) (he : P.underlying e = some (.struct fs))
    (hone : oneCellFields P fs = true) (hC : P.cellsOf e = fs.size) (h : DataW.trod enc P w base spare held fuel t cs = some x) :
    (cs = [.slice none 0 0] ∧ x = (.nil, [])) ∨
    ∃ (a : Addr) (len cap m : Nat) (D : Nat → DataW H) (Pl : Nat → List MemPlace), cs = [.slice (some a) len cap] ∧ base ≤ a.block ∧ len ≤ cap ∧ cap ≤ maxLen ∧ m = (if spare a.block then cap else len) ∧
      x = (.slice ((List.range len).map D) ((List.range (m - len)).map fun j => D (len + j)), MemPlace.row a (m * fs.size) ++ (List.range m).flatMap Pl) ∧
      ∀ i, i < m → ∃ (ys : List (DataW H × List MemPlace)) (n : Nat), D i = .agg (ys.map (·.1)) ∧ Pl i = ys.flatMap (·.2) ∧ ys.length = fs.size ∧
        ∀ (j : Nat) (f : Field), fs[j]? = some f → ∃ (v : Value) (y : DataW H × List MemPlace), w.cell? (a.add (i * fs.size + j)) = some v ∧ ys[j]? = some y ∧ DataW.trod enc P w base spare held n f.type [v] = some y := by
  rcases open_slice ht h with h0 | ⟨a, len, cap, m, n, D, Pl, hcs, hb, hl, hm, hmm, hx, hi⟩
  · exact .inl h0
  · refine .inr ⟨a, len, cap, m, D, Pl, hcs, hb, hl, hm, hmm, by rw [hC] at hx; exact hx, fun i him => ?_⟩
    obtain ⟨cs', hc, ht'⟩ := hi i him
    rw [hC] at hc
    obtain ⟨ys, n', hn', hy, hlen, hyl, hf⟩ := DataW.trod_struct he ht'
    obtain ⟨_, hcl, hat⟩ := World.cells?_some hc
    simp only [Prod.mk.injEq] at hy
    refine ⟨ys, n', hy.1, hy.2, hyl, fun j f hj => ?_⟩
    obtain ⟨ho, hk⟩ := hone_of hone j f hj
    have hjl : j < fs.size := (Array.getElem?_eq_some_iff.1 hj).1
    have hcell := hat j hjl
    have hv : cs'[j]? = some (cs'[j]'(by omega)) := List.getElem?_eq_getElem (by omega)
    have h1 := hf j f hj
    rw [ho, hk] at h1
    have hone' : (cs'.drop j).take 1 = [cs'[j]'(by omega)] := by
      rw [List.drop_eq_getElem_cons (by omega)]
      rfl
    rw [hone'] at h1
    have hys : ys[j]? = some (ys[j]'(by omega)) := List.getElem?_eq_getElem (by omega)
    refine ⟨_, _, ?_, hys, h1.trans hys⟩
    rw [← Go.Deep.add_add, hcell, hv]
end

/-- A thing to be done. -/
structure SDoV where
  k : Int
  q : Int
  m : Int
  ba : Option Addr
  bn : Nat
  bc : Nat
  bl : List Int
  ka : Option Addr
  kn : Nat
  kc : Nat
  kl : List Bool

def I64 (x : Int) : Prop := -9223372036854775808 ≤ x ∧ x ≤ 9223372036854775807

/-- It lies in five cells. -/
structure SDoAt (w : World) (B off : Nat) (d : SDoV) : Prop where
  d0 : w.cell? ⟨B, off, none⟩ = some (.int .i64 d.k)
  d1 : w.cell? ⟨B, off + 1, none⟩ = some (.int .i64 d.q)
  d2 : w.cell? ⟨B, off + 2, none⟩ = some (.int .i64 d.m)
  d3 : w.cell? ⟨B, off + 3, none⟩ = some (.slice d.ba d.bn d.bc)
  d4 : w.cell? ⟨B, off + 4, none⟩ = some (.slice d.ka d.kn d.kc)
  rb : RdB w d.ba d.bn d.bc d.bl
  rk : Rd encBo w d.ka d.kn d.kc d.kl
  bq : I64 d.q
  bm : I64 d.m

def RdSDo (w : World) (a : Option Addr) (n c : Nat) (ds : List SDoV) : Prop :=
  ds.length = n ∧ n ≤ c ∧ c ≤ maxLen ∧ (n = 0 ∨ ∃ B off, a = some ⟨B, off, none⟩ ∧ ∀ i d, ds[i]? = some d → SDoAt w B (off + i * 5) d)

theorem bounds_I64 {x : Int} (h : (Lit.int .i64 x).wf = true) : I64 x := bounds_i64 h

theorem rdBo_any {H : Type} {enc : TypeId × Value → H} {P : Program} {w : World} {base : Nat} {spare : Nat → Bool} {held : Bool} {fuel : Nat} {t e : TypeId} {x : DataW H × List MemPlace} {v : Value}
    (ht : P.underlying t = some (.slice e)) (he : P.underlying e = some .bool) (hc : P.cellsOf e = 1) (h : DataW.trod enc P w base spare held fuel t [v] = some x) : ∃ a n c l, v = .slice a n c ∧ Rd encBo w a n c l := by
  rcases Go.Deep.open_slice1 ht hc h with ⟨hcs, _⟩ | ⟨ad, l, c, m, n, V, D, Pl, hcs, _, hl, hm, hmm, _, hx⟩
  · simp only [List.cons.injEq, and_true] at hcs
    subst hcs
    exact ⟨none, 0, 0, [], rfl, rfl, Nat.le_refl _, Nat.zero_le _, fun _ => rfl, .inl rfl⟩
  · simp only [List.cons.injEq, and_true] at hcs
    subst hcs
    have hlm : l ≤ m := by rw [hmm]; split <;> omega
    obtain ⟨ys, h1, _⟩ := rdOf (w := w) (ad := ad) (len := l) (cap := c) encBo hl hm (fun _ _ => True) (fun i hi => by
      obtain ⟨h3, h4⟩ := hx i (by omega)
      obtain ⟨b, hb, _⟩ := DataW.trod_bool he h4
      simp only [List.cons.injEq, and_true] at hb
      exact ⟨b, by rw [h3, hb]; rfl, trivial⟩)
    exact ⟨some ad, l, c, ys, rfl, h1⟩

theorem rdSDo_open {H : Type} {enc : TypeId × Value → H} {w : World} {base : Nat} {spare : Nat → Bool} {held : Bool} {fuel : Nat} {x : DataW H × List MemPlace} {a : Option Addr} {len cap : Nat}
    (h : DataW.trod enc Try.prog w base spare held fuel 44 (Value.slice a len cap).cells.toList = some x) : ∃ ds, RdSDo w a len cap ds := by
  rcases open_slice_fields Try.underlying44 Try.underlying49 (by kernel_rfl) (by kernel_rfl) h with ⟨hcs, _⟩ | ⟨ad, l, c, m, D, Pl, hcs, _, hl, hm, hmm, _, hx⟩
  · simp [Value.cells] at hcs
    obtain ⟨rfl, rfl, rfl⟩ := hcs
    exact ⟨[], rfl, Nat.le_refl _, Nat.zero_le _, .inl rfl⟩
  · simp [Value.cells] at hcs
    obtain ⟨rfl, rfl, rfl⟩ := hcs
    have hlm : len ≤ m := by rw [hmm]; split <;> omega
    by_cases h0 : len = 0
    · subst h0
      exact ⟨[], rfl, by omega, hm, .inl rfl⟩
    obtain ⟨b, off, spot⟩ := ad
    have hspot : spot = none := by
      obtain ⟨ys, n, _, _, _, hf⟩ := hx 0 (by omega)
      obtain ⟨v0, y0, c0, _, t0⟩ := hf 0 _ rfl
      simpa [Addr.add] using World.cell?_spot c0
    subst hspot
    have key : ∀ i, i < len → ∃ d, SDoAt w b (off + i * 5) d := by
      intro i hi
      obtain ⟨ys, n, _, _, _, hf⟩ := hx i (by omega)
      obtain ⟨v0, y0, c0, _, t0⟩ := hf 0 _ rfl
      obtain ⟨v1, y1, c1, _, t1⟩ := hf 1 _ rfl
      obtain ⟨v2, y2, c2, _, t2⟩ := hf 2 _ rfl
      obtain ⟨v3, y3, c3, _, t3⟩ := hf 3 _ rfl
      obtain ⟨v4, y4, c4, _, t4⟩ := hf 4 _ rfl
      obtain ⟨x0, e0, _, w0⟩ := DataW.trod_int Try.underlying3 t0
      obtain ⟨x1, e1, _, w1⟩ := DataW.trod_int Try.underlying3 t1
      obtain ⟨x2, e2, _, w2⟩ := DataW.trod_int Try.underlying3 t2
      obtain ⟨a3, n3, cap3, l3, rfl, hr3⟩ := rdB_any Try.underlying22 Try.underlying5 (by kernel_rfl) t3
      obtain ⟨a4, n4, cap4, l4, rfl, hr4⟩ := rdBo_any Try.underlying37 Try.underlying4 (by kernel_rfl) t4
      simp only [List.cons.injEq, and_true] at e0 e1 e2
      subst e0 e1 e2
      rw [addr_add] at c0 c1 c2 c3 c4
      simp only [Array.size] at c0 c1 c2 c3 c4
      exact ⟨⟨x0, x1, x2, a3, n3, cap3, l3, a4, n4, cap4, l4⟩, ⟨c0, c1, c2, c3, c4, hr3, hr4, bounds_I64 w1, bounds_I64 w2⟩⟩
    obtain ⟨f, hf⟩ : ∃ f : Nat → SDoV, ∀ i, i < len → SDoAt w b (off + i * 5) (f i) := by
      refine ⟨fun i => if hi : i < len then Classical.choose (key i hi) else ⟨0, 0, 0, none, 0, 0, [], none, 0, 0, []⟩, fun i hi => ?_⟩
      show SDoAt w b (off + i * 5) (if hi : i < len then Classical.choose (key i hi) else ⟨0, 0, 0, none, 0, 0, [], none, 0, 0, []⟩)
      rw [dif_pos hi]
      exact Classical.choose_spec (key i hi)
    refine ⟨(List.range len).map f, by simp, hl, hm, .inr ⟨b, off, rfl, fun i d hd => ?_⟩⟩
    rw [List.getElem?_map] at hd
    obtain ⟨j, hj, rfl⟩ := Option.map_eq_some_iff.1 hd
    have hil : i < len := by have := (List.getElem?_eq_some_iff.1 hj).1; simpa using this
    rw [List.getElem?_range hil] at hj
    cases hj
    exact hf i hil

theorem SDoAt.mono {w w' : World} {B off : Nat} {d : SDoV} (h : SDoAt w B off d) (hb : Below w.heap.size w w') : SDoAt w' B off d := by
  have hlt : B < w.heap.size := World.block_lt_of_cell? w _ h.d0
  exact ⟨bcell hb hlt h.d0, bcell hb hlt h.d1, bcell hb hlt h.d2, bcell hb hlt h.d3, bcell hb hlt h.d4, h.rb.mono hb, h.rk.mono hb, h.bq, h.bm⟩

/-- The thing, in a block of the law's own. -/
structure SBox (w : World) (D : Nat) (k q m : Int) (ba : Option Addr) (bn bc : Nat) (ka : Option Addr) (kn kc : Nat) : Prop where
  lt : D < w.heap.size
  d0 : w.cell? ⟨D, 0, none⟩ = some (.int .i64 k)
  d1 : w.cell? ⟨D, 1, none⟩ = some (.int .i64 q)
  d2 : w.cell? ⟨D, 2, none⟩ = some (.int .i64 m)
  d3 : w.cell? ⟨D, 3, none⟩ = some (.slice ba bn bc)
  d4 : w.cell? ⟨D, 4, none⟩ = some (.slice ka kn kc)
theorem SBox.new (w : World) (T : TypeId) (k q m : Int) (ba : Option Addr) (bn bc : Nat) (ka : Option Addr) (kn kc : Nat) : SBox (w.alloc (.cells #[.int .i64 k, .int .i64 q, .int .i64 m, .slice ba bn bc, .slice ka kn kc] T)) w.heap.size k q m ba bn bc ka kn kc := by
  have h := heap_alloc_new w (.cells #[.int .i64 k, .int .i64 q, .int .i64 m, .slice ba bn bc, .slice ka kn kc] T)
  exact ⟨lt_of_heap h, cell_of_heap h 0 _ rfl, cell_of_heap h 1 _ rfl, cell_of_heap h 2 _ rfl, cell_of_heap h 3 _ rfl, cell_of_heap h 4 _ rfl⟩
theorem SBox.upd {w w' : World} {D : Nat} {k q m : Int} {ba : Option Addr} {bn bc : Nat} {ka : Option Addr} {kn kc : Nat} {F : Nat → Prop} (h : SBox w D k q m ba bn bc ka kn kc) (hu : Upd F w w') (hf : ¬ F D) : SBox w' D k q m ba bn bc ka kn kc :=
  ⟨Nat.lt_of_lt_of_le h.lt hu.size, ucell hu hf h.d0, ucell hu hf h.d1, ucell hu hf h.d2, ucell hu hf h.d3, ucell hu hf h.d4⟩
theorem SBox.below {w w' : World} {D : Nat} {k q m : Int} {ba : Option Addr} {bn bc : Nat} {ka : Option Addr} {kn kc : Nat} (h : SBox w D k q m ba bn bc ka kn kc) (hb : Below w.heap.size w w') : SBox w' D k q m ba bn bc ka kn kc :=
  h.upd (F := fun _ => False) (Upd.ofBelow hb) (fun h => h)

/-- Both files, along the law's walk: alike, and apart. -/
structure TwoF (w0 w : World) (p q : Nat) (B S : List Int) (F G : Nat → Prop) : Prop where
  f : FileS w w0.heap.size p B S F
  g : RefS w w0.heap.size q B S G
  far : ∀ j, F j → ¬ G j
  bel : Below w0.heap.size w0 w
theorem TwoF.below {w0 w w' : World} {p q : Nat} {B S : List Int} {F G : Nat → Prop} (h : TwoF w0 w p q B S F G) (hb : Below w.heap.size w w') : TwoF w0 w' p q B S F G :=
  ⟨h.f.below hb, h.g.below hb, h.far, h.bel.trans (hb.mono h.bel.size)⟩
/-- Between a step of the one and a step of the other. -/
theorem TwoF.mid {w0 w w1 : World} {p q : Nat} {B S B' S' : List Int} {F G : Nat → Prop} (h : TwoF w0 w p q B S F G) (h1 : FileStep w w0.heap.size p F B' S' w1) : RefS w1 w0.heap.size q B S G ∧ Below w0.heap.size w0 w1 ∧ Upd F w w1 := by
  obtain ⟨F', a1, a2, a3⟩ := h1
  exact ⟨h.g.upd a2 (fun j hj hF => h.far j hF hj), h.bel.trans (a2.below h.bel.size (fun k hk => (h.f.mem hk).1)), a2⟩
/-- A step of the one, then the same step of the other. -/
theorem TwoF.step {w0 w w1 w2 : World} {p q : Nat} {B S B' S' : List Int} {F G : Nat → Prop} (h : TwoF w0 w p q B S F G) (h1 : FileStep w w0.heap.size p F B' S' w1) (h2 : RefStep w1 w0.heap.size q G B' S' w2) :
    ∃ F' G', TwoF w0 w2 p q B' S' F' G' ∧ Upd (fun j => F j ∨ G j) w w2 := by
  obtain ⟨F', a1, a2, a3⟩ := h1
  obtain ⟨G', b1, b2, b3⟩ := h2
  have hq := h.g.own
  have hqF' : ¬ F' q := fun hh => by
    rcases a3 q hh with hF | hge
    · exact h.far q hF hq
    · have := (h.g.mem hq).2; omega
  have hf := a1.upd b2 (fun j hj e => hqF' (e ▸ hj))
  have hU : Upd (fun j => F j ∨ G j) w w2 := (a2.mono (fun j _ hj => .inl hj)).trans b2 (fun j _ hj => by rw [hj]; exact .inr hq)
  refine ⟨F', G', ⟨hf, b1, fun j hj hG => ?_, h.bel.trans (hU.below h.bel.size (fun k hk => hk.elim (fun hk => (h.f.mem hk).1) (fun hk => (h.g.mem hk).1)))⟩, hU⟩
  have hlt1 := (a1.mem hj).2
  rcases b3 j hG with hG0 | hge
  · rcases a3 j hj with hF | hge2
    · exact h.far j hF hG0
    · have := (h.g.mem hG0).2; omega
  · omega
/-- Both copied. -/
theorem TwoF.copied {w0 w w1 w2 : World} {p q p' q' : Nat} {B S : List Int} {F G F' G' : Nat → Prop} (h : TwoF w0 w p q B S F G) (a : FileS w1 w.heap.size p' B S F') (ab : Below w.heap.size w w1) (b : RefS w2 w0.heap.size q' B S G') (bb : Below w1.heap.size w1 w2) (hG : ∀ j, G' j → G j ∨ w1.heap.size ≤ j) : TwoF w0 w2 p' q' B S F' G' :=
  ⟨(a.below bb).base h.bel.size, b, fun j hj hg => by
    have h1 := a.mem hj
    rcases hG j hg with h2 | h2
    · have := (h.g.mem h2).2; omega
    · omega, h.bel.trans ((ab.trans (bb.mono ab.size)).mono h.bel.size)⟩
end Go.Proofs.Ytenikpbnggkmgaa
