/- The walk of EntryPuts. Conditions stand as premises. -/
import Derived.Test.YtojjgagcpkjkaaaRefPutE
import Derived.Test.YtojjgagcpkjkaaaEntXor
import Derived.Test.YtojjgagcpkjkaaaSame
import Derived.Test.YtojjgagcpkjkaaaStruct2
namespace Go.Proofs.Ytojjgagcpkjkaaa
open Go.ChangeShapes Go.WideShapes Go.ChangeAt Go.RowKit
set_option linter.unusedVariables false
set_option linter.unusedSimpArgs false

theorem list16 {B : List Int} (h : B.length = 16) : ∃ b0 b1 b2 b3 b4 b5 b6 b7 b8 b9 b10 b11 b12 b13 b14 b15, B = [b0, b1, b2, b3, b4, b5, b6, b7, b8, b9, b10, b11, b12, b13, b14, b15] := by
  match B, h with
  | [b0, b1, b2, b3, b4, b5, b6, b7, b8, b9, b10, b11, b12, b13, b14, b15], _ => exact ⟨b0, b1, b2, b3, b4, b5, b6, b7, b8, b9, b10, b11, b12, b13, b14, b15, rfl⟩
theorem Try.builtRE (s r m x b0 b1 b2 b3 b4 b5 b6 b7 b8 b9 b10 b11 b12 b13 b14 b15 : Int) : Try.prog.built 39 [(0, .int .u64 s), (1, .int .u64 r), (2, .int .u64 m), (3, .agg #[.int .u8 b0, .int .u8 b1, .int .u8 b2, .int .u8 b3, .int .u8 b4, .int .u8 b5, .int .u8 b6, .int .u8 b7, .int .u8 b8, .int .u8 b9, .int .u8 b10, .int .u8 b11, .int .u8 b12, .int .u8 b13, .int .u8 b14, .int .u8 b15]), (4, .int .u64 x)] = some #[.int .u64 s, .int .u64 r, .int .u64 m, .int .u8 b0, .int .u8 b1, .int .u8 b2, .int .u8 b3, .int .u8 b4, .int .u8 b5, .int .u8 b6, .int .u8 b7, .int .u8 b8, .int .u8 b9, .int .u8 b10, .int .u8 b11, .int .u8 b12, .int .u8 b13, .int .u8 b14, .int .u8 b15, .int .u64 x, .slice none 0 0] := by kernel_rfl
theorem Try.builtRB (s r m x : Int) (B : List Int) (h : B.length = 16) : Try.prog.built 39 [(0, .int .u64 s), (1, .int .u64 r), (2, .int .u64 m), (3, .agg (B.map (Value.int .u8)).toArray), (4, .int .u64 x)] = some (entL s r m B x none 0 0).toArray := by
  obtain ⟨b0, b1, b2, b3, b4, b5, b6, b7, b8, b9, b10, b11, b12, b13, b14, b15, rfl⟩ := list16 h
  exact Try.builtRE s r m x b0 b1 b2 b3 b4 b5 b6 b7 b8 b9 b10 b11 b12 b13 b14 b15

/-- What stands throughout: the boxes, what came in, what was copied. -/
structure PutsF (s r m : Int) (B : List Int) (x : Int) (a : Option Addr) (c : Nat) (ps : List PR) (next : Int) (a2 : Option Addr) (c2 : Nat) (vs : List Int) (a3 : Option Addr) (c3 : Nat) (qs : List PR) (S E : Nat) (a' : Option Addr) (c' : Nat) (a'' : Option Addr) (c'' : Nat) (w : World) : Prop where
  x1 : w.heap[S]? = some (.cells (entL s r m B x a ps.length c).toArray 32 (0, 0))
  x2 : w.heap[S + 1]? = some (.cells #[.int .u64 next, .slice a2 vs.length c2] 35 (0, 0))
  x3 : w.heap[E]? = some (.cells (entL s r m B x a' ps.length c').toArray 39 (0, 0))
  p1 : RdP w a ps.length c ps
  p2 : RdP w a' ps.length c' ps
  p3 : Rd (Value.int .u64) w a2 vs.length c2 vs
  p4 : RdP w a3 qs.length c3 qs
  p5 : RdP w a'' qs.length c'' qs
theorem PutsF.j0 {s r m : Int} {B : List Int} {x : Int} {a : Option Addr} {c : Nat} {ps : List PR} {next : Int} {a2 : Option Addr} {c2 : Nat} {vs : List Int} {a3 : Option Addr} {c3 : Nat} {qs : List PR} {S E : Nat} {a' : Option Addr} {c' : Nat} {a'' : Option Addr} {c'' : Nat} {w : World}
    (h : PutsF s r m B x a c ps next a2 c2 vs a3 c3 qs S E a' c' a'' c'' w) : w.cell? ⟨S + 1, 0, none⟩ = some (.int .u64 next) := cell_of_heap h.x2 0 _ rfl
theorem PutsF.j1 {s r m : Int} {B : List Int} {x : Int} {a : Option Addr} {c : Nat} {ps : List PR} {next : Int} {a2 : Option Addr} {c2 : Nat} {vs : List Int} {a3 : Option Addr} {c3 : Nat} {qs : List PR} {S E : Nat} {a' : Option Addr} {c' : Nat} {a'' : Option Addr} {c'' : Nat} {w : World}
    (h : PutsF s r m B x a c ps next a2 c2 vs a3 c3 qs S E a' c' a'' c'' w) : w.cell? ⟨S + 1, 1, none⟩ = some (.slice a2 vs.length c2) := cell_of_heap h.x2 1 _ rfl
theorem PutsF.mono {s r m : Int} {B : List Int} {x : Int} {a : Option Addr} {c : Nat} {ps : List PR} {next : Int} {a2 : Option Addr} {c2 : Nat} {vs : List Int} {a3 : Option Addr} {c3 : Nat} {qs : List PR} {S E : Nat} {a' : Option Addr} {c' : Nat} {a'' : Option Addr} {c'' : Nat} {w w' : World}
    (h : PutsF s r m B x a c ps next a2 c2 vs a3 c3 qs S E a' c' a'' c'' w) (hb : Below w.heap.size w w') : PutsF s r m B x a c ps next a2 c2 vs a3 c3 qs S E a' c' a'' c'' w' :=
  ⟨row_below hb (lt_of_heap h.x1) h.x1, row_below hb (lt_of_heap h.x2) h.x2, row_below hb (lt_of_heap h.x3) h.x3, h.p1.below hb, h.p2.below hb, h.p3.mono hb, h.p4.below hb, h.p5.below hb⟩

set_option maxRecDepth 100000 in
set_option maxHeartbeats 2000000 in
theorem entryputs_law (s r m : Int) (B : List Int) (x : Int) (a : Option Addr) (n c : Nat) (ps : List PR) (next : Int) (a2 : Option Addr) (n2 c2 : Nat) (vs : List Int) (kind : Int) (a3 : Option Addr) (n3 c3 : Nat) (qs : List PR) (w0 : World)
    (hB : IsB B) (hBl : B.length = 16) (h1 : U64 s) (h2 : U64 r) (h3 : U64 m) (h4 : U64 x) (hr : RdP w0 a n c ps) (hu : ∀ p ∈ ps, U64 p.1 ∧ U64 p.2) (h5 : U64 next) (hr2 : Rd (Value.int .u64) w0 a2 n2 c2 vs) (hv : ∀ v ∈ vs, U64 v) (hr3 : RdP w0 a3 n3 c3 qs) (hu3 : ∀ p ∈ qs, U64 p.1 ∧ U64 p.2) :
    Calls Try.prog 4 #[entV s r m B x a n c, .agg #[.int .u64 next, .slice a2 n2 c2], .int .i64 kind, .slice a3 n3 c3] w0 fun e w' => e = .returned (.bool true) ∧ Below w0.heap.size w0 w' := by
  obtain rfl : ps.length = n := hr.1
  obtain rfl : vs.length = n2 := hr2.1
  obtain rfl : qs.length = n3 := hr3.1
  rw [entV_eq]
  have hlen1 : ps.length ≤ 9223372036854775807 := by have h1 := hr.2.1; have h2 := hr.2.2.1; unfold maxLen at h2; omega
  have hlen2 : vs.length ≤ 9223372036854775807 := by have h1 := hr2.2.1; have h2 := hr2.2.2.1; unfold maxLen at h2; omega
  have hlen3 : qs.length ≤ 9223372036854775807 := by have h1 := hr3.2.1; have h2 := hr3.2.2.1; unfold maxLen at h2; omega
  have HBl := Lib.hid hBl
  have HBB := Lib.hid hB
  have HR := Lib.hid hr
  have HU := Lib.hid hu
  have HR2 := Lib.hid hr2
  have HV := Lib.hid hv
  have HR3 := Lib.hid hr3
  have HU3 := Lib.hid hu3
  have H1 := Lib.hid h1
  have H2 := Lib.hid h2
  have H3 := Lib.hid h3
  have H4 := Lib.hid h4
  have H5 := Lib.hid h5
  obtain ⟨s0, s1⟩ := h1
  obtain ⟨r0, r1⟩ := h2
  obtain ⟨m0, m1⟩ := h3
  obtain ⟨x0, x1⟩ := h4
  obtain ⟨y0, y1⟩ := h5
  clear hBl hB hr hu hr2 hv hr3 hu3
  have hX1 := heap_alloc_new w0 (.cells (entL s r m B x a ps.length c).toArray 32)
  have hB1 := below_alloc w0 (.cells (entL s r m B x a ps.length c).toArray 32)
  have hz1 : (w0.alloc (.cells (entL s r m B x a ps.length c).toArray 32)).heap.size = w0.heap.size + 1 := by simp
  obtain ⟨w1, hw1⟩ : ∃ w1, w0.alloc (.cells (entL s r m B x a ps.length c).toArray 32) = w1 := ⟨_, rfl⟩
  rw [hw1] at hX1 hB1 hz1
  have HW1 := Lib.hid hw1
  have hX2 := heap_alloc_new w1 (.cells #[.int .u64 next, .slice a2 vs.length c2] 35)
  have hB2 := below_alloc w1 (.cells #[.int .u64 next, .slice a2 vs.length c2] 35)
  have hX1' := row_below hB2 (lt_of_heap hX1) hX1
  rw [hz1] at hX2
  have HB2 := Lib.hid (hB1.trans (hB2.mono hB1.size))
  obtain ⟨w2, hw2⟩ : ∃ w2, w1.alloc (.cells #[.int .u64 next, .slice a2 vs.length c2] 35) = w2 := ⟨_, rfl⟩
  rw [hw2] at hX2 hX1' HB2
  have HW2 := Lib.hid hw2
  have HX1 := Lib.hid hX1'
  have HX2 := Lib.hid hX2
  clear hX1 hB1 hz1 hw1 hX2 hB2 hX1' hw2
  -- so far the boxes; three ways out
  by_cases hbig : 60 < ps.length ∨ 60 < vs.length ∨ 60 < qs.length
  · have hways : decide (60 < (ps.length : Int)) = true ∨ (decide (60 < (ps.length : Int)) = false ∧ decide (60 < (vs.length : Int)) = true) ∨ (decide (60 < (ps.length : Int)) = false ∧ decide (60 < (vs.length : Int)) = false ∧ decide (60 < (qs.length : Int)) = true) := by
      by_cases q1 : 60 < ps.length
      · exact .inl (by simp; omega)
      · by_cases q2 : 60 < vs.length
        · exact .inr (.inl ⟨by simp; omega, by simp; omega⟩)
        · exact .inr (.inr ⟨by simp; omega, by simp; omega, by simp; omega⟩)
    clear hbig
    rcases hways with q1 | ⟨q1, q2⟩ | ⟨q1, q2, q3⟩
    all_goals
      go_enter Try.func4, Try.ntmps4
      go_upto_region 1 with fail
      rw [HW1.out, HW2.out]
      go_wp2_with fail
      refine (first_any _).mono ?_
      rintro e w ⟨rfl, hb1⟩
      have hX1 := row_below hb1 (lt_of_heap HX1.out) HX1.out
      have hX2 := row_below hb1 (lt_of_heap HX2.out) HX2.out
      have i20 := cell_of_heap hX1 20 _ (entL_20 HBl.out)
      have j1 : w.cell? ⟨w0.heap.size + 1, 1, none⟩ = some (.slice a2 vs.length c2) := cell_of_heap hX2 1 _ rfl
      have HBo := Lib.hid (HB2.out.trans (hb1.mono HB2.out.size))
      clear hX1 hX2 hb1
      go_wp2_with fail
      go_ret
      exact ⟨rfl, HBo.out⟩
  have q1 : decide (60 < (ps.length : Int)) = false := by simp; omega
  have q2 : decide (60 < (vs.length : Int)) = false := by simp; omega
  have q3 : decide (60 < (qs.length : Int)) = false := by simp; omega
  have l1 : ps.length ≤ 60 := by omega
  have l2 : vs.length ≤ 60 := by omega
  have l3 : qs.length ≤ 60 := by omega
  clear hbig
  go_enter Try.func4, Try.ntmps4
  go_upto_region 1 with fail
  rw [HW1.out, HW2.out]
  obtain ⟨S, hS⟩ : ∃ S, w0.heap.size = S := ⟨_, rfl⟩
  have HS := Lib.hid hS
  rw [hS] at HX1 HX2 ⊢
  clear hS
  go_wp2_with fail
  refine (first_any _).mono ?_
  rintro e w ⟨rfl, hb1⟩
  have HXa := Lib.hid (row_below hb1 (lt_of_heap HX1.out) HX1.out)
  have HXb := Lib.hid (row_below hb1 (lt_of_heap HX2.out) HX2.out)
  have i20 := cell_of_heap HXa.out 20 _ (entL_20 HBl.out)
  have i0 := entr_0 HXa.out
  have i1 := entr_1 HXa.out
  have i2 := entr_2 HXa.out
  have i19 := cell_of_heap HXa.out 19 _ (entL_19 HBl.out)
  have HAT := Lib.hid (row_range (o := 3) HXa.out B (fun j v h => entL_boots j v h))
  have j1 : w.cell? ⟨S + 1, 1, none⟩ = some (.slice a2 vs.length c2) := cell_of_heap HXb.out 1 _ rfl
  have HBo := Lib.hid (HB2.out.trans (hb1.mono HB2.out.size))
  have HZ := Lib.hid (heap_alloc_new w (.cells #[Value.int .u64 0, Value.int .u64 0, Value.int .u64 0, Value.int .u8 0, Value.int .u8 0, Value.int .u8 0, Value.int .u8 0, Value.int .u8 0, Value.int .u8 0, Value.int .u8 0, Value.int .u8 0, Value.int .u8 0, Value.int .u8 0, Value.int .u8 0, Value.int .u8 0, Value.int .u8 0, Value.int .u8 0, Value.int .u8 0, Value.int .u8 0, Value.int .u64 0, Value.slice none 0 0] 39))
  clear hb1 HX1 HX2 HW1 HW2
  obtain ⟨b0, b1, b2, b3, b4, b5, b6, b7, b8, b9, b10, b11, b12, b13, b14, b15, hBe⟩ := list16 HBl.out
  have HBe := Lib.hid hBe
  rw [hBe] at HAT
  have hBl2 := HBl.out
  rw [hBe] at hBl2
  have HBl2 := Lib.hid hBl2
  clear hBe hBl2
  go_upto_region 7 with (first | (with_reducible refine wpList_loadB rfl rfl Try.idT rfl HAT.out HBl2.out ?_) | (with_reducible refine wpList_storeS rfl rfl Try.rowRE rfl rfl HZ.out (by with_unfolding_all rfl) (by with_unfolding_all rfl) (by with_unfolding_all rfl) ?_; intro w3 HX3 hu3))
  have HX3' : Hid (w3.heap[w.heap.size]? = some (.cells (entL s r m B x none 0 0).toArray 39 (0, 0))) := by rw [HBe.out]; exact HX3
  have hBz := below_alloc w (.cells #[Value.int .u64 0, Value.int .u64 0, Value.int .u64 0, Value.int .u8 0, Value.int .u8 0, Value.int .u8 0, Value.int .u8 0, Value.int .u8 0, Value.int .u8 0, Value.int .u8 0, Value.int .u8 0, Value.int .u8 0, Value.int .u8 0, Value.int .u8 0, Value.int .u8 0, Value.int .u8 0, Value.int .u8 0, Value.int .u8 0, Value.int .u8 0, Value.int .u64 0, Value.slice none 0 0] 39)
  have hB3 : Below w.heap.size w w3 := hBz.trans (hu3.below hBz.size (fun k hk => by subst hk; exact Nat.le_refl _))
  have HB3 := Lib.hid (HBo.out.trans (hB3.mono HBo.out.size))
  have HXa3 := Lib.hid (row_below hB3 (lt_of_heap HXa.out) HXa.out)
  have HXb3 := Lib.hid (row_below hB3 (lt_of_heap HXb.out) HXb.out)
  have hSE := lt_of_heap HXa.out
  have hSE2 := lt_of_heap HXb.out
  obtain ⟨E, hE⟩ : ∃ E, w.heap.size = E := ⟨_, rfl⟩
  rw [hE] at HX3' hSE hSE2 ⊢
  have HWE := Lib.hid (show w0.heap.size ≤ E by have := HBo.out.size; omega)
  have HSE := Lib.hid (show ¬ (S = E) by omega)
  have HSE2 := Lib.hid (show ¬ (S + 1 = E) by omega)
  have HE3 := Lib.hid (lt_of_heap HX3'.out)
  have HSl := Lib.hid (lt_of_heap HXa3.out)
  have HBE0 := Lib.hid (show ∀ b, b < w0.heap.size → ¬ (b = E) from fun b h => by have := HWE.out; omega)
  clear hBz hB3 hu3 HX3 hE hSE hSE2 HXa HXb HZ i0 i1 i2 i19 i20 j1 HAT HBo HBe HBl2
  go_wp2_with fail
  go_loopw [11] (fun i wr => ∃ (k : Nat) (a' : Option Addr) (c' : Nat), k ≤ ps.length ∧ i = .int .i64 (k : Int) ∧ Hid (wr.heap[E]? = some (.cells (entL s r m B x a' k c').toArray 39 (0, 0))) ∧ OwnP 42 wr w3.heap.size a' k c' (ps.take k) ∧ Upd (· = E) w3 wr) (fun i _ => ps.length - (intOf i).toNat)
  case atStart => exact ⟨0, none, 0, Nat.zero_le _, rfl, HX3', OwnP.nil _ _ _, Upd.refl _ _⟩
  case round =>
    obtain ⟨k, a', c', hk, rfl, HXr, hown, hur⟩ := hrel
    have HO := Lib.hid hown
    have HUr := Lib.hid hur
    have hXs := row_upd hur HSE.out HXa3.out
    have i20 := cell_of_heap hXs 20 _ (entL_20 HBl.out)
    have hBr := HB3.out.trans (hur.below HB3.out.size (fun j hj => by subst hj; exact HWE.out))
    clear hown hur
    by_cases hlt : k < ps.length
    · have hlt' : (k : Int) < (ps.length : Int) := by omega
      obtain ⟨g1, g2, g3, g4, g5⟩ := HR.out.below hBr
      obtain ⟨b, off, rfl, hbk, hcs⟩ := g5.resolve_left (by omega)
      have hbw : b < w0.heap.size := by
        obtain ⟨_, _, _, _, q5⟩ := HR.out
        obtain ⟨b', o', hb', hl', _⟩ := q5.resolve_left (by omega)
        cases hb'; exact hl'
      obtain ⟨⟨u, v⟩, hp⟩ : ∃ p, ps[k]? = some p := ⟨_, List.getElem?_eq_getElem hlt⟩
      obtain ⟨hc0, hc1⟩ := hcs k _ hp
      obtain ⟨⟨u0, u1⟩, v0, v1⟩ := HU.out _ (List.mem_of_getElem? hp)
      simp only at hc0 hc1 u0 u1 v0 v1
      rw [show off + 2 * k = off + k * 2 by omega] at hc0
      rw [show off + (2 * k + 1) = off + k * 2 + 1 by omega] at hc1
      have HPk := Lib.hid (show ps.take (k + 1) = ps.take k ++ [(u, v)] by rw [List.take_add_one, hp]; rfl)
      have hk0 : (0 : Int) ≤ (k : Int) := by omega
      have HBA := Lib.hid ((below_alloc wr (.cells #[.int .u64 u, .int .u64 v] 42)).drew)
      have HOW := Lib.hid (HO.out.mono HBA.out)
      have HS0 := Lib.hid (show (wr.alloc (.cells #[.int .u64 u, .int .u64 v] 42)).drew.cell? ⟨wr.heap.size, 0, none⟩ = some (.int .u64 u) from cell_of_heap (heap_alloc_new wr (.cells #[.int .u64 u, .int .u64 v] 42)) 0 _ rfl)
      have HS1 := Lib.hid (show (wr.alloc (.cells #[.int .u64 u, .int .u64 v] 42)).drew.cell? ⟨wr.heap.size, 1, none⟩ = some (.int .u64 v) from cell_of_heap (heap_alloc_new wr (.cells #[.int .u64 u, .int .u64 v] 42)) 1 _ rfl)
      have hff1 : (k + 1) * 16 ≤ 140737488355328 := by omega
      have hff2 : k + 1 ≤ 140737488355328 := by omega
      have hz3 := Nat.le_trans HUr.out.size HBA.out.size
      have HK := Lib.hid hlt
      have HNb := Lib.hid (show ∀ j, j < w3.heap.size → j ∉ blk a' from fun j hj h => by obtain ⟨z, hz, hb⟩ := mem_blk.1 h; have := (HO.out.lt z hz).1; omega)
      have HXB := Lib.hid (row_below HBA.out (lt_of_heap HXr.out) HXr.out)
      have HBL := Lib.hid (show b < w3.heap.size from Nat.lt_of_lt_of_le hbw HB3.out.size)
      have HBE := Lib.hid (HBE0.out b hbw)
      have hSr := lt_of_heap hXs
      clear g1 g2 g3 g4 g5 hcs hp hlt hXs hBr hbw
      go_upto_region 10 with fail
      refine wp_region_held (S := fun w' => w'.cell? ⟨S, 20, none⟩ = some (.slice (some ⟨b, off, none⟩) ps.length c) ∧ w'.cell? ⟨b, off + k * 2, none⟩ = some (.int .u64 u) ∧ w'.cell? ⟨b, off + k * 2 + 1, none⟩ = some (.int .u64 v)) (by kernel_rfl) ?_
      change wpAnyH _ _ _ _ _ _ _ _ wr.drew
      have hC : wr.drew.cell? ⟨S, 20, none⟩ = some (.slice (some ⟨b, off, none⟩) ps.length c) ∧ wr.drew.cell? ⟨b, off + k * 2, none⟩ = some (.int .u64 u) ∧ wr.drew.cell? ⟨b, off + k * 2 + 1, none⟩ = some (.int .u64 v) := ⟨i20, hc0, hc1⟩
      clear i20 hc0 hc1
      refine held_take 0 (d := some 51) (v := (.pointer (some ⟨E, 20, none⟩))) rfl rfl (by kernel_rfl) (by kernel_rfl) (by kernel_rfl) (fun _ _ _ h => h) hC (by kernel_rfl) (fun w hSw => by obtain ⟨x0, x1, x2⟩ := hSw; go_simp) ?_
      try simp only [Act.put, List.setIfInBounds_toArray, List.set_cons_zero, List.set_cons_succ]
      refine held_take 2 (d := some 53) (v := (.pointer (some ⟨S, 20, none⟩))) rfl rfl (by kernel_rfl) (by kernel_rfl) (by kernel_rfl) (fun _ _ _ h => h) hC (by kernel_rfl) (fun w hSw => by obtain ⟨x0, x1, x2⟩ := hSw; go_simp) ?_
      try simp only [Act.put, List.setIfInBounds_toArray, List.set_cons_zero, List.set_cons_succ]
      refine held_take 3 (d := some 54) (v := (.slice (some ⟨b, off, none⟩) ps.length c)) rfl rfl (by kernel_rfl) (by kernel_rfl) (by kernel_rfl) (fun _ _ _ h => h) hC (by kernel_rfl) (fun w hSw => by obtain ⟨x0, x1, x2⟩ := hSw; go_simp) ?_
      try simp only [Act.put, List.setIfInBounds_toArray, List.set_cons_zero, List.set_cons_succ]
      refine held_take 4 (d := some 55) (v := (.int .i64 (k : Int))) rfl rfl (by kernel_rfl) (by kernel_rfl) (by kernel_rfl) (fun _ _ _ h => h) hC (by kernel_rfl) (fun w hSw => by obtain ⟨x0, x1, x2⟩ := hSw; go_simp) ?_
      try simp only [Act.put, List.setIfInBounds_toArray, List.set_cons_zero, List.set_cons_succ]
      refine held_take 5 (d := some 56) (v := (.pointer (some ⟨b, off + k * 2, none⟩))) rfl rfl (by kernel_rfl) (by kernel_rfl) (by kernel_rfl) (fun _ _ _ h => h) hC (by kernel_rfl) (fun w hSw => by obtain ⟨x0, x1, x2⟩ := hSw; go_simp) ?_
      try simp only [Act.put, List.setIfInBounds_toArray, List.set_cons_zero, List.set_cons_succ]
      refine held_take 6 (d := some 57) (v := (.pointer (some ⟨b, off + k * 2, none⟩))) rfl rfl (by kernel_rfl) (by kernel_rfl) (by kernel_rfl) (fun _ _ _ h => h) hC (by kernel_rfl) (fun w hSw => by obtain ⟨x0, x1, x2⟩ := hSw; go_simp) ?_
      try simp only [Act.put, List.setIfInBounds_toArray, List.set_cons_zero, List.set_cons_succ]
      refine held_take 7 (d := some 58) (v := (.int .u64 u)) rfl rfl (by kernel_rfl) (by kernel_rfl) (by kernel_rfl) (fun _ _ _ h => h) hC (by kernel_rfl) (fun w hSw => by obtain ⟨x0, x1, x2⟩ := hSw; go_simp) ?_
      try simp only [Act.put, List.setIfInBounds_toArray, List.set_cons_zero, List.set_cons_succ]
      refine held_take 8 (d := some 59) (v := (.pointer (some ⟨S, 20, none⟩))) rfl rfl (by kernel_rfl) (by kernel_rfl) (by kernel_rfl) (fun _ _ _ h => h) hC (by kernel_rfl) (fun w hSw => by obtain ⟨x0, x1, x2⟩ := hSw; go_simp) ?_
      try simp only [Act.put, List.setIfInBounds_toArray, List.set_cons_zero, List.set_cons_succ]
      refine held_take 9 (d := some 60) (v := (.slice (some ⟨b, off, none⟩) ps.length c)) rfl rfl (by kernel_rfl) (by kernel_rfl) (by kernel_rfl) (fun _ _ _ h => h) hC (by kernel_rfl) (fun w hSw => by obtain ⟨x0, x1, x2⟩ := hSw; go_simp) ?_
      try simp only [Act.put, List.setIfInBounds_toArray, List.set_cons_zero, List.set_cons_succ]
      refine held_take 10 (d := some 61) (v := (.int .i64 (k : Int))) rfl rfl (by kernel_rfl) (by kernel_rfl) (by kernel_rfl) (fun _ _ _ h => h) hC (by kernel_rfl) (fun w hSw => by obtain ⟨x0, x1, x2⟩ := hSw; go_simp) ?_
      try simp only [Act.put, List.setIfInBounds_toArray, List.set_cons_zero, List.set_cons_succ]
      refine held_take 11 (d := some 62) (v := (.pointer (some ⟨b, off + k * 2, none⟩))) rfl rfl (by kernel_rfl) (by kernel_rfl) (by kernel_rfl) (fun _ _ _ h => h) hC (by kernel_rfl) (fun w hSw => by obtain ⟨x0, x1, x2⟩ := hSw; go_simp) ?_
      try simp only [Act.put, List.setIfInBounds_toArray, List.set_cons_zero, List.set_cons_succ]
      refine held_take 12 (d := some 63) (v := (.pointer (some ⟨b, off + k * 2 + 1, none⟩))) rfl rfl (by kernel_rfl) (by kernel_rfl) (by kernel_rfl) (fun _ _ _ h => h) hC (by kernel_rfl) (fun w hSw => by obtain ⟨x0, x1, x2⟩ := hSw; go_simp) ?_
      try simp only [Act.put, List.setIfInBounds_toArray, List.set_cons_zero, List.set_cons_succ]
      refine held_take 13 (d := some 64) (v := (.int .u64 v)) rfl rfl (by kernel_rfl) (by kernel_rfl) (by kernel_rfl) (fun _ _ _ h => h) hC (by kernel_rfl) (fun w hSw => by obtain ⟨x0, x1, x2⟩ := hSw; go_simp) ?_
      try simp only [Act.put, List.setIfInBounds_toArray, List.set_cons_zero, List.set_cons_succ]
      refine held_take 14 (d := some 65) (v := (.agg #[.int .u64 u, .int .u64 v])) rfl rfl (by kernel_rfl) (by kernel_rfl) (by kernel_rfl) (fun _ _ _ h => h) hC (by kernel_rfl) (fun w hSw => by obtain ⟨x0, x1, x2⟩ := hSw; go_simp) ?_
      try simp only [Act.put, List.setIfInBounds_toArray, List.set_cons_zero, List.set_cons_succ]
      refine held_two 1 15 rfl rfl (by kernel_rfl) (fun K hK => ?_) (fun K hK => ?_)
      · have hEr := cell_of_heap HXr.out 20 _ (entL_20 HBl.out)
        go_simp
        clear hEr
        refine hK _ _ hC ?_
        clear hK K
        try simp only [Act.put, List.setIfInBounds_toArray, List.set_cons_zero, List.set_cons_succ]
        refine held_one 15 rfl (by kernel_rfl) (fun K hK => ?_)
        go_simp
        obtain ⟨x0, x1, x2⟩ := hC
        have hC2 : (wr.alloc (.cells #[.int .u64 u, .int .u64 v] 42)).drew.cell? ⟨S, 20, none⟩ = some (.slice (some ⟨b, off, none⟩) ps.length c) ∧ (wr.alloc (.cells #[.int .u64 u, .int .u64 v] 42)).drew.cell? ⟨b, off + k * 2, none⟩ = some (.int .u64 u) ∧ (wr.alloc (.cells #[.int .u64 u, .int .u64 v] 42)).drew.cell? ⟨b, off + k * 2 + 1, none⟩ = some (.int .u64 v) := ⟨bcell HBA.out hSr x0, bcell HBA.out hbk x1, bcell HBA.out hbk x2⟩
        clear x0 x1 x2
        refine hK _ _ hC2 ?_
        clear hK K
        try simp only [Act.put, List.setIfInBounds_toArray, List.set_cons_zero, List.set_cons_succ]
        refine held_one 16 rfl (by kernel_rfl) (fun K hK => ?_)
        refine step_appP (p := (u, v)) rfl rfl Try.twoRI rfl rfl HOW.out HS0.out HS1.out hff1 hff2 hz3 ?_
        intro a5 c5 w5 ho5 hu5 _
        obtain ⟨x0, x1, x2⟩ := hC2
        have hC3 : w5.cell? ⟨S, 20, none⟩ = some (.slice (some ⟨b, off, none⟩) ps.length c) ∧ w5.cell? ⟨b, off + k * 2, none⟩ = some (.int .u64 u) ∧ w5.cell? ⟨b, off + k * 2 + 1, none⟩ = some (.int .u64 v) := ⟨ucell hu5 (HNb.out S HSl.out) x0, ucell hu5 (HNb.out b HBL.out) x1, ucell hu5 (HNb.out b HBL.out) x2⟩
        have HX5 := Lib.hid (row_upd hu5 (HNb.out E HE3.out) HXB.out)
        have HU5 := Lib.hid ((HUr.out.trans (Upd.ofBelow (F := (· = E)) HBA.out) (fun _ _ h => h)).trans hu5 (fun j hj hg => absurd hg (HNb.out j hj)))
        have HO5 := Lib.hid ho5
        clear x0 x1 x2 ho5 hu5
        refine hK _ _ hC3 ?_
        clear hK K
        try simp only [Act.put, List.setIfInBounds_toArray, List.set_cons_zero, List.set_cons_succ]
        refine held_take 17 (d := some 68) (v := (.pointer (some ⟨E, 20, none⟩))) rfl rfl (by kernel_rfl) (by kernel_rfl) (by kernel_rfl) (fun _ _ _ h => h) hC3 (by kernel_rfl) (fun w hSw => by obtain ⟨x0, x1, x2⟩ := hSw; go_simp) ?_
        try simp only [Act.put, List.setIfInBounds_toArray, List.set_cons_zero, List.set_cons_succ]
        refine held_one 18 rfl (by kernel_rfl) (fun K hK => ?_)
        have hh5 := free_of_heap HX5.out 20
        have hg5 := cell_of_heap HX5.out 20 _ (entL_20 HBl.out)
        go_simp
        have hx6 := row_set HX5.out 20 (.slice a5 (k + 1) c5)
        rw [entL_set HBl.out] at hx6
        have HX7 := Lib.hid hx6
        have hsu := Upd.setCell (F := (· = E)) w5 ⟨E, 20, none⟩ (.slice a5 (k + 1) c5) rfl
        have HO7 := Lib.hid (HO5.out.upd hsu (fun z hz h => by have := (HO5.out.lt z hz).1; have := HE3.out; omega))
        have HU7 := Lib.hid (HU5.out.trans hsu (fun _ _ h => h))
        obtain ⟨x0, x1, x2⟩ := hC3
        have hC4 : (w5.setCell ⟨E, 20, none⟩ (.slice a5 (k + 1) c5)).cell? ⟨S, 20, none⟩ = some (.slice (some ⟨b, off, none⟩) ps.length c) ∧ (w5.setCell ⟨E, 20, none⟩ (.slice a5 (k + 1) c5)).cell? ⟨b, off + k * 2, none⟩ = some (.int .u64 u) ∧ (w5.setCell ⟨E, 20, none⟩ (.slice a5 (k + 1) c5)).cell? ⟨b, off + k * 2 + 1, none⟩ = some (.int .u64 v) := ⟨ucell hsu HSE.out x0, ucell hsu HBE.out x1, ucell hsu HBE.out x2⟩
        clear x0 x1 x2 hx6 hsu hh5 hg5
        refine hK _ _ hC4 ?_
        clear hK K
        try simp only [Act.put, List.setIfInBounds_toArray, List.set_cons_zero, List.set_cons_succ]
        generalize w5.setCell ⟨E, 20, none⟩ (.slice a5 (k + 1) c5) = w7 at HX7 HO7 HU7 hC4 ⊢
        clear hC4
        refine wpAnyH_done (by kernel_rfl) ?_ _
        go_wp2_with fail
        go_roundw
        case rel => exact ⟨k + 1, a5, c5, HK.out, by congr 1, HX7, by rw [HPk.out]; exact HO7.out, HU7.out⟩
        case measure => simp [intOf]; have := HK.out; omega
      · go_simp
        obtain ⟨x0, x1, x2⟩ := hC
        have hC2 : (wr.alloc (.cells #[.int .u64 u, .int .u64 v] 42)).drew.cell? ⟨S, 20, none⟩ = some (.slice (some ⟨b, off, none⟩) ps.length c) ∧ (wr.alloc (.cells #[.int .u64 u, .int .u64 v] 42)).drew.cell? ⟨b, off + k * 2, none⟩ = some (.int .u64 u) ∧ (wr.alloc (.cells #[.int .u64 u, .int .u64 v] 42)).drew.cell? ⟨b, off + k * 2 + 1, none⟩ = some (.int .u64 v) := ⟨bcell HBA.out hSr x0, bcell HBA.out hbk x1, bcell HBA.out hbk x2⟩
        clear x0 x1 x2
        refine hK _ _ hC2 ?_
        clear hK K
        try simp only [Act.put, List.setIfInBounds_toArray, List.set_cons_zero, List.set_cons_succ]
        refine held_one 1 rfl (by kernel_rfl) (fun K hK => ?_)
        have hEr := cell_of_heap HXB.out 20 _ (entL_20 HBl.out)
        go_simp
        clear hEr
        refine hK _ _ hC2 ?_
        clear hK K
        try simp only [Act.put, List.setIfInBounds_toArray, List.set_cons_zero, List.set_cons_succ]
        refine held_one 16 rfl (by kernel_rfl) (fun K hK => ?_)
        refine step_appP (p := (u, v)) rfl rfl Try.twoRI rfl rfl HOW.out HS0.out HS1.out hff1 hff2 hz3 ?_
        intro a5 c5 w5 ho5 hu5 _
        obtain ⟨x0, x1, x2⟩ := hC2
        have hC3 : w5.cell? ⟨S, 20, none⟩ = some (.slice (some ⟨b, off, none⟩) ps.length c) ∧ w5.cell? ⟨b, off + k * 2, none⟩ = some (.int .u64 u) ∧ w5.cell? ⟨b, off + k * 2 + 1, none⟩ = some (.int .u64 v) := ⟨ucell hu5 (HNb.out S HSl.out) x0, ucell hu5 (HNb.out b HBL.out) x1, ucell hu5 (HNb.out b HBL.out) x2⟩
        have HX5 := Lib.hid (row_upd hu5 (HNb.out E HE3.out) HXB.out)
        have HU5 := Lib.hid ((HUr.out.trans (Upd.ofBelow (F := (· = E)) HBA.out) (fun _ _ h => h)).trans hu5 (fun j hj hg => absurd hg (HNb.out j hj)))
        have HO5 := Lib.hid ho5
        clear x0 x1 x2 ho5 hu5
        refine hK _ _ hC3 ?_
        clear hK K
        try simp only [Act.put, List.setIfInBounds_toArray, List.set_cons_zero, List.set_cons_succ]
        refine held_take 17 (d := some 68) (v := (.pointer (some ⟨E, 20, none⟩))) rfl rfl (by kernel_rfl) (by kernel_rfl) (by kernel_rfl) (fun _ _ _ h => h) hC3 (by kernel_rfl) (fun w hSw => by obtain ⟨x0, x1, x2⟩ := hSw; go_simp) ?_
        try simp only [Act.put, List.setIfInBounds_toArray, List.set_cons_zero, List.set_cons_succ]
        refine held_one 18 rfl (by kernel_rfl) (fun K hK => ?_)
        have hh5 := free_of_heap HX5.out 20
        have hg5 := cell_of_heap HX5.out 20 _ (entL_20 HBl.out)
        go_simp
        have hx6 := row_set HX5.out 20 (.slice a5 (k + 1) c5)
        rw [entL_set HBl.out] at hx6
        have HX7 := Lib.hid hx6
        have hsu := Upd.setCell (F := (· = E)) w5 ⟨E, 20, none⟩ (.slice a5 (k + 1) c5) rfl
        have HO7 := Lib.hid (HO5.out.upd hsu (fun z hz h => by have := (HO5.out.lt z hz).1; have := HE3.out; omega))
        have HU7 := Lib.hid (HU5.out.trans hsu (fun _ _ h => h))
        obtain ⟨x0, x1, x2⟩ := hC3
        have hC4 : (w5.setCell ⟨E, 20, none⟩ (.slice a5 (k + 1) c5)).cell? ⟨S, 20, none⟩ = some (.slice (some ⟨b, off, none⟩) ps.length c) ∧ (w5.setCell ⟨E, 20, none⟩ (.slice a5 (k + 1) c5)).cell? ⟨b, off + k * 2, none⟩ = some (.int .u64 u) ∧ (w5.setCell ⟨E, 20, none⟩ (.slice a5 (k + 1) c5)).cell? ⟨b, off + k * 2 + 1, none⟩ = some (.int .u64 v) := ⟨ucell hsu HSE.out x0, ucell hsu HBE.out x1, ucell hsu HBE.out x2⟩
        clear x0 x1 x2 hx6 hsu hh5 hg5
        refine hK _ _ hC4 ?_
        clear hK K
        try simp only [Act.put, List.setIfInBounds_toArray, List.set_cons_zero, List.set_cons_succ]
        generalize w5.setCell ⟨E, 20, none⟩ (.slice a5 (k + 1) c5) = w7 at HX7 HO7 HU7 hC4 ⊢
        clear hC4
        refine wpAnyH_done (by kernel_rfl) ?_ _
        go_wp2_with fail
        go_roundw
        case rel => exact ⟨k + 1, a5, c5, HK.out, by congr 1, HX7, by rw [HPk.out]; exact HO7.out, HU7.out⟩
        case measure => simp [intOf]; have := HK.out; omega
    · obtain rfl : k = ps.length := by omega
      have hge : ¬ ((ps.length : Int) < (ps.length : Int)) := by omega
      have hot := HO.out
      rw [List.take_length] at hot
      have HOT := Lib.hid hot
      have HXS := Lib.hid hXs
      have HXb4 := Lib.hid (row_upd HUr.out HSE2.out HXb3.out)
      have HBr := Lib.hid hBr
      obtain ⟨wo, rfl⟩ : ∃ wo, wo = wr := ⟨wr, rfl⟩
      clear hot hXs hBr hlt hk
      go_wp2_with fail
      go_loopw [12, 13] (fun s_ i wz => ∃ (k : Nat) (b' : Option Addr) (d' : Nat), k ≤ qs.length ∧ i = .int .i64 (k : Int) ∧ s_ = .slice b' k d' ∧ OwnP 46 wz wo.heap.size b' k d' (qs.take k) ∧ Below wo.heap.size wo wz) (fun _ i _ => qs.length - (intOf i).toNat)
      case atStart => exact ⟨0, none, 0, Nat.zero_le _, rfl, rfl, OwnP.nil _ _ _, Below.refl _ _⟩
      case round =>
        obtain ⟨k, b', d', hk, rfl, rfl, hown, hB⟩ := hrel
        have HO := Lib.hid hown
        have HBz := Lib.hid hB
        clear hown hB
        by_cases hlt : k < qs.length
        · have hlt' : (k : Int) < (qs.length : Int) := by omega
          obtain ⟨g1, g2, g3, g4, g5⟩ := HR3.out.below (HBr.out.trans (HBz.out.mono HBr.out.size))
          obtain ⟨b, off, rfl, hbk, hcs⟩ := g5.resolve_left (by omega)
          obtain ⟨⟨u, v⟩, hp⟩ : ∃ p, qs[k]? = some p := ⟨_, List.getElem?_eq_getElem hlt⟩
          obtain ⟨hc0, hc1⟩ := hcs k _ hp
          obtain ⟨⟨u0, u1⟩, v0, v1⟩ := HU3.out _ (List.mem_of_getElem? hp)
          simp only at hc0 hc1 u0 u1 v0 v1
          rw [show off + 2 * k = off + k * 2 by omega] at hc0
          rw [show off + (2 * k + 1) = off + k * 2 + 1 by omega] at hc1
          have HPk := Lib.hid (show qs.take (k + 1) = qs.take k ++ [(u, v)] by rw [List.take_add_one, hp]; rfl)
          have hk0 : (0 : Int) ≤ (k : Int) := by omega
          have HBA := Lib.hid ((below_alloc wr (.cells #[.int .u64 u, .int .u64 v] 46)).drew)
          have HOW := Lib.hid (HO.out.mono HBA.out)
          have HS0 := Lib.hid (show (wr.alloc (.cells #[.int .u64 u, .int .u64 v] 46)).drew.cell? ⟨wr.heap.size, 0, none⟩ = some (.int .u64 u) from cell_of_heap (heap_alloc_new wr (.cells #[.int .u64 u, .int .u64 v] 46)) 0 _ rfl)
          have HS1 := Lib.hid (show (wr.alloc (.cells #[.int .u64 u, .int .u64 v] 46)).drew.cell? ⟨wr.heap.size, 1, none⟩ = some (.int .u64 v) from cell_of_heap (heap_alloc_new wr (.cells #[.int .u64 u, .int .u64 v] 46)) 1 _ rfl)
          have hff1 : (k + 1) * 16 ≤ 140737488355328 := by omega
          have hff2 : k + 1 ≤ 140737488355328 := by omega
          have hz3 := Nat.le_trans HBz.out.size HBA.out.size
          have HK := Lib.hid hlt
          clear g1 g2 g3 g4 g5 hcs hp hlt
          go_upto_region 15 with fail
          go_region_law (refine step_appP (p := (u, v)) rfl rfl Try.twoRS rfl rfl HOW.out HS0.out HS1.out hff1 hff2 hz3 ?_; intro a5 c5 w5 ho5 hu5 _)
          all_goals
            have hlow : ∀ j ∈ blk b', wo.heap.size ≤ j := fun j hj => by obtain ⟨z, hz, rfl⟩ := mem_blk.1 hj; exact (HO.out.lt z hz).1
            have hB5 := HBz.out.trans ((HBA.out.mono HBz.out.size).trans (hu5.below hz3 hlow))
            go_wp2_with fail
            go_roundw
            case rel => exact ⟨k + 1, a5, c5, HK.out, by congr 1, rfl, by rw [HPk.out]; exact ho5, hB5⟩
            case measure => simp [intOf]; have := HK.out; omega
        · obtain rfl : k = qs.length := by omega
          have hge : ¬ ((qs.length : Int) < (qs.length : Int)) := by omega
          have hot := HO.out
          rw [List.take_length] at hot
          have hBB := HBr.out.trans (HBz.out.mono HBr.out.size)
          have HF0 := Lib.hid (show PutsF s r m B x a c ps next a2 c2 vs a3 c3 qs S E a' c' b' d' wr from
            ⟨row_below HBz.out (lt_of_heap HXS.out) HXS.out, row_below HBz.out (lt_of_heap HXb4.out) HXb4.out, row_below HBz.out (lt_of_heap HXr.out) HXr.out, HR.out.below hBB, HOT.out.rd.below HBz.out, HR2.out.mono hBB, HR3.out.below hBB, hot.rd⟩)
          have HB0 := Lib.hid hBB
          have HX1 := Lib.hid HF0.out.x1
          clear hot hBB hlt hk i20 HXS HXb4 HXr HOT HO HBz HBr
          have HEP := Lib.hid (fun (w : World) (h : RdP w a ps.length c ps) => show Calls Try.prog 11 #[.agg (entL s r m B x a ps.length c).toArray] w (NewB w.heap.size w (putEntL s r m B x ps)) from entV_eq s r m B x a ps.length c ▸ entput_any s r m B x a ps.length c ps w HBB.out HBl.out H1.out H2.out H3.out H4.out h HU.out (by omega))
          have HEQ := Lib.hid (fun (w : World) (h : RdP w a' ps.length c' ps) => show Calls Try.prog 12 #[.agg (entL s r m B x a' ps.length c').toArray] w (NewB w.heap.size w (putEntL s r m B x ps)) from entV_eq s r m B x a' ps.length c' ▸ refputent_any s r m B x a' ps.length c' ps w HBB.out HBl.out H1.out H2.out H3.out H4.out h HU.out (by omega))
          have HAP := Lib.hid (fun (w : World) (h : Rd (Value.int .u64) w a2 vs.length c2 vs) => putarray_any next a2 vs.length c2 vs w h H5.out HV.out (by omega))
          have HAQ := Lib.hid (fun (w : World) (h : Rd (Value.int .u64) w a2 vs.length c2 vs) => refputarray_any next a2 vs.length c2 vs w h H5.out HV.out (by omega))
          have HTP := Lib.hid (fun (w : World) (h : RdP w a3 qs.length c3 qs) => puttable_any kind a3 qs.length c3 qs w h HU3.out (by omega))
          have HTQ := Lib.hid (fun (w : World) (h : RdP w b' qs.length d' qs) => refputtab_any kind b' qs.length d' qs w h HU3.out (by omega))
          generalize putEntL s r m B x ps = PL at HEP HEQ
          generalize putArrL next vs = PA at HAP HAQ
          generalize putTabL kind qs = PT at HTP HTQ
          clear HX1
          go_upto_region 16 with fail
          have HFd := Lib.hid (HF0.out.mono (below_drew wr))
          have HBd := Lib.hid (HB0.out.drew)
          refine wp_region_held (S := fun w' => PutsF s r m B x a c ps next a2 c2 vs a3 c3 qs S E a' c' b' d' w') (by kernel_rfl) ?_
          change wpAnyH _ _ _ _ _ _ _ _ wr.drew
          refine held_take 0 (d := some 89) (v := (.bool true)) rfl rfl (by kernel_rfl) (by kernel_rfl) (by kernel_rfl) (fun _ _ _ h => h) HFd.out (by kernel_rfl) (fun w hSw => by have j0 := hSw.j0; have j1 := hSw.j1; clear hSw; go_simp) ?_
          try simp only [Act.put, List.setIfInBounds_toArray, List.set_cons_zero, List.set_cons_succ]
          refine held_take 1 (d := some 90) (v := (.bool true)) rfl rfl (by kernel_rfl) (by kernel_rfl) (by kernel_rfl) (fun _ _ _ h => h) HFd.out (by kernel_rfl) (fun w hSw => by have j0 := hSw.j0; have j1 := hSw.j1; clear hSw; go_simp) ?_
          try simp only [Act.put, List.setIfInBounds_toArray, List.set_cons_zero, List.set_cons_succ]
          refine held_take 2 (d := some 91) (v := (.agg (entL s r m B x a ps.length c).toArray)) rfl rfl (by kernel_rfl) (by kernel_rfl) (by kernel_rfl) (fun _ _ _ h => h) HFd.out (by kernel_rfl) (fun w hSw => exec_loadS rfl Try.rowE rfl hSw.x1 (entL_size HBl.out)) ?_
          try simp only [Act.put, List.setIfInBounds_toArray, List.set_cons_zero, List.set_cons_succ]
          refine held_take 4 (d := some 93) (v := (.agg (entL s r m B x a' ps.length c').toArray)) rfl rfl (by kernel_rfl) (by kernel_rfl) (by kernel_rfl) (fun _ _ _ h => h) HFd.out (by kernel_rfl) (fun w hSw => exec_loadS rfl Try.rowRE rfl hSw.x3 (entL_size HBl.out)) ?_
          try simp only [Act.put, List.setIfInBounds_toArray, List.set_cons_zero, List.set_cons_succ]
          refine held_one 3 rfl (by kernel_rfl) (fun K hK => ?_)
          go_simp
          go_at_call 11
          refine (HEP.out _ HFd.out.p1).mono ?_
          rintro e w6 ⟨p6, k6, rfl, ho6, hb6⟩
          have HF6 := Lib.hid (HFd.out.mono hb6)
          have HB6 := Lib.hid (HBd.out.trans (hb6.mono HBd.out.size))
          have HR6 := Lib.hid ho6.rd
          clear ho6 hb6
          go_simp
          refine hK _ _ HF6.out ?_
          clear hK K
          try simp only [Act.put, List.setIfInBounds_toArray, List.set_cons_zero, List.set_cons_succ]
          refine held_one 5 rfl (by kernel_rfl) (fun K hK => ?_)
          go_simp
          go_at_call 12
          refine (HEQ.out _ HF6.out.p2).mono ?_
          rintro e w7 ⟨p7, k7, rfl, ho7, hb7⟩
          have HF7 := Lib.hid (HF6.out.mono hb7)
          have HB7 := Lib.hid (HB6.out.trans (hb7.mono HB6.out.size))
          have HR7 := Lib.hid ho7.rd
          have HR67 := Lib.hid (HR6.out.mono hb7)
          clear ho7 hb7
          go_simp
          refine hK _ _ HF7.out ?_
          clear hK K
          try simp only [Act.put, List.setIfInBounds_toArray, List.set_cons_zero, List.set_cons_succ]
          refine held_one 6 rfl (by kernel_rfl) (fun K hK => ?_)
          go_simp
          go_at_call 10
          refine (same_any _ _ _ _ _ _ _ _ _ HR67.out HR7.out).mono ?_
          rintro e w8 ⟨rfl, rfl⟩
          rw [decide_eq_true rfl]
          go_simp
          refine hK _ _ HF7.out ?_
          clear hK K
          try simp only [Act.put, List.setIfInBounds_toArray, List.set_cons_zero, List.set_cons_succ]
          refine held_take 7 (d := some 96) (v := (.bool true)) rfl rfl (by kernel_rfl) (by kernel_rfl) (by kernel_rfl) (fun _ _ _ h => h) HF7.out (by kernel_rfl) (fun w hSw => by have j0 := hSw.j0; have j1 := hSw.j1; clear hSw; go_simp) ?_
          try simp only [Act.put, List.setIfInBounds_toArray, List.set_cons_zero, List.set_cons_succ]
          refine held_take 8 (d := some 97) (v := (.bool true)) rfl rfl (by kernel_rfl) (by kernel_rfl) (by kernel_rfl) (fun _ _ _ h => h) HF7.out (by kernel_rfl) (fun w hSw => by have j0 := hSw.j0; have j1 := hSw.j1; clear hSw; go_simp) ?_
          try simp only [Act.put, List.setIfInBounds_toArray, List.set_cons_zero, List.set_cons_succ]
          refine held_take 9 (d := some 98) (v := (.agg #[.int .u64 next, .slice a2 vs.length c2])) rfl rfl (by kernel_rfl) (by kernel_rfl) (by kernel_rfl) (fun _ _ _ h => h) HF7.out (by kernel_rfl) (fun w hSw => by have j0 := hSw.j0; have j1 := hSw.j1; clear hSw; go_simp) ?_
          try simp only [Act.put, List.setIfInBounds_toArray, List.set_cons_zero, List.set_cons_succ]
          refine held_take 11 (d := some 100) (v := (.pointer (some ⟨S + 1, 0, none⟩))) rfl rfl (by kernel_rfl) (by kernel_rfl) (by kernel_rfl) (fun _ _ _ h => h) HF7.out (by kernel_rfl) (fun w hSw => by have j0 := hSw.j0; have j1 := hSw.j1; clear hSw; go_simp) ?_
          try simp only [Act.put, List.setIfInBounds_toArray, List.set_cons_zero, List.set_cons_succ]
          refine held_take 12 (d := some 101) (v := (.int .u64 next)) rfl rfl (by kernel_rfl) (by kernel_rfl) (by kernel_rfl) (fun _ _ _ h => h) HF7.out (by kernel_rfl) (fun w hSw => by have j0 := hSw.j0; have j1 := hSw.j1; clear hSw; go_simp) ?_
          try simp only [Act.put, List.setIfInBounds_toArray, List.set_cons_zero, List.set_cons_succ]
          refine held_take 13 (d := some 102) (v := (.pointer (some ⟨S + 1, 1, none⟩))) rfl rfl (by kernel_rfl) (by kernel_rfl) (by kernel_rfl) (fun _ _ _ h => h) HF7.out (by kernel_rfl) (fun w hSw => by have j0 := hSw.j0; have j1 := hSw.j1; clear hSw; go_simp) ?_
          try simp only [Act.put, List.setIfInBounds_toArray, List.set_cons_zero, List.set_cons_succ]
          refine held_take 14 (d := some 103) (v := (.slice a2 vs.length c2)) rfl rfl (by kernel_rfl) (by kernel_rfl) (by kernel_rfl) (fun _ _ _ h => h) HF7.out (by kernel_rfl) (fun w hSw => by have j0 := hSw.j0; have j1 := hSw.j1; clear hSw; go_simp) ?_
          try simp only [Act.put, List.setIfInBounds_toArray, List.set_cons_zero, List.set_cons_succ]
          refine held_take 15 (d := some 104) (v := (.agg #[.int .u64 next, .slice a2 vs.length c2])) rfl rfl (by kernel_rfl) (by kernel_rfl) (by kernel_rfl) (fun _ _ _ h => h) HF7.out (by kernel_rfl) (fun w hSw => by have j0 := hSw.j0; have j1 := hSw.j1; clear hSw; go_simp) ?_
          try simp only [Act.put, List.setIfInBounds_toArray, List.set_cons_zero, List.set_cons_succ]
          refine held_one 10 rfl (by kernel_rfl) (fun K hK => ?_)
          go_simp
          go_at_call 13
          refine (HAP.out _ HF7.out.p3).mono ?_
          rintro e w8 ⟨p8, k8, rfl, ho8, hb8⟩
          have HF8 := Lib.hid (HF7.out.mono hb8)
          have HB8 := Lib.hid (HB7.out.trans (hb8.mono HB7.out.size))
          have HR8 := Lib.hid ho8.rd
          clear ho8 hb8
          go_simp
          refine hK _ _ HF8.out ?_
          clear hK K
          try simp only [Act.put, List.setIfInBounds_toArray, List.set_cons_zero, List.set_cons_succ]
          refine held_one 16 rfl (by kernel_rfl) (fun K hK => ?_)
          go_simp
          go_at_call 14
          refine (HAQ.out _ HF8.out.p3).mono ?_
          rintro e w9 ⟨p9, k9, rfl, ho9, hb9⟩
          have HF9 := Lib.hid (HF8.out.mono hb9)
          have HB9 := Lib.hid (HB8.out.trans (hb9.mono HB8.out.size))
          have HR9 := Lib.hid ho9.rd
          have HR89 := Lib.hid (HR8.out.mono hb9)
          clear ho9 hb9
          go_simp
          refine hK _ _ HF9.out ?_
          clear hK K
          try simp only [Act.put, List.setIfInBounds_toArray, List.set_cons_zero, List.set_cons_succ]
          refine held_one 17 rfl (by kernel_rfl) (fun K hK => ?_)
          go_simp
          go_at_call 10
          refine (same_any _ _ _ _ _ _ _ _ _ HR89.out HR9.out).mono ?_
          rintro e w10 ⟨rfl, rfl⟩
          rw [decide_eq_true rfl]
          go_simp
          refine hK _ _ HF9.out ?_
          clear hK K
          try simp only [Act.put, List.setIfInBounds_toArray, List.set_cons_zero, List.set_cons_succ]
          refine held_take 18 (d := some 107) (v := (.bool true)) rfl rfl (by kernel_rfl) (by kernel_rfl) (by kernel_rfl) (fun _ _ _ h => h) HF9.out (by kernel_rfl) (fun w hSw => by have j0 := hSw.j0; have j1 := hSw.j1; clear hSw; go_simp) ?_
          try simp only [Act.put, List.setIfInBounds_toArray, List.set_cons_zero, List.set_cons_succ]
          refine held_take 19 (d := some 108) (v := (.bool true)) rfl rfl (by kernel_rfl) (by kernel_rfl) (by kernel_rfl) (fun _ _ _ h => h) HF9.out (by kernel_rfl) (fun w hSw => by have j0 := hSw.j0; have j1 := hSw.j1; clear hSw; go_simp) ?_
          try simp only [Act.put, List.setIfInBounds_toArray, List.set_cons_zero, List.set_cons_succ]
          refine held_take 20 (d := some 109) (v := (.int .i64 kind)) rfl rfl (by kernel_rfl) (by kernel_rfl) (by kernel_rfl) (fun _ _ _ h => h) HF9.out (by kernel_rfl) (fun w hSw => by have j0 := hSw.j0; have j1 := hSw.j1; clear hSw; go_simp) ?_
          try simp only [Act.put, List.setIfInBounds_toArray, List.set_cons_zero, List.set_cons_succ]
          refine held_take 21 (d := some 110) (v := (.slice a3 qs.length c3)) rfl rfl (by kernel_rfl) (by kernel_rfl) (by kernel_rfl) (fun _ _ _ h => h) HF9.out (by kernel_rfl) (fun w hSw => by have j0 := hSw.j0; have j1 := hSw.j1; clear hSw; go_simp) ?_
          try simp only [Act.put, List.setIfInBounds_toArray, List.set_cons_zero, List.set_cons_succ]
          refine held_take 23 (d := some 112) (v := (.int .i64 kind)) rfl rfl (by kernel_rfl) (by kernel_rfl) (by kernel_rfl) (fun _ _ _ h => h) HF9.out (by kernel_rfl) (fun w hSw => by have j0 := hSw.j0; have j1 := hSw.j1; clear hSw; go_simp) ?_
          try simp only [Act.put, List.setIfInBounds_toArray, List.set_cons_zero, List.set_cons_succ]
          refine held_take 24 (d := some 113) (v := (.slice b' qs.length d')) rfl rfl (by kernel_rfl) (by kernel_rfl) (by kernel_rfl) (fun _ _ _ h => h) HF9.out (by kernel_rfl) (fun w hSw => by have j0 := hSw.j0; have j1 := hSw.j1; clear hSw; go_simp) ?_
          try simp only [Act.put, List.setIfInBounds_toArray, List.set_cons_zero, List.set_cons_succ]
          refine held_one 22 rfl (by kernel_rfl) (fun K hK => ?_)
          go_simp
          go_at_call 15
          refine (HTP.out _ HF9.out.p4).mono ?_
          rintro e w10 ⟨p10, k10, rfl, ho10, hb10⟩
          have HF10 := Lib.hid (HF9.out.mono hb10)
          have HB10 := Lib.hid (HB9.out.trans (hb10.mono HB9.out.size))
          have HR10 := Lib.hid ho10.rd
          clear ho10 hb10
          go_simp
          refine hK _ _ HF10.out ?_
          clear hK K
          try simp only [Act.put, List.setIfInBounds_toArray, List.set_cons_zero, List.set_cons_succ]
          refine held_one 25 rfl (by kernel_rfl) (fun K hK => ?_)
          go_simp
          go_at_call 16
          refine (HTQ.out _ HF10.out.p5).mono ?_
          rintro e w11 ⟨p11, k11, rfl, ho11, hb11⟩
          have HF11 := Lib.hid (HF10.out.mono hb11)
          have HB11 := Lib.hid (HB10.out.trans (hb11.mono HB10.out.size))
          have HR11 := Lib.hid ho11.rd
          have HR1011 := Lib.hid (HR10.out.mono hb11)
          clear ho11 hb11
          go_simp
          refine hK _ _ HF11.out ?_
          clear hK K
          try simp only [Act.put, List.setIfInBounds_toArray, List.set_cons_zero, List.set_cons_succ]
          refine held_one 26 rfl (by kernel_rfl) (fun K hK => ?_)
          go_simp
          go_at_call 10
          refine (same_any _ _ _ _ _ _ _ _ _ HR1011.out HR11.out).mono ?_
          rintro e w12 ⟨rfl, rfl⟩
          rw [decide_eq_true rfl]
          go_simp
          refine hK _ _ HF11.out ?_
          clear hK K
          try simp only [Act.put, List.setIfInBounds_toArray, List.set_cons_zero, List.set_cons_succ]
          refine held_take 27 (d := some 116) (v := (.bool true)) rfl rfl (by kernel_rfl) (by kernel_rfl) (by kernel_rfl) (fun _ _ _ h => h) HF11.out (by kernel_rfl) (fun w hSw => by have j0 := hSw.j0; have j1 := hSw.j1; clear hSw; go_simp) ?_
          try simp only [Act.put, List.setIfInBounds_toArray, List.set_cons_zero, List.set_cons_succ]
          refine held_take 28 (d := some 8) (v := (.bool true)) rfl rfl (by kernel_rfl) (by kernel_rfl) (by kernel_rfl) (fun _ _ _ h => h) HF11.out (by kernel_rfl) (fun w hSw => by have j0 := hSw.j0; have j1 := hSw.j1; clear hSw; go_simp) ?_
          try simp only [Act.put, List.setIfInBounds_toArray, List.set_cons_zero, List.set_cons_succ]
          refine wpAnyH_done (by kernel_rfl) ?_ _
          go_wp2_with fail
          go_ret
          exact ⟨rfl, HB11.out⟩
end Go.Proofs.Ytojjgagcpkjkaaa
